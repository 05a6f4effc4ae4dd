/-
  Parts of the proof of VaultPlays: LogE, LogOpen, LawA.
-/
import Derived.Test.YtbhjgfibhegddaaGreatQVaultPlays10
import Derived.Deep.Light
import Derived.Outline
set_option maxRecDepth 100000
set_option maxHeartbeats 16000000
namespace Go.Proofs.YtbhjgfibhegddaaGreat
abbrev aaZ:=@Int.eq_ofNat_of_zero_le
abbrev NF:=@List.getElem?_set
abbrev sL:=@List.mem_iff_getElem
open Tryz
section
open Go Go.RowKit
def mF (s:ByteArray) (i:Nat):Nat:=(s.data.toList.getD i 0).toNat
def fQ (s:ByteArray) (i:Int):Int:=(dx ((s.data.toList.drop (8*i.toNat)).take 8):Int)
theorem Oj (s:ByteArray) (i:Int) (q:Nat) (w:World) (hs:s.size=60) (h0:0≤i) (hi:i<3) (hc:w.cell? ⟨q,0,none⟩=some (.string s)) :
 ς 206 #[ι i,.pointer (some ⟨q,0,none⟩)] w fun e w'=>e=ώ (ω (fQ s i))∧w=w':=by
 obtain⟨i,rfl⟩:=aaZ h0;exact afm s i q w hs oM hc
theorem ab7 (l:List UInt8) (m n:Nat) (hm:m=60) (hl:l.length=60) (hn:n≤32):((Lib.countByte (List.take (m - (28+n)) (List.drop (28+n) l)) 0:Int) == 32 - (n:Int))=decide (List.drop (28+n) l=List.replicate (32 - n) 0):=by
 have hd:(List.drop (28+n) l).length=32 - n:=by simp[hl];omega
 rw[dH oM];have h:=Km (List.drop (28+n) l);rw[hd] at h;by_cases hz:List.drop (28+n) l=List.replicate (32 - n) 0
 ·rw[fe hz,h.2 hz,kV];omega
 ·rw[gN hz,eV]
  intro hh;exact hz (h.1 oM)
theorem Zn {P:Prop} (h:P:=by
 have hb:=HBe.out;have hq:=HQ.out;have hu:=HB.out.2.2.2;have lF:=H3.out.2.2;have h1:=(hb.trans ((hu.below φ).mono hb.size)).trans (⟨lF.os,lF.tape,lF.output,lF.size,fun b dO=>lF.block b (nT dO (iE hb.size hu.size)) oM⟩:Below w.heap.size _ w3);exact((((((h1.setCell (p:=⟨q0+1,0,none⟩) (by show w.heap.size≤q0+1;omega) _).setCell (p:=⟨q0+1,1,none⟩) (by show w.heap.size≤q0+1;omega) _).setCell (p:=⟨q0+1,2,none⟩) (by show w.heap.size≤q0+1;omega) _).setCell (p:=⟨q0+1,3,none⟩) (by show w.heap.size≤q0+1;omega) _).setCell (p:=⟨q0+1,4,none⟩) (by show w.heap.size≤q0+1;omega) _).setCell (p:=⟨q0+1,5,none⟩) (by show w.heap.size≤q0+1;omega) _).drew):P:=h
theorem ahP (s:ByteArray) (w:World) (hs:s.size=60) :
 ς 159 #[.string s] w fun e w'=>e=ώ (.tuple #[(kK s.data.toList).1.val,.bool (kK s.data.toList).2])∧Below w.heap.size w w':=by
 have h24:(24:Int)<s.size:=oM;have h25:(25:Int)<s.size:=oM;have h26:(26:Int)<s.size:=oM;have h27:(27:Int)<s.size:=oM;have g24:24<s.size:=oM;have g25:25<s.size:=oM;have g26:26<s.size:=oM;have g27:27<s.size:=oM;have e24:=δ (zj s 24 g24);have e25:=δ (zj s 25 g25);have e26:=δ (zj s 26 g26);have e27:=δ (zj s 27 g27);have En:=δ hs;clear hs;go_enter func159,ntmps159
 go_upto_region 2 with fail
 have CB:η ((w.alloc (.cells #[.string s] 9)).alloc (.cells #[ω 0,ω 0,ω 0,ι 0,ι 0,.string ⟨#[]⟩] 204)) w.heap.size 9 #[.string s]:=(η.new w _ _).alloc _;have aM:η ((w.alloc (.cells #[.string s] 9)).alloc (.cells #[ω 0,ω 0,ω 0,ι 0,ι 0,.string ⟨#[]⟩] 204)) (w.heap.size+1) 204 #[ω 0,ω 0,ω 0,ι 0,ι 0,.string ⟨#[]⟩]:=by
  have h:=η.new (w.alloc (.cells #[.string s] 9)) 204 #[ω 0,ω 0,ω 0,ι 0,ι 0,.string ⟨#[]⟩];simpa using h
 have Ab:Below w.heap.size w ((w.alloc (.cells #[.string s] 9)).alloc (.cells #[ω 0,ω 0,ω 0,ι 0,ι 0,.string ⟨#[]⟩] 204)):=((nX _ w).alloc (bQ _) _).alloc sM _;have hsz:((w.alloc (.cells #[.string s] 9)).alloc (.cells #[ω 0,ω 0,ω 0,ι 0,ι 0,.string ⟨#[]⟩] 204)).heap.size=w.heap.size+2:=by simp
 generalize ((w.alloc (.cells #[.string s] 9)).alloc (.cells #[ω 0,ω 0,ω 0,ι 0,ι 0,.string ⟨#[]⟩] 204))=W at *;have hc0:=CB.dD;have hne:=World.new_ne W ⟨w.heap.size,0,none⟩ hc0;have MS:=δ (fun W' (hu:υ W W')=>(CB.ε hu (fun e=>e)).dD);have HW:=aD CB aM Ab hsz;clear CB aM Ab hsz;generalize vf:w.heap.size=q0 at *;have HQ:=δ vf;clear vf;go_cut [5] (fun s5 wx=>s5=.pointer (some ⟨W.heap.size,0,none⟩)∧υ W wx∧η wx W.heap.size 204 #[ω (fQ s 0),ω (fQ s 1),ω (fQ s 2),ι (mF s 24:Int),ι (mF s 25:Int),.string ⟨#[]⟩])
 case first =>
  refine dB ?_;refine Ui (S:=fun w'=>w'.cell? ⟨q0,0,none⟩=some (.string s)) kR (MS.out _ (ζ.refl _ _).drew) (fun hHeld=>?_);refine fC 0 (.func (.func 206) #[] #[.pointer (some ⟨q0,0,none⟩)]) ?_;refine fC 2 (.func (.func 206) #[] #[.pointer (some ⟨q0,0,none⟩)]) ?_;refine fC 4 (.func (.func 206) #[] #[.pointer (some ⟨q0,0,none⟩)]) ?_;refine fC 6 (.string s) ?_;refine fC 9 (.string s) ?_;refine fC 7 (ϋ (s[24].toNat:Int)) ?_;refine fC 10 (ϋ (s[25].toNat:Int)) ?_;refine fC 8 (ι (IntKind.i64.wrap (s[24].toNat:Int))) ?_;refine fC 11 (ι (IntKind.i64.wrap (s[25].toNat:Int))) ?_;refine Kf (i:=1) (v:=ω (fQ s 0)) rfl kR kR kR (fun _ _ _ h=>h) (Dw rfl 206 #[ι 0,.pointer (some ⟨q0,0,none⟩)] (by rfl) (fun w' _=>?_) (fun w' hS=>Oj s 0 q0 w' En.out dC dC hS)) aS ?_
  ·go_simp
  simp only[ak];refine Kf (i:=3) (v:=ω (fQ s 1)) rfl kR kR kR (fun _ _ _ h=>h) (Dw rfl 206 #[ι 1,.pointer (some ⟨q0,0,none⟩)] (by rfl) (fun w' _=>?_) (fun w' hS=>Oj s 1 q0 w' En.out dC dC hS)) aS ?_
  ·go_simp
  simp only[ak];refine Kf (i:=5) (v:=ω (fQ s 2)) rfl kR kR kR (fun _ _ _ h=>h) (Dw rfl 206 #[ι 2,.pointer (some ⟨q0,0,none⟩)] (by rfl) (fun w' _=>?_) (fun w' hS=>Oj s 2 q0 w' En.out dC dC hS)) aS ?_
  ·go_simp
  simp only[ak];refine fC 12 (.agg #[ω (fQ s 0),ω (fQ s 1),ω (fQ s 2),ι (IntKind.i64.wrap (s[24].toNat:Int)),ι (IntKind.i64.wrap (s[25].toNat:Int)),.string ⟨#[]⟩]) ?_;refine NJ (rs:=[13]) kR sM ?_;refine NK rfl (fun K hK=>?_) NL;go_simp
  refine hK.out _ _ (MS.out _ ((ζ.refl _ _).alloc _).drew) (fun PM=>?_);clear hK K;refine NJ (rs:=[14]) kR sM ?_;refine NK rfl (fun K hK=>?_) NL;go_simp
  refine hK.out _ _ ?_ (fun ajY=>?_)
  ·exact MS.out _ ((ζ.refl _ _).alloc _).drew
  clear hK K;refine wpAnyH_done kR ?_ _;refine cZ ?_;go_wp2_with fail
  go_meet
  rw[zl,zl,← e24.out,← e25.out];exact⟨rfl,((ζ.refl _ _).alloc _).drew,(η.new W _ _).drew⟩
 case rest =>
  obtain⟨rfl,kE,hBp⟩:=hcut;have rF:=HW.out.1.ε kE (fun e=>e);have wP:=HW.out.2.1.ε kE (fun e=>e);have hcs:=rF.dD;have HB:=aD rF wP hBp kE;have hqW:q0<W.heap.size:=by have:=HW.out.2.2.2;omega
  have akc:q0+1<W.heap.size:=by have:=HW.out.2.2.2;omega
  have Xn:Below w.heap.size w W:=by rw[HQ.out];exact HW.out.2.2.1
  have HBe:=δ Xn;clear rF wP hBp kE hc0 hne HW MS Xn;have HPb:Hid (∃pb,W.heap.size=pb):=⟨_,rfl⟩;by_cases h32:32<(s.data.toList.getD 26 0).toNat
  ·have Zo:(32:Int)<(s[26].toNat:Int):=by rw[← e26.out];omega
   have hwr:IntKind.i64.wrap (s[26].toNat:Int)=(s[26].toNat:Int):=zl _;have hr:kK s.data.toList=(⟨dx (s.data.toList.take 8),dx ((s.data.toList.drop 8).take 8),dx ((s.data.toList.drop 16).take 8),(s.data.toList.getD 24 0).toNat,(s.data.toList.getD 25 0).toNat,[]⟩,false):=by unfold kK;rw[σ h32]
   have HR:=δ hr;clear hr;go_wp2_with (first
    |(refine kW rfl _ _ rfl W.heap.size rfl _ _ _ HB.out.2.2.1 underlying204 rfl rfl ?_)
    |(refine ef 204 (q0+1) #[ω (fQ s 0),ω (fQ s 1),ω (fQ s 2),ι (mF s 24:Int),ι (mF s 25:Int),.string ⟨#[]⟩] HB.out.2.1 (by simp[Value.oneCell']) ?_
      intro w6 cI az wW))
   have IP:=HR.out;generalize kK s.data.toList=rr at IP;subst IP;refine cy (iR rfl _ _ (q0+1) _ _ _ _ rfl cI underlying204 rfl rfl (.bool false) rfl) rfl ⟨rfl,?_⟩;have hb:=HBe.out;have hq:=HQ.out;have hu:=HB.out.2.2.2;exact(hb.trans ((hu.below φ).mono hb.size)).trans ⟨az.os,az.tape,az.output,az.size,fun b dO=>az.block b (nT dO (iE hb.size hu.size)) oM⟩
  ·have Zo:¬(32:Int)<(s[26].toNat:Int):=by rw[← e26.out];omega
   have hwr:IntKind.i64.wrap (s[26].toNat:Int)=(s[26].toNat:Int):=zl _;have hr:kK s.data.toList=(⟨dx (s.data.toList.take 8),dx ((s.data.toList.drop 8).take 8),dx ((s.data.toList.drop 16).take 8),(s.data.toList.getD 24 0).toNat,(s.data.toList.getD 25 0).toNat,(s.data.toList.drop 28).take (s.data.toList.getD 26 0).toNat⟩,decide (s.data.toList.getD 27 0=0∧s.data.toList.drop (28+(s.data.toList.getD 26 0).toNat)=List.replicate (32 - (s.data.toList.getD 26 0).toNat) 0)):=by unfold kK;rw[ν h32]
   have HR:=δ hr;clear hr;have Zp:=e26.out;have Mn:s[26].toNat≤32:=oM;obtain⟨n,hn⟩:=κ (s[26].toNat);have HN:=τ hn Zp;have hle:(28:Int)+(n:Int)≤(s.size:Int):=by have:=En.out;omega
   have hsub:IntKind.i64.wrap (32 - (n:Int))=32 - (n:Int):=bX _ oM;have iY:IntKind.i64.wrap (28+(n:Int))=28+(n:Int):=bX _ oM;have hnn:(0:Int)≤28+(n:Int):=oM;have htn:((28:Int)+(n:Int)).toNat=28+n:=oM;have aji:n≤32:=oM;rw[hn] at hwr Zo;obtain⟨cnt,Zq,hK⟩:∃cnt:Int,(cnt == 32 - (n:Int))=decide (List.drop (28+n) s.data.toList=List.replicate (32 - n) 0) ∧
    ∀W,ς 90 #[.string (s.extract (28+n) s.size),.string ⟨#[0]⟩] W fun e w'=>e=ώ (ι cnt)∧W=w':=by
    refine⟨_,?_,fun W=>(strings_Count_one (s.extract (28+n) s.size) 0 W).mono fun _ _ h=>⟨h.1,h.2.symm⟩⟩;rw[← ab7 s.data.toList s.size n En.out (by simpa using En.out) aji];congr 3
    rw[sN];rfl
   have HC:=δ Zq;have HK:=δ hK;clear Zq hK Zp e26;go_wp2_with (first
    |(refine gw rfl 9 _ _ rfl W.heap.size 5 (.string (s.extract 28 (28+n))) rfl rfl _ _ HB.out.2.2.1 sM rfl kR ?_
      intro w3 aA χ eU))
   simp only[jy,vO,vN] at aA;have ajj:q0≠W.heap.size:=oM;have XZ:q0+1≠W.heap.size:=oM;have Zr:η w3 q0 9 #[.string s]:=HB.out.1.ε χ ajj;have x_:η w3 (q0+1) 204 #[ω 0,ω 0,ω 0,ι 0,ι 0,.string ⟨#[]⟩]:=HB.out.2.1.ε χ XZ;have hS:∀w',ζ (fun b=>b=q0+1) w3 w'→(w'.cell? ⟨q0,0,none⟩=some (.string s)∧w'.cell? ⟨W.heap.size,0,none⟩=some (ω (fQ s 0))∧w'.cell? ⟨W.heap.size,1,none⟩=some (ω (fQ s 1))∧w'.cell? ⟨W.heap.size,2,none⟩=some (ω (fQ s 2))∧w'.cell? ⟨W.heap.size,3,none⟩=some (ι (mF s 24:Int))∧w'.cell? ⟨W.heap.size,4,none⟩=some (ι (mF s 25:Int))∧w'.cell? ⟨W.heap.size,5,none⟩=some (.string (s.extract 28 (28+n)))):=by
    intro w' hu;obtain⟨c0,c1,c2,c3,c4,c5⟩:=(aA.ε hu (fun e=>XZ e.symm)).vU;exact⟨(Zr.ε hu oM).dD,c0,c1,c2,c3,c4,c5⟩
   have fD:=δ hS;have H3:=aj aA x_ χ;have hca:=x_.vU;have bN:=x_.frozen 0;have bG:=x_.frozen 1;have aT:=x_.frozen 2;have fK:=x_.frozen 3;have cG:=x_.frozen 4;have iz:=x_.frozen 5;clear aA x_ χ eU hS Zr hcs;by_cases h0:s[27]=0
   ·have h0':((s[27].toNat:Int) == 0)=true:=by rw[h0];rfl
    refine dB ?_;refine Ui (S:=fun w'=>w'.cell? ⟨q0,0,none⟩=some (.string s)∧w'.cell? ⟨W.heap.size,0,none⟩=some (ω (fQ s 0))∧w'.cell? ⟨W.heap.size,1,none⟩=some (ω (fQ s 1))∧w'.cell? ⟨W.heap.size,2,none⟩=some (ω (fQ s 2))∧w'.cell? ⟨W.heap.size,3,none⟩=some (ι (mF s 24:Int))∧w'.cell? ⟨W.heap.size,4,none⟩=some (ι (mF s 25:Int))∧w'.cell? ⟨W.heap.size,5,none⟩=some (.string (s.extract 28 (28+n)))) kR (fD.out _ (ζ.refl _ _).drew) (fun hHeld=>?_);refine fC 0 (.agg #[ω (fQ s 0),ω (fQ s 1),ω (fQ s 2),ι (mF s 24:Int),ι (mF s 25:Int),.string (s.extract 28 (28+n))]) ?_;refine fC 1 (.string s) ?_;refine fC 2 (ϋ (s[27].toNat:Int)) ?_;refine fC 3 (.bool true) ?_;refine fC 4 (.bool true) ?_;refine fC 5 (.string s) ?_;refine fC 6 (ι (n:Int)) ?_;refine fC 7 (ι (28+(n:Int))) ?_;refine fC 8 (.string (s.extract (28+n) s.size)) ?_;refine Kf (i:=9) (v:=ι cnt) rfl kR kR kR (fun _ _ _ h=>h) (Dw rfl 90 #[.string (s.extract (28+n) s.size),.string ⟨#[0]⟩] (by rfl) (fun w' _=>?_) (fun w' hS=>HK.out w')) aS ?_
    ·go_simp
    simp only[ak];refine fC 10 (ι (n:Int)) ?_;refine fC 11 (ι (32 - (n:Int))) ?_;refine fC 12 (.bool (cnt == 32 - (n:Int))) ?_;refine fC 13 (.bool (cnt == 32 - (n:Int))) ?_;refine NJ (rs:=[14]) kR sM ?_;refine NK rfl (fun K hK=>?_) NL;go_simp
    refine hK.out _ _ (fD.out _ (((((((ζ.refl (fun b=>b=q0+1) w3).setCell (p:=⟨q0+1,0,none⟩) (.inl rfl) _).setCell (p:=⟨q0+1,1,none⟩) (.inl rfl) _).setCell (p:=⟨q0+1,2,none⟩) (.inl rfl) _).setCell (p:=⟨q0+1,3,none⟩) (.inl rfl) _).setCell (p:=⟨q0+1,4,none⟩) (.inl rfl) _).setCell (p:=⟨q0+1,5,none⟩) (.inl rfl) _).drew) (fun PM=>?_);clear hK K;refine fC 15 (.bool (cnt == 32 - (n:Int))) ?_;refine wpAnyH_done kR ?_ _;refine cZ ?_;go_wp2
    have uZ:=((((((H3.out.2.1.bE 0 (ω (fQ s 0))).bE 1 (ω (fQ s 1))).bE 2 (ω (fQ s 2))).bE 3 (ι (mF s 24:Int))).bE 4 (ι (mF s 25:Int))).bE 5 (.string (s.extract 28 (28+n)))).drew;simp only[jy,vO,vN] at uZ;refine cy (iR rfl _ _ (q0+1) _ _ _ _ rfl uZ underlying204 rfl rfl (.bool (cnt == 32 - (n:Int))) rfl) rfl ⟨?_,?_⟩
    ·rw[HR.out,HN.out.2,hn]
     simp only[Lp.val];rw[sN,ug];rw[HC.out,e27.out,h0];simp[mF,fQ]
    ·exact Zn
   ·have h0':((s[27].toNat:Int) == 0)=false:=by
     rw[eV];intro h;exact h0 (ud.1 (by have:(0:UInt8).toNat=0:=rfl;omega))
    refine dB ?_;refine Ui (S:=fun w'=>w'.cell? ⟨q0,0,none⟩=some (.string s)∧w'.cell? ⟨W.heap.size,0,none⟩=some (ω (fQ s 0))∧w'.cell? ⟨W.heap.size,1,none⟩=some (ω (fQ s 1))∧w'.cell? ⟨W.heap.size,2,none⟩=some (ω (fQ s 2))∧w'.cell? ⟨W.heap.size,3,none⟩=some (ι (mF s 24:Int))∧w'.cell? ⟨W.heap.size,4,none⟩=some (ι (mF s 25:Int))∧w'.cell? ⟨W.heap.size,5,none⟩=some (.string (s.extract 28 (28+n)))) kR (fD.out _ (ζ.refl _ _).drew) (fun hHeld=>?_);refine fC 0 (.agg #[ω (fQ s 0),ω (fQ s 1),ω (fQ s 2),ι (mF s 24:Int),ι (mF s 25:Int),.string (s.extract 28 (28+n))]) ?_;refine fC 1 (.string s) ?_;refine fC 2 (ϋ (s[27].toNat:Int)) ?_;refine fC 3 (.bool false) ?_;refine fC 4 (.bool false) ?_;refine pY 5 ?_;refine pY 6 ?_;refine pY 7 ?_;refine pY 8 ?_;refine pY 9 ?_;refine pY 10 ?_;refine pY 11 ?_;refine pY 12 ?_;refine fC 13 (.bool false) ?_;refine NJ (rs:=[14]) kR sM ?_;refine NK rfl (fun K hK=>?_) NL;go_simp
    refine hK.out _ _ (fD.out _ (((((((ζ.refl (fun b=>b=q0+1) w3).setCell (p:=⟨q0+1,0,none⟩) (.inl rfl) _).setCell (p:=⟨q0+1,1,none⟩) (.inl rfl) _).setCell (p:=⟨q0+1,2,none⟩) (.inl rfl) _).setCell (p:=⟨q0+1,3,none⟩) (.inl rfl) _).setCell (p:=⟨q0+1,4,none⟩) (.inl rfl) _).setCell (p:=⟨q0+1,5,none⟩) (.inl rfl) _).drew) (fun PM=>?_);clear hK K;refine fC 15 (.bool false) ?_;refine wpAnyH_done kR ?_ _;refine cZ ?_;go_wp2
    have uZ:=((((((H3.out.2.1.bE 0 (ω (fQ s 0))).bE 1 (ω (fQ s 1))).bE 2 (ω (fQ s 2))).bE 3 (ι (mF s 24:Int))).bE 4 (ι (mF s 25:Int))).bE 5 (.string (s.extract 28 (28+n)))).drew;simp only[jy,vO,vN] at uZ;refine cy (iR rfl _ _ (q0+1) _ _ _ _ rfl uZ underlying204 rfl rfl (.bool false) rfl) rfl ⟨?_,?_⟩
    ·rw[HR.out,HN.out.2,hn]
     simp only[Lp.val];rw[sN,ug];rw[e27.out];simp[mF,fQ,h0]
    ·exact Zn
structure DY where
 l:List Lp
 row:Bool
 aq:Nat
 bad:Bool
def xE (st:DY) (s:List UInt8):DY :=
 if st.bad then st else
 if (cz s).2=2 then { st with bad:=true } else
 if (cz s).2=1 then
  { l:=if st.row && (kK (cz s).1).2 then st.l++[(kK (cz s).1).1] else st.l,row:=st.row && (kK (cz s).1).2,aq:=max st.aq (kK (cz s).1).1.aq,bad:=false }
 else { st with row:=false }
def eG (d:Dk) (a:Nat) (k:Nat):DY:=((List.range k).map fun i=>(d.now (a+i)).data.toList).foldl xE ⟨[],true,0,false⟩
theorem FN (d:Dk) (a k:Nat):eG d a (k+1)=xE (eG d a k) (d.now (a+k)).data.toList:=by
 simp[eG,List.range_succ]
theorem acP (d:Dk) (a k m:Nat) (h:k≤m) (hb:(eG d a k).bad=true):eG d a m=eG d a k:=by
 induction m with
 | zero => obtain rfl:k=0:=oM
           rfl
 | succ m ih =>
   by_cases hk:k=m+1
   ·rw[hk]
   ·rw[FN,ih oM,xE,σ hb]
theorem Ol (d:Dk) (a k:Nat):(eG d a k).l.length≤k:=by
 induction k with
 | zero=>simp[eG]
 | succ k ih =>
   rw[FN,xE];split
   ·omega
   ·split
    ·simp only;omega
    ·split
     ·simp only
      split
      ·simp;omega
      ·omega
     ·simp only;omega
theorem agS (l:List UInt8):dx (l.take 8)<18446744073709551616:=by
 have h:=K6 (l.take 8);have h8:(l.take 8).length≤8:=by rw[fF];omega
 have h2:2 ^ (8*(l.take 8).length)≤2 ^ 64:=yU dC oM;have h3:(2:Nat) ^ 64=18446744073709551616:=dC;omega
theorem afq (b:List UInt8):(kK b).1.text.length≤32∧(kK b).1.all<256∧(kK b).1.aq<18446744073709551616:=by
 have h8:=agS (b.drop 8);have h25:=(b.getD 25 0).toNat_lt;unfold kK;split
 ·exact⟨sM,h25,h8⟩
 ·refine⟨?_,h25,h8⟩
  simp only[fF];omega
theorem VA (d:Dk) (a k:Nat):(∀q ∈ (eG d a k).l,q.text.length≤32∧q.all<256∧q.aq<18446744073709551616)∧(eG d a k).aq<18446744073709551616:=by
 induction k with
 | zero=>simp[eG]
 | succ k ih =>
   rw[FN,xE];split
   ·exact ih
   ·split
    ·exact ih
    ·split
     ·have h:=afq (cz (d.now (a+k)).data.toList).1
      refine⟨?_,?_⟩
      ·simp only
       split
       ·intro q hq
        rcases nZ.1 hq with hq | hq
        ·exact ih.1 q hq
        ·rw[A9.1 hq];exact h
       ·exact ih.1
      ·simp only
       have:=h.2.2;have:=ih.2;omega
     ·exact ih
def qV:Nat→Lg→List Lp→Lg
 | 0,g,_=>g
 | n + 1,g,row =>
   if (jh g.θ g.last row).2 then
    qV n { g with l:=g.l++[str (jh g.θ g.last row).1],last:=(row.headD ⟨0,0,0,0,0,[]⟩).aq,used:=g.used+partsOf (jh g.θ g.last row).1.length } (row.drop (partsOf (jh g.θ g.last row).1.length))
   else g
def nE (d:Dk) (f n e:Nat):Option Lg :=
 if (eG d f n).bad then none else
 some (qV ((eG d f n).l.length+1) ⟨f,n,e,[],0,0,(eG d f n).aq,false⟩ (eG d f n).l)
structure oc (w w':World) (p b f n e:Nat) (v:Value) (st:DY):Prop where
 list:Own w' 204 6 v st.l.length (nB st.l)
 new:∀q,v.ownBlock=some q→w.heap.size≤q
 log:η w' b 199 (Lg.cells p (.slice none 0 0) ⟨f,n,e,[],0,0,st.aq,false⟩)
 ε:υ w w'
 nb:w.heap.size≤b
section
variable {w w1 w2:World} {p b f n e:Nat} {v v2:Value} {st:DY}
theorem oc.below (h:oc w w1 p b f n e v st) (hb:Below w1.heap.size w1 w2):oc w w2 p b f n e v st :=
 ⟨h.list.cU fun q hq=>hb.block q (h.list.lt hq),h.new,h.log.cU (hb.block _ h.log.lt),h.ε.then (ζ.oI hb (fun _=>False)) φ,h.nb⟩
theorem oc.drew (h:oc w w1 p b f n e v st):oc w w1.drew p b f n e v st:=h.below (nX _ _).drew
theorem oc.R_ (h:oc w w1 p b f n e v st) (m:Nat):oc w (w1.setCell ⟨b,7,none⟩ (ω (m:Int))) p b f n e v { st with aq:=m } := by
 refine⟨h.list.bP (h.list.fO h.log dC) _,h.new,?_,h.ε.setCell (p:=⟨b,7,none⟩) (.inr h.nb) _,h.nb⟩;have:=h.log.bE 7 (ω (m:Int));simpa [Lg.cells] using this
theorem oc.app {pt:Lp} (h:oc w w1 p b f n e v st) (o:Obj) (bH:Own w2 204 6 v2 (st.l.length+1) (nB st.l++Lp.cells pt)) (π:ζ (fun q=>v.ownBlock=some q) (w1.alloc o) w2)
 (hl2:v2.ownBlock=v.ownBlock∨v2.ownBlock=some (w1.alloc o).heap.size):oc w w2 p b f n e v2 { st with l:=st.l++[pt] } := by
 refine⟨?_,fun q hq=>?_,(h.log.alloc o).ε π (fun e=>h.list.fO h.log dC e),(h.ε.alloc o).then π (fun q e=>.inr (h.new q e)),h.nb⟩
 ·simpa [nB] using bH
 ·rcases hl2 with e | e
  ·exact h.new q (by rw[← e];exact hq)
  ·rw[e] at hq
   have h5:=dw hq;have:=h.ε.size;simp at h5
   omega
end
structure agT (w w':World) (p:Nat) (o:Option Lg) (v:Value):Prop where
 ε:υ w w'
 bad:o=none→v=.pointer none
 ok:∀g,o=some g→∃b v1,v=.pointer (some ⟨b,0,none⟩)∧η w' b 199 (g.cells p v1)∧Own w' 9 1 v1 g.l.length (strs g.l)∧w.heap.size≤b∧∀q,v1.ownBlock=some q→w.heap.size≤q
def KM (o:Option Lg):Int:=if o.isSome then 0 else 9
theorem od.drop {w:World} {A:Option Addr} {n cap:Nat} {l:List Lp} (h:od w (.slice A n cap) l) (k:Nat) (hk:k≤l.length):od w (.slice (if cap=k then A else A.map (·.add (k*6))) (n - k) (cap - k)) (l.drop k):=by
 obtain⟨A',cap',b,off,e,h1,h2,h3,h4⟩:=h.ex;injection e with e1 e2 e3;subst e1 e2 e3;refine⟨_,cap - k,b,off+k*6,by rw[gM],by rw[gM];omega,oM,fun h0=>?_,fun i hi j hj=>?_⟩
 ·rw[gM] at h0
  obtain⟨rfl,hb⟩:=h3 oM;rw[ν oM];exact⟨by simp[Addr.add],hb⟩
 ·rw[gM] at hi
  have h5:=h4 (k+i) oM j hj;rw[List.getElem_drop,← h5,show off+k*6+i*6+j=off+(k+i)*6+j by omega]
theorem afr (b o k:Nat):Option.map (fun x:Addr=>x.add (k*6)) (some ⟨b,o,none⟩)=some ⟨b,o+k*6,none⟩:=by simp[Addr.add]
structure lZ (w0 w':World) (p b:Nat) (pv:Value) (l:List Lp) (v:Value) (row:List Lp) (g:Lg) (v1:Value):Prop where
 list:Own w' 204 6 pv l.length (nB l)
 parts:∀W,Own W 204 6 pv l.length (nB l)→od W v row
 log:η w' b 199 (g.cells p v1)
 own:Own w' 9 1 v1 g.l.length (strs g.l)
 new:∀q,v1.ownBlock=some q→w0.heap.size≤q
 old:∀q,pv.ownBlock=some q→q<w0.heap.size
 ε:ζ (· = b) w0 w'
section
variable {w0 w1 w2:World} {p b:Nat} {pv v v1 v2:Value} {l row:List Lp} {g:Lg}
theorem lZ.still (h:lZ w0 w1 p b pv l v row g v1) (hu:υ w1 w2):lZ w0 w2 p b pv l v row g v1 :=
 ⟨h.list.ε hu (fun _ _ e=>e),h.parts,h.log.ε hu (fun e=>e),h.own.ε hu (fun _ _ e=>e),h.new,h.old,h.ε.then hu φ⟩
theorem lZ.drew (h:lZ w0 w1 p b pv l v row g v1):lZ w0 w1.drew p b pv l v row g v1:=h.still (ζ.refl _ _).drew
theorem lZ.used (h:lZ w0 w1 p b pv l v row g v1) (m:Nat):lZ w0 (w1.setCell ⟨b,5,none⟩ (ι (m:Int))) p b pv l v row { g with used:=m } v1:=by
 refine⟨h.list.bP (h.list.fO h.log dC) _,h.parts,?_,h.own.bP (h.own.fO h.log dC) _,h.new,h.old,h.ε.setCell (p:=⟨b,5,none⟩) (.inl rfl) _⟩;have:=h.log.bE 5 (ι (m:Int));simpa [Lg.cells] using this
theorem lZ.app (h:lZ w0 w1 p b pv l v row g v1) (s:ByteArray) (m:Nat) (bH:Own w2 9 1 v2 (g.l.length+1) (strs g.l++[.string s])) (π:ζ (fun q=>v1.ownBlock=some q) w1 w2)
 (hl2:∀q,v2.ownBlock=some q→v1.ownBlock=some q∨w1.heap.size≤q) :
 lZ w0 ((w2.setCell ⟨b,4,none⟩ v2).setCell ⟨b,6,none⟩ (ω (m:Int))) p b pv l v row { g with l:=g.l++[s],last:=m } v2:=by
 have aB:=h.log.ε π (fun e=>h.own.fO h.log dC e);have EX:=h.list.ε π (fun q hq e=>by have h1:=h.new q e;have h2:=h.old q hq;omega);have sA:=bH.fO aB dC;have hn2:=EX.fO aB dC;have hs:=h.ε.size;refine⟨(EX.bP (p:=⟨b,4,none⟩) hn2 _).bP (p:=⟨b,6,none⟩) hn2 _,h.parts,?_,?_,fun q hq=>?_,h.old,?_⟩
 ·have h3:=(aB.bE 4 v2).bE 6 (ω (m:Int))
  simp only[Lg.cells,jy,vN,vO] at h3;simp only[Lg.cells];exact h3
 ·have h3:=(bH.bP (p:=⟨b,4,none⟩) sA v2).bP (p:=⟨b,6,none⟩) sA (ω (m:Int))
  simp only[aL,eS,yY,strs,kG,jY,yZ] at h3 ⊢;exact h3
 ·rcases hl2 q hq with e | e
  ·exact h.new q e
  ·omega
 ·exact((h.ε.then π (fun q e=>.inr (h.new q e))).setCell (p:=⟨b,4,none⟩) (.inl rfl) _).setCell (p:=⟨b,6,none⟩) (.inl rfl) _
end
theorem lZ.drop {w0 w1:World} {p b n cap:Nat} {A:Option Addr} {pv v1:Value} {l row:List Lp} {g:Lg} (h:lZ w0 w1 p b pv l (.slice A n cap) row g v1) (k:Nat) (hk:k≤row.length) :
 lZ w0 w1 p b pv l (.slice (if cap=k then A else A.map (·.add (k*6))) (n - k) (cap - k)) (row.drop k) g v1 :=
 ⟨h.list,fun W hW=>(h.parts W hW).drop k hk,h.log,h.own,h.new,h.old,h.ε⟩
theorem lZ.begin {w0:World} {p b:Nat} {v:Value} {l:List Lp} {g:Lg} (hL:Own w0 204 6 v l.length (nB l)) (hB:η w0 b 199 (g.cells p (.slice none 0 0))) (hg:g.l=[]):lZ w0 w0 p b v l v l g (.slice none 0 0) :=
 ⟨hL,fun _ h=>od.jK h,hB,by rw[hg];exact Own.nil _ _ _,by simp[Value.ownBlock],fun _ hq=>hL.lt hq,ζ.refl _ _⟩
def lenOf:Value→Nat
 | .slice _ n _=>n
 | _=>0
theorem lZ.sees {w0 w1 w2:World} {p b b1 o1 n cap:Nat} {pv v1:Value} {l r:List Lp} {q0:Lp} {g:Lg} (h:lZ w0 w1 p b pv l (.slice (some ⟨b1,o1,none⟩) n cap) (q0::r) g v1) (hU:ζ (fun q=>v1.ownBlock=some q) w1 w2) :
 w2.cell? ⟨b,4,none⟩=some v1∧w2.cell? ⟨b1,o1+1,none⟩=some (ω (q0.aq:Int)):=by
 have aB:=h.log.ε hU (fun e=>h.own.fO h.log dC e);have EX:=h.list.ε hU (fun q hq e=>by have h1:=h.new q e;have h2:=h.old q hq;omega);obtain⟨A,c,b',o',e,-,-,h3,h4⟩:=(h.parts _ EX).ex;injection e with e1 e2 e3;obtain⟨hA,-⟩:=h3 sM;subst hA;injection e1 with e1;injection e1 with e4 e5;subst e4 e5;refine⟨aB.cell 4,?_⟩;have h5:=h4 0 sM 1 oM;simpa [Lp.cells] using h5
theorem N1 {θ last:Nat} {row:List Lp} (h:(jh θ last row).2=true):0<row.length∧1≤partsOf (jh θ last row).1.length∧partsOf (jh θ last row).1.length≤row.length∧(jh θ last row).1.length≤1024:=by
 unfold jh at h ⊢;split at h
 ·simp at h
 ·split at h
  ·simp at h
  ·split at h
   ·simp at h
   ·rename_i p r h1 h2
    simp only[dR] at h;rw[ν h1,ν h2];exact⟨sM,by unfold partsOf;omega,h.1,by show (jj _).length≤1024;omega⟩
theorem acQ (n m:Nat) (g:Lg) (row:List Lp) (hn:row.length<n) (hm:row.length<m):qV n g row=qV m g row:=by
 induction n generalizing m g row with
 | zero=>omega
 | succ n ih =>
   cases m with
   | zero=>omega
   | succ m =>
     rw[qV,qV];split
     ·rename_i h
      have hp:=N1 h;exact ih m _ _ (by rw[gM];omega) (by rw[gM];omega)
     ·rfl
theorem oc.stored {w w2 w3 w4:World} {p b f n e:Nat} {v:Value} {st:DY} (h2:oc w w2 p b f n e v st) (h3:oc w w3 p b f n e v st) (hU:ζ (· = w2.heap.size) w3 w4):oc w w4 p b f n e v st:=by
 refine⟨h3.list.ε hU (fun k hk e=>?_),h3.new,h3.log.ε hU (fun e=>?_),h3.ε.then hU (fun q e=>.inr ?_),h3.nb⟩
 ·have:=h2.list.lt hk
  omega
 ·have:=h2.log.lt
  omega
 ·have:=h2.ε.size
  omega
theorem Zs {P:Prop} (h:P:=by
 have HS:=δ pG;clear pG yu;go_wp2
 go_roundw
 case rel =>
  refine⟨j+1,oM,by go_num,?_,?_,?_⟩;all_goals rw[HS.out]
  have h:=Sl.out;exact⟨h.list,h.new,h.log,h.ε,h.nb⟩
 case measure=>simp[intOf];omega):P:=h
theorem We {w:World} {p:Nat} {d:Dk} {F:List Nat} (hD:bI w p d F) (f n e:Nat) (hn:1≤n) (hf:f+n≤d.af.length) (he:1≤e) (he2:e<18446744073709551616) (hoff:d.off=false) :
 ς 104 #[.pointer (some ⟨p,0,none⟩),ι f,ι n,ω e] w fun en w'=>∃v,en=ώ (.tuple #[v,ι (KM (nE d f n e))])∧agT w w' p (nE d f n e) v:=by
 have hm:=hD.wf.most;obtain⟨i0,bx,bN,bG,aT⟩:=je Xk;obtain⟨s0,hs0,hx0,hx1,hx2⟩:=je Gm;have hne:((d.af.length:Int) == 0)=false:=by rw[eV];omega
 have Ci:¬(f:Int)<0:=oM;have hn0:¬(n:Int)<1:=oM;have sA:¬d.af.length<n:=oM;have Mi:¬(d.af.length:Int) - (n:Int)<(f:Int):=oM;have MT:¬(e:Int)<1:=oM;have hsw:IntKind.i64.wrap ((d.af.length:Int) - (n:Int))=(d.af.length:Int) - (n:Int):=bX _ oM;have HS:=δ (OJ hD);have hF:f≤4096∧n≤4096:=oM;have HD:=gU hD hf hoff hm he he2;clear hD hoff hm he he2 hf;go_enter func104,ntmps104
 go_wp2_with (go_at_call 61;refine HS.out.mono ?_;rintro e w' ⟨rfl,rfl⟩);have G2:eG d f 0=⟨[],true,0,false⟩:=rfl;have HZ:=δ G2;clear G2 hne Ci hn0 sA Mi MT hsw;go_loopw [11,12,58] (fun v r i wr=>∃j:Nat,j≤n∧i=ι j∧(eG d f j).bad=false∧r=.bool (eG d f j).row∧oc w wr p w.heap.size f n e v (eG d f j)) (fun _ _ i _=>n - (intOf i).toNat)
 case atStart =>
  refine⟨0,oM,rfl,rfl,rfl,?_⟩;rw[HZ.out];exact⟨Own.nil _ _ _,by simp[Value.ownBlock],η.new w _ _,(ζ.refl _ w).alloc _,bQ _⟩
 case round =>
  obtain⟨j,hj,rfl,jl,rfl,hL⟩:=hrel;by_cases hlt:j<n
  ·have jU:bI wr p d F:=HD.out.1.ε hL.ε fun q hq e=>e
   have hrd:=Dk.U5 HD.out.2.2.1 (i:=f+j) (oN HD.out.2.1);have D6:(d.read ((f:Int)+(j:Int)))=(d.now (f+j),0):=by
    rw[← hrd];congr 1
   have eU:IntKind.i64.wrap ((f:Int)+(j:Int))=(f:Int)+(j:Int):=bX _ oM;have hlt':(j:Int)<(n:Int):=oM;have Ad:=δ D6;have hst:=FN d f j;have hsz:=HD.out.1.wf.O9 (i:=f+j) (oN HD.out.2.1);have hbd:=fun h=>acP d f (j+1) n oM h
   have sx:=δ (fun W=>PG (d.now (f+j)) W oM);have HW:=aD hst hsz hbd hL;have HB:=δ jl;have Sm:=δ (show ς 46 #[.pointer (some ⟨p,0,none⟩),ι ((f:Int)+(j:Int))] wr (fun e w'=>e=ώ (.tuple #[.string (d.now (f+j)),ι 0])∧wr=w') from by
    have h:=K8 jU ((f:Int)+(j:Int));rw[D6] at h;exact h)
   clear hL jl jU hrd D6 hst hsz hbd Ad;generalize d.now (f+j)=sec at *;rcases UI sec.data.toList with hc | hc | hc
   ·rw[hc] at sx
    have hmx:max ((eG d f j).aq:Int) 0=((eG d f j).aq:Int):=oM;have hS:eG d f (j+1) = { eG d f j with row:=false } := by
     rw[HW.out.1,xE,ν (by rw[HB.out];simp),ν (by rw[hc];decide),ν (by rw[hc];decide)]
    have tE:=τ hS HB.out;have Ae:=δ HW.out.2.2.2;clear hS HW HB hc;generalize eG d f j=st at *;go_wp2_with (first
     |(go_at_call 46;refine Sm.out.mono ?_;rintro e w' ⟨rfl,rfl⟩)
     |(go_at_call 47
       refine(sx.out _).mono ?_;rintro e w2 ⟨rfl,bn⟩;have aE:=η.new w2 204 #[ω 0,ω 0,ω 0,ι 0,ι 0,.string ⟨#[]⟩];have oz:=τ ((Ae.out.below bn).below ((nX _ w2).alloc (bQ _) (.cells #[ω 0,ω 0,ω 0,ι 0,ι 0,.string ⟨#[]⟩] 204))) aE;have su:=aE.vU;have wX:=oz.out.1.log.og;have cG:=oz.out.1.log.frozen 7;clear aE))
    all_goals
     go_roundw
     case rel =>
      refine⟨j+1,oM,by go_num,?_,?_,?_⟩;all_goals rw[tE.out.1]
      ·exact tE.out.2
      ·have h:=oz.out.1
       exact⟨h.list,h.new,h.log,h.ε,h.nb⟩
     case measure=>simp[intOf];omega
   ·obtain⟨hbody,hlen⟩:=U3 hc
    have IQ:=δ (fun W=>ahP (str (cz sec.data.toList).1) W (by rw[bf,hbody];simp[hlen]))
    rw[hc] at sx;have hdt:(str (cz sec.data.toList).1).data.toList=(cz sec.data.toList).1:=by simp[str]
    rw[hdt] at IQ;have hS:eG d f (j+1) = { l:=if (eG d f j).row && (kK (cz sec.data.toList).1).2 then (eG d f j).l++[(kK (cz sec.data.toList).1).1] else (eG d f j).l,row:=(eG d f j).row && (kK (cz sec.data.toList).1).2,aq:=max (eG d f j).aq (kK (cz sec.data.toList).1).1.aq,bad:=false } := by
     rw[HW.out.1,xE,ν (by rw[HB.out];simp),ν (by rw[hc];decide),σ hc]
    have Ae:=δ HW.out.2.2.2;have IU:(eG d f j).l.length≤j:=Ol _ _ _;clear hdt hbody hlen hc HW HB;have pG:=δ hS;clear hS;generalize eG d f j=st at *;generalize kK (cz sec.data.toList).1=pr at *;obtain⟨pt,is⟩:=pr;simp only at *
    have hmx:max (st.aq:Int) (pt.aq:Int)=((max st.aq pt.aq:Nat):Int):=oM;go_wp2_with (first
     |(go_at_call 46;refine Sm.out.mono ?_;rintro e w' ⟨rfl,rfl⟩)
     |(go_at_call 47
       refine(sx.out _).mono ?_;rintro e w2 ⟨rfl,bn⟩;have Sa:=δ (Ae.out.below bn);have oz:=τ ((Ae.out.below bn).below ((nX _ w2).alloc (bQ _) (.cells #[ω 0,ω 0,ω 0,ι 0,ι 0,.string ⟨#[]⟩] 204))) (η.new w2 204 #[ω 0,ω 0,ω 0,ι 0,ι 0,.string ⟨#[]⟩]))
     |(go_at_call 159
       refine(IQ.out _).mono ?_;rintro e w3 ⟨he3,nL⟩;rw[Lp.val] at he3;subst he3;have u7:=τ (oz.out.1.below nL) (oz.out.2.cU (nL.block _ oz.out.2.lt));clear nL)
     |(refine ef 204 w2.heap.size #[ω pt.θ,ω pt.aq,ω pt.ahead,ι pt.number,ι pt.all,.string (str pt.text)] u7.out.2 (by simp[Value.oneCell']) ?_
       intro w4 aE ag hs4;have EY:=τ (oc.stored Sa.out u7.out.1 ag) aE;have su:=aE.vU;have wX:=EY.out.1.log.og;have cG:=EY.out.1.log.frozen 7;clear aE ag hs4))
    go_region
    all_goals
     try simp only[hmx]
     have Sl:=δ ((EY.out.1.R_ (max st.aq pt.aq)).drew);have aF:η (w4.setCell ⟨w.heap.size,7,none⟩ (ω ((max st.aq pt.aq:Nat):Int))).drew w2.heap.size 204 #[ω pt.θ,ω pt.aq,ω pt.ahead,ι pt.number,ι pt.all,.string (str pt.text)] :=
      (EY.out.2.bP (p:=⟨w.heap.size,7,none⟩) (fun e=>EY.out.2.zP EY.out.1.log dC e) _).drew
     have yu:=aF.vU;have pG:=pG.out;clear su wX cG aF hmx;generalize (w4.setCell ⟨w.heap.size,7,none⟩ (ω ((max st.aq pt.aq:Nat):Int))).drew=w5 at *;cases hr:st.row
     ·simp only[hr,Bool.false_and,oG,lK] at pG
      exact Zs
     ·cases lG:is
      ·simp only[hr,lG,FF,oG,lK] at pG
       exact Zs
      ·simp only[hr,lG,FF,vI] at pG
       have HS:=δ pG;clear pG;go_wp2_with (at_builtin;refine jH rfl _ _ _ _ rfl 204 i0 _ 6 56 underlying201 bx bN bG aT rfl u11 st.l.length _ rfl (Sl.out.list.alloc _) _ 1 [_,_,_,_,_,_] rfl (Src.qN underlying201 _ rfl) (by simp[Value.oneCell']) (by have:=IU;unfold maxLen;omega) (oN IU) ?_;intro v2 w6 bH π hl2 bV);go_roundw
       case rel =>
        refine⟨j+1,oM,by go_num,?_,?_,?_⟩;all_goals rw[HS.out]
        have h:=Sl.out.app _ bH π hl2;exact⟨h.list,h.new,h.log,h.ε,h.nb⟩
       case measure=>simp[intOf];omega
   ·rw[hc] at sx
    have hS:eG d f (j+1) = { eG d f j with bad:=true } := by
     rw[HW.out.1,xE,ν (by rw[HB.out];simp),σ hc]
    have h10:=HW.out.2.2.1 (by rw[hS]);rw[hS] at h10;have iL:=δ h10;have Ae:=δ HW.out.2.2.2;clear h10 hS HW HB hc;go_wp2_with (first
     |(go_at_call 46;refine Sm.out.mono ?_;rintro e w' ⟨rfl,rfl⟩)
     |(go_at_call 47;refine(sx.out _).mono ?_;rintro e w2 ⟨rfl,bn⟩))
    go_ret2
    have ho:nE d f n e=none:=by rw[nE,iL.out];rfl
    rw[ho];exact⟨_,rfl,⟨(Ae.out.below bn).ε,fun _=>rfl,fun g h=>by cases h⟩⟩
  ·obtain rfl:j=n:=oM
   have HL:=τ hL jl;clear hL jl;go_wp2_with fail
   have hok:=(VA d f j).1;have tC:=Ol d f j;have hG:nE d f j e=some (qV ((eG d f j).l.length+1) ⟨f,j,e,[],0,0,(eG d f j).aq,false⟩ (eG d f j).l):=by rw[nE,HL.out.2];rfl
   have HG:=aj hG hok tC;clear hG hok tC;go_loopw [11] (fun v w'=>∃(row:List Lp) (g:Lg) (v1:Value) (k:Nat),lZ wr w' p w.heap.size u11 (eG d f j).l v row g v1∧nE d f j e=some (qV (row.length+1) g row)∧row=(eG d f j).l.drop k∧k≤(eG d f j).l.length∧g.θ=e∧g.used=k∧g.l.length≤k) (fun v _=>lenOf v)
   case atStart =>
    exact⟨(eG d f j).l,⟨f,j,e,[],0,0,(eG d f j).aq,false⟩,.slice none 0 0,0,lZ.begin HL.out.1.list HL.out.1.log rfl,HG.out.1,rfl,oM,rfl,rfl,sM⟩
   case round =>
    obtain⟨row,g,v1,k,hR,hg,hrow,hk,fB,EZ,gE⟩:=hrel;have hrl:row.length≤5000:=by rw[hrow,gM];have:=HG.out.2.2;omega
    have hmem:∀q ∈ row,q ∈ (eG d f j).l:=fun q hq=>by rw[hrow] at hq;exact Dr hq
    have E0:=agQ hR.log (hR.parts _ hR.list) hrl (fun q hq=>(HG.out.2.1 q (hmem q hq)).1) (fun q hq=>(HG.out.2.1 q (hmem q hq)).2.1);rw[qV] at hg;cases hf:(jh g.θ g.last row).2
    ·rw[hf] at E0 hg
     rw[ν sM] at hg;have Sn:=δ E0;have HR:=τ hR hg;clear E0 hR hg hrow hmem hf;go_wp2_with (go_at_call 160;refine Sn.out.mono ?_;rintro e w1 ⟨rfl,rG⟩);go_ret2
     rw[HR.out.2];have oB:=HR.out.1.still rG;have hz:=HL.out.1.ε.size;exact⟨_,rfl,HL.out.1.ε.then oB.ε (fun q e=>.inr (by rw[e];exact bQ _)),fun h=>(by cases h),fun g2 h=>by cases h;exact⟨w.heap.size,v1,rfl,oB.log,oB.own,bQ _,fun q hq=>by have:=oB.new q hq;omega⟩⟩
    ·obtain⟨h0,hp1,hp2,ht2⟩:=N1 hf
     rw[hf] at E0 hg;rw[σ rfl] at hg;generalize (jh g.θ g.last row).1=text at *;obtain⟨q0,r,rfl⟩:∃q0 r,row=q0::r:=by
      cases row with
      | nil=>simp at h0
      | cons a b=>exact⟨a,b,rfl⟩
     obtain⟨A,cap,b1,o1,hv,m1,m2,a1,c1⟩:=(hR.parts _ hR.list).ex;obtain⟨rfl,-⟩:=a1 sM;subst hv;have akd:g.l.length≤5000:=by have:=HG.out.2.2;omega
     have ake:g.used≤5000:=by have:=HG.out.2.2;omega
     have hsw:IntKind.i64.wrap ((g.used:Int)+((partsOf text.length:Nat):Int))=(g.used:Int)+((partsOf text.length:Nat):Int):=bX _ oM;have HPa:Hid (∀W,ς 112 #[.string (str text)] W fun e w'=>e=ώ (ι ((partsOf text.length:Nat):Int))∧W=w'):=fun W=>by
      have h:=Gq (str text) W (by rw[bf];omega);rw[bf] at h;exact h
     have Sn:=δ E0;have HR:=δ hR;have CE:=gU hg hrow hk fB EZ gE;clear E0 hR hg hrow hmem hf a1 c1 hk fB EZ gE;go_wp2_with (first|(go_at_call 160;refine Sn.out.mono ?_;rintro e w1 ⟨rfl,rG⟩;have E3:=δ (HR.out.still rG);clear rG)| fail);have XT:(0:Int)<((q0::r).length:Int):=by simp only[eS];omega
     refine dB ?_;refine dK (S:=fun w'=>w'.cell? ⟨w.heap.size,4,none⟩=some v1∧w'.cell? ⟨b1,o1+1,none⟩=some (ω (q0.aq:Int))) (T:=fun i=>Nat.beq 15 i || Nat.beq i 18) kR ?_;have fD:=δ (fun (w':World) hu=>E3.out.sees (w2:=w') hu);have aC:=fD.out _ (ζ.refl _ w1).drew;refine fU 0 (.pointer (some ⟨w.heap.size,0,none⟩)) ?_;refine fU 1 (.pointer (some ⟨w.heap.size,0,none⟩)) ?_;refine fU 2 (.pointer (some ⟨w.heap.size,0,none⟩)) ?_;refine fU 3 (.pointer (some ⟨w.heap.size,0,none⟩)) ?_;refine fU 4 (.pointer (some ⟨w.heap.size,4,none⟩)) ?_;refine y9 (i:=5) (v:=v1) rfl kR kR kR kR (fun _ _ _ h=>h) (sQ rfl (Or.inl ⟨by rfl,?_⟩)) aS kR ?_
     ·intro w' hSw;go_split_ands;go_simp
     simp only[ak];refine fU 6 (.string (str text)) ?_;refine fU 9 (.slice (some ⟨b1,o1,none⟩) (q0::r).length cap) ?_;refine fU 10 (.pointer (some ⟨b1,o1,none⟩)) ?_;refine fU 11 (.pointer (some ⟨b1,o1+1,none⟩)) ?_;refine y9 (i:=12) (v:=ω (q0.aq:Int)) rfl kR kR kR kR (fun _ _ _ h=>h) (sQ rfl (Or.inl ⟨by rfl,?_⟩)) aS kR ?_
     ·intro w' hSw;go_split_ands;go_simp
     simp only[ak];refine aY 7 (fun K hK=>?_);go_simp
     refine hK.out _ _ ?_ ?_
     ·exact fD.out _ ((ζ.refl _ w1).alloc _).drew
     refine aY 8 (fun K hK=>?_);refine pQ (by rfl) _ _ _ _ (by rfl) 9 s0 _ 1 16 underlying147 hs0 hx0 hx1 hx2 rfl v1 _ _ (by rfl) ((E3.out.own.alloc _).drew) _ 1 [.string (str text)] (by rfl) (Src.N3 underlying147 (.string (str text))) (by simp[Value.oneCell']) (by unfold maxLen;omega) oM ?_;intro v2 w2 pU π v_ bV;obtain⟨gq,cq,rfl,-,-⟩:=pU.head oM;have χ:ζ (fun q=>v1.ownBlock=some q) w1 w2:=((ζ.refl _ w1).alloc _).drew.then π (fun _ e=>.inl e);have fI:∀q,(Value.slice (some ⟨gq,0,none⟩) (g.l.length+1) cq).ownBlock=some q→v1.ownBlock=some q∨w1.heap.size≤q:=fun q hq=>by
      rcases v_ with e | e
      ·rw[e] at hq;exact .inl hq
      ·rw[e] at hq
       cases hq
       exact .inr ((((ζ.refl (fun _=>False) w1).alloc _).drew).size)
     have aA:=E3.out.log.ε χ (fun e=>E3.out.own.fO E3.out.log dC e);have hk2:=aA.og;have Ez:=aA.frozen 4;have MQ:=aA.frozen 6;have HX:=δ (E3.out.app (str text) q0.aq pU χ fI);have a_:=fD.out _ χ;clear pU π v_ bV χ fI aA;refine hK.out _ _ a_ ?_;clear hK;refine fU 13 (.pointer (some ⟨w.heap.size,0,none⟩)) ?_;refine fU 14 (.pointer (some ⟨w.heap.size,4,none⟩)) ?_;refine kO 15 (fun K hK=>?_);go_simp
     refine hK.out _ _ ?_;clear hK a_;refine fU 16 (.pointer (some ⟨w.heap.size,0,none⟩)) ?_;refine fU 17 (.pointer (some ⟨w.heap.size,6,none⟩)) ?_;refine kO 18 (fun K hK=>?_);go_simp
     refine hK.out _ _ ?_;clear hK;refine dF ?_;refine cZ ?_;clear hk2 Ez MQ;generalize ((w2.setCell ⟨w.heap.size,4,none⟩ (.slice (some ⟨gq,0,none⟩) (g.l.length+1) cq)).setCell ⟨w.heap.size,6,none⟩ (ω (q0.aq:Int)))=w3 at *;clear fD aC;go_wp2_with fail
     refine dB ?_;refine dK (S:=fun w'=>w'.cell? ⟨w.heap.size,5,none⟩=some (ι (g.used:Int))) (T:=fun i=>Nat.beq 9 i) kR ?_;have aC:w3.drew.cell? ⟨w.heap.size,5,none⟩=some (ι (g.used:Int)):=HX.out.log.drew.cell 5;have MP:=HX.out.log.drew.frozen 5;refine fU 0 (.pointer (some ⟨w.heap.size,0,none⟩)) ?_;refine fU 1 (.pointer (some ⟨w.heap.size,0,none⟩)) ?_;refine fU 2 (.pointer (some ⟨w.heap.size,5,none⟩)) ?_;refine y9 (i:=3) (v:=ι (g.used:Int)) rfl kR kR kR kR (fun _ _ _ h=>h) (sQ rfl (Or.inl ⟨by rfl,?_⟩)) aS kR ?_
     ·intro w' hSw;go_split_ands;go_simp
     simp only[ak];refine fU 4 (.string (str text)) ?_;refine y9 (i:=5) (v:=ι ((partsOf text.length:Nat):Int)) rfl kR kR kR kR (fun _ _ _ h=>h) (Dw rfl 112 #[.string (str text)] (by rfl) (fun w' _=>?_) (fun w' hS=>HPa.out w')) aS kR ?_
     ·go_simp
     simp only[ak];refine fU 6 (ι ((g.used:Int)+((partsOf text.length:Nat):Int))) ?_;refine fU 7 (.pointer (some ⟨w.heap.size,0,none⟩)) ?_;refine fU 8 (.pointer (some ⟨w.heap.size,5,none⟩)) ?_;refine kO 9 (fun K hK=>?_);go_simp
     refine hK.out _ _ ?_;clear hK;refine dF ?_;refine cZ ?_;have HY:=δ ((HX.out.used (g.used+partsOf text.length)).drew.drop (partsOf text.length) hp2);clear aC MP;have hpl:((partsOf text.length:Nat):Int)≤((q0::r).length:Int):=oM;have jr:(0:Int)≤((partsOf text.length:Nat):Int):=oM;go_wp2_with (go_at_call 112;refine(HPa.out _).mono ?_;rintro e w4 ⟨rfl,rfl⟩);go_roundw
     case rel =>
      refine⟨(q0::r).drop (partsOf text.length),{ g with l:=g.l++[str text],last:=q0.aq,used:=g.used+partsOf text.length },.slice (some ⟨gq,0,none⟩) (g.l.length+1) cq,k+partsOf text.length,?_,?_,?_,?_,CE.out.2.2.2.1,?_,?_⟩
      ·have h:=HY.out
       rw[Int.natCast_add g.used (partsOf text.length)] at h;have ha:Option.map (fun x:Addr=>x.add (partsOf text.length*6)) (some ⟨b1,o1,none⟩)=some ⟨b1,o1+partsOf text.length*6,none⟩:=afr _ _ _;rw[ha] at h;exact h
      ·rw[CE.out.1]
       exact aJ some (acQ _ _ _ _ (by rw[gM];simp only[eS] at hp2 ⊢;omega) oM)
      ·rw[CE.out.2.1,AZ]
      ·have h:=aJ List.length CE.out.2.1
       rw[gM] at h;have:=CE.out.2.2.1;omega
      ·show g.used+_=_
       rw[CE.out.2.2.2.2.1]
      ·simp only[aL,eS,yY]
       have:=CE.out.2.2.2.2.2;omega
     case measure =>
      simp[lenOf]
      omega
theorem N2 (b:List UInt8) (hb:b.length=60) (hz:b≠List.replicate 60 0) (hs:rX b<2 ^ (8*4)):cz (gH b)=(b,1):=by
 have hl:(leB (rX b) 4).length=4:=oK _ _;have h1:(gH b).length=64:=by simp[gH,hb,hl]
 have h2:(gH b).take 60=b:=by rw[gH,JU oM,dH oM]
 have h3:(gH b).drop 60=leB (rX b) 4:=by rw[gH,ajV oM,pN oM];rfl
 have h4:gH b≠List.replicate 64 0:=by
  intro e;apply hz
  rw[← h2,e];rfl
 rw[cz,ν oM,ν h4,h2,h3,Gh _ _ hs,ν sM]
theorem U_ (p:Pt) (hg:p.gen<2 ^ (8*8)) (hn:p.number<256) (ha:p.all<256) (ht:p.text.length≤48):kJ p.body=(p,true):=by
 obtain⟨g,n,a,t⟩:=p;simp only at hg hn ha ht
 have hl:(leB g 8).length=8:=oK _ _;have hb:(⟨g,n,a,t⟩:Pt).body=leB g 8++([UInt8.ofNat n,UInt8.ofNat a,UInt8.ofNat t.length,0]++(t++List.replicate (48 - t.length) 0)):=by simp[Pt.body]
 have h1:(Pt.body ⟨g,n,a,t⟩).take 8=leB g 8:=by rw[hb,JU oM,dH oM]
 have hd:∀i,(Pt.body ⟨g,n,a,t⟩).getD (8+i) 0=([UInt8.ofNat n,UInt8.ofNat a,UInt8.ofNat t.length,0]++(t++List.replicate (48 - t.length) 0)).getD i 0:=by
  intro i;rw[hb,bJ,bJ,lM oM,hl,ug]
 have h8:(Pt.body ⟨g,n,a,t⟩).getD 8 0=UInt8.ofNat n:=hd 0;have h9:(Pt.body ⟨g,n,a,t⟩).getD 9 0=UInt8.ofNat a:=hd 1;have h10:(Pt.body ⟨g,n,a,t⟩).getD 10 0=UInt8.ofNat t.length:=hd 2;have h11:(Pt.body ⟨g,n,a,t⟩).getD 11 0=0:=hd 3;have hdr:∀i,(Pt.body ⟨g,n,a,t⟩).drop (12+i)=(t++List.replicate (48 - t.length) 0).drop i:=by
  intro i;rw[hb,← dQ,← AZ,JZ (by simp[hl])]
 have hu:∀x,x<256→(UInt8.ofNat x).toNat=x:=fun x hx=>by simp;omega
 rw[kJ,h8,h9,h10,h11,h1,hu n hn,hu a ha,hu t.length oM,ν oM,Gh _ _ hg];have e0:=hdr 0;rw[rM] at e0;rw[e0,hdr t.length];simp
theorem chunks (t:List UInt8) (n:Nat):((List.range n).flatMap fun i=>(t.drop (48*i)).take 48)=t.take (48*n):=by
 induction n with
 | zero=>simp
 | succ n ih=>rw[sK,vJ,ih];simp[List.take_add,Nat.mul_add]
theorem adS (t:List UInt8) (g:Nat):kg (aX t g)=t:=by
 have h:=chunks t (aO t.length);rw[kg,aX,List.flatMap_map];rw[h,dH];unfold aO;omega
theorem VB (t:List UInt8) (g:Nat) (rest:List Pt) (hg:g≠0) (ht:t.length≤400):dI (aX t g++rest)=(t,g):=by
 have hn:0<(aX t g).length:=by rw[oJ];unfold aO;omega
 have h0:=Bl t g 0 hn;obtain⟨p,l,e⟩:∃p l,aX t g=p::l:=by
  cases h:aX t g with
  | nil=>rw[h] at hn;simp at hn
  | cons p l=>exact⟨p,l,rfl⟩
 have hp:p.gen=g∧p.all=aO t.length:=by
  have h1:(aX t g)[0]=p:=by simp[e]
  rw[h1] at h0;exact⟨h0.1,h0.2.2.1⟩
 have hfg:uk (aX t g++rest)=g:=by rw[e];exact hp.1
 have MN:qm (aX t g++rest)=aO t.length:=by rw[e];exact hp.2
 have dn:(aX t g++rest).take (aO t.length)=aX t g:=by rw[JU (by rw[oJ];omega),dH (by rw[oJ];omega)]
 rw[dI,hfg,MN,dn,adS,dn,ν hg,ν oM,σ rfl]
theorem Dk.VC {d:Dk} (h:d.cV=-1):d.eO=(d,true):=by
 unfold Dk.eO;rw[ν oM,ν oM]
theorem Dk.acR {d:Dk} (h:d.cV=-1) (ho:d.off=false) {i:Nat} (hi:i<d.af.length) {b:ByteArray} (hb:b.size=64):d.write (i:Int) b=(d.push i b,0):=by
 have ht:d.there (i:Int)=true:=by simp[Dk.there];omega
 unfold Dk.write;rw[ho,ht,Dk.VC h];simp[hb]
theorem Dk.afs (d:Dk) (i j:Nat) (b:ByteArray) (hi:i<d.waits.length):(d.push i b).now j=if i=j then b else d.now j:=by
 unfold Dk.now Dk.push Dk.at_ Dk.last;simp only[bJ,NF];by_cases h:i=j
 ·subst h
  simp[hi]
 ·simp[h]
theorem Dk.OM {d:Dk} (h:d.cV=-1) (ho:d.off=false):d.sync=(d.flush,0):=by
 unfold Dk.sync;rw[ho,Dk.VC h];simp
theorem Dk.OO (d:Dk) (i:Nat) (hi:i<d.af.length):d.flush.now i=d.now i:=by
 have hw:(d.waits.map fun _=>([]:List ByteArray)).getD i []=[]:=by
  rw[bJ,gu];cases d.waits[i]?<;>rfl
 show ((d.waits.map fun _=>([]:List ByteArray)).getD i []).getLast?.getD (((List.range d.af.length).map d.now).getD i ByteArray.empty)=d.now i;rw[hw,bJ,gu,A7 hi];rfl
theorem Dk.FX (d:Dk):d.flush.pend=0:=by
 show ((d.waits.map fun _=>([]:List ByteArray)).map List.length).sum=0;rw[rL];generalize d.waits=l;induction l with
 | nil=>rfl
 | cons x l ih=>simp only[jY,List.sum_cons,ih];rfl
structure Pt.ok (p:Pt):Prop where
 gen:0<p.gen
 gen':p.gen<2 ^ (8*8)
 number:p.number<256
 all:p.all<256
 text:p.text.length≤48
 ajk:0<p.all
theorem agU (p:Pt) (h:p.ok):p.body≠List.replicate 60 0:=by
 intro e;have h1:=(U_ p h.gen' h.number h.all h.text);rw[e] at h1;have h2:(kJ (List.replicate 60 0)).1.gen=p.gen:=by rw[h1]
 have h3:(kJ (List.replicate 60 0)).1.gen=0:=dC;have:=h.gen;omega
theorem aft (p : Pt) (h : p.ok) : cz p.sec.data.toList=(p.body,1):=by
 have e:p.sec.data.toList=gH p.body:=by simp[Pt.sec,str]
 rw[e]
 exact N2 _ (p.DF h.text) (agU p h) (by have:=KR p.body;have e2:(2:Nat) ^ (8*4)=4294967296:=dC
                                        omega)
theorem WM (t:List UInt8) (g:Nat) (hg:0<g) (wZ:g<2 ^ (8*8)) (ht:t.length≤400):∀p ∈ aX t g,p.ok:=by
 intro p hp;obtain⟨i,hi,rfl⟩:=sL.1 hp;obtain⟨c1,c2,c3,c4⟩:=Bl t g i hi;have hn:(aX t g).length≤9:=by rw[oJ];unfold aO;omega
 rw[oJ] at hn;exact⟨oM,oM,by rw[oJ] at hi;omega,oM,c4,by rw[c3];unfold aO;omega⟩
theorem afu (p:Pt) (h:p.ok):p.sec.size=64:=by
 rw[Pt.sec,bf,gH,aL,p.DF h.text,oK]
theorem Wf {l:List Pt} {m:Nat} (h:∀p ∈ l,p.gen≤m):(dI l).2≤m:=by
 have hf:uk l≤m:=by
  cases l with
  | nil=>simp[uk]
  | cons p l=>exact h p sM
 unfold dI;split
 ·exact vL _
 ·split
  ·exact vL _
  ·split
   ·exact hf
   ·exact vL _
def Kp.put (k:Kp) (t:List UInt8):Kp := { k with seen:=k.seen+1,text:=t,gen:=k.seen+1,at_:=1 - k.at_,broken:=false }
end
end Go.Proofs.YtbhjgfibhegddaaGreat
