/-
  Parts of the proof of VaultFalls: LogE, LogOpen, LawA.
-/
import Derived.Test.YtbhjgfibhegddaaGreatQVaultFalls10
import Derived.Deep.Light
import Derived.Outline
set_option maxRecDepth 100000
set_option maxHeartbeats 16000000
namespace Go.Proofs.YtbhjgfibhegddaaGreat
abbrev af9:=@Int.eq_ofNat_of_zero_le
abbrev QL:=@List.getElem?_set
abbrev pL:=@List.mem_iff_getElem
open Tryz
section
open Go Go.RowKit
theorem Gm {P:Prop} (h:P:=by show w.heap.size≤q0+1;omega):P:=h
def ny (s:ByteArray) (i:Nat):Nat:=(s.data.toList.getD i 0).toNat
def gf (s:ByteArray) (i:Int):Int:=(dP ((s.data.toList.drop (8*i.toNat)).take 8):Int)
theorem Rm (s:ByteArray) (i:Int) (q:Nat) (w:World) (hs:s.size=60) (h0:0≤i) (hi:i<3) (hc:w.cell? ⟨q,0,none⟩=some (.string s)) :
 ς 206 #[ι i,.pointer (some ⟨q,0,none⟩)] w fun e w'=>e=ώ (ω (gf s i))∧w=w':=by
 obtain⟨i,rfl⟩:=af9 h0;exact akh s i q w hs oM hc
theorem aha (l:List UInt8) (m n:Nat) (hm:m=60) (hl:l.length=60) (hn:n≤32):((Lib.countByte (List.take (m - (28+n)) (List.drop (28+n) l)) 0:Int) == 32 - (n:Int))=decide (List.drop (28+n) l=List.replicate (32 - n) 0):=by
 have hd:(List.drop (28+n) l).length=32 - n:=by simp[hl];omega
 rw[dV oM];have h:=MI (List.drop (28+n) l);rw[hd] at h;by_cases hz:List.drop (28+n) l=List.replicate (32 - n) 0
 ·rw[fo hz,h.2 hz,jV];omega
 ·rw[gI hz,iX]
  intro hh;exact hz (h.1 oM)
theorem ad' {P:Prop} (h:P:=by
 have hb:=HBe.out;have hq:=HQ.out;have hu:=HB.out.2.2.2;have l6:=H3.out.2.2;have h1:=(hb.trans ((hu.below φ).mono hb.size)).trans (⟨l6.os,l6.tape,l6.output,l6.size,fun b ef=>l6.block b (nY ef (ic hb.size hu.size)) oM⟩:Below w.heap.size _ w3);exact((((((h1.setCell (p:=⟨q0+1,0,none⟩) Gm _).setCell (p:=⟨q0+1,1,none⟩) Gm _).setCell (p:=⟨q0+1,2,none⟩) Gm _).setCell (p:=⟨q0+1,3,none⟩) Gm _).setCell (p:=⟨q0+1,4,none⟩) Gm _).setCell (p:=⟨q0+1,5,none⟩) Gm _).drew):P:=h
theorem amM (s:ByteArray) (w:World) (hs:s.size=60) :
 ς 159 #[.string s] w fun e w'=>e=ώ (.tuple #[(lC s.data.toList).1.val,.bool (lC s.data.toList).2])∧Below w.heap.size w w':=by
 have h24:(24:Int)<s.size:=oM;have h25:(25:Int)<s.size:=oM;have h26:(26:Int)<s.size:=oM;have h27:(27:Int)<s.size:=oM;have g24:24<s.size:=oM;have g25:25<s.size:=oM;have g26:26<s.size:=oM;have g27:27<s.size:=oM;have e24:=δ (Bj s 24 g24);have e25:=δ (Bj s 25 g25);have e26:=δ (Bj s 26 g26);have e27:=δ (Bj s 27 g27);have Gn:=δ hs;clear hs;go_enter func159,ntmps159
 go_upto_region 2 with fail
 have Ew:η ((w.alloc (.cells #[.string s] 9)).alloc (.cells #[ω 0,ω 0,ω 0,ι 0,ι 0,.string ⟨#[]⟩] 204)) w.heap.size 9 #[.string s]:=(η.new w _ _).alloc _;have aP:η ((w.alloc (.cells #[.string s] 9)).alloc (.cells #[ω 0,ω 0,ω 0,ι 0,ι 0,.string ⟨#[]⟩] 204)) (w.heap.size+1) 204 #[ω 0,ω 0,ω 0,ι 0,ι 0,.string ⟨#[]⟩]:=by
  have h:=η.new (w.alloc (.cells #[.string s] 9)) 204 #[ω 0,ω 0,ω 0,ι 0,ι 0,.string ⟨#[]⟩];simpa using h
 have Cg:Below w.heap.size w ((w.alloc (.cells #[.string s] 9)).alloc (.cells #[ω 0,ω 0,ω 0,ι 0,ι 0,.string ⟨#[]⟩] 204)):=((oT _ w).alloc (bO _) _).alloc sM _;have hsz:((w.alloc (.cells #[.string s] 9)).alloc (.cells #[ω 0,ω 0,ω 0,ι 0,ι 0,.string ⟨#[]⟩] 204)).heap.size=w.heap.size+2:=gZ
 generalize ((w.alloc (.cells #[.string s] 9)).alloc (.cells #[ω 0,ω 0,ω 0,ι 0,ι 0,.string ⟨#[]⟩] 204))=W at *;have hc0:=Ew.dX;have hne:=World.new_ne W ⟨w.heap.size,0,none⟩ hc0;have P0:=δ (fun W' (hu:υ W W')=>(Ew.ε hu id).dX);have HW:=aF Ew aP Cg hsz;clear Ew aP Cg hsz;generalize wJ:w.heap.size=q0 at *;have HQ:=δ wJ;clear wJ;go_cut [5] (fun s5 wx=>s5=.pointer (some ⟨W.heap.size,0,none⟩)∧υ W wx∧η wx W.heap.size 204 #[ω (gf s 0),ω (gf s 1),ω (gf s 2),ι (ny s 24:Int),ι (ny s 25:Int),.string ⟨#[]⟩])
 case first =>
  refine dW ?_;refine Yc (S:=fun w'=>w'.cell? ⟨q0,0,none⟩=some (.string s)) kR (P0.out _ (ζ.refl _ _).drew) (fun hHeld=>?_);refine fP 0 (.func (.func 206) #[] #[.pointer (some ⟨q0,0,none⟩)]) ?_;refine fP 2 (.func (.func 206) #[] #[.pointer (some ⟨q0,0,none⟩)]) ?_;refine fP 4 (.func (.func 206) #[] #[.pointer (some ⟨q0,0,none⟩)]) ?_;refine fP 6 (.string s) ?_;refine fP 9 (.string s) ?_;refine fP 7 (ϋ (s[24].toNat:Int)) ?_;refine fP 10 (ϋ (s[25].toNat:Int)) ?_;refine fP 8 (ι (IntKind.i64.wrap (s[24].toNat:Int))) ?_;refine fP 11 (ι (IntKind.i64.wrap (s[25].toNat:Int))) ?_;refine MB (i:=1) (v:=ω (gf s 0)) rfl kR kR kR (fun _ _ _ h=>h) (Fq rfl 206 #[ι 0,.pointer (some ⟨q0,0,none⟩)] ak (fun w' _=>?_) (fun w' hS=>Rm s 0 q0 w' Gn.out dC dC hS)) aS ?_
  ·go_simp
  simp only[av];refine MB (i:=3) (v:=ω (gf s 1)) rfl kR kR kR (fun _ _ _ h=>h) (Fq rfl 206 #[ι 1,.pointer (some ⟨q0,0,none⟩)] ak (fun w' _=>?_) (fun w' hS=>Rm s 1 q0 w' Gn.out dC dC hS)) aS ?_
  ·go_simp
  simp only[av];refine MB (i:=5) (v:=ω (gf s 2)) rfl kR kR kR (fun _ _ _ h=>h) (Fq rfl 206 #[ι 2,.pointer (some ⟨q0,0,none⟩)] ak (fun w' _=>?_) (fun w' hS=>Rm s 2 q0 w' Gn.out dC dC hS)) aS ?_
  ·go_simp
  simp only[av];refine fP 12 (.agg #[ω (gf s 0),ω (gf s 1),ω (gf s 2),ι (IntKind.i64.wrap (s[24].toNat:Int)),ι (IntKind.i64.wrap (s[25].toNat:Int)),.string ⟨#[]⟩]) ?_;refine QO (rs:=[13]) kR sM ?_;refine QS rfl (fun K hK=>?_) QT;go_simp
  refine hK.out _ _ (P0.out _ ((ζ.refl _ _).alloc _).drew) (fun SU=>?_);clear hK K;refine QO (rs:=[14]) kR sM ?_;refine QS rfl (fun K hK=>?_) QT;go_simp
  refine hK.out _ _ ?_ (fun ao1=>?_)
  ·exact P0.out _ ((ζ.refl _ _).alloc _).drew
  clear hK K;refine wpAnyH_done kR ?_ _;refine dz ?_;go_wp2_with fail
  go_meet
  rw[Bk,Bk,← e24.out,← e25.out];exact⟨rfl,((ζ.refl _ _).alloc _).drew,(η.new W _ _).drew⟩
 case rest =>
  obtain⟨rfl,kZ,hBp⟩:=hcut;have sJ:=HW.out.1.ε kZ id;have yE:=HW.out.2.1.ε kZ id;have hcs:=sJ.dX;have HB:=aF sJ yE hBp kZ;have hqW:q0<W.heap.size:=by have:=HW.out.2.2.2;omega
  have apf:q0+1<W.heap.size:=by have:=HW.out.2.2.2;omega
  have abK:Below w.heap.size w W:=by rw[HQ.out];exact HW.out.2.2.1
  have HBe:=δ abK;clear sJ yE hBp kZ hc0 hne HW P0 abK;have HPb:Hid (∃pb,W.heap.size=pb):=⟨_,rfl⟩;by_cases h32:32<(s.data.toList.getD 26 0).toNat
  ·have aea:(32:Int)<(s[26].toNat:Int):=by rw[← e26.out];omega
   have hwr:IntKind.i64.wrap (s[26].toNat:Int)=(s[26].toNat:Int):=Bk _;have hr:lC s.data.toList=(⟨dP (s.data.toList.take 8),dP ((s.data.toList.drop 8).take 8),dP ((s.data.toList.drop 16).take 8),(s.data.toList.getD 24 0).toNat,(s.data.toList.getD 25 0).toNat,[]⟩,false):=by unfold lC;rw[π h32]
   have HR:=δ hr;clear hr;go_wp2_with (first
    |(refine lM rfl _ _ rfl W.heap.size rfl _ _ _ HB.out.2.2.1 underlying204 rfl rfl ?_)
    |(refine eN 204 (q0+1) #[ω (gf s 0),ω (gf s 1),ω (gf s 2),ι (ny s 24:Int),ι (ny s 25:Int),.string ⟨#[]⟩] HB.out.2.1 jN ?_
      intro w6 cY aB tO))
   have K7:=HR.out;generalize lC s.data.toList=rr at K7;subst K7;refine cJ (jk rfl _ _ (q0+1) _ _ _ _ rfl cY underlying204 rfl rfl (.bool false) rfl) rfl ⟨rfl,?_⟩;have hb:=HBe.out;have hq:=HQ.out;have hu:=HB.out.2.2.2;exact(hb.trans ((hu.below φ).mono hb.size)).trans ⟨aB.os,aB.tape,aB.output,aB.size,fun b ef=>aB.block b (nY ef (ic hb.size hu.size)) oM⟩
  ·have aea:¬(32:Int)<(s[26].toNat:Int):=by rw[← e26.out];omega
   have hwr:IntKind.i64.wrap (s[26].toNat:Int)=(s[26].toNat:Int):=Bk _;have hr:lC s.data.toList=(⟨dP (s.data.toList.take 8),dP ((s.data.toList.drop 8).take 8),dP ((s.data.toList.drop 16).take 8),(s.data.toList.getD 24 0).toNat,(s.data.toList.getD 25 0).toNat,(s.data.toList.drop 28).take (s.data.toList.getD 26 0).toNat⟩,decide (s.data.toList.getD 27 0=0∧s.data.toList.drop (28+(s.data.toList.getD 26 0).toNat)=List.replicate (32 - (s.data.toList.getD 26 0).toNat) 0)):=by unfold lC;rw[ν h32]
   have HR:=δ hr;clear hr;have aeb:=e26.out;have Pk:s[26].toNat≤32:=oM;obtain⟨n,hn⟩:=μ (s[26].toNat);have HN:=τ hn aeb;have hle:(28:Int)+(n:Int)≤(s.size:Int):=by have:=Gn.out;omega
   have hsub:IntKind.i64.wrap (32 - (n:Int))=32 - (n:Int):=cZ _ oM;have ju:IntKind.i64.wrap (28+(n:Int))=28+(n:Int):=cZ _ oM;have hnn:(0:Int)≤28+(n:Int):=oM;have htn:((28:Int)+(n:Int)).toNat=28+n:=oM;have aof:n≤32:=oM;rw[hn] at hwr aea;obtain⟨cnt,aec,hK⟩:∃cnt:Int,(cnt == 32 - (n:Int))=decide (List.drop (28+n) s.data.toList=List.replicate (32 - n) 0) ∧
    ∀W,ς 90 #[.string (s.extract (28+n) s.size),.string ⟨#[0]⟩] W fun e w'=>e=ώ (ι cnt)∧W=w':=by
    refine⟨_,?_,fun W=>(strings_Count_one (s.extract (28+n) s.size) 0 W).mono fun _ _ h=>⟨h.1,h.2.symm⟩⟩;rw[← aha s.data.toList s.size n Gn.out (by simpa using Gn.out) aof];congr 3
    rw[uc];rfl
   have HC:=δ aec;have HK:=δ hK;clear aec hK aeb e26;go_wp2_with (first
    |(refine gJ rfl 9 _ _ rfl W.heap.size 5 (.string (s.extract 28 (28+n))) rfl rfl _ _ HB.out.2.2.1 sM rfl kR ?_
      intro w3 aC χ fF))
   simp only[jW,xA,xz] at aC;have aog:q0≠W.heap.size:=oM;have acr:q0+1≠W.heap.size:=oM;have aed:η w3 q0 9 #[.string s]:=HB.out.1.ε χ aog;have zP:η w3 (q0+1) 204 #[ω 0,ω 0,ω 0,ι 0,ι 0,.string ⟨#[]⟩]:=HB.out.2.1.ε χ acr;have hS:∀w',ζ (fun b=>b=q0+1) w3 w'→(w'.cell? ⟨q0,0,none⟩=some (.string s)∧w'.cell? ⟨W.heap.size,0,none⟩=some (ω (gf s 0))∧w'.cell? ⟨W.heap.size,1,none⟩=some (ω (gf s 1))∧w'.cell? ⟨W.heap.size,2,none⟩=some (ω (gf s 2))∧w'.cell? ⟨W.heap.size,3,none⟩=some (ι (ny s 24:Int))∧w'.cell? ⟨W.heap.size,4,none⟩=some (ι (ny s 25:Int))∧w'.cell? ⟨W.heap.size,5,none⟩=some (.string (s.extract 28 (28+n)))):=by
    intro w' hu;obtain⟨c0,c1,c2,c3,c4,c5⟩:=(aC.ε hu (fun e=>acr e.symm)).xL;exact⟨(aed.ε hu oM).dX,c0,c1,c2,c3,c4,c5⟩
   have fQ:=δ hS;have H3:=aq aC zP χ;have hca:=zP.xL;have bU:=zP.frozen 0;have bK:=zP.frozen 1;have aY:=zP.frozen 2;have fY:=zP.frozen 3;have dh:=zP.frozen 4;have iQ:=zP.frozen 5;clear aC zP χ fF hS aed hcs;by_cases h0:s[27]=0
   ·have h0':((s[27].toNat:Int) == 0)=true:=by rw[h0];rfl
    refine dW ?_;refine Yc (S:=fun w'=>w'.cell? ⟨q0,0,none⟩=some (.string s)∧w'.cell? ⟨W.heap.size,0,none⟩=some (ω (gf s 0))∧w'.cell? ⟨W.heap.size,1,none⟩=some (ω (gf s 1))∧w'.cell? ⟨W.heap.size,2,none⟩=some (ω (gf s 2))∧w'.cell? ⟨W.heap.size,3,none⟩=some (ι (ny s 24:Int))∧w'.cell? ⟨W.heap.size,4,none⟩=some (ι (ny s 25:Int))∧w'.cell? ⟨W.heap.size,5,none⟩=some (.string (s.extract 28 (28+n)))) kR (fQ.out _ (ζ.refl _ _).drew) (fun hHeld=>?_);refine fP 0 (.agg #[ω (gf s 0),ω (gf s 1),ω (gf s 2),ι (ny s 24:Int),ι (ny s 25:Int),.string (s.extract 28 (28+n))]) ?_;refine fP 1 (.string s) ?_;refine fP 2 (ϋ (s[27].toNat:Int)) ?_;refine fP 3 (.bool true) ?_;refine fP 4 (.bool true) ?_;refine fP 5 (.string s) ?_;refine fP 6 (ι (n:Int)) ?_;refine fP 7 (ι (28+(n:Int))) ?_;refine fP 8 (.string (s.extract (28+n) s.size)) ?_;refine MB (i:=9) (v:=ι cnt) rfl kR kR kR (fun _ _ _ h=>h) (Fq rfl 90 #[.string (s.extract (28+n) s.size),.string ⟨#[0]⟩] ak (fun w' _=>?_) (fun w' hS=>HK.out w')) aS ?_
    ·go_simp
    simp only[av];refine fP 10 (ι (n:Int)) ?_;refine fP 11 (ι (32 - (n:Int))) ?_;refine fP 12 (.bool (cnt == 32 - (n:Int))) ?_;refine fP 13 (.bool (cnt == 32 - (n:Int))) ?_;refine QO (rs:=[14]) kR sM ?_;refine QS rfl (fun K hK=>?_) QT;go_simp
    refine hK.out _ _ (fQ.out _ (((((((ζ.refl (fun b=>b=q0+1) w3).setCell (p:=⟨q0+1,0,none⟩) (.inl rfl) _).setCell (p:=⟨q0+1,1,none⟩) (.inl rfl) _).setCell (p:=⟨q0+1,2,none⟩) (.inl rfl) _).setCell (p:=⟨q0+1,3,none⟩) (.inl rfl) _).setCell (p:=⟨q0+1,4,none⟩) (.inl rfl) _).setCell (p:=⟨q0+1,5,none⟩) (.inl rfl) _).drew) (fun SU=>?_);clear hK K;refine fP 15 (.bool (cnt == 32 - (n:Int))) ?_;refine wpAnyH_done kR ?_ _;refine dz ?_;go_wp2
    have wC:=((((((H3.out.2.1.bE 0 (ω (gf s 0))).bE 1 (ω (gf s 1))).bE 2 (ω (gf s 2))).bE 3 (ι (ny s 24:Int))).bE 4 (ι (ny s 25:Int))).bE 5 (.string (s.extract 28 (28+n)))).drew;simp only[jW,xA,xz] at wC;refine cJ (jk rfl _ _ (q0+1) _ _ _ _ rfl wC underlying204 rfl rfl (.bool (cnt == 32 - (n:Int))) rfl) rfl ⟨?_,?_⟩
    ·rw[HR.out,HN.out.2,hn]
     simp only[Lp.val];rw[uc,rU];rw[HC.out,e27.out,h0];simp[ny,gf]
    ·exact ad'
   ·have h0':((s[27].toNat:Int) == 0)=false:=by
     rw[iX];intro h;exact h0 (xp.1 (by have:(0:UInt8).toNat=0:=rfl;omega))
    refine dW ?_;refine Yc (S:=fun w'=>w'.cell? ⟨q0,0,none⟩=some (.string s)∧w'.cell? ⟨W.heap.size,0,none⟩=some (ω (gf s 0))∧w'.cell? ⟨W.heap.size,1,none⟩=some (ω (gf s 1))∧w'.cell? ⟨W.heap.size,2,none⟩=some (ω (gf s 2))∧w'.cell? ⟨W.heap.size,3,none⟩=some (ι (ny s 24:Int))∧w'.cell? ⟨W.heap.size,4,none⟩=some (ι (ny s 25:Int))∧w'.cell? ⟨W.heap.size,5,none⟩=some (.string (s.extract 28 (28+n)))) kR (fQ.out _ (ζ.refl _ _).drew) (fun hHeld=>?_);refine fP 0 (.agg #[ω (gf s 0),ω (gf s 1),ω (gf s 2),ι (ny s 24:Int),ι (ny s 25:Int),.string (s.extract 28 (28+n))]) ?_;refine fP 1 (.string s) ?_;refine fP 2 (ϋ (s[27].toNat:Int)) ?_;refine fP 3 (.bool false) ?_;refine fP 4 (.bool false) ?_;refine qA 5 ?_;refine qA 6 ?_;refine qA 7 ?_;refine qA 8 ?_;refine qA 9 ?_;refine qA 10 ?_;refine qA 11 ?_;refine qA 12 ?_;refine fP 13 (.bool false) ?_;refine QO (rs:=[14]) kR sM ?_;refine QS rfl (fun K hK=>?_) QT;go_simp
    refine hK.out _ _ (fQ.out _ (((((((ζ.refl (fun b=>b=q0+1) w3).setCell (p:=⟨q0+1,0,none⟩) (.inl rfl) _).setCell (p:=⟨q0+1,1,none⟩) (.inl rfl) _).setCell (p:=⟨q0+1,2,none⟩) (.inl rfl) _).setCell (p:=⟨q0+1,3,none⟩) (.inl rfl) _).setCell (p:=⟨q0+1,4,none⟩) (.inl rfl) _).setCell (p:=⟨q0+1,5,none⟩) (.inl rfl) _).drew) (fun SU=>?_);clear hK K;refine fP 15 (.bool false) ?_;refine wpAnyH_done kR ?_ _;refine dz ?_;go_wp2
    have wC:=((((((H3.out.2.1.bE 0 (ω (gf s 0))).bE 1 (ω (gf s 1))).bE 2 (ω (gf s 2))).bE 3 (ι (ny s 24:Int))).bE 4 (ι (ny s 25:Int))).bE 5 (.string (s.extract 28 (28+n)))).drew;simp only[jW,xA,xz] at wC;refine cJ (jk rfl _ _ (q0+1) _ _ _ _ rfl wC underlying204 rfl rfl (.bool false) rfl) rfl ⟨?_,?_⟩
    ·rw[HR.out,HN.out.2,hn]
     simp only[Lp.val];rw[uc,rU];rw[e27.out];simp[ny,gf,h0]
    ·exact ad'
structure FW where
 l:List Lp
 row:Bool
 af:Nat
 bad:Bool
def zi (st:FW) (s:List UInt8):FW :=
 if st.bad then st else
 if (cK s).2=2 then { st with bad:=true } else
 if (cK s).2=1 then
  { l:=if st.row && (lC (cK s).1).2 then st.l++[(lC (cK s).1).1] else st.l,row:=st.row && (lC (cK s).1).2,af:=max st.af (lC (cK s).1).1.af,bad:=false }
 else { st with row:=false }
def fc (d:Dk) (a:Nat) (k:Nat):FW:=((List.range k).map fun i=>(d.now (a+i)).data.toList).foldl zi ⟨[],true,0,false⟩
theorem IM (d:Dk) (a k:Nat):fc d a (k+1)=zi (fc d a k) (d.now (a+k)).data.toList:=by
 simp[fc,List.range_succ]
theorem ahQ (d:Dk) (a k m:Nat) (h:k≤m) (hb:(fc d a k).bad=true):fc d a m=fc d a k:=by
 induction m with
 | zero => obtain rfl:k=0:=oM
           rfl
 | succ m ih =>
   by_cases hk:k=m+1
   ·rw[hk]
   ·rw[IM,ih oM,zi,π hb]
theorem Rn (d:Dk) (a k:Nat):(fc d a k).l.length≤k:=by
 induction k with
 | zero=>simp[fc]
 | succ k ih =>
   rw[IM,zi];exact adW
theorem alQ (l:List UInt8):dP (l.take 8)<18446744073709551616:=by
 have h:=NJ (l.take 8);have h8:(l.take 8).length≤8:=D7
 have h2:2 ^ (8*(l.take 8).length)≤2 ^ 64:=AO dC oM;have h3:(2:Nat) ^ 64=18446744073709551616:=dC;omega
theorem akl (b:List UInt8):(lC b).1.text.length≤32∧(lC b).1.all<256∧(lC b).1.af<18446744073709551616:=by
 have h8:=alQ (b.drop 8);have h25:=(b.getD 25 0).toNat_lt;unfold lC;split
 ·exact⟨sM,h25,h8⟩
 ·refine⟨?_,h25,h8⟩
  simp only[iW];omega
theorem ZB (d:Dk) (a k:Nat):(∀q ∈ (fc d a k).l,q.text.length≤32∧q.all<256∧q.af<18446744073709551616)∧(fc d a k).af<18446744073709551616:=by
 induction k with
 | zero=>simp[fc]
 | succ k ih =>
   rw[IM,zi];split
   ·exact ih
   ·split
    ·exact ih
    ·split
     ·have h:=akl (cK (d.now (a+k)).data.toList).1
      refine⟨?_,?_⟩
      ·simp only
       split
       ·intro q hq
        rcases jX.1 hq with hq | hq
        ·exact ih.1 q hq
        ·rw[xB.1 hq];exact h
       ·exact ih.1
      ·simp only
       have:=h.2.2;have:=ih.2;omega
     ·exact ih
def se:Nat→Lg→List Lp→Lg
 | 0,g,_=>g
 | n + 1,g,row =>
   if (ie g.θ g.last row).2 then
    se n { g with l:=g.l++[str (ie g.θ g.last row).1],last:=(row.headD ⟨0,0,0,0,0,[]⟩).af,used:=g.used+partsOf (ie g.θ g.last row).1.length } (row.drop (partsOf (ie g.θ g.last row).1.length))
   else g
def nA (d:Dk) (f n e:Nat):Option Lg :=
 if (fc d f n).bad then none else
 some (se ((fc d f n).l.length+1) ⟨f,n,e,[],0,0,(fc d f n).af,false⟩ (fc d f n).l)
structure oW (w w':World) (p b f n e:Nat) (v:Value) (st:FW):Prop where
 list:Own w' 204 6 v st.l.length (ow st.l)
 new:∀q,v.ownBlock=some q→w.heap.size≤q
 log:η w' b 199 (Lg.cells p (.slice none 0 0) ⟨f,n,e,[],0,0,st.af,false⟩)
 ε:υ w w'
 nb:w.heap.size≤b
section
variable {w w1 w2:World} {p b f n e:Nat} {v v2:Value} {st:FW}
theorem oW.below (h:oW w w1 p b f n e v st) (hb:Below w1.heap.size w1 w2):oW w w2 p b f n e v st :=
 ⟨h.list.dr fun q hq=>hb.block q (h.list.lt hq),h.new,h.log.dr (hb.block _ h.log.lt),h.ε.then (ζ.pM hb (fun _=>False)) φ,h.nb⟩
theorem oW.drew (h:oW w w1 p b f n e v st):oW w w1.drew p b f n e v st:=h.below (oT _ _).drew
theorem oW.VJ (h:oW w w1 p b f n e v st) (m:Nat):oW w (w1.setCell ⟨b,7,none⟩ (ω (m:Int))) p b f n e v { st with af:=m } := by
 refine⟨h.list.b9 (h.list.f_ h.log dC) _,h.new,?_,h.ε.setCell (p:=⟨b,7,none⟩) (.inr h.nb) _,h.nb⟩;have:=h.log.bE 7 (ω (m:Int));simpa [Lg.cells] using this
theorem oW.app {pt:Lp} (h:oW w w1 p b f n e v st) (o:Obj) (bL:Own w2 204 6 v2 (st.l.length+1) (ow st.l++Lp.cells pt)) (σ:ζ (fun q=>v.ownBlock=some q) (w1.alloc o) w2)
 (hl2:v2.ownBlock=v.ownBlock∨v2.ownBlock=some (w1.alloc o).heap.size):oW w w2 p b f n e v2 { st with l:=st.l++[pt] } := by
 refine⟨?_,fun q hq=>?_,(h.log.alloc o).ε σ (fun e=>h.list.f_ h.log dC e),(h.ε.alloc o).then σ (fun q e=>.inr (h.new q e)),h.nb⟩
 ·simpa [ow] using bL
 ·exact adX
end
structure alR (w w':World) (p:Nat) (o:Option Lg) (v:Value):Prop where
 ε:υ w w'
 bad:o=none→v=.pointer none
 ok:∀g,o=some g→∃b v1,v=.pointer (some ⟨b,0,none⟩)∧η w' b 199 (g.cells p v1)∧Own w' 9 1 v1 g.l.length (strs g.l)∧w.heap.size≤b∧∀q,v1.ownBlock=some q→w.heap.size≤q
def Ni (o:Option Lg):Int:=if o.isSome then 0 else 9
theorem oX.drop {w:World} {A:Option Addr} {n cap:Nat} {l:List Lp} (h:oX w (.slice A n cap) l) (k:Nat) (hk:k≤l.length):oX w (.slice (if cap=k then A else A.map (·.add (k*6))) (n - k) (cap - k)) (l.drop k):=by
 obtain⟨A',cap',b,off,e,h1,h2,h3,h4⟩:=h.ex;injection e with e1 e2 e3;subst e1 e2 e3;refine⟨_,cap - k,b,off+k*6,by rw[jC],by rw[jC];omega,oM,fun h0=>?_,fun i hi j hj=>?_⟩
 ·rw[jC] at h0
  obtain⟨rfl,hb⟩:=h3 oM;rw[ν oM];exact⟨by simp[Addr.add],hb⟩
 ·rw[jC] at hi
  have h5:=h4 (k+i) oM j hj;rw[List.getElem_drop,← h5,show off+k*6+i*6+j=off+(k+i)*6+j by omega]
theorem akm (b o k:Nat):Option.map (fun x:Addr=>x.add (k*6)) (some ⟨b,o,none⟩)=some ⟨b,o+k*6,none⟩:=by simp[Addr.add]
structure mJ (w0 w':World) (p b:Nat) (pv:Value) (l:List Lp) (v:Value) (row:List Lp) (g:Lg) (v1:Value):Prop where
 list:Own w' 204 6 pv l.length (ow l)
 parts:∀W,Own W 204 6 pv l.length (ow l)→oX W v row
 log:η w' b 199 (g.cells p v1)
 own:Own w' 9 1 v1 g.l.length (strs g.l)
 new:∀q,v1.ownBlock=some q→w0.heap.size≤q
 old:∀q,pv.ownBlock=some q→q<w0.heap.size
 ε:ζ (· = b) w0 w'
section
variable {w0 w1 w2:World} {p b:Nat} {pv v v1 v2:Value} {l row:List Lp} {g:Lg}
theorem mJ.still (h:mJ w0 w1 p b pv l v row g v1) (hu:υ w1 w2):mJ w0 w2 p b pv l v row g v1 :=
 ⟨h.list.ε hu (fun _ _ e=>e),h.parts,h.log.ε hu id,h.own.ε hu (fun _ _ e=>e),h.new,h.old,h.ε.then hu φ⟩
theorem mJ.drew (h:mJ w0 w1 p b pv l v row g v1):mJ w0 w1.drew p b pv l v row g v1:=h.still (ζ.refl _ _).drew
theorem mJ.used (h:mJ w0 w1 p b pv l v row g v1) (m:Nat):mJ w0 (w1.setCell ⟨b,5,none⟩ (ι (m:Int))) p b pv l v row { g with used:=m } v1:=by
 refine⟨h.list.b9 (h.list.f_ h.log dC) _,h.parts,?_,h.own.b9 (h.own.f_ h.log dC) _,h.new,h.old,h.ε.setCell (p:=⟨b,5,none⟩) (.inl rfl) _⟩;have:=h.log.bE 5 (ι (m:Int));simpa [Lg.cells] using this
theorem mJ.app (h:mJ w0 w1 p b pv l v row g v1) (s:ByteArray) (m:Nat) (bL:Own w2 9 1 v2 (g.l.length+1) (strs g.l++[.string s])) (σ:ζ (fun q=>v1.ownBlock=some q) w1 w2)
 (hl2:∀q,v2.ownBlock=some q→v1.ownBlock=some q∨w1.heap.size≤q) :
 mJ w0 ((w2.setCell ⟨b,4,none⟩ v2).setCell ⟨b,6,none⟩ (ω (m:Int))) p b pv l v row { g with l:=g.l++[s],last:=m } v2:=by
 have aD:=h.log.ε σ (fun e=>h.own.f_ h.log dC e);have G8:=h.list.ε σ (fun q hq e=>by have h1:=h.new q e;have h2:=h.old q hq;omega);have nT:=bL.f_ aD dC;have hn2:=G8.f_ aD dC;have hs:=h.ε.size;refine⟨(G8.b9 (p:=⟨b,4,none⟩) hn2 _).b9 (p:=⟨b,6,none⟩) hn2 _,h.parts,?_,?_,fun q hq=>?_,h.old,?_⟩
 ·have h3:=(aD.bE 4 v2).bE 6 (ω (m:Int))
  simp only[Lg.cells,jW,xz,xA] at h3;simp only[Lg.cells];exact h3
 ·have h3:=(bL.b9 (p:=⟨b,4,none⟩) nT v2).b9 (p:=⟨b,6,none⟩) nT (ω (m:Int))
  simp only[aN,eZ,AV,strs,lq,kO,AW] at h3 ⊢;exact h3
 ·rcases hl2 q hq with e | e
  ·exact h.new q e
  ·omega
 ·exact((h.ε.then σ (fun q e=>.inr (h.new q e))).setCell (p:=⟨b,4,none⟩) (.inl rfl) _).setCell (p:=⟨b,6,none⟩) (.inl rfl) _
end
theorem mJ.drop {w0 w1:World} {p b n cap:Nat} {A:Option Addr} {pv v1:Value} {l row:List Lp} {g:Lg} (h:mJ w0 w1 p b pv l (.slice A n cap) row g v1) (k:Nat) (hk:k≤row.length) :
 mJ w0 w1 p b pv l (.slice (if cap=k then A else A.map (·.add (k*6))) (n - k) (cap - k)) (row.drop k) g v1 :=
 ⟨h.list,fun W hW=>(h.parts W hW).drop k hk,h.log,h.own,h.new,h.old,h.ε⟩
theorem mJ.begin {w0:World} {p b:Nat} {v:Value} {l:List Lp} {g:Lg} (hL:Own w0 204 6 v l.length (ow l)) (hB:η w0 b 199 (g.cells p (.slice none 0 0))) (hg:g.l=[]):mJ w0 w0 p b v l v l g (.slice none 0 0) :=
 ⟨hL,fun _ h=>oX.ku h,hB,by rw[hg];exact Own.nil _ _ _,by simp[Value.ownBlock],fun _ hq=>hL.lt hq,ζ.refl _ _⟩
def lenOf:Value→Nat
 | .slice _ n _=>n
 | _=>0
theorem mJ.sees {w0 w1 w2:World} {p b b1 o1 n cap:Nat} {pv v1:Value} {l r:List Lp} {q0:Lp} {g:Lg} (h:mJ w0 w1 p b pv l (.slice (some ⟨b1,o1,none⟩) n cap) (q0::r) g v1) (hU:ζ (fun q=>v1.ownBlock=some q) w1 w2) :
 w2.cell? ⟨b,4,none⟩=some v1∧w2.cell? ⟨b1,o1+1,none⟩=some (ω (q0.af:Int)):=by
 have aD:=h.log.ε hU (fun e=>h.own.f_ h.log dC e);have G8:=h.list.ε hU (fun q hq e=>by have h1:=h.new q e;have h2:=h.old q hq;omega);obtain⟨A,c,b',o',e,-,-,h3,h4⟩:=(h.parts _ G8).ex;injection e with e1 e2 e3;obtain⟨hA,-⟩:=h3 sM;subst hA;injection e1 with e1;injection e1 with e4 e5;subst e4 e5;refine⟨aD.cell 4,?_⟩;have h5:=h4 0 sM 1 oM;simpa [Lp.cells] using h5
theorem Q6 {θ last:Nat} {row:List Lp} (h:(ie θ last row).2=true):0<row.length∧1≤partsOf (ie θ last row).1.length∧partsOf (ie θ last row).1.length≤row.length∧(ie θ last row).1.length≤1024:=by
 unfold ie at h ⊢;split at h
 ·simp at h
 ·split at h
  ·simp at h
  ·split at h
   ·simp at h
   ·rename_i p r h1 h2
    simp only[eD] at h;rw[ν h1,ν h2];exact⟨sM,by unfold partsOf;omega,h.1,by show (jH _).length≤1024;omega⟩
theorem ahR (n m:Nat) (g:Lg) (row:List Lp) (hn:row.length<n) (hm:row.length<m):se n g row=se m g row:=by
 induction n generalizing m g row with
 | zero=>omega
 | succ n ih =>
   cases m with
   | zero=>omega
   | succ m =>
     rw[se,se];split
     ·rename_i h
      have hp:=Q6 h;exact ih m _ _ JW JW
     ·rfl
theorem oW.stored {w w2 w3 w4:World} {p b f n e:Nat} {v:Value} {st:FW} (h2:oW w w2 p b f n e v st) (h3:oW w w3 p b f n e v st) (hU:ζ (· = w2.heap.size) w3 w4):oW w w4 p b f n e v st:=by
 refine⟨h3.list.ε hU (fun k hk e=>?_),h3.new,h3.log.ε hU (fun e=>?_),h3.ε.then hU (fun q e=>.inr ?_),h3.nb⟩
 ·have:=h2.list.lt hk
  omega
 ·have:=h2.log.lt
  omega
 ·have:=h2.ε.size
  omega
theorem aee {P:Prop} (h:P:=by
 have HS:=δ qd;clear qd Al;go_wp2
 go_roundw
 case rel =>
  refine⟨j+1,oM,by go_num,?_,?_,?_⟩;all_goals rw[HS.out]
  have h:=VV.out;exact⟨h.list,h.new,h.log,h.ε,h.nb⟩
 case measure=>simp[intOf];omega):P:=h
theorem aas {w:World} {p:Nat} {d:Dk} {F:List Nat} (hD:bG w p d F) (f n e:Nat) (hn:1≤n) (hf:f+n≤d.ψ.length) (he:1≤e) (he2:e<18446744073709551616) (hoff:d.off=false) :
 ς 104 #[.pointer (some ⟨p,0,none⟩),ι f,ι n,ω e] w fun en w'=>∃v,en=ώ (.tuple #[v,ι (Ni (nA d f n e))])∧alR w w' p (nA d f n e) v:=by
 have hm:=hD.wf.most;obtain⟨i0,bx,bU,bK,aY⟩:=jD abH;obtain⟨s0,hs0,hx0,hx1,hx2⟩:=jD Jm;have hne:((d.ψ.length:Int) == 0)=false:=ru
 have Eb:¬(f:Int)<0:=oM;have hn0:¬(n:Int)<1:=oM;have nT:¬d.ψ.length<n:=oM;have Pd:¬(d.ψ.length:Int) - (n:Int)<(f:Int):=oM;have P3:¬(e:Int)<1:=oM;have hsw:IntKind.i64.wrap ((d.ψ.length:Int) - (n:Int))=(d.ψ.length:Int) - (n:Int):=cZ _ oM;have HS:=δ (RL hD);have hF:f≤4096∧n≤4096:=oM;have HD:=iw hD hf hoff hm he he2;clear hD hoff hm he he2 hf;go_enter func104,ntmps104
 go_wp2_with (go_at_call 61;refine HS.out.mono ?_;rintro e w' ⟨rfl,rfl⟩);have J3:fc d f 0=⟨[],true,0,false⟩:=rfl;have HZ:=δ J3;clear J3 hne Eb hn0 nT Pd P3 hsw;go_loopw [11,12,58] (fun v r i wr=>∃j:Nat,j≤n∧i=ι j∧(fc d f j).bad=false∧r=.bool (fc d f j).row∧oW w wr p w.heap.size f n e v (fc d f j)) (fun _ _ i _=>n - (intOf i).toNat)
 case atStart =>
  refine⟨0,oM,rfl,rfl,rfl,?_⟩;rw[HZ.out];exact⟨Own.nil _ _ _,by simp[Value.ownBlock],η.new w _ _,(ζ.refl _ w).alloc _,bO _⟩
 case round =>
  obtain⟨j,hj,rfl,jI,rfl,hL⟩:=hrel;by_cases hlt:j<n
  ·have kI:bG wr p d F:=HD.out.1.ε hL.ε fun q hq e=>e
   have hrd:=Dk.Y6 HD.out.2.2.1 (i:=f+j) (oN HD.out.2.1);have F4:(d.read ((f:Int)+(j:Int)))=(d.now (f+j),0):=by
    rw[← hrd];congr 1
   have fF:IntKind.i64.wrap ((f:Int)+(j:Int))=(f:Int)+(j:Int):=cZ _ oM;have hlt':(j:Int)<(n:Int):=oM;have Ci:=δ F4;have hst:=IM d f j;have hsz:=HD.out.1.wf.Sb (i:=f+j) (oN HD.out.2.1);have hbd:=fun h=>ahQ d f (j+1) n oM h
   have tR:=δ (fun W=>SL (d.now (f+j)) W oM);have HW:=aF hst hsz hbd hL;have HB:=δ jI;have VW:=δ (show ς 46 #[.pointer (some ⟨p,0,none⟩),ι ((f:Int)+(j:Int))] wr (fun e w'=>e=ώ (.tuple #[.string (d.now (f+j)),ι 0])∧wr=w') from by
    have h:=NM kI ((f:Int)+(j:Int));rw[F4] at h;exact h)
   clear hL jI kI hrd F4 hst hsz hbd Ci;generalize d.now (f+j)=sec at *;rcases YJ sec.data.toList with hc | hc | hc
   ·rw[hc] at tR
    have hmx:max ((fc d f j).af:Int) 0=((fc d f j).af:Int):=oM;have hS:fc d f (j+1) = { fc d f j with row:=false } := by
     rw[HW.out.1,zi,ν DJ,ν (by rw[hc];decide),ν (by rw[hc];decide)]
    have uJ:=τ hS HB.out;have Cj:=δ HW.out.2.2.2;clear hS HW HB hc;generalize fc d f j=st at *;go_wp2_with (first
     |(go_at_call 46;refine VW.out.mono ?_;rintro e w' ⟨rfl,rfl⟩)
     |(go_at_call 47
       refine(tR.out _).mono ?_;rintro e w2 ⟨rfl,bM⟩;have aJ:=η.new w2 204 #[ω 0,ω 0,ω 0,ι 0,ι 0,.string ⟨#[]⟩];have pz:=τ ((Cj.out.below bM).below ((oT _ w2).alloc (bO _) (.cells #[ω 0,ω 0,ω 0,ι 0,ι 0,.string ⟨#[]⟩] 204))) aJ;have tM:=aJ.xL;have yL:=pz.out.1.log.oY;have dh:=pz.out.1.log.frozen 7;clear aJ))
    all_goals
     go_roundw
     case rel =>
      refine⟨j+1,oM,by go_num,?_,?_,?_⟩;all_goals rw[uJ.out.1]
      ·exact uJ.out.2
      ·have h:=pz.out.1
       exact⟨h.list,h.new,h.log,h.ε,h.nb⟩
     case measure=>simp[intOf];omega
   ·obtain⟨hbody,hlen⟩:=Y5 hc
    have K8:=δ (fun W=>amM (str (cK sec.data.toList).1) W (by rw[bR,hbody];simp[hlen]))
    rw[hc] at tR;have hdt:(str (cK sec.data.toList).1).data.toList=(cK sec.data.toList).1:=by simp[str]
    rw[hdt] at K8;have hS:fc d f (j+1) = { l:=if (fc d f j).row && (lC (cK sec.data.toList).1).2 then (fc d f j).l++[(lC (cK sec.data.toList).1).1] else (fc d f j).l,row:=(fc d f j).row && (lC (cK sec.data.toList).1).2,af:=max (fc d f j).af (lC (cK sec.data.toList).1).1.af,bad:=false } := by
     rw[HW.out.1,zi,ν DJ,ν (by rw[hc];decide),π hc]
    have Cj:=δ HW.out.2.2.2;have K9:(fc d f j).l.length≤j:=Rn _ _ _;clear hdt hbody hlen hc HW HB;have qd:=δ hS;clear hS;generalize fc d f j=st at *;generalize lC (cK sec.data.toList).1=pr at *;obtain⟨pt,is⟩:=pr;simp only at *
    have hmx:max (st.af:Int) (pt.af:Int)=((max st.af pt.af:Nat):Int):=oM;go_wp2_with (first
     |(go_at_call 46;refine VW.out.mono ?_;rintro e w' ⟨rfl,rfl⟩)
     |(go_at_call 47
       refine(tR.out _).mono ?_;rintro e w2 ⟨rfl,bM⟩;have VK:=δ (Cj.out.below bM);have pz:=τ ((Cj.out.below bM).below ((oT _ w2).alloc (bO _) (.cells #[ω 0,ω 0,ω 0,ι 0,ι 0,.string ⟨#[]⟩] 204))) (η.new w2 204 #[ω 0,ω 0,ω 0,ι 0,ι 0,.string ⟨#[]⟩]))
     |(go_at_call 159
       refine(K8.out _).mono ?_;rintro e w3 ⟨he3,qG⟩;rw[Lp.val] at he3;subst he3;have wD:=τ (pz.out.1.below qG) (pz.out.2.dr (qG.block _ pz.out.2.lt));clear qG)
     |(refine eN 204 w2.heap.size #[ω pt.θ,ω pt.af,ω pt.ahead,ι pt.number,ι pt.all,.string (str pt.text)] wD.out.2 jN ?_
       intro w4 aJ au hs4;have G9:=τ (oW.stored VK.out wD.out.1 au) aJ;have tM:=aJ.xL;have yL:=G9.out.1.log.oY;have dh:=G9.out.1.log.frozen 7;clear aJ au hs4))
    go_region
    all_goals
     try simp only[hmx]
     have VV:=δ ((G9.out.1.VJ (max st.af pt.af)).drew);have aK:η (w4.setCell ⟨w.heap.size,7,none⟩ (ω ((max st.af pt.af:Nat):Int))).drew w2.heap.size 204 #[ω pt.θ,ω pt.af,ω pt.ahead,ι pt.number,ι pt.all,.string (str pt.text)] :=
      (G9.out.2.b9 (p:=⟨w.heap.size,7,none⟩) (fun e=>G9.out.2.B5 G9.out.1.log dC e) _).drew
     have Al:=aK.xL;have qd:=qd.out;clear tM yL dh aK hmx;generalize (w4.setCell ⟨w.heap.size,7,none⟩ (ω ((max st.af pt.af:Nat):Int))).drew=w5 at *;cases hr:st.row
     ·simp only[hr,Bool.false_and,mH,jj] at qd
      exact aee
     ·cases l8:is
      ·simp only[hr,l8,IE,mH,jj] at qd
       exact aee
      ·simp only[hr,l8,IE,vf] at qd
       have HS:=δ qd;clear qd;go_wp2_with (at_builtin;refine kr rfl _ _ _ _ rfl 204 i0 _ 6 56 underlying201 bx bU bK aY rfl u11 st.l.length _ rfl (VV.out.list.alloc _) _ 1 [_,_,_,_,_,_] rfl (Src.rY underlying201 _ rfl) jN (by have:=K9;unfold maxLen;omega) (oN K9) ?_;intro v2 w6 bL σ hl2 cn);go_roundw
       case rel =>
        refine⟨j+1,oM,by go_num,?_,?_,?_⟩;all_goals rw[HS.out]
        have h:=VV.out.app _ bL σ hl2;exact⟨h.list,h.new,h.log,h.ε,h.nb⟩
       case measure=>simp[intOf];omega
   ·rw[hc] at tR
    have hS:fc d f (j+1) = { fc d f j with bad:=true } := by
     rw[HW.out.1,zi,ν DJ,π hc]
    have h10:=HW.out.2.2.1 (by rw[hS]);rw[hS] at h10;have gT:=δ h10;have Cj:=δ HW.out.2.2.2;clear h10 hS HW HB hc;go_wp2_with (first
     |(go_at_call 46;refine VW.out.mono ?_;rintro e w' ⟨rfl,rfl⟩)
     |(go_at_call 47;refine(tR.out _).mono ?_;rintro e w2 ⟨rfl,bM⟩))
    go_ret2
    have ho:nA d f n e=none:=by rw[nA,gT.out];rfl
    rw[ho];exact⟨_,rfl,⟨(Cj.out.below bM).ε,fun _=>rfl,fun g h=>by cases h⟩⟩
  ·obtain rfl:j=n:=oM
   have HL:=τ hL jI;clear hL jI;go_wp2_with fail
   have hok:=(ZB d f j).1;have pg:=Rn d f j;have hG:nA d f j e=some (se ((fc d f j).l.length+1) ⟨f,j,e,[],0,0,(fc d f j).af,false⟩ (fc d f j).l):=by rw[nA,HL.out.2];rfl
   have HG:=aq hG hok pg;clear hG hok pg;go_loopw [11] (fun v w'=>∃(row:List Lp) (g:Lg) (v1:Value) (k:Nat),mJ wr w' p w.heap.size u11 (fc d f j).l v row g v1∧nA d f j e=some (se (row.length+1) g row)∧row=(fc d f j).l.drop k∧k≤(fc d f j).l.length∧g.θ=e∧g.used=k∧g.l.length≤k) (fun v _=>lenOf v)
   case atStart =>
    exact⟨(fc d f j).l,⟨f,j,e,[],0,0,(fc d f j).af,false⟩,.slice none 0 0,0,mJ.begin HL.out.1.list HL.out.1.log rfl,HG.out.1,rfl,oM,rfl,rfl,sM⟩
   case round =>
    obtain⟨row,g,v1,k,hR,hg,hrow,hk,eV,G_,fX⟩:=hrel;have hrl:row.length≤5000:=by rw[hrow,jC];have:=HG.out.2.2;omega
    have hmem:∀q ∈ row,q ∈ (fc d f j).l:=fun q hq=>by rw[hrow] at hq;exact CY hq
    have He:=alO hR.log (hR.parts _ hR.list) hrl (fun q hq=>(HG.out.2.1 q (hmem q hq)).1) (fun q hq=>(HG.out.2.1 q (hmem q hq)).2.1);rw[se] at hg;cases hf:(ie g.θ g.last row).2
    ·rw[hf] at He hg
     rw[ν sM] at hg;have VX:=δ He;have HR:=τ hR hg;clear He hR hg hrow hmem hf;go_wp2_with (go_at_call 160;refine VX.out.mono ?_;rintro e w1 ⟨rfl,sK⟩);go_ret2
     rw[HR.out.2];have pF:=HR.out.1.still sK;have hz:=HL.out.1.ε.size;exact⟨_,rfl,HL.out.1.ε.then pF.ε (fun q e=>.inr (by rw[e];exact bO _)),fun h=>(by cases h),fun g2 h=>by cases h;exact⟨w.heap.size,v1,rfl,pF.log,pF.own,bO _,fun q hq=>oN (pF.new q hq)⟩⟩
    ·obtain⟨h0,hp1,hp2,ht2⟩:=Q6 hf
     rw[hf] at He hg;rw[π rfl] at hg;generalize (ie g.θ g.last row).1=text at *;obtain⟨q0,r,rfl⟩:∃q0 r,row=q0::r:=by
      cases row with
      | nil=>simp at h0
      | cons a b=>exact⟨a,b,rfl⟩
     obtain⟨A,cap,b1,o1,hv,m1,m2,a1,c1⟩:=(hR.parts _ hR.list).ex;obtain⟨rfl,-⟩:=a1 sM;subst hv;have apg:g.l.length≤5000:=by have:=HG.out.2.2;omega
     have aph:g.used≤5000:=by have:=HG.out.2.2;omega
     have hsw:IntKind.i64.wrap ((g.used:Int)+((partsOf text.length:Nat):Int))=(g.used:Int)+((partsOf text.length:Nat):Int):=cZ _ oM;have HPa:Hid (∀W,ς 112 #[.string (str text)] W fun e w'=>e=ώ (ι ((partsOf text.length:Nat):Int))∧W=w'):=fun W=>by
      have h:=Jp (str text) W DF;rw[bR] at h;exact h
     have VX:=δ He;have HR:=δ hR;have Ez:=iw hg hrow hk eV G_ fX;clear He hR hg hrow hmem hf a1 c1 hk eV G_ fX;go_wp2_with (first|(go_at_call 160;refine VX.out.mono ?_;rintro e w1 ⟨rfl,sK⟩;have yQ:=δ (HR.out.still sK);clear sK)| fail);have ack:(0:Int)<((q0::r).length:Int):=by simp only[eZ];omega
     refine dW ?_;refine eo (S:=fun w'=>w'.cell? ⟨w.heap.size,4,none⟩=some v1∧w'.cell? ⟨b1,o1+1,none⟩=some (ω (q0.af:Int))) (T:=fun i=>Nat.beq 15 i || Nat.beq i 18) kR ?_;have fQ:=δ (fun (w':World) hu=>yQ.out.sees (w2:=w') hu);have aE:=fQ.out _ (ζ.refl _ w1).drew;refine gm 0 (.pointer (some ⟨w.heap.size,0,none⟩)) ?_;refine gm 1 (.pointer (some ⟨w.heap.size,0,none⟩)) ?_;refine gm 2 (.pointer (some ⟨w.heap.size,0,none⟩)) ?_;refine gm 3 (.pointer (some ⟨w.heap.size,0,none⟩)) ?_;refine gm 4 (.pointer (some ⟨w.heap.size,4,none⟩)) ?_;refine A_ (i:=5) (v:=v1) rfl kR kR kR kR (fun _ _ _ h=>h) (uf rfl (Or.inl ⟨by rfl,?_⟩)) aS kR ?_
     ·intro w' hSw;go_split_ands;go_simp
     simp only[av];refine gm 6 (.string (str text)) ?_;refine gm 9 (.slice (some ⟨b1,o1,none⟩) (q0::r).length cap) ?_;refine gm 10 (.pointer (some ⟨b1,o1,none⟩)) ?_;refine gm 11 (.pointer (some ⟨b1,o1+1,none⟩)) ?_;refine A_ (i:=12) (v:=ω (q0.af:Int)) rfl kR kR kR kR (fun _ _ _ h=>h) (uf rfl (Or.inl ⟨by rfl,?_⟩)) aS kR ?_
     ·intro w' hSw;go_split_ands;go_simp
     simp only[av];refine bf 7 (fun K hK=>?_);go_simp
     refine hK.out _ _ ?_ ?_
     ·exact fQ.out _ ((ζ.refl _ w1).alloc _).drew
     refine bf 8 (fun K hK=>?_);refine qn ak _ _ _ _ ak 9 s0 _ 1 16 underlying147 hs0 hx0 hx1 hx2 rfl v1 _ _ ak ((yQ.out.own.alloc _).drew) _ 1 [.string (str text)] ak (Src.Q8 underlying147 (.string (str text))) jN ke oM ?_;intro v2 w2 qt σ xU cn;obtain⟨gq,cq,rfl,-,-⟩:=qt.head oM;have χ:ζ (fun q=>v1.ownBlock=some q) w1 w2:=((ζ.refl _ w1).alloc _).drew.then σ (fun _ e=>.inl e);have fV:∀q,(Value.slice (some ⟨gq,0,none⟩) (g.l.length+1) cq).ownBlock=some q→v1.ownBlock=some q∨w1.heap.size≤q:=fun q hq=>by
      rcases xU with e | e
      ·rw[e] at hq;exact .inl hq
      ·rw[e] at hq
       cases hq
       exact .inr ((((ζ.refl (fun _=>False) w1).alloc _).drew).size)
     have aC:=yQ.out.log.ε χ (fun e=>yQ.out.own.f_ yQ.out.log dC e);have hk2:=aC.oY;have GH:=aC.frozen 4;have PY:=aC.frozen 6;have HX:=δ (yQ.out.app (str text) q0.af qt χ fV);have bn:=fQ.out _ χ;clear qt σ xU cn χ fV aC;refine hK.out _ _ bn ?_;clear hK;refine gm 13 (.pointer (some ⟨w.heap.size,0,none⟩)) ?_;refine gm 14 (.pointer (some ⟨w.heap.size,4,none⟩)) ?_;refine lG 15 (fun K hK=>?_);go_simp
     refine hK.out _ _ ?_;clear hK bn;refine gm 16 (.pointer (some ⟨w.heap.size,0,none⟩)) ?_;refine gm 17 (.pointer (some ⟨w.heap.size,6,none⟩)) ?_;refine lG 18 (fun K hK=>?_);go_simp
     refine hK.out _ _ ?_;clear hK;refine dY ?_;refine dz ?_;clear hk2 GH PY;generalize ((w2.setCell ⟨w.heap.size,4,none⟩ (.slice (some ⟨gq,0,none⟩) (g.l.length+1) cq)).setCell ⟨w.heap.size,6,none⟩ (ω (q0.af:Int)))=w3 at *;clear fQ aE;go_wp2_with fail
     refine dW ?_;refine eo (S:=fun w'=>w'.cell? ⟨w.heap.size,5,none⟩=some (ι (g.used:Int))) (T:=fun i=>Nat.beq 9 i) kR ?_;have aE:w3.drew.cell? ⟨w.heap.size,5,none⟩=some (ι (g.used:Int)):=HX.out.log.drew.cell 5;have PX:=HX.out.log.drew.frozen 5;refine gm 0 (.pointer (some ⟨w.heap.size,0,none⟩)) ?_;refine gm 1 (.pointer (some ⟨w.heap.size,0,none⟩)) ?_;refine gm 2 (.pointer (some ⟨w.heap.size,5,none⟩)) ?_;refine A_ (i:=3) (v:=ι (g.used:Int)) rfl kR kR kR kR (fun _ _ _ h=>h) (uf rfl (Or.inl ⟨by rfl,?_⟩)) aS kR ?_
     ·intro w' hSw;go_split_ands;go_simp
     simp only[av];refine gm 4 (.string (str text)) ?_;refine A_ (i:=5) (v:=ι ((partsOf text.length:Nat):Int)) rfl kR kR kR kR (fun _ _ _ h=>h) (Fq rfl 112 #[.string (str text)] ak (fun w' _=>?_) (fun w' hS=>HPa.out w')) aS kR ?_
     ·go_simp
     simp only[av];refine gm 6 (ι ((g.used:Int)+((partsOf text.length:Nat):Int))) ?_;refine gm 7 (.pointer (some ⟨w.heap.size,0,none⟩)) ?_;refine gm 8 (.pointer (some ⟨w.heap.size,5,none⟩)) ?_;refine lG 9 (fun K hK=>?_);go_simp
     refine hK.out _ _ ?_;clear hK;refine dY ?_;refine dz ?_;have HY:=δ ((HX.out.used (g.used+partsOf text.length)).drew.drop (partsOf text.length) hp2);clear aE PX;have hpl:((partsOf text.length:Nat):Int)≤((q0::r).length:Int):=oM;have jQ:(0:Int)≤((partsOf text.length:Nat):Int):=oM;go_wp2_with (go_at_call 112;refine(HPa.out _).mono ?_;rintro e w4 ⟨rfl,rfl⟩);go_roundw
     case rel =>
      refine⟨(q0::r).drop (partsOf text.length),{ g with l:=g.l++[str text],last:=q0.af,used:=g.used+partsOf text.length },.slice (some ⟨gq,0,none⟩) (g.l.length+1) cq,k+partsOf text.length,?_,?_,?_,?_,Ez.out.2.2.2.1,?_,?_⟩
      ·have h:=HY.out
       rw[Int.natCast_add g.used (partsOf text.length)] at h;have ha:Option.map (fun x:Addr=>x.add (partsOf text.length*6)) (some ⟨b1,o1,none⟩)=some ⟨b1,o1+partsOf text.length*6,none⟩:=akm _ _ _;rw[ha] at h;exact h
      ·rw[Ez.out.1]
       exact aI some (ahR _ _ _ _ (by rw[jC];simp only[eZ] at hp2 ⊢;omega) oM)
      ·rw[Ez.out.2.1,CW]
      ·have h:=aI List.length Ez.out.2.1
       rw[jC] at h;have:=Ez.out.2.2.1;omega
      ·show g.used+_=_
       rw[Ez.out.2.2.2.2.1]
      ·simp only[aN,eZ,AV]
       have:=Ez.out.2.2.2.2.2;omega
     case measure =>
      simp[lenOf]
      omega
theorem Q7 (b:List UInt8) (hb:b.length=60) (hz:b≠List.replicate 60 0) (hs:tv b<2 ^ (8*4)):cK (gW b)=(b,1):=by
 have hl:(leB (tv b) 4).length=4:=pN _ _;have h1:(gW b).length=64:=by simp[gW,hb,hl]
 have h2:(gW b).take 60=b:=by rw[gW,Mg oM,dV oM]
 have h3:(gW b).drop 60=leB (tv b) 4:=by rw[gW,aoY oM,qj oM];rfl
 have h4:gW b≠List.replicate 64 0:=by
  intro e;apply hz
  rw[← h2,e];rfl
 rw[cK,ν oM,ν h4,h2,h3,Jh _ _ hs,ν sM]
theorem Y9 (p:Pt) (hg:p.gen<2 ^ (8*8)) (hn:p.number<256) (ha:p.all<256) (ht:p.text.length≤48):lB p.body=(p,true):=by
 obtain⟨g,n,a,t⟩:=p;simp only at hg hn ha ht
 have hl:(leB g 8).length=8:=pN _ _;have hb:(⟨g,n,a,t⟩:Pt).body=leB g 8++([UInt8.ofNat n,UInt8.ofNat a,UInt8.ofNat t.length,0]++(t++List.replicate (48 - t.length) 0)):=by simp[Pt.body]
 have h1:(Pt.body ⟨g,n,a,t⟩).take 8=leB g 8:=by rw[hb,Mg oM,dV oM]
 have hd:∀i,(Pt.body ⟨g,n,a,t⟩).getD (8+i) 0=([UInt8.ofNat n,UInt8.ofNat a,UInt8.ofNat t.length,0]++(t++List.replicate (48 - t.length) 0)).getD i 0:=by
  intro i;rw[hb,bN,bN,mG oM,hl,rU]
 have h8:(Pt.body ⟨g,n,a,t⟩).getD 8 0=UInt8.ofNat n:=hd 0;have h9:(Pt.body ⟨g,n,a,t⟩).getD 9 0=UInt8.ofNat a:=hd 1;have h10:(Pt.body ⟨g,n,a,t⟩).getD 10 0=UInt8.ofNat t.length:=hd 2;have h11:(Pt.body ⟨g,n,a,t⟩).getD 11 0=0:=hd 3;have hdr:∀i,(Pt.body ⟨g,n,a,t⟩).drop (12+i)=(t++List.replicate (48 - t.length) 0).drop i:=by
  intro i;rw[hb,← eC,← CW,Mk (by simp[hl])]
 have hu:∀x,x<256→(UInt8.ofNat x).toNat=x:=fun x hx=>by simp;omega
 rw[lB,h8,h9,h10,h11,h1,hu n hn,hu a ha,hu t.length oM,ν oM,Jh _ _ hg];have e0:=hdr 0;rw[sU] at e0;rw[e0,hdr t.length];simp
theorem chunks (t:List UInt8) (n:Nat):((List.range n).flatMap fun i=>(t.drop (48*i)).take 48)=t.take (48*n):=by
 induction n with
 | zero=>simp
 | succ n ih=>rw[t_,xq,ih];simp[List.take_add,Nat.mul_add]
theorem aiR (t:List UInt8) (g:Nat):kQ (aU t g)=t:=by
 have h:=chunks t (aM t.length);rw[kQ,aU,List.flatMap_map];rw[h,dV];unfold aM;omega
theorem ZC (t:List UInt8) (g:Nat) (rest:List Pt) (hg:g≠0) (ht:t.length≤400):ec (aU t g++rest)=(t,g):=by
 have hn:0<(aU t g).length:=by rw[od];unfold aM;omega
 have h0:=Db t g 0 hn;obtain⟨p,l,e⟩:∃p l,aU t g=p::l:=by
  cases h:aU t g with
  | nil=>rw[h] at hn;simp at hn
  | cons p l=>exact⟨p,l,rfl⟩
 have hp:p.gen=g∧p.all=aM t.length:=by
  have h1:(aU t g)[0]=p:=by simp[e]
  rw[h1] at h0;exact⟨h0.1,h0.2.2.1⟩
 have hfg:vp (aU t g++rest)=g:=by rw[e];exact hp.1
 have PV:qU (aU t g++rest)=aM t.length:=by rw[e];exact hp.2
 have cU:(aU t g++rest).take (aM t.length)=aU t g:=by rw[Mg (by rw[od];omega),dV (by rw[od];omega)]
 rw[ec,hfg,PV,cU,aiR,cU,ν hg,ν oM,π rfl]
theorem Dk.ZD {d:Dk} (h:d.bP=-1):d.dO=(d,true):=by
 unfold Dk.dO;rw[ν oM,ν oM]
theorem Dk.Ro {d:Dk} (h:d.bP=-1) (ho:d.off=false) {i:Nat} (hi:i<d.ψ.length) {b:ByteArray} (hb:b.size=64):d.write (i:Int) b=(d.push i b,0):=by
 have ht:d.there (i:Int)=true:=by simp[Dk.there];omega
 unfold Dk.write;rw[ho,ht,Dk.ZD h];simp[hb]
theorem Dk.akn (d:Dk) (i j:Nat) (b:ByteArray) (hi:i<d.waits.length):(d.push i b).now j=if i=j then b else d.now j:=by
 unfold Dk.now Dk.push Dk.at_ Dk.last;simp only[bN,QL];by_cases h:i=j
 ·subst h
  simp[hi]
 ·simp[h]
theorem Dk.MU {d:Dk} (h:d.bP=-1) (ho:d.off=false):d.sync=(d.flush,0):=by
 unfold Dk.sync;rw[ho,Dk.ZD h];simp
theorem Dk.RO (d:Dk) (i:Nat) (hi:i<d.ψ.length):d.flush.now i=d.now i:=by
 have hw:(d.waits.map fun _=>([]:List ByteArray)).getD i []=[]:=by
  rw[bN,lf];cases d.waits[i]?<;>rfl
 show ((d.waits.map fun _=>([]:List ByteArray)).getD i []).getLast?.getD (((List.range d.ψ.length).map d.now).getD i ByteArray.empty)=d.now i;rw[hw,bN,lf,A6 hi];rfl
theorem Dk.I0 (d:Dk):d.flush.pend=0:=by
 show ((d.waits.map fun _=>([]:List ByteArray)).map List.length).sum=0;rw[sS];generalize d.waits=l;induction l with
 | nil=>rfl
 | cons x l ih=>simp only[kO,List.sum_cons,ih];rfl
structure Pt.ok (p:Pt):Prop where
 gen:0<p.gen
 gen':p.gen<2 ^ (8*8)
 number:p.number<256
 all:p.all<256
 text:p.text.length≤48
 aoh:0<p.all
theorem alS (p:Pt) (h:p.ok):p.body≠List.replicate 60 0:=by
 intro e;have h1:=(Y9 p h.gen' h.number h.all h.text);rw[e] at h1;have h2:(lB (List.replicate 60 0)).1.gen=p.gen:=by rw[h1]
 have h3:(lB (List.replicate 60 0)).1.gen=0:=dC;have:=h.gen;omega
theorem ako (p : Pt) (h : p.ok) : cK p.sec.data.toList=(p.body,1):=by
 have e:p.sec.data.toList=gW p.body:=by simp[Pt.sec,str]
 rw[e]
 exact Q7 _ (p.FC h.text) (alS p h) (by have:=Np p.body;have e2:(2:Nat) ^ (8*4)=4294967296:=dC
                                        omega)
theorem Su (t:List UInt8) (g:Nat) (hg:0<g) (tS:g<2 ^ (8*8)) (ht:t.length≤400):∀p ∈ aU t g,p.ok:=by
 intro p hp;obtain⟨i,hi,rfl⟩:=pL.1 hp;obtain⟨c1,c2,c3,c4⟩:=Db t g i hi;have hn:(aU t g).length≤9:=by rw[od];unfold aM;omega
 rw[od] at hn;exact⟨oM,oM,by rw[od] at hi;omega,oM,c4,by rw[c3];unfold aM;omega⟩
theorem aat (p:Pt) (h:p.ok):p.sec.size=64:=by
 rw[Pt.sec,bR,gW,aN,p.FC h.text,pN]
theorem aau {l:List Pt} {m:Nat} (h:∀p ∈ l,p.gen≤m):(ec l).2≤m:=by
 have hf:vp l≤m:=by
  cases l with
  | nil=>simp[vp]
  | cons p l=>exact h p sM
 unfold ec;split
 ·exact xx _
 ·split
  ·exact xx _
  ·split
   ·exact hf
   ·exact xx _
def Kp.put (k:Kp) (t:List UInt8):Kp := { k with seen:=k.seen+1,text:=t,gen:=k.seen+1,at_:=1 - k.at_,broken:=false }
end
end Go.Proofs.YtbhjgfibhegddaaGreat
