/-
  Parts of the proof of VaultPlays: KeptA, SealC.
-/
import Derived.Test.YtbhjgfibhegddaaGreatQVaultPlays07
import Derived.ChangeKeysEq
import Derived.Deep.DeepCutAuto
import Derived.Deep.RegionHeld3
import Derived.StillTailTactics
set_option maxRecDepth 100000
set_option maxHeartbeats 16000000
namespace Go.Proofs.YtbhjgfibhegddaaGreat
abbrev NI:=@Go.run_equalIn_int
abbrev aa0:=@Go.run_equalIn_string
abbrev Dq:=@Go.run_part_plain
abbrev oG:=@Bool.false_eq_true
abbrev oH:=@List.getElem?_cons_zero
abbrev pP:=@List.getElem?_cons_succ
abbrev vO:=@List.set_cons_succ
abbrev Ui:=@Go.wp_region_held_drew
abbrev NJ:=@Go.wpAnyH_ready
abbrev NK:=@Go.AllReadyH.cons
abbrev NL:=@Go.AllReadyH.nil
abbrev nY:=@List.mem_filterMap
abbrev J1:=@Option.getD_some
abbrev FF:=@Bool.true_and
abbrev nZ:=@List.mem_append
open Tryz
section
open Go Go.RowKit
structure Pt where
 gen:Nat
 number:Nat
 all:Nat
 text:List UInt8
deriving DecidableEq
def Pt.cells (p:Pt):List Value:=[ω p.gen,ι p.number,ι p.all,.string (str p.text)]
def Pt.val (p:Pt):Value:=.agg #[ω p.gen,ι p.number,ι p.all,.string (str p.text)]
def Pt.body (p:Pt):List UInt8:=leB p.gen 8++[UInt8.ofNat p.number,UInt8.ofNat p.all,UInt8.ofNat p.text.length,0]++p.text++List.replicate (48 - p.text.length) 0
theorem Pt.DF (p:Pt) (h:p.text.length≤48):p.body.length=60:=by simp[Pt.body,oK];omega
theorem ze (a b:List UInt8):str a++str b=str (a++b):=by
 unfold str;rw[ByteArray.mk_append_mk]
theorem UG (n:Nat):(⟨(Lib.repeatL (⟨#[0]⟩:ByteArray).data.toList n).toArray⟩:ByteArray)=str (List.replicate n 0):=by
 unfold str;congr 2
 induction n with
 | zero=>rfl
 | succ n ih=>rw[Lib.repeatL,ih];rfl
theorem Src.qN {P:Program} {w:World} {xT t e:TypeId} {size n:Nat} (ht:P.underlying xT=some (.slice t)) (news:List Value) (hn:news.length=n*size) :
 Src P (w.alloc (.cells news.toArray e)) xT size (.slice (some ⟨w.heap.size,0,none⟩) n n) n news :=
 .uq ht _ _ _ hn fun j u hu=>by
  have iY:(⟨w.heap.size,0,none⟩:Addr).add j=⟨w.heap.size,j,none⟩:=by unfold Addr.add;split<;>simp_all
  rw[iY,aaS];simpa using hu
theorem XU (nu al n:Nat) (h1:nu<256) (h2:al<256) (h3:n<256):aK [UInt8.ofNat nu,UInt8.ofNat al,UInt8.ofNat n,0]=[ϋ (nu:Int),ϋ (al:Int),ϋ (n:Int),ϋ 0]:=by
 simp only[aK,jY,yZ];rw[Gz,Gz,Gz,T' oM oM,T' oM oM,T' oM oM];rfl
theorem afc (p:Pt) (w:World) (hg:p.gen<18446744073709551616) (ht:p.text.length≤48) (hn:p.number<256) (ha:p.all<256) :
 ς 186 #[p.val] w fun e w'=>e=ώ (.string (str (gH p.body)))∧Below w.heap.size w w':=by
 obtain⟨i0,bx,bN,bG,aT⟩:=je Bv;have dO:=δ (p.DF ht);have HB:Hid (p.body=leB p.gen 8++[UInt8.ofNat p.number,UInt8.ofNat p.all,UInt8.ofNat p.text.length,0]++p.text++List.replicate (48 - p.text.length) 0):=rfl;obtain⟨g,nu,al,tx⟩:=p;generalize (⟨g,nu,al,tx⟩:Pt).body=bd at *;simp only[Pt.val] at *;have hsz:(str tx).size=tx.length:=bf tx;go_enter func186,ntmps186
 go_wp2_with fail
 refine(abm (.slice none 0 0) 0 [] g 8 _ (Own.nil _ _ _) oM oM).mono ?_;rintro e w1 ⟨v1,rfl,gj,ax,ir⟩;simp only[kU,nW] at gj;have mS:η (w.alloc (.cells #[ω (g:Int),ι (nu:Int),ι (al:Int),.string (str tx)] 277)) w.heap.size 277 #[ω (g:Int),ι (nu:Int),ι (al:Int),.string (str tx)]:=η.new _ _ _;have aM:=mS.ε ax (by simp[Value.ownBlock]);have hc1:=aM.iI;have Y8:υ w w1:=((ζ.refl _ w).alloc _).then ax (fun b h=>by simp[Value.ownBlock] at h);have Y9:∀q,v1.ownBlock=some q→w.heap.size+1≤q:=fun q hq=>by
  rcases ir with h | ⟨q',h,hq'⟩
  ·rw[h] at hq;simp[Value.ownBlock] at hq
  ·rw[h] at hq
   have:=dw hq;simp at hq'
   omega
 have H1:=aj Y8 Y9 aM;clear ax ir mS aM Y8 Y9;have h4:=δ (XU nu al tx.length hn ha oM);have HR:Hid (∀W,ς 20 #[.string ⟨#[0]⟩,ι (48 - (tx.length:Int))] W fun e w'=>e=ώ (.string (str (List.replicate (48 - tx.length) 0)))∧Below W.heap.size W w'):=by
  intro W;have h:=strings_Repeat ⟨#[0]⟩ (48 - tx.length) W oM (by show 1*_≤_;omega);rw[UG] at h;rw[show (48 - (tx.length:Int))=((48 - tx.length:Nat):Int) from by omega];exact h
 go_wp2_with (first
  |(at_builtin
    refine jH rfl (.tmp 9) (.tmp 20) _ _ rfl 5 i0 _ 1 1 underlying89 bx bN bG aT rfl v1 8 _ rfl (gj.alloc _) _ 4 [ϋ (nu:Int),ϋ (al:Int),ϋ (tx.length:Int),ϋ 0] rfl (Src.qN underlying89 _ rfl) (by simp[Value.oneCell']) (by unfold maxLen;omega) oM ?_;intro v2 w2 bH π hl2 bV;obtain⟨ax,ir,aM⟩:=H1.out;have aB:=(aM.alloc _).ε π (fun e=>by have:=ir _ e;omega);have hc2:=aB.iI;have GY:υ w w2:=(ax.alloc _).then π (fun b h=>.inr (oN (ir b h)));have GZ:∀q,v2.ownBlock=some q→w.heap.size+1≤q:=fun q hq=>by
     rcases hl2 with h | h
     ·exact ir q (by rw[← h];exact hq)
     ·rw[h] at hq
      have h5:=dw hq;have h6:=aM.lt;simp at h5
      omega
    rw[← h4.out,← qM] at bH;have H2:=aj GY GZ aB;clear ax ir aM π hl2 bV aB GY GZ gj hc1)
  |(at_builtin
    refine jH rfl (.tmp 22) (.tmp 24) _ _ rfl 5 i0 _ 1 1 underlying89 bx bN bG aT rfl v2 (8+4) _ rfl bH _ (str tx).size _ rfl (Src.of_string underlying9 (str tx)) (Bg _) (by unfold maxLen;omega) oM ?_;intro v3 w3 gm χ fI eU;obtain⟨ax,ir,aM⟩:=H2.out;have aA:=aM.ε χ (fun e=>by have:=ir _ e;omega);have rB:=aA.iI;have Y_:υ w w3:=ax.then χ (fun b h=>.inr (oN (ir b h)));have LP:Own w3 5 1 v3 (8+4+(str tx).size) (aK (leB g 8++[UInt8.ofNat nu,UInt8.ofNat al,UInt8.ofNat tx.length,0]++tx)):=by rw[qM];exact gm
    have H3:=τ Y_ aA;clear ax ir aM χ fI eU aA Y_ gm bH hc2))
 generalize hL:leB g 8++[UInt8.ofNat nu,UInt8.ofNat al,UInt8.ofNat tx.length,0]++tx=L at LP HB;have uY:L.length=12+tx.length:=by rw[← hL];simp[oK];omega
 have sZ:(convert 89 9 v3).run prog w3.drew=.ok (.string (str L)) w3.drew:=vP LP.drew;have hls:(str L).size=12+tx.length:=by rw[bf,uY]
 have QG:=δ (ze L (List.replicate (48 - tx.length) 0));have LQ:(str (List.replicate (48 - tx.length) 0)).size=48 - tx.length:=by rw[bf];simp
 have HO:=δ LP;have hHL:=δ hL;have ajb:IntKind.i64.wrap (48 - (tx.length:Int))=48 - (tx.length:Int):=bX _ oM;clear hL LP;go_region_with (first
  |(go_at_call 20
    refine(HR.out _).mono ?_;rintro e w4 ⟨rfl,hb4⟩;have wg:(convert 89 9 v3).run prog w4=.ok (.string (str L)) w4:=vP (HO.out.cU fun q hq=>hb4.block q (HO.out.lt hq));have su:w4.cell? ⟨w.heap.size,3,none⟩=some (.string (str tx)):=(hb4.cell (p:=⟨w.heap.size,3,none⟩) H3.out.2.lt).trans rB.2.2.2)
  |(go_at_call 157
    refine(Ph _ _ (by rw[FE,hls,LQ];omega)).mono ?_;rintro e w5 ⟨rfl,ox⟩))
 all_goals go_wp2
 all_goals
  go_ret
  refine⟨?_,?_⟩
  ·rw[HB.out]
   first
    | rfl
    |(trace_state;fail)
  ·have nL:Below w.heap.size w w3:=H3.out.1.below (fun _ h=>h.elim)
   have G0:Below w3.heap.size w3 w4:=vQ hb4;exact nL.trans ((G0.mono nL.size).trans (ox.mono (iE nL.size G0.size)))
def aO (n:Nat):Nat:=max ((n+47) / 48) 1
def aX (text:List UInt8) (gen:Nat):List Pt:=(List.range (aO text.length)).map fun i=>⟨gen,i,aO text.length,(text.drop (48*i)).take 48⟩
def oR (l:List Pt):List Value:=l.flatMap Pt.cells
theorem oJ (text:List UInt8) (gen:Nat):(aX text gen).length=aO text.length:=by simp[aX]
theorem Wd:(prog.info? 277).map (fun i=>(i.zero,i.size,i.bytes))=some (some (.agg #[ω 0,ι 0,ι 0,.string ByteArray.empty]),4,40):=kR
theorem XV (s:ByteArray) (gen:Nat) (w:World) (hs:s.size≤100000) :
 ς 173 #[.string s,ω (gen:Int)] w fun e w'=>∃v,e=ώ v∧Own w' 277 4 v (aO s.size) (oR (aX s.data.toList gen))∧Below w.heap.size w w'∧(∀q,v.ownBlock=some q→w.heap.size≤q):=by
 obtain⟨i0,bx,bN,bG,aT⟩:=je Wd;have HA:Hid (aO s.size=max ((s.size+47) / 48) 1):=rfl;have Ch:1≤aO s.size:=by rw[HA.out];omega
 have mO:48*(aO s.size - 1)≤s.size:=by rw[HA.out];omega
 have p6:s.size≤48*aO s.size:=by rw[HA.out];omega
 have uF:((aO s.size:Nat):Int)=max (((s.size:Int)+48 - 1) / 48) 1:=by rw[HA.out];omega
 have HM:=δ uF;clear uF;go_enter func173,ntmps173
 go_wp2_with fail
 rw[← HM.out];have HC:Hid (∀k,k≤aO s.size→(aX s.data.toList gen).take k=(List.range k).map fun i=>(⟨gen,i,aO s.size,(s.data.toList.drop (48*i)).take 48⟩:Pt)):=by
  intro k hk;have e:s.data.toList.length=s.size:=by simp
  rw[aX,e,← Dm,List.take_range,vM hk]
 go_loopw [6,15] (fun v i wr=>∃k:Nat,k≤aO s.size∧i=ι k∧Own wr 277 4 v k (oR ((aX s.data.toList gen).take k))∧Below w.heap.size w wr∧(∀q,v.ownBlock=some q→w.heap.size≤q)) (fun _ i _=>aO s.size - (intOf i).toNat)
 case atStart=>exact⟨0,oM,rfl,by simpa [oR] using Own.nil _ _ _,nX _ _,by simp[Value.ownBlock]⟩
 case round =>
  obtain⟨k,hk,rfl,hO,hb,hl⟩:=hrel;by_cases hlt:k<aO s.size
  ·have HX:=τ hb hl
   have Za:48*k≤s.size:=oM;clear hb hl;have key:∀(wx:World) (v2:Value) (w2:World) (x:Value),Own w2 277 4 v2 (k+1) (oR ((aX s.data.toList gen).take k)++Pt.cells ⟨gen,k,aO s.size,(s.data.toList.drop (48*k)).take 48⟩)→ζ (fun q=>u6.ownBlock=some q) (wr.alloc (.cells x.cells 277)) w2 →
    (v2.ownBlock=u6.ownBlock∨v2.ownBlock=some (wr.alloc (.cells x.cells 277)).heap.size) →
    Own w2 277 4 v2 (k+1) (oR ((aX s.data.toList gen).take (k+1)))∧Below w.heap.size w w2∧(∀q,v2.ownBlock=some q→w.heap.size≤q):=by
    intro wx v2 w2 x h1 h2 h3;obtain⟨hb,hl⟩:=HX.out;refine⟨?_,(hb.alloc hb.size _).trans ⟨h2.os,h2.tape,h2.output,h2.size,fun q hq=>h2.block q (by have:=hb.size;simp;omega) (fun e=>by have:=hl q e;omega)⟩,fun q hq=>?_⟩
    ·rw[HC.out (k+1) oM,sK,kG,← HC.out k oM]
     simpa [oR] using h1
    ·rcases h3 with h | h
     ·exact hl q (by rw[← h];exact hq)
     ·rw[h] at hq
      have h5:=dw hq;have:=hb.size;simp at h5
      omega
   have Key:=δ key;have hcell:Hid (([ω (gen:Int),ι (k:Int),ι (aO s.size:Int),.string (s.extract (k*48) (min (((k:Int)+1)*48) (s.size:Int)).toNat)]:List Value)=Pt.cells ⟨gen,k,aO s.size,(s.data.toList.drop (48*k)).take 48⟩):=by
    show _=_;rw[Pt.cells,sN];have e:((s.data.toList.drop (k*48)).take ((min (((k:Int)+1)*48) (s.size:Int)).toNat - k*48))=(s.data.toList.drop (48*k)).take 48:=by
     rw[JO k 48];by_cases hin:48*k+48≤s.size
     ·rw[show (min (((k:Int)+1)*48) (s.size:Int)).toNat - 48*k=48 by omega]
     ·rw[show (min (((k:Int)+1)*48) (s.size:Int)).toNat - 48*k=s.size - 48*k by omega,dH sM,dH (by simp;omega)]
    rw[e]
   clear HA HM key;go_wp2_with (at_builtin;refine jH rfl _ _ _ _ rfl 277 i0 _ 4 40 underlying210 bx bN bG aT rfl u6 k _ rfl (hO.alloc _) _ 1 [_,_,_,_] rfl (Src.qN underlying210 _ rfl) (by simp[Value.oneCell']) (by unfold maxLen;omega) oM ?_;intro v2 w2 bH π hl2 bV);rw[hcell.out] at bH;obtain⟨k1,k2,k3⟩:=Key.out wr v2 w2 (.agg #[ω (gen:Int),ι (k:Int),ι (aO s.size:Int),.string (s.extract (k*48) (min (((k:Int)+1)*48) (s.size:Int)).toNat)]) bH π hl2;go_roundw
   case rel=>exact⟨k+1,oM,by go_num,k1,k2,k3⟩
   case measure=>simp[intOf];omega
  ·obtain rfl:k=aO s.size:=oM
   have HX:=aj hO hb hl;clear hO hb hl;go_wp2
   go_ret
   obtain⟨hO,hb,hl⟩:=HX.out;rw[dH (by rw[oJ];simp)] at hO
   exact⟨u6,rfl,hO,hb,hl⟩
def kg (l:List Pt):List UInt8:=l.flatMap Pt.text
def qm (l:List Pt):Nat:=(l.head?.map Pt.all).getD 0
def uk (l:List Pt):Nat:=(l.head?.map Pt.gen).getD 0
def dI (l:List Pt):List UInt8 × Nat :=
 if uk l=0 then ([],0) else
 if 400<(kg (l.take (qm l))).length then ([],0) else
 if aX (kg (l.take (qm l))) (uk l)=l.take (aO (kg (l.take (qm l))).length) then (kg (l.take (qm l)),uk l) else ([],0)
theorem Oh (l:List Pt) (i:Nat) (hi:i<l.length) (j:Nat) (hj:j<4):(oR l)[i*4+j]? = (Pt.cells l[i])[j]? := by
 induction l generalizing i with
 | nil=>simp at hi
 | cons p l ih =>
   cases i with
   | zero =>
     simp only[oR,xx];rw[pL (by simp[Pt.cells];omega)];simp
   | succ i =>
     simp only[oR,xx];rw[lM (by simp[Pt.cells];omega)];have e:(i+1)*4+j - (Pt.cells p).length=i*4+j:=by simp[Pt.cells];omega
     rw[e];have:=ih i (by simpa using hi);simpa [oR] using this
theorem adJ (l:List Pt) (ht:∀p ∈ l,p.text.length≤48):(kg l).length≤48*l.length:=by
 induction l with
 | nil=>simp[kg]
 | cons p l ih =>
   have h1:=ih fun q hq=>ht q (by simp[hq])
   have h2:=ht p sM;simp only[kg,xx,aL,eS] at h1 ⊢;omega
theorem abe (l:List Pt) (k:Nat) (hk:k<l.length):kg (l.take (k+1))=kg (l.take k)++l[k].text:=by
 rw[gX hk,kg,vJ];simp[kg]
theorem KX (a b:List UInt8):((str a).toList == (str b).toList)=decide (a=b):=by
 rw[y7,y7];simp only[str];by_cases h:a=b<;>simp[h]
theorem ab2:(prog.fieldsOf 277).toList.map (fun f=>(f.name == "_",f.type,f.offset))=[(false,112,0),(false,3,1),(false,3,2),(false,9,3)]:=kR
theorem afd (p q:Pt) (W:World):(binOp .neq 277 p.val q.val).run prog W=.ok (.bool (!decide (p=q))) W:=by
 rw[Pt.val,Pt.val,run_neq_struct,run_equalIn_agg _ _ _ _ _ kR kR];have hf:=ab2;generalize (prog.fieldsOf 277).toList=fs at hf;obtain⟨f0,f1,f2,f3,rfl⟩:∃f0 f1 f2 f3,fs=[f0,f1,f2,f3]:=by
  have hl:=aJ List.length hf;match fs,hl with
  | [a,b,c,d],_=>exact⟨a,b,c,d,rfl⟩
 simp only[jY,yZ,sJ,AR,eV,sG] at hf;obtain⟨⟨a0,b0,c0⟩,⟨a1,b1,c1⟩,⟨a2,b2,c2⟩,⟨a3,b3,c3⟩⟩:=hf;obtain⟨g1,n1,l1,t1⟩:=p;obtain⟨g2,n2,l2,t2⟩:=q;have hq (n m:Nat):((n:Int) == (m:Int))=decide (n=m):=by
  by_cases h:n=m
  ·simp[h]
  ·rw[gN h,eV];omega
 have e1 (x y:Int) (W:World):(Op.equalIn 9999 112 (ω x) (ω y)).run prog W=.ok (x == y) W:=NI W 9998 112 .u64 .u64 x y underlying112;have e2 (x y:Int) (W:World):(Op.equalIn 9999 3 (ι x) (ι y)).run prog W=.ok (x == y) W:=NI W 9998 3 .i64 .i64 x y underlying3;have e3 (x y:ByteArray) (W:World):(Op.equalIn 9999 9 (.string x) (.string y)).run prog W=.ok (x.toList == y.toList) W:=aa0 W 9998 9 x y underlying9;have q1 (k:Nat) (xs:Array Value) (v:Value) (W:World) (h:xs[k]? = some v):(part 112 xs k).run prog W=.ok v W:=Dq (w:=W) kR h;have q2 (k:Nat) (xs:Array Value) (v:Value) (W:World) (h:xs[k]? = some v):(part 3 xs k).run prog W=.ok v W:=Dq (w:=W) kR h;have q3 (k:Nat) (xs:Array Value) (v:Value) (W:World) (h:xs[k]? = some v):(part 9 xs k).run prog W=.ok v W:=Dq (w:=W) kR h;simp only[Op.eqFields,a0,a1,a2,a3,b0,b1,b2,b3,c0,c1,c2,c3,qK,ne_eq,Fv,vI];rw[q1 0 _ (ω g1) _ rfl,fN,q1 0 _ (ω g2) _ rfl,fN,e1,fN,hq]
 by_cases h0:g1=g2
 ·rw[fe h0]
  simp only[vK,oG,lK,qK];rw[q2 1 _ (ι n1) _ rfl,fN,q2 1 _ (ι n2) _ rfl,fN,e2,fN,hq];by_cases h1:n1=n2
  ·rw[fe h1]
   simp only[vK,oG,lK,qK];rw[q2 2 _ (ι l1) _ rfl,fN,q2 2 _ (ι l2) _ rfl,fN,e2,fN,hq];by_cases h2:l1=l2
   ·rw[fe h2]
    simp only[vK,oG,lK,qK];rw[q3 3 _ (.string (str t1)) _ rfl,fN,q3 3 _ (.string (str t2)) _ rfl,fN,e3,fN,KX];by_cases h3:t1=t2<;>simp[h0,h1,h2,h3]
   ·simp[h2]
  ·simp[h1]
 ·simp[h0]
theorem KJ (p:Pt):(#[Value.int .u64 (p.gen:Int),ι (p.number:Int),ι (p.all:Int),.string (str p.text)]).all (·.oneCell')=true:=by simp[Value.oneCell']
theorem UH {n:Nat} {w w':World} (h:Below n w w'):Below n w w'.drew:=h.trans (Below.drew (nX _ _))
theorem Gd (t:ByteArray) (n:Int):(#[Value.string t,ω n]).all (·.oneCell')=true:=by simp[Value.oneCell']
theorem Zb {P:Prop} (h:P:=by
 go_enter func119,ntmps119
 go_wp2
 exact cy (jx rfl _ _ w.heap.size _ _ _ _ rfl ((η.new w _ _).alloc _) underlying207 rfl rfl) rfl ⟨rfl,((nX _ w).alloc (bQ _) _).alloc sM _⟩):P:=h
theorem QH {P:Prop} (h:P:=by
 exact hb.trans ⟨az.os,az.tape,az.output,az.size,fun b dO=>az.block b (nT dO hb.size) oM⟩):P:=h
theorem Zc {P:Prop} (h:P:=by
 intro j hj;have gE:=HOw.out.lt (k:=g) (by simp[Value.ownBlock]);rw[← HC.out k j nN hj,EN.cell (p:=⟨g,k*4+j,none⟩) (nT gE H2.out.2.1.size),H2.out.2.1.cell (p:=⟨g,k*4+j,none⟩) gE]):P:=h
theorem ahL (v:Value) (l:List Pt) (w:World) (hO:Own w 277 4 v l.length (oR l)) (hl:l.length≤1000) (ht:∀p ∈ l,p.text.length≤48) (ha:∀p ∈ l,p.all<256) :
 ς 119 #[v] w fun e w'=>e=ώ (.agg #[.string (str (dI l).1),ω ((dI l).2:Int)])∧Below w.heap.size w w':=by
 by_cases hn:l.length=0
 ·obtain⟨A,c,hv,_⟩:=hO.shape
  have hl0:l=[]:=JV.1 hn;subst hl0;simp only[yY] at hv;subst hv;clear hO hn;have hr:dI []=([],0):=rfl;rw[hr];exact Zb
 ·obtain⟨g, cap,rfl,_,_⟩:=hO.head oM
  have h0:0<l.length:=oM;have R6:=(hO.alloc (.cells #[.string ⟨#[]⟩,ω 0] 207)).alloc (.cells #[.string ⟨#[]⟩,ω 0] 207);have hcell:∀(i j:Nat) (hi:i<l.length) (hj:j<4),((w.alloc (.cells #[.string ⟨#[]⟩,ω 0] 207)).alloc (.cells #[.string ⟨#[]⟩,ω 0] 207)).cell? ⟨g,i*4+j,none⟩=(Pt.cells l[i])[j]? := by
   intro i j hi hj;rw[R6.cellAt (i*4+j) oM,Oh l i hi j hj]
  have tN:=hcell 0 0 h0 oM;have ha0:=hcell 0 2 h0 oM;simp only[Nat.zero_mul,kU,Pt.cells,oH,pP] at tN ha0;have ajc:(0:Int)<(l.length:Int):=oM;have Y6:((l.length:Int) == 0)=false:=by rw[eV];omega
  have HC:=δ hcell;have HOw:=δ R6;clear hcell R6 hO;by_cases hz:l[0].gen=0
  ·have hr:dI l=([],0):=by
    have e:uk l=l[0].gen:=by cases l with | nil=>simp at h0 | cons p l=>rfl
    simp[dI,e,hz]
   rw[hr];rw[hz] at tN;exact Zb
  ·have hz' : ((l[0].gen:Int) == 0)=false:=by rw[eV];omega
   go_enter func119,ntmps119
   go_wp2
   have kP:η ((w.alloc (.cells #[.string ⟨#[]⟩,ω 0] 207)).alloc (.cells #[.string ⟨#[]⟩,ω 0] 207)) (w.heap.size+1) 207 #[.string ⟨#[]⟩,ω 0]:=by
    have h:=η.new (w.alloc (.cells #[.string ⟨#[]⟩,ω 0] 207)) 207 #[.string ⟨#[]⟩,ω 0];simpa using h
   have jE:η ((w.alloc (.cells #[.string ⟨#[]⟩,ω 0] 207)).alloc (.cells #[.string ⟨#[]⟩,ω 0] 207)) w.heap.size 207 #[.string ⟨#[]⟩,ω 0]:=(η.new w _ _).alloc _;have Ab:Below w.heap.size w ((w.alloc (.cells #[.string ⟨#[]⟩,ω 0] 207)).alloc (.cells #[.string ⟨#[]⟩,ω 0] 207)):=((nX _ w).alloc (bQ _) _).alloc sM _;have IL:((w.alloc (.cells #[.string ⟨#[]⟩,ω 0] 207)).alloc (.cells #[.string ⟨#[]⟩,ω 0] 207)).heap.size=w.heap.size+2:=by simp
   have HB:=aD jE kP Ab IL;clear jE kP Ab IL;clear tN ha0;generalize ((w.alloc (.cells #[.string ⟨#[]⟩,ω 0] 207)).alloc (.cells #[.string ⟨#[]⟩,ω 0] 207))=W at *;have hmn:min (l[0].all:Int) (l.length:Int)=((min l[0].all l.length:Nat):Int):=oM;have HT:=δ (abe l);have HL:Hid (∀k,k≤l.length→(kg (l.take k)).length≤48*k):=by
    intro k hk;have h:=adJ (l.take k) fun p hp=>ht p (JW hp)
    rw[fF,vM hk] at h;exact h
   have hmr:=Nat.min_le_right l[0].all l.length;go_loopw [4,27] (fun t i wr=>∃k:Nat,k≤min l[0].all l.length∧t=.string (str (kg (l.take k)))∧i=ι k∧wr=W) (fun _ i _=>min l[0].all l.length - (intOf i).toNat)
   case atStart=>exact⟨0,oM,rfl,rfl,rfl⟩
   case round =>
    obtain⟨k,hk,rfl,rfl,rfl⟩:=hrel;by_cases hlt:k<min l[0].all l.length
    ·have nN:k<l.length:=oM
     have hc:=HC.out k 3 nN oM;simp only[Pt.cells,oH,pP] at hc;have hs:=δ (HL.out k oM);have hsk:=HL.out k oM;have dn:=ht l[k] (eM _);have bG:(str (kg (l.take k))).size≤48*k:=by rw[bf];exact hsk
     have aT:(str l[k].text).size≤48:=by rw[bf];exact dn
     have QG:=ze (kg (l.take k)) l[k].text;clear hsk dn;go_wp2
     go_roundw
     case rel=>exact⟨k+1,oM,by rw[HT.out k nN],by go_num,trivial⟩
     case measure=>simp[intOf];omega
    ·obtain rfl : k=min l[0].all l.length:=oM
     have htl:l.take (min l[0].all l.length)=l.take (qm l):=by
      have e:qm l=l[0].all:=by cases l with | nil=>simp at h0 | cons p l=>rfl
      rw[e];by_cases h:l[0].all≤l.length
      ·rw[vM h]
      ·rw[Nat.min_eq_right oM,dH (bQ _),dH oM]
     have hfg:uk l=l[0].gen:=by cases l with | nil=>simp at h0 | cons p l=>rfl
     have gJ:(kg (l.take (qm l))).length≤48*l.length:=by
      rw[← htl];have h:=HL.out (min l[0].all l.length) hmr;omega
     rw[htl];have HH:Hid (dI l=if 400<(kg (l.take (qm l))).length then ([],0) else
      if aX (kg (l.take (qm l))) (uk l)=l.take (aO (kg (l.take (qm l))).length) then (kg (l.take (qm l)),uk l) else ([],0)):=by
      show _=_;rw[dI,ν (by rw[hfg];exact hz)]
     generalize kg (l.take (qm l))=T at HH gJ ⊢;have tM:(str T).size=T.length:=bf T;by_cases h4:400<T.length
     ·have Cx:(400:Int)<(str T).size:=oM
      go_wp2_with (first|(refine kW rfl _ _ rfl (w.heap.size+1) rfl _ _ _ HB.out.2.1 underlying207 rfl rfl ?_)|(refine ef 207 w.heap.size #[.string ⟨#[]⟩,ω 0] HB.out.1 (Gd _ _) ?_;intro w2 aB π bV));refine cy (jx rfl _ _ w.heap.size _ _ _ _ rfl aB underlying207 rfl rfl) rfl ⟨?_,HB.out.2.2.1.trans ⟨π.os,π.tape,π.output,π.size,fun b hb=>π.block b (nT hb HB.out.2.2.1.size) oM⟩⟩;rw[HH.out,σ h4];rfl
     ·have Cx : ¬(400:Int)<(str T).size:=oM
      rw[ν h4] at HH;have zB:Hid (∀W,ς 173 #[.string (str T),ω (l[0].gen:Int)] W fun e w'=>∃v,e=ώ v∧Own w' 277 4 v (aO T.length) (oR (aX T l[0].gen))∧Below W.heap.size W w'∧(∀q,v.ownBlock=some q→W.heap.size≤q)):=by
       intro W;have h:=XV (str T) l[0].gen W oM;rw[tM] at h;have e:(str T).data.toList=T:=by simp[str]
       rw[e] at h;exact h
      have tN:=HC.out 0 0 h0 oM;simp only[Nat.zero_mul,kU,Pt.cells,oH] at tN;have LR:=HB.out.2.2.2;have hA:aO T.length≤9:=by unfold aO;omega
      have hA':1≤aO T.length:=by unfold aO;omega
      by_cases h5:l.length<aO T.length
      ·have R7:(l.length:Int)<(aO T.length:Int):=oM
       go_wp2_with (first
        |(go_at_call 173
          refine(zB.out _).mono ?_;rintro e w2 ⟨v2,rfl,bH,bn,hl2⟩;obtain⟨g2,eY,rfl,hx1,hx2⟩:=bH.head oM;have jE:=HB.out.1.cU (bn.block _ oM);have kP:=HB.out.2.1.cU (bn.block _ oM);have H2:=cx bH bn hl2 jE kP;clear bH bn hl2 jE kP)
        |(refine kW rfl _ _ rfl (w.heap.size+1) rfl _ _ _ H2.out.2.2.2.2 underlying207 rfl rfl ?_)
        |(refine ef 207 w.heap.size #[.string ⟨#[]⟩,ω 0] H2.out.2.2.2.1 (Gd _ _) ?_
          intro w3 aA χ eU))
       refine cy (jx rfl _ _ w.heap.size _ _ _ _ rfl aA underlying207 rfl rfl) rfl ⟨?_,?_⟩
       ·rw[HH.out,ν]
        ·rfl
        ·intro h
         have h:=aJ List.length h;rw[oJ,fF] at h;omega
       ·have bn:=H2.out.2.1
        rw[LR] at bn;have hb:=HB.out.2.2.1.trans (bn.mono oM);exact hb.trans ⟨χ.os,χ.tape,χ.output,χ.size,fun b dO=>χ.block b (nT dO hb.size) oM⟩
      ·have R7 : ¬(l.length:Int)<(aO T.length:Int):=oM
       go_wp2_with (first
        |(go_at_call 173
          refine(zB.out _).mono ?_;rintro e w2 ⟨v2,rfl,bH,bn,hl2⟩;obtain⟨g2,eY,rfl,hx1,hx2⟩:=bH.head oM;have jE:=HB.out.1.cU (bn.block _ oM);have kP:=HB.out.2.1.cU (bn.block _ oM);have H2:=cx bH bn hl2 jE kP;clear bH bn hl2 jE kP))
       have Ac:=oJ T l[0].gen;generalize hCd:aX T l[0].gen=C at *;go_loopw [56] (fun i wx=>∃k:Nat,k≤aO T.length∧i=ι k∧Below w2.heap.size w2 wx∧C.take k=l.take k) (fun i _=>aO T.length - (intOf i).toNat)
       case atStart=>exact⟨0,oM,rfl,nX _ _,rfl⟩
       case round =>
        obtain⟨k,hk2,rfl,mS,heq⟩:=hrel;by_cases oV:k<aO T.length
        ·have nN:k<l.length:=oM
         have MH:k<C.length:=oM;have hc0:∀j,j<4→wr.cell? ⟨g2,k*4+j,none⟩=(Pt.cells C[k])[j]? := by
          intro j hj;have bH:=(H2.out.1).cU (w':=wr) fun q hq=>mS.block q (H2.out.1.lt hq)
          rw[bH.cellAt (k*4+j) oM,Oh C k MH j hj]
         have sw:=hc0 0 oM;have oy:=hc0 1 oM;have mQ:=hc0 2 oM;have pF:=hc0 3 oM;simp only[rM,Pt.cells,oH,pP] at sw oy mQ pF;clear hc0;have hbW:=LR;have HX:=aj mS heq MH;clear mS heq;have uV:=afd l[k] C[k];simp only[Pt.val] at uV;by_cases hpq:l[k]=C[k]
         ·rw[fe hpq] at uV
          simp only[vK] at uV;go_wp2_with (first
           |(refine ef 277 wr.heap.size #[ω C[k].gen,ι C[k].number,ι C[k].all,.string (str C[k].text)] (η.new wr 277 #[ω 0,ι 0,ι 0,.string ⟨#[]⟩]) (KJ _) ?_
             intro w3 aA χ eU;have rB:=aA.iI;have wV:Below wr.heap.size wr w3:=⟨χ.os,χ.tape,χ.output,by simp at eU;omega,fun q hq=>(χ.block q (by simp;omega) oM).trans (qJ wr _ q hq)⟩;have EN:Below w2.heap.size w2 w3:=HX.out.1.trans (wV.mono HX.out.1.size);have MI:=HB.out.2.2.1.size;have jr:∀j,j<4→w3.cell? ⟨g,k*4+j,none⟩=(Pt.cells l[k])[j]? := by
              exact Zc
             have R8:=jr 0 oM;have hp1:=jr 1 oM;have hp2:=jr 2 oM;have R9:=jr 3 oM;simp only[rM,Pt.cells,oH,pP] at R8 hp1 hp2 R9;have H3:=τ EN aA;clear jr EN MI wV χ eU aA sw oy mQ pF))
          go_region
          all_goals
           go_wp2
           go_roundw
           case rel =>
            refine⟨k+1,oM,by go_num,UH H3.out.1,?_⟩;rw[gX MH,gX nN,HX.out.2.1,hpq]
           case measure=>simp[intOf];omega
         ·rw[gN hpq] at uV
          simp only[Bool.not_false] at uV;go_wp2_with (first
           |(refine ef 277 wr.heap.size #[ω C[k].gen,ι C[k].number,ι C[k].all,.string (str C[k].text)] (η.new wr 277 #[ω 0,ι 0,ι 0,.string ⟨#[]⟩]) (KJ _) ?_
             intro w3 aA χ eU;have rB:=aA.iI;have wV:Below wr.heap.size wr w3:=⟨χ.os,χ.tape,χ.output,by simp at eU;omega,fun q hq=>(χ.block q (by simp;omega) oM).trans (qJ wr _ q hq)⟩;have EN:Below w2.heap.size w2 w3:=HX.out.1.trans (wV.mono HX.out.1.size);have MI:=HB.out.2.2.1.size;have jr:∀j,j<4→w3.cell? ⟨g,k*4+j,none⟩=(Pt.cells l[k])[j]? := by
              exact Zc
             have R8:=jr 0 oM;have hp1:=jr 1 oM;have hp2:=jr 2 oM;have R9:=jr 3 oM;simp only[rM,Pt.cells,oH,pP] at R8 hp1 hp2 R9;have H3:=τ EN aA;clear jr EN MI wV χ eU aA sw oy mQ pF))
          go_region
          all_goals
           have aE:η w3.drew (w.heap.size+1) 207 #[.string ⟨#[]⟩,ω 0]:=(H2.out.2.2.2.2).cU (H3.out.1.block _ H2.out.2.2.2.2.lt);have aF:η w3.drew w.heap.size 207 #[.string ⟨#[]⟩,ω 0]:=(H2.out.2.2.2.1).cU (H3.out.1.block _ H2.out.2.2.2.1.lt);have H5:=τ aE aF;clear aE aF;go_wp2_with (first
            |(refine kW rfl _ _ rfl (w.heap.size+1) rfl _ _ _ H5.out.1 underlying207 rfl rfl ?_)
            |(refine ef 207 w.heap.size #[.string ⟨#[]⟩,ω 0] H5.out.2 (Gd _ _) ?_
              intro w6 cI az wW))
           refine cy (jx rfl _ _ w.heap.size _ _ _ _ rfl cI underlying207 rfl rfl) rfl ⟨?_,?_⟩
           ·rw[HH.out,ν]
            ·rfl
            ·intro h
             apply hpq
             have hh:=aJ (fun x=>x[k]?) h;rw[hfg] at hh;simp only[hCd] at hh;rw[List.getElem?_take_of_lt oV,bD MH,bD nN] at hh;exact(dw hh).symm
           ·have bn:=H2.out.2.1
            rw[LR] at bn;have hb:=(HB.out.2.2.1.trans (bn.mono oM)).trans ((UH (H3.out.1)).mono (iE (HB.out.2.2.1.size) (H2.out.2.1.size)));exact QH
        ·obtain rfl:k=aO T.length:=oM
         have HX:=τ mS heq;clear mS heq;have IM:wr.cell? ⟨g,0,none⟩=some (ω (l[0].gen:Int)):=by
          have gE:=HOw.out.lt (k:=g) (by simp[Value.ownBlock]);have MI:=HB.out.2.2.1.size;rw[HX.out.1.cell (p:=⟨g,0,none⟩) (nT gE H2.out.2.1.size),H2.out.2.1.cell (p:=⟨g,0,none⟩) gE];exact tN
         have aF:η wr w.heap.size 207 #[.string ⟨#[]⟩,ω 0]:=(H2.out.2.2.2.1).cU (HX.out.1.block _ H2.out.2.2.2.1.lt);have H5:=δ aF;clear aF tN;go_wp2_with (first
          |(refine ef 207 w.heap.size #[.string (str T),ω l[0].gen] H5.out (Gd _ _) ?_
            intro w6 cI az wW))
         refine cy (jx rfl _ _ w.heap.size _ _ _ _ rfl cI underlying207 rfl rfl) rfl ⟨?_,?_⟩
         ·rw[HH.out,σ,hfg]
          rw[hfg,hCd,← HX.out.2,dH oM]
         ·have bn:=H2.out.2.1
          rw[LR] at bn;have hb:=(HB.out.2.2.1.trans (bn.mono oM)).trans (HX.out.1.mono (iE (HB.out.2.2.1.size) (H2.out.2.1.size)));exact QH
def kJ (b:List UInt8):Pt × Bool :=
 if 48<(b.getD 10 0).toNat then (⟨dx (b.take 8),(b.getD 8 0).toNat,(b.getD 9 0).toNat,[]⟩,false) else
 (⟨dx (b.take 8),(b.getD 8 0).toNat,(b.getD 9 0).toNat,(b.drop 12).take (b.getD 10 0).toNat⟩,
   decide (b.getD 11 0=0∧b.drop (12+(b.getD 10 0).toNat)=List.replicate (48 - (b.getD 10 0).toNat) 0))
theorem zj (s:ByteArray) (k:Nat) (hk:k<s.size):s.data.toList.getD k 0=s[k]:=by
 simp[List.getD,hk,ByteArray.getElem_eq_getElem_data]
theorem zl (b:UInt8):IntKind.i64.wrap (b.toNat:Int)=(b.toNat:Int):=bX _ (oN b.toNat_lt)
theorem adK (l:List UInt8) (m n:Nat) (hm:m=60) (hl:l.length=60) (hn:n≤48):((Lib.countByte (List.take (m - (12+n)) (List.drop (12+n) l)) 0:Int) == 48 - (n:Int))=decide (List.drop (12+n) l=List.replicate (48 - n) 0):=by
 have hd:(List.drop (12+n) l).length=48 - n:=by simp[hl];omega
 rw[dH oM];have h:=Km (List.drop (12+n) l);rw[hd] at h;by_cases hz:List.drop (12+n) l=List.replicate (48 - n) 0
 ·rw[fe hz,h.2 hz,kV];omega
 ·rw[gN hz,eV]
  intro hh;exact hz (h.1 oM)
theorem iR {P:Program} {fn:Func} {p q:Tmp} {ty:TypeId} (h:fn.results=#[.cell p ty,.tmp q]) (tmps:Array Value) (w:World) (g:Nat) (t:TypeId) (cs:Array Value) (fr:Nat × Nat) (d:TypeDesc)
 (hp:tmps.getD p undef=.pointer (some ⟨g,0,none⟩)) (hg:w.heap[g]? = some (.cells cs t fr))
 (hu:P.underlying ty=some d) (hd:(match d with | .struct _ | .array _ _=>true | _=>false)=true) (hi:(P.info? ty).map (·.size)=some cs.size) (v:Value) (hv:tmps.getD q undef=v) :
 (results fn tmps).run P w=.ok (.tuple #[.agg cs,v]) w:=by
 subst hv;have Cw:tmps[p]?.getD undef=.pointer (some ⟨g,0,none⟩):=by simpa using hp
 simp[results,h,Cw,asAddr,run_loadVar_row w g t ty cs fr d hg hu hd hi]
theorem Zd {P:Prop} (h:P:=by
 have hb:=HB.out.2.2.1;have χ:=H3.out.2.2;have h1:=hb.trans (⟨χ.os,χ.tape,χ.output,χ.size,fun b dO=>χ.block b (nT dO hb.size) oM⟩:Below w.heap.size _ w3);exact((((h1.setCell (p:=⟨w.heap.size,0,none⟩) (bQ _) _).setCell (p:=⟨w.heap.size,1,none⟩) (bQ _) _).setCell (p:=⟨w.heap.size,2,none⟩) (bQ _) _).setCell (p:=⟨w.heap.size,3,none⟩) (bQ _) _).drew):P:=h
theorem ahM (s:ByteArray) (w:World) (hs:s.size=60) :
 ς 172 #[.string s] w fun e w'=>e=ώ (.tuple #[(kJ s.data.toList).1.val,.bool (kJ s.data.toList).2])∧Below w.heap.size w w':=by
 have h8:(8:Int)<s.size:=oM;have h9:(9:Int)<s.size:=oM;have h10:(10:Int)<s.size:=oM;have h11:(11:Int)<s.size:=oM;have g8:8<s.size:=oM;have g9:9<s.size:=oM;have g10:10<s.size:=oM;have g11:11<s.size:=oM;have e8:=δ (zj s 8 g8);have e9:=δ (zj s 9 g9);have e10:=δ (zj s 10 g10);have e11:=δ (zj s 11 g11);have hg:=δ (fun W=>abn s 8 W oM oM);go_enter func172,ntmps172
 go_upto_region 1 with fail
 go_cut [4] (fun s4 wx=>s4=.pointer (some ⟨w.heap.size+1,0,none⟩)∧η wx w.heap.size 277 #[ω 0,ι 0,ι 0,.string ⟨#[]⟩]∧η wx (w.heap.size+1) 277 #[ω (dx (s.data.toList.take 8):Int),ι ((s.data.toList.getD 8 0).toNat:Int),ι ((s.data.toList.getD 9 0).toNat:Int),.string ⟨#[]⟩]∧Below w.heap.size w wx∧wx.heap.size=w.heap.size+2)
 case first =>
  go_region_held3 (fun _=>True) (trivial) (first|(go_at_call 216;refine(hg.out _).mono ?_;rintro e w2 ⟨rfl,rfl⟩));all_goals
   go_wp2_with fail
   go_meet
   rw[zl,zl,← e8.out,← e9.out];refine⟨rfl,?_,?_,?_,?_⟩
   ·exact(η.new w _ _).alloc _
   ·have h:=η.new (w.alloc (.cells #[ω 0,ι 0,ι 0,.string ⟨#[]⟩] 277)) 277 #[ω (dx (s.data.toList.take 8):Int),ι ((s.data.toList.getD 8 0).toNat:Int),ι ((s.data.toList.getD 9 0).toNat:Int),.string ⟨#[]⟩]
    have h2:=h.drew;simpa using h2
   ·exact(((nX _ w).alloc (bQ _) _).alloc sM _).drew
   ·simp
 case rest =>
  obtain⟨rfl,jE,kP,Ab,hsz⟩:=hcut;have hcb:=kP.iI;have HB:=aD jE kP Ab hsz;clear jE kP Ab hsz;by_cases h48:48<(s.data.toList.getD 10 0).toNat
  ·have GS:(48:Int)<(s[10].toNat:Int):=by rw[← e10.out];omega
   have hwr:IntKind.i64.wrap (s[10].toNat:Int)=(s[10].toNat:Int):=zl _;have hr:kJ s.data.toList=(⟨dx (s.data.toList.take 8),(s.data.toList.getD 8 0).toNat,(s.data.toList.getD 9 0).toNat,[]⟩,false):=by unfold kJ;rw[σ h48]
   have HR:=δ hr;clear hcb hr;go_wp2_with (first
    |(refine kW rfl _ _ rfl (w.heap.size+1) rfl _ _ _ HB.out.2.1 underlying277 rfl rfl ?_)
    |(refine ef 277 w.heap.size #[ω (dx (s.data.toList.take 8):Int),ι ((s.data.toList.getD 8 0).toNat:Int),ι ((s.data.toList.getD 9 0).toNat:Int),.string ⟨#[]⟩] HB.out.1 (by simp[Value.oneCell']) ?_
      intro w6 cI az wW))
   have IP:=HR.out;generalize kJ s.data.toList=rr at IP;subst IP;refine cy (iR rfl _ _ w.heap.size _ _ _ _ rfl cI underlying277 rfl rfl (.bool false) rfl) rfl ⟨rfl,?_⟩;have hb:=HB.out.2.2.1;exact QH
  ·have GS:¬(48:Int)<(s[10].toNat:Int):=by rw[← e10.out];omega
   have hwr:IntKind.i64.wrap (s[10].toNat:Int)=(s[10].toNat:Int):=zl _;have hr:kJ s.data.toList=(⟨dx (s.data.toList.take 8),(s.data.toList.getD 8 0).toNat,(s.data.toList.getD 9 0).toNat,(s.data.toList.drop 12).take (s.data.toList.getD 10 0).toNat⟩,decide (s.data.toList.getD 11 0=0∧s.data.toList.drop (12+(s.data.toList.getD 10 0).toNat)=List.replicate (48 - (s.data.toList.getD 10 0).toNat) 0)):=by unfold kJ;rw[ν h48]
   have HR:=δ hr;clear hcb hr;by_cases h0:s[11]=0
   ·have h0':((s[11].toNat:Int) == 0)=true:=by rw[h0];rfl
    go_wp2_with (first
     |(refine gw rfl 9 _ _ rfl (w.heap.size+1) 3 (.string (s.extract 12 (12+s[10].toNat))) rfl rfl _ _ HB.out.2.1 sM rfl kR ?_
       intro w3 aA χ eU))
    simp only[jy,vO,vN] at aA;have rB:=aA.iI;have jE:η w3 w.heap.size 277 #[ω 0,ι 0,ι 0,.string ⟨#[]⟩]:=HB.out.1.ε χ oM;have H3:=aj aA jE χ;have HK:=δ (fun W=>strings_Count_one (s.extract (12+s[10].toNat) s.size) 0 W);have G1:=e10.out;generalize s[10]=b10 at *;have Mn:b10.toNat≤48:=oM;generalize hn:b10.toNat=n at *;have hle:(12:Int)+(n:Int)≤(s.size:Int):=oM;have hsub:IntKind.i64.wrap (48 - (n:Int))=48 - (n:Int):=bX _ oM;have iY:IntKind.i64.wrap (12+(n:Int))=12+(n:Int):=bX _ oM;have hnn:(0:Int)≤12+(n:Int):=oM;have Hs:=aj hs hn G1;clear hs hn G1 e10;have hca:=jE.iI;have bN:=jE.frozen 0;have bG:=jE.frozen 1;have aT:=jE.frozen 2;have fK:=jE.frozen 3;clear aA jE χ eU;go_region_held3 (fun w'=>w'.cell? ⟨w.heap.size+1,0,none⟩=some (ω (dx (s.data.toList.take 8):Int))∧w'.cell? ⟨w.heap.size+1,1,none⟩=some (ι ((s.data.toList.getD 8 0).toNat:Int))∧w'.cell? ⟨w.heap.size+1,2,none⟩=some (ι ((s.data.toList.getD 9 0).toNat:Int))∧w'.cell? ⟨w.heap.size+1,3,none⟩=some (.string (s.extract 12 (12+n)))) (go_keep) (first|(go_at_call 90;refine(HK.out _).mono ?_;rintro e w' ⟨rfl,rfl⟩))
    all_goals
     go_wp2
     have uZ:=((((H3.out.2.1.bE 0 (ω (dx (s.data.toList.take 8):Int))).bE 1 (ι (s[8].toNat:Int))).bE 2 (ι (s[9].toNat:Int))).bE 3 (.string (s.extract 12 (12+n)))).drew;simp only[jy,vO,vN] at uZ;refine cy (iR rfl _ _ w.heap.size _ _ _ _ rfl uZ underlying277 rfl rfl (.bool ((Lib.countByte (List.take (s.size - (12+n)) (List.drop (12+n) s.data.toList)) 0:Int) == 48 - (n:Int))) rfl) rfl ⟨?_,?_⟩
     ·rw[HR.out,Hs.out.2.2,Hs.out.2.1]
      simp only[Pt.val];rw[e8.out,e9.out,e11.out,sN,ug];rw[adK _ _ _ Hs.out.1 (by simp[Hs.out.1]) Mn];simp[h0]
     ·exact Zd
   ·have h0':((s[11].toNat:Int) == 0)=false:=by
     rw[eV];intro h;exact h0 (ud.1 (by have:(0:UInt8).toNat=0:=rfl;omega))
    go_wp2_with (first
     |(refine gw rfl 9 _ _ rfl (w.heap.size+1) 3 (.string (s.extract 12 (12+s[10].toNat))) rfl rfl _ _ HB.out.2.1 sM rfl kR ?_
       intro w3 aA χ eU))
    simp only[jy,vO,vN] at aA;have rB:=aA.iI;have jE:η w3 w.heap.size 277 #[ω 0,ι 0,ι 0,.string ⟨#[]⟩]:=HB.out.1.ε χ oM;have H3:=aj aA jE χ;have HK:=δ (fun W=>strings_Count_one (s.extract (12+s[10].toNat) s.size) 0 W);have G1:=e10.out;generalize s[10]=b10 at *;have Mn:b10.toNat≤48:=oM;generalize hn:b10.toNat=n at *;have hle:(12:Int)+(n:Int)≤(s.size:Int):=oM;have hsub:IntKind.i64.wrap (48 - (n:Int))=48 - (n:Int):=bX _ oM;have iY:IntKind.i64.wrap (12+(n:Int))=12+(n:Int):=bX _ oM;have hnn:(0:Int)≤12+(n:Int):=oM;have Hs:=aj hs hn G1;clear hs hn G1 e10;have hca:=jE.iI;have bN:=jE.frozen 0;have bG:=jE.frozen 1;have aT:=jE.frozen 2;have fK:=jE.frozen 3;clear aA jE χ eU;refine dB ?_;refine Ui (S:=(fun w'=>w'.cell? ⟨w.heap.size+1,0,none⟩=some (ω (dx (s.data.toList.take 8):Int))∧w'.cell? ⟨w.heap.size+1,1,none⟩=some (ι ((s.data.toList.getD 8 0).toNat:Int))∧w'.cell? ⟨w.heap.size+1,2,none⟩=some (ι ((s.data.toList.getD 9 0).toNat:Int))∧w'.cell? ⟨w.heap.size+1,3,none⟩=some (.string (s.extract 12 (12+n))))) kR ?_ (fun hHeld=>?_)
    ·go_keep
    refine fC 0 (.agg #[ω (dx (s.data.toList.take 8):Int),ι ((s.data.toList.getD 8 0).toNat:Int),ι ((s.data.toList.getD 9 0).toNat:Int),.string (s.extract 12 (12+n))]) ?_;refine fC 1 (.string s) ?_;refine fC 2 (ϋ (s[11].toNat:Int)) ?_;refine fC 3 (.bool false) ?_;refine fC 4 (.bool false) ?_;refine pY 5 ?_;refine pY 6 ?_;refine pY 7 ?_;refine pY 8 ?_;refine pY 9 ?_;refine pY 10 ?_;refine pY 11 ?_;refine pY 12 ?_;refine fC 13 (.bool false) ?_;refine NJ (rs:=[14]) kR sM ?_;refine NK rfl (fun K hK=>?_) NL;go_simp
    refine hK.out _ _ ?_ (fun PM=>?_)
    ·go_keep
    clear hK K;refine fC 15 (.bool false) ?_;refine wpAnyH_done kR ?_ _;refine cZ ?_;all_goals
     go_wp2
     have uZ:=((((H3.out.2.1.bE 0 (ω (dx (s.data.toList.take 8):Int))).bE 1 (ι (s[8].toNat:Int))).bE 2 (ι (s[9].toNat:Int))).bE 3 (.string (s.extract 12 (12+n)))).drew;simp only[jy,vO,vN] at uZ;refine cy (iR rfl _ _ w.heap.size _ _ _ _ rfl uZ underlying277 rfl rfl (.bool false) rfl) rfl ⟨?_,?_⟩
     ·rw[HR.out,Hs.out.2.2,Hs.out.2.1]
      simp only[Pt.val];rw[e8.out,e9.out,e11.out,sN,ug];simp[h0]
     ·exact Zd
structure Kp where
 from_:Nat
 text:List UInt8
 gen:Nat
 at_:Nat
 seen:Nat
 broken:Bool
def Kp.cells (p:Nat) (k:Kp):Array Value :=
 #[.pointer (some ⟨p,0,none⟩),ι k.from_,.string (str k.text),ω k.gen,ι k.at_,ω k.seen,.bool k.broken]
structure vV where
 l:List Pt
 row:Bool
 seen:Nat
 bad:Bool
def xD (st:vV) (s:List UInt8):vV :=
 if st.bad then st else
 if (cz s).2=2 then { st with bad:=true } else
 if (cz s).2=1 then
  { l:=if st.row && (kJ (cz s).1).2 then st.l++[(kJ (cz s).1).1] else st.l,row:=st.row && (kJ (cz s).1).2,seen:=max st.seen (kJ (cz s).1).1.gen,bad:=false }
 else { st with row:=false }
def eW (d:Dk) (at_ seen:Nat) (k:Nat):vV:=((List.range k).map fun i=>(d.now (at_+i)).data.toList).foldl xD ⟨[],true,seen,false⟩
theorem FM (d:Dk) (a seen k:Nat):eW d a seen (k+1)=xD (eW d a seen k) (d.now (a+k)).data.toList:=by
 simp[eW,List.range_succ]
theorem acL (d:Dk) (a seen k m:Nat) (h:k≤m) (hb:(eW d a seen k).bad=true):eW d a seen m=eW d a seen k:=by
 induction m with
 | zero => obtain rfl:k=0:=oM
           rfl
 | succ m ih =>
   by_cases hk:k=m+1
   ·rw[hk]
   ·rw[FM,ih oM,xD,σ hb]
theorem U1 (d:Dk) (a seen k:Nat):(eW d a seen k).l.length≤k:=by
 induction k with
 | zero=>simp[eW]
 | succ k ih =>
   rw[FM,xD];split
   ·omega
   ·split
    ·simp only;omega
    ·split
     ·simp only
      split
      ·simp;omega
      ·omega
     ·simp only;omega
theorem U3 {l:List UInt8} (h:(cz l).2=1):(cz l).1=l.take 60∧l.length=64:=by
 unfold cz at h ⊢;split at h
 ·simp at h
 ·split at h
  ·simp at h
  ·split at h
   ·simp at h
   ·rename_i h1 h2 h3
    rw[ν h1,ν h2,ν h3];exact⟨rfl,by simpa using h1⟩
theorem bI.not_mem {w:World} {p b:Nat} {d:Dk} {F:List Nat} {t:TypeId} {cs:Array Value} (h:bI w p d F) (hB:η w b t cs) (h1:t≠151) (h2:t≠9):b ∉ F:=by
 obtain⟨bl,cap,bm,m,g1,g2,g3,g4,g5,rfl,g7⟩:=h;intro hb;simp only[cn,nY] at hb;rcases hb with rfl | rfl | rfl | ⟨q,hq,hk⟩
 ·exact hB.zP g1 h1 rfl
 ·exact g2.fO hB (mC h2) (by simp[Value.ownBlock])
 ·exact g3.fO hB rfl
 ·obtain⟨i,_,_,_,h8⟩:=g4.each q hq
  exact h8.fO hB (mC h2) hk
theorem Dk.U5 {d:Dk} (hoff:d.off=false) {i:Nat} (hi:i<d.af.length):d.read (i:Int)=(d.now i,0):=by
 unfold Dk.read Dk.there;rw[hoff,ν sM,σ (by simp;omega)];simp
theorem agH {w:World} {p:Nat} {d:Dk} {F:List Nat} (hD:bI w p d F) (i:Int) :
 ς 46 #[.pointer (some ⟨p,0,none⟩),ι i] w.drew fun e w'=>e=ώ (.tuple #[.string (d.read i).1,ι (d.read i).2])∧w.drew=w':=K8 hD.drew i
theorem Dk.wf.O9 {d:Dk} (h:d.wf) {i:Nat} (hi:i<d.af.length):(d.now i).size=64:=by
 unfold Dk.now;cases hl:(d.at_ i).getLast? with
 | none =>
   simp only[Option.getD_none];unfold Dk.last;rw[bJ,bD hi];exact h.af _ (eM _)
 | some b =>
   simp only[J1];have hb:=List.mem_of_getLast? hl;unfold Dk.at_ at hb;have hw:i<d.waits.length:=by rw[h.len];exact hi
   rw[bJ,bD hw] at hb;exact h.waits _ (eM _) _ hb
theorem UI (l:List UInt8):(cz l).2=0∨(cz l).2=1∨(cz l).2=2:=by
 unfold cz;split
 ·simp
 ·split
  ·simp
  ·split<;>simp
structure pR (w w':World) (b p:Nat) (k:Kp) (v:Value) (st:vV):Prop where
 list:Own w' 277 4 v st.l.length (oR st.l)
 new:∀q,v.ownBlock=some q→w.heap.size≤q
 kept:η w' b 209 ({ k with seen:=st.seen }.cells p)
 ε:ζ (· = b) w w'
theorem pR.below {w w1 w2:World} {b p:Nat} {k:Kp} {v:Value} {st:vV} (h:pR w w1 b p k v st) (hb:Below w1.heap.size w1 w2):pR w w2 b p k v st :=
 ⟨h.list.cU fun q hq=>hb.block q (h.list.lt hq),h.new,h.kept.cU (hb.block _ h.kept.lt),h.ε.then (ζ.oI hb (fun _=>False)) φ⟩
theorem pR.drew {w w1:World} {b p:Nat} {k:Kp} {v:Value} {st:vV} (h:pR w w1 b p k v st):pR w w1.drew b p k v st:=h.below (nX _ _).drew
theorem pR.R_ {w w1:World} {b p:Nat} {k:Kp} {v:Value} {st:vV} (h:pR w w1 b p k v st) (m:Nat):pR w (w1.setCell ⟨b,5,none⟩ (ω (m:Int))) b p k v { st with seen:=m } := by
 refine⟨h.list.bP (h.list.fO h.kept dC) _,h.new,?_,h.ε.setCell (p:=⟨b,5,none⟩) (.inl rfl) _⟩;have:=h.kept.bE 5 (ω (m:Int));simpa [Kp.cells] using this
theorem pR.app {w w1 w2:World} {b p:Nat} {k:Kp} {v v2:Value} {st:vV} {pt:Pt} (h:pR w w1 b p k v st) (o:Obj) (bH:Own w2 277 4 v2 (st.l.length+1) (oR st.l++Pt.cells pt)) (π:ζ (fun q=>v.ownBlock=some q) (w1.alloc o) w2)
 (hl2:v2.ownBlock=v.ownBlock∨v2.ownBlock=some (w1.alloc o).heap.size):pR w w2 b p k v2 { st with l:=st.l++[pt] } := by
 refine⟨?_,fun q hq=>?_,(h.kept.alloc o).ε π (fun e=>h.list.fO h.kept dC e),(h.ε.alloc o).then π (fun q e=>.inr (h.new q e))⟩
 ·simpa [oR] using bH
 ·rcases hl2 with e | e
  ·exact h.new q (by rw[← e];exact hq)
  ·rw[e] at hq
   have h5:=dw hq;have:=h.ε.size;simp at h5
   omega
def DP (st:vV):Int:=if st.bad then 9 else 0
structure agI (w w':World) (b p:Nat) (k:Kp) (v:Value) (st:vV):Prop where
 ex:∃vl,(st.bad=false→v=vl)∧pR w w' b p k vl st
theorem Ze {P:Prop} (h:P:=by
 have HS:=δ pG;clear pG yu;go_wp2
 go_roundw
 case rel =>
  refine⟨j+1,oM,by go_num,?_,?_,?_⟩;all_goals rw[HS.out]
  have h:=u7.out;exact⟨h.list,h.new,h.kept,h.ε⟩
 case measure=>simp[intOf];omega):P:=h
theorem adL {w:World} {p b:Nat} {d:Dk} {F:List Nat} {k:Kp} (hD:bI w p d F) (hK:η w b 209 (k.cells p)) (n:Nat) (hn:n≤1) (hf:k.from_+20≤d.af.length) (hoff:d.off=false) :
 ς 118 #[.pointer (some ⟨b,0,none⟩),ι n] w fun e w' =>
  ∃v,e=ώ (.tuple #[v,ι (DP (eW d (k.from_+n*10) k.seen 10))])∧agI w w' b p k v (eW d (k.from_+n*10) k.seen 10):=by
 have hm:=hD.wf.most;obtain⟨i0,bx,bN,bG,aT⟩:=je Wd;have HD:=aD hD hK hf hoff;have hF:k.from_≤4096:=oM;have G2:(eW d (k.from_+n*10) k.seen 0)=⟨[],true,k.seen,false⟩:=rfl;have HZ:=δ G2;clear hD hK hf hoff hm G2;go_enter func118,ntmps118
 go_wp2
 go_loopw [6,7,15] (fun v r i wr=>∃j:Nat,j≤10∧i=ι j∧(eW d (k.from_+n*10) k.seen j).bad=false∧r=.bool (eW d (k.from_+n*10) k.seen j).row∧pR w wr b p k v (eW d (k.from_+n*10) k.seen j)) (fun _ _ i _=>10 - (intOf i).toNat)
 case atStart =>
  refine⟨0,oM,rfl,rfl,rfl,?_⟩;rw[HZ.out];exact⟨Own.nil _ _ _,by simp[Value.ownBlock],HD.out.2.1,ζ.refl _ _⟩
 case round =>
  obtain⟨j,hj,rfl,jl,rfl,hL⟩:=hrel;by_cases hlt:j<10
  ·have jU:bI wr p d F:=HD.out.1.ε hL.ε fun q hq e=>HD.out.1.not_mem HD.out.2.1 dC dC (e ▸ hq)
   have hrd:=Dk.U5 HD.out.2.2.2 (i:=k.from_+n*10+j) (oN HD.out.2.2.1);have HR:=δ hrd;have D6:(d.read ((k.from_:Int)+(n:Int)*10+(j:Int)))=(d.now (k.from_+n*10+j),0):=by
    rw[← hrd];congr 1
   have hcs:=hL.kept.rQ;have hs1:IntKind.i64.wrap ((n:Int)*10)=(n:Int)*10:=bX _ oM;have bV:IntKind.i64.wrap ((k.from_:Int)+(n:Int)*10)=(k.from_:Int)+(n:Int)*10:=bX _ oM;have eU:IntKind.i64.wrap ((k.from_:Int)+(n:Int)*10+(j:Int))=(k.from_:Int)+(n:Int)*10+(j:Int):=bX _ oM;have HL:=aj hL jl jU;have Ad:=δ D6;clear hL jl jU hrd D6;go_wp2_with fail
   go_region_held3 (fun w'=>w'.cell? ⟨b,0,none⟩=some (.pointer (some ⟨p,0,none⟩))∧w'.cell? ⟨b,1,none⟩=some (ι (k.from_:Int))) (go_keep) (first|(go_at_call 46;refine(agH HL.out.2.2 _).mono ?_;rintro e w' ⟨rfl,rfl⟩));all_goals
    simp only[Ad.out];have hst:=FM d (k.from_+n*10) k.seen j;have hsz:=HD.out.1.wf.O9 (i:=k.from_+n*10+j) (oN HD.out.2.2.1);have hbd:=fun h=>acL d (k.from_+n*10) k.seen (j+1) 10 oM h
    have HLd:pR w wr.drew b p k u6 (eW d (k.from_+n*10) k.seen j):=HL.out.1.below (nX _ _).drew;have jl:=HL.out.2.1;generalize d.now (k.from_+n*10+j)=sec at *;have HW:=aD hst hsz hbd HLd;have HB:=δ jl;have sx:=δ (fun W=>PG sec W oM);clear hst hsz hbd HLd jl HR Ad hcs hs1 bV eU;generalize wr.drew=w1 at *;rcases UI sec.data.toList with hc | hc | hc
    ·rw[hc] at sx
     go_wp2_with (go_at_call 47;refine(sx.out _).mono ?_;rintro e w2 ⟨rfl,bn⟩);go_roundw
     case rel =>
      refine⟨j+1,oM,by go_num,?_,?_,?_⟩;all_goals rw[HW.out.1,xD,ν (by rw[HB.out];simp),ν (by rw[hc];decide),ν (by rw[hc];decide)]
      ·exact HB.out
      ·have h:=HW.out.2.2.2.below bn
       exact⟨h.list,h.new,h.kept,h.ε⟩
     case measure=>simp[intOf];omega
    ·obtain⟨hbody,hlen⟩:=U3 hc
     have IQ:=δ (fun W=>ahM (str (cz sec.data.toList).1) W (by rw[bf,hbody];simp[hlen]))
     rw[hc] at sx;have hdt:(str (cz sec.data.toList).1).data.toList=(cz sec.data.toList).1:=by simp[str]
     rw[hdt] at IQ;have hS:eW d (k.from_+n*10) k.seen (j+1) = { l:=if (eW d (k.from_+n*10) k.seen j).row && (kJ (cz sec.data.toList).1).2 then (eW d (k.from_+n*10) k.seen j).l++[(kJ (cz sec.data.toList).1).1] else (eW d (k.from_+n*10) k.seen j).l,row:=(eW d (k.from_+n*10) k.seen j).row && (kJ (cz sec.data.toList).1).2,seen:=max (eW d (k.from_+n*10) k.seen j).seen (kJ (cz sec.data.toList).1).1.gen,bad:=false } := by
      rw[HW.out.1,xD,ν (by rw[HB.out];simp),ν (by rw[hc];decide),σ hc]
     have HS:=δ hS;have Ae:=δ HW.out.2.2.2;clear hS hdt hbody hlen hc HW HB HL;have IU:(eW d (k.from_+n*10) k.seen j).l.length≤j:=U1 _ _ _ _;generalize eW d (k.from_+n*10) k.seen j=st at *;generalize kJ (cz sec.data.toList).1=pr at *;obtain⟨pt,is⟩:=pr;simp only at *
     go_wp2_with (first
      |(go_at_call 47
        refine(sx.out _).mono ?_;rintro e w2 ⟨rfl,bn⟩)
      |(go_at_call 172
        refine(IQ.out _).mono ?_;rintro e w3 ⟨rfl,nL⟩;have HL3:=δ ((Ae.out.below bn).below nL))
      |(refine ef 277 w3.heap.size #[ω pt.gen,ι pt.number,ι pt.all,.string (str pt.text)] (η.new w3 277 #[ω 0,ι 0,ι 0,.string ⟨#[]⟩]) (KJ _) ?_
        intro w4 aE ag hs4;have hb4:Below w3.heap.size w3 w4:=⟨ag.os,ag.tape,ag.output,by simp at hs4;omega,fun q hq=>(ag.block q (by simp;omega) oM).trans (qJ w3 _ q hq)⟩;have oz:=τ (HL3.out.below hb4) aE;have su:=aE.iI;have wX:=oz.out.1.kept.rQ;have cG:=oz.out.1.kept.frozen 5;clear aE ag hs4 hb4))
     go_region
     all_goals
      have hmx:max (st.seen:Int) (pt.gen:Int)=((max st.seen pt.gen:Nat):Int):=oM;simp only[hmx];have u7:=δ ((oz.out.1.R_ (max st.seen pt.gen)).drew);have aF:η (w4.setCell ⟨b,5,none⟩ (ω ((max st.seen pt.gen:Nat):Int))).drew w3.heap.size 277 #[ω pt.gen,ι pt.number,ι pt.all,.string (str pt.text)] :=
       (oz.out.2.bP (p:=⟨b,5,none⟩) (fun e=>oz.out.2.zP oz.out.1.kept dC e) _).drew
      have yu:=aF.iI;have pG:=HS.out;clear su wX cG aF hmx HS;generalize (w4.setCell ⟨b,5,none⟩ (ω ((max st.seen pt.gen:Nat):Int))).drew=w5 at *;cases hr:st.row
      ·simp only[hr,Bool.false_and,oG,lK] at pG
       exact Ze
      ·cases lG:is
       ·simp only[hr,lG,FF,oG,lK] at pG
        exact Ze
       ·simp only[hr,lG,FF,vI] at pG
        have HS:=δ pG;clear pG;go_wp2_with (at_builtin;refine jH rfl _ _ _ _ rfl 277 i0 _ 4 40 underlying210 bx bN bG aT rfl u6 st.l.length _ rfl (u7.out.list.alloc _) _ 1 [_,_,_,_] rfl (Src.qN underlying210 _ rfl) (by simp[Value.oneCell']) (by have:=IU;unfold maxLen;omega) (oN IU) ?_;intro v2 w6 bH π hl2 bV);go_roundw
        case rel =>
         refine⟨j+1,oM,by go_num,?_,?_,?_⟩;all_goals rw[HS.out]
         have h:=u7.out.app _ bH π hl2;exact⟨h.list,h.new,h.kept,h.ε⟩
        case measure=>simp[intOf];omega
    ·rw[hc] at sx
     go_wp2_with (go_at_call 47;refine(sx.out _).mono ?_;rintro e w2 ⟨rfl,bn⟩);have hS:eW d (k.from_+n*10) k.seen (j+1) = { eW d (k.from_+n*10) k.seen j with bad:=true } := by
      rw[HW.out.1,xD,ν (by rw[HB.out];simp),σ hc]
     have h10:=HW.out.2.2.1 (by rw[hS]);rw[hS] at h10;have iL:=δ h10;clear h10 hS;go_ret2
     rw[iL.out];have h:=HW.out.2.2.2.below bn;have hh:pR w w2 b p k u6 { eW d (k.from_+n*10) k.seen j with bad:=true } := ⟨h.list,h.new,h.kept,h.ε⟩;exact⟨_,rfl,⟨u6,sM,hh⟩⟩
  ·obtain rfl:j=10:=oM
   have HL:=τ hL jl;clear hL jl;go_wp2
   go_ret2
   refine⟨u6,?_,⟨u6,fun _=>rfl,HL.out.1⟩⟩;rw[DP,HL.out.2];rfl
theorem afe (b:List UInt8):(kJ b).1.text.length≤48∧(kJ b).1.all<256∧(kJ b).1.gen<18446744073709551616:=by
 have h8:dx (b.take 8)<18446744073709551616:=by
  have h:=K6 (b.take 8);have hl:(b.take 8).length≤8:=by simp;omega
  have:2 ^ (8*(b.take 8).length)≤2 ^ 64:=yU oM oM;have e:(2:Nat) ^ 64=18446744073709551616:=dC;omega
 have h9:=(b.getD 9 0).toNat_lt;unfold kJ;split
 ·exact⟨sM,h9,h8⟩
 ·refine⟨?_,h9,h8⟩
  rw[fF];omega
theorem OK (d:Dk) (a seen k:Nat) (hs:seen<18446744073709551616) :
 (∀p ∈ (eW d a seen k).l,p.text.length≤48∧p.all<256∧p.gen<18446744073709551616)∧(eW d a seen k).seen<18446744073709551616:=by
 induction k with
 | zero=>exact⟨by simp[eW],hs⟩
 | succ k ih =>
   rw[FM,xD];have hr:=afe (cz (d.now (a+k)).data.toList).1;split
   ·exact ih
   ·split
    ·exact ih
    ·split
     ·refine⟨fun p hp=>?_,?_⟩
      ·simp only at hp
       split at hp
       ·rcases nZ.1 hp with h | h
        ·exact ih.1 p h
        ·simp at h
         subst h;exact hr
       ·exact ih.1 p hp
      ·simp only
       omega
     ·exact ih
def DG (d:Dk) (n:Nat) (k:Kp):Option Kp :=
 if (eW d (k.from_+n*10) k.seen 10).bad then none else
 some (if k.gen<(dI (eW d (k.from_+n*10) k.seen 10).l).2
  then { k with seen:=(eW d (k.from_+n*10) k.seen 10).seen,text:=(dI (eW d (k.from_+n*10) k.seen 10).l).1,gen:=(dI (eW d (k.from_+n*10) k.seen 10).l).2,at_:=n }
  else { k with seen:=(eW d (k.from_+n*10) k.seen 10).seen })
def qU (d:Dk) (from_:Nat):Nat→Option Kp
 | 0=>some ⟨from_,[],0,1,0,false⟩
 | n+1=>(qU d from_ n).bind (DG d n)
structure aff (w w':World) (p:Nat) (o:Option Kp) (v:Value):Prop where
 ε:υ w w'
 bad:o=none→v=.pointer none
 ok:∀k,o=some k→∃b,v=.pointer (some ⟨b,0,none⟩)∧η w' b 209 (k.cells p)∧w.heap.size≤b
def agJ (o:Option Kp):Int:=if o.isSome then 0 else 9
theorem afg (d:Dk) (a seen:Nat) (hs:seen<18446744073709551616):(∀q ∈ (eW d a seen 10).l,q.text.length≤48)∧(∀q ∈ (eW d a seen 10).l,q.all<256)∧(eW d a seen 10).l.length≤1000 :=
 ⟨fun q hq=>((OK d a seen 10 hs).1 q hq).1,fun q hq=>((OK d a seen 10 hs).1 q hq).2.1,by have:=U1 d a seen 10;omega⟩
theorem acM {d:Dk} {f n m:Nat} (h:qU d f n=none) (hm:n≤m):qU d f m=none:=by
 induction m with
 | zero => obtain rfl:n=0:=oM
           exact h
 | succ m ih =>
   by_cases e:n=m+1
   ·rw[← e];exact h
   ·rw[qU,ih oM];rfl
structure agK (w wr:World) (p b:Nat) (k:Kp) (f:Nat):Prop where
 ε:υ w wr
 kept:η wr b 209 (k.cells p)
 new:w.heap.size≤b
 from_:k.from_=f
 seen:k.seen<18446744073709551616
 at_:k.at_≤1
theorem agL {w:World} {p:Nat} {d:Dk} {F:List Nat} (hD:bI w p d F) (f:Nat) (hf:f+20≤d.af.length) (hoff:d.off=false) :
 ς 63 #[.pointer (some ⟨p,0,none⟩),ι f] w fun e w'=>∃v,e=ώ (.tuple #[v,ι (agJ (qU d f 2))])∧aff w w' p (qU d f 2) v:=by
 have hm:=hD.wf.most;have hne:((d.af.length:Int) == 0)=false:=by rw[eV];omega
 have Ci:¬(f:Int)<0:=oM;have Mi:¬(d.af.length:Int) - 20<(f:Int):=oM;have HS:=δ (OJ hD);have HD:=aj hD hf hoff;clear hD hoff;go_enter func63,ntmps63
 go_wp2_with (go_at_call 61;refine HS.out.mono ?_;rintro e w' ⟨rfl,rfl⟩);go_loopw [29] (fun i wr=>∃(n:Nat) (k:Kp),n≤2∧i=ι n∧qU d f n=some k∧agK w wr p w.heap.size k f) (fun i _=>2 - (intOf i).toNat)
 case atStart =>
  refine⟨0,⟨f,[],0,1,0,false⟩,oM,rfl,rfl,?_⟩;exact⟨(ζ.refl _ w).alloc _,η.new w _ _,bQ _,rfl,by show 0<_;omega,by show 1≤1;omega⟩
 case round =>
  obtain⟨n,k,hn,rfl,hk,hO⟩:=hrel;by_cases hlt:n<2
  ·have jU:bI wr p d F:=HD.out.1.ε hO.ε fun _ _ e=>e
   have hSl:=adL jU hO.kept n oM (by rw[hO.from_];exact HD.out.2.1) HD.out.2.2;have hst:qU d f (n+1)=DG d n k:=by rw[qU,hk];rfl
   have EO:=afg d (k.from_+n*10) k.seen hO.seen;have hok:=(OK d (k.from_+n*10) k.seen 10 hO.seen).2;unfold DG at hst;have MJ:=δ hSl;have HO:=cx hO hk hst EO hok;clear hO hk jU hSl hst EO hok;generalize eW d (k.from_+n*10) k.seen 10=st at *;cases hb:st.bad
   ·have he:DP st=0:=by rw[DP,hb];rfl
    rw[he] at MJ;go_wp2_with (first
     |(go_at_call 118
       refine MJ.out.mono ?_;rintro e w1 ⟨v1,rfl,lH⟩;obtain⟨vl,hvl,wY⟩:=lH.ex;obtain rfl:v1=vl:=hvl hb;have ED:=δ wY;clear wY lH)
     |(go_at_call 119
       refine(ahL v1 st.l _ ED.out.list HO.out.2.2.2.1.2.2 HO.out.2.2.2.1.1 HO.out.2.2.2.1.2.1).mono ?_;rintro e w2 ⟨rfl,bn⟩;have Sa:=δ (ED.out.below bn);clear bn)
     |(refine ef 207 w2.heap.size #[.string (str (dI st.l).1),ω ((dI st.l).2:Int)] (η.new w2 207 #[.string ⟨#[]⟩,ω 0]) (Gd _ _) ?_
       intro w4 aE ag hs4;have hb4:Below w2.heap.size w2 w4:=⟨ag.os,ag.tape,ag.output,by simp at hs4;omega,fun q hq=>(ag.block q (by simp;omega) oM).trans (qJ w2 _ q hq)⟩;have oz:=τ (Sa.out.below hb4) aE;have su:=aE.uv;have wX:=oz.out.1.kept.rQ;clear aE ag hs4 hb4))
    go_region
    all_goals
     have tO:=oz.out.1.drew;have Cy:=tO.kept.rQ;have Ey:=tO.kept.frozen 2;have uQ:=tO.kept.frozen 3;have Ez:=tO.kept.frozen 4;have yu:=oz.out.2.drew.uv;have u7:=δ tO;clear su wX tO;have hst:=HO.out.2.2.1;rw[hb] at hst;simp only[oG,lK] at hst;generalize w4.drew=w5 at *;by_cases hg:k.gen<(dI st.l).2
     ·have hg':(k.gen:Int)<((dI st.l).2:Int):=oM
      rw[σ hg] at hst;have fT:=δ hst;clear hst hg;go_wp2
      go_roundw
      case rel =>
       refine⟨n+1,_,oM,by go_num,fT.out,?_⟩;refine⟨?_,?_,HO.out.1.new,HO.out.1.from_,HO.out.2.2.2.2,by show n≤1;omega⟩
       ·exact(((HO.out.1.ε.then u7.out.ε (fun q e=>.inr (by rw[e];exact HO.out.1.new))).setCell (p:=⟨w.heap.size,2,none⟩) (.inr (bQ _)) _).setCell (p:=⟨w.heap.size,3,none⟩) (.inr (bQ _)) _).setCell (p:=⟨w.heap.size,4,none⟩) (.inr (bQ _)) _
       ·have h:=((u7.out.kept.bE 2 (.string (str (dI st.l).1))).bE 3 (ω ((dI st.l).2:Int))).bE 4 (ι (n:Int))
        simpa [Kp.cells] using h
      case measure=>simp[intOf];omega
     ·have hg':¬(k.gen:Int)<((dI st.l).2:Int):=oM
      rw[ν hg] at hst;have fT:=δ hst;clear hst hg;go_wp2
      go_roundw
      case rel =>
       refine⟨n+1,_,oM,by go_num,fT.out,?_⟩;exact⟨HO.out.1.ε.then u7.out.ε (fun q e=>.inr (by rw[e];exact HO.out.1.new)),u7.out.kept,HO.out.1.new,HO.out.1.from_,HO.out.2.2.2.2,HO.out.1.at_⟩
      case measure=>simp[intOf];omega
   ·have he:DP st=9:=by rw[DP,hb];rfl
    rw[he] at MJ;have hst:=HO.out.2.2.1;rw[hb] at hst;simp only[vI] at hst;have HN:=δ (acM hst (by omega:n+1≤2));clear hst;go_wp2_with (go_at_call 118;refine MJ.out.mono ?_;rintro e w1 ⟨v1,rfl,lH⟩;have HE:=δ lH;clear lH);go_ret2
    rw[HN.out];refine⟨_,rfl,?_⟩;obtain⟨vl,_,hL⟩:=HE.out.ex;exact⟨HO.out.1.ε.then hL.ε (fun q e=>.inr (by rw[e];exact HO.out.1.new)),fun _=>rfl,sM⟩
  ·obtain rfl:n=2:=oM
   have HO:=τ hk hO;clear hk hO;go_wp2
   go_ret2
   rw[HO.out.1];refine⟨_,rfl,HO.out.2.ε,sM,fun k' e=>?_⟩;obtain rfl:=dw e;exact⟨_,rfl,HO.out.2.kept,HO.out.2.new⟩
theorem aZ.afh (x:aZ) (D:List UInt8):x.row.setIfInBounds 3 (.string (str D))=({ x with data:=D } : aZ).row:=by
 unfold aZ.row;rw[jy];rfl
theorem aZ.agM {x:aZ} (hx:x.tag.length=32) {T:List UInt8} (hT:T.length=32):x.row.toList.take 4++(ψ T).toList++x.row.toList.drop (4+(ψ T).size)=({ x with tag:=T } : aZ).row.toList:=by
 rw[bq,hT];have h1:x.row.toList.drop (4+32)=[]:=pN (by rw[pM,aZ.ql hx];decide)
 rw[h1,xz];rfl
theorem adM (K B N:Nat):prog.built 191 [(0,ι (K:Int)),(1,.int .u32 (B:Int)),(2,ω (N:Int))]=some (aZ.row ⟨K,B,N,[],List.replicate 32 0⟩):=kR
theorem afi (k:List UInt8) (hk:k.length=32) (K B N:Nat) (hK:K≤1048576) (hB:B<4294967296) (hN:N<18446744073709551616) (about text:ByteArray) (ha:about.size≤1000) (ht:text.size≤8192) (w:World) :
 ς 107 #[.agg (ψ k),ι (K:Int),.int .u32 (B:Int),ω (N:Int),.string about,.string text] w fun e w' =>
  e=ώ (.tuple #[.agg (aZ.row ⟨K,B,N,oT k B N text.data.toList,rR k K B N about.data.toList (oT k B N text.data.toList)⟩),ι 0])∧υ w w':=by
 have jV:=adM K B N;obtain⟨x0,hx0⟩:∃x,(⟨K,B,N,[],List.replicate 32 0⟩:aZ)=x:=⟨_,rfl⟩;have MK:ux x0:=by rw[← hx0];exact⟨hK,hB,hN,sM,fG⟩
 have IV:=fun W=>O7 x0 MK W
 have yw:=fun W=>Vx k hk x0 MK text ht W
 have e1:x0.μ=B:=by rw[← hx0]
 have e2:x0.n=N:=by rw[← hx0]
 rw[e1,e2] at yw;obtain⟨D,hD⟩:=κ (oT k B N text.data.toList);rw[hD] at yw ⊢;have hDl:D.length=text.size:=by rw[← hD,Kv];rfl
 obtain⟨x1,hx1⟩:∃x,({ x0 with data:=D } : aZ)=x:=⟨_,rfl⟩;have ML:ux x1:=by rw[← hx1,← hx0];exact⟨hK,hB,hN,by show D.length≤8192;omega,fG⟩
 have Af:=fun W=>Xh k hk x1 ML about ha W
 rw[show rR k x1.key x1.μ x1.n about.data.toList x1.data=rR k K B N about.data.toList D by rw[← hx1,← hx0]] at Af;obtain⟨T,hT⟩:=κ (rR k K B N about.data.toList D);rw[hT] at Af ⊢;have gJ:T.length=32:=by rw[← hT];exact qi _ _
 obtain⟨x2,hx2⟩:∃x,(⟨K,B,N,D,T⟩:aZ)=x:=⟨_,rfl⟩;have h12:({ x1 with tag:=T } : aZ)=x2:=by rw[← hx2,← hx1,← hx0]
 have b9:=aZ.afh x0 D;rw[hx1] at b9;have a_:=aZ.agM ML.tag gJ;rw[h12] at a_;have z2:x2.row.size=36:=aZ.ql (by rw[← hx2];exact gJ);rw[hx2];rw[hx0] at jV;have tz:(text.size:Int)≤8192:=oM;have HR:=δ IV;have HS:=δ yw;have HT:=δ Af;have HX:=o_ b9 a_ (aZ.ql MK.tag) (aZ.ql ML.tag) z2 gJ hk;have Sb:=δ jV;clear IV yw Af b9 a_ z2 jV h12 hx2 gJ hT ML hx1 hDl hD e1 e2 MK hx0 hK hB hN ha ht hk;obtain⟨g,hg⟩:=κ w.heap.size;have HG:=δ hg;go_enter func107,ntmps107
 go_upto_region 1 with (fail)
 generalize aH:World.alloc _ _=w2;have hk2:η w2 g 194 (ψ k):=by rw[← aH,← hg];exact(η.new w _ _).alloc _
 have hr2:η w2 (g+1) 191 (aZ.row ⟨0,0,0,[],List.replicate 32 0⟩):=by
  have h:=η.new (w.alloc (.cells (ψ k) 194)) 191 (aZ.row ⟨0,0,0,[],List.replicate 32 0⟩);rw[cM,hg] at h;rw[← aH];exact h
 have π:υ w w2:=by rw[← aH];exact((ζ.refl _ w).alloc _).alloc _
 have aT:w2.heap.size=g+2:=by rw[← aH,cM,cM,hg]
 have aU:=aj hk2 hr2 π;clear hk2 hr2 π aH hg;obtain⟨q,hq⟩:=κ w2.heap.size;have HQ:=δ (show q=g+2 by omega);clear aT;go_upto_region 2 with (first
  |(refine qf rfl _ _ rfl [(0,ι (K:Int)),(1,.int .u32 (B:Int)),(2,ω (N:Int))] _ kR Sb.out ?_)
  |(refine fk rfl 191 _ _ rfl w2.heap.size x0.row (by rw[hq];rfl) rfl 191 _ (η.new w2 _ _) (by rw[HX.out.2.2.1];rfl) (aZ.row_one _) (by rw[HX.out.2.2.1];kernel_rfl) ?_
    intro w3 aA χ fK))
 have lF:υ w2 w3:=((ζ.refl (fun _=>False) w2).alloc _).then χ (fun b hb=>.inr oM);rw[hq] at aA χ;have iw:=aD (aU.out.1.ε lF (fun e=>e)) (aU.out.2.1.ε lF (fun e=>e)) aA (aU.out.2.2.then lF φ);clear χ fK lF aA hq;go_upto_region 4 with (first
  |(refine eL _ q iw.out.2.2.1 underlying191 (by rw[HX.out.2.2.1];kernel_rfl) ?_)
  |(go_at_call 162
    refine(HR.out _).mono ?_;rintro e w4 ⟨rfl,ag⟩;have kB:=aD (iw.out.1.ε ag (fun e=>e)) (iw.out.2.1.ε ag (fun e=>e)) (iw.out.2.2.1.ε ag (fun e=>e)) (iw.out.2.2.2.then ag φ);clear ag))
 go_upto_region 6 with (fail)
 go_upto_region 7 with (first
  |(refine eL _ g kB.out.1 underlying194 (by rw[bq,HX.out.2.2.2.2.2.2];kernel_rfl) ?_)
  |(refine eL _ q kB.out.2.2.1 underlying191 (by rw[HX.out.2.2.1];kernel_rfl) ?_)
  |(go_at_call 163
    refine(HS.out _).mono ?_;rintro e w5 ⟨rfl,av⟩;have Cz:=aD (kB.out.1.ε av (fun e=>e)) (kB.out.2.1.ε av (fun e=>e)) (kB.out.2.2.1.ε av (fun e=>e)) (kB.out.2.2.2.then av φ);clear av)
  |(refine gw rfl 9 _ _ rfl q 3 (.string (str D)) rfl rfl _ _ Cz.out.2.2.1 (by rw[HX.out.2.2.1];decide) rfl kR ?_
    intro w6 cI az iB;rw[HX.out.1] at cI;have IW:=aD (Cz.out.1.ε az (oN HQ.out)) (Cz.out.2.1.ε az (oN HQ.out)) cI (Cz.out.2.2.2.then az (fun b hb=>.inr (oO HQ.out HG.out)));clear az iB cI))
 go_upto_region 8 with (first
  |(refine eL _ g IW.out.1 underlying194 (by rw[bq,HX.out.2.2.2.2.2.2];kernel_rfl) ?_)
  |(refine eL _ q IW.out.2.2.1 underlying191 (by rw[HX.out.2.2.2.1];kernel_rfl) ?_)
  |(go_at_call 164
    refine(HT.out _).mono ?_;rintro e w7 ⟨rfl,bK⟩;have lW:=aj (IW.out.2.1.ε bK (fun e=>e)) (IW.out.2.2.1.ε bK (fun e=>e)) (IW.out.2.2.2.then bK φ);clear bK)
  |(refine xB rfl 189 _ _ rfl q 4 (ψ T) rfl rfl _ _ x2.row lW.out.2.1 (by rw[bq,HX.out.2.2.2.1,HX.out.2.2.2.2.2.1];decide) HX.out.2.1 (lY _) (by rw[bq,HX.out.2.2.2.2.2.1];kernel_rfl) ?_
    intro w8 jc cC kC;have gV:=aj (lW.out.1.ε cC (oN HQ.out)) jc (lW.out.2.2.then cC (fun b hb=>.inr (oO HQ.out HG.out)));clear cC kC jc))
 go_wp2_with (first
  |(refine eL _ q gV.out.2.1 underlying191 (by rw[HX.out.2.2.2.2.1];kernel_rfl) ?_)
  |(refine fk rfl 191 _ _ rfl (g+1) x2.row rfl rfl _ _ gV.out.1 (by rw[HX.out.2.2.2.2.1];rfl) (aZ.row_one _) (by rw[HX.out.2.2.2.2.1];kernel_rfl) ?_
    intro w9 cW eC mT))
 refine cy (iR rfl _ _ (g+1) _ _ _ _ rfl cW underlying191 rfl (by rw[HX.out.2.2.2.2.1];kernel_rfl) (ι 0) rfl) rfl ⟨rfl,gV.out.2.2.then eC (fun b hb=>.inr (by have e2:b=g+1:=hb;have:=HG.out;omega))⟩
theorem afj (x:aZ) (hx:ux x) (w:World) :
 ς 109 #[.agg x.row] w fun e w'=>e=ώ (.tuple #[.string (str (qj x.key x.μ x.n++(bF x.data++x.tag))),ι 0])∧υ w w':=by
 have hkk:=hx.key;have hb:=hx.μ;have hn:=hx.n;have hd:=hx.data;have s1:=dc (n:=x.key) oM;have s2:=dc (n:=x.μ) oM;have s3:=dc hn;obtain⟨D,hD⟩:=κ (str x.data);have hDl:D.data.toList=x.data:=by rw[← hD,bS]
 have rC:D.size=x.data.length:=by rw[← hD,bf]
 obtain⟨N,hN⟩:=κ (qj x.key x.μ x.n);have pe:N.length≤30:=by rw[← hN];unfold qj;simp only[aL,iF];omega
 obtain⟨T,hT⟩:=κ (N++bF D.data.toList);obtain⟨B,hB⟩:=κ (str x.tag);have cN:str (qj x.key x.μ x.n++(bF x.data++x.tag))=str T++B:=by
  rw[← hB,ze,← hT,hDl,hN,dQ]
 rw[cN];obtain⟨S,hS⟩:=κ (str T);rw[hS];have hcs:(9223372036854775807<S.size+B.size)=False:=by
  have h1:S.size=N.length+(bF D.data.toList).length:=by rw[← hS,bf,← hT,aL]
  have h2:B.size=32:=by rw[← hB,bf,hx.tag]
  rw[hDl,iT] at h1;have h3:=kY (n:=x.data.length) oM;exact eq_false oM
 have HCS:=δ hcs;have HX:=δ (And.intro hD (And.intro rC (And.intro hN (And.intro pe (And.intro hT (And.intro hd (And.intro hx (And.intro hB hS))))))));have tF:=δ (aZ.ql hx.tag);have MM:=δ hx.tag;have HR:=δ (fun W=>O7 x hx W);clear hkk hb hn hd s1 s2 s3 hD hDl rC hN pe hT cN hx hB hS hcs;obtain⟨g,hg⟩:=κ w.heap.size;have HG:=δ hg;go_enter func109,ntmps109
 go_upto_region 1 with (fail)
 generalize aH:World.alloc _ _=w2;have jD:η w2 g 191 x.row:=by rw[← aH,← hg];exact η.new w _ _
 have π:υ w w2:=by rw[← aH];exact(ζ.refl _ w).alloc _
 have aU:=τ jD π;clear jD π aH hg;go_upto_region 3 with (first
  |(refine eL _ g aU.out.1 underlying191 (by rw[tF.out];kernel_rfl) ?_)
  |(go_at_call 162
    refine(HR.out _).mono ?_;rintro e w3 ⟨rfl,χ⟩;have iw:=τ (aU.out.1.ε χ (fun e=>e)) (aU.out.2.then χ φ);clear χ))
 obtain⟨o,ho⟩:=κ w3.heap.size;go_upto_region 4 with (fail)
 generalize Ag:World.alloc _ _=w4;have jT:dU (fun _=>False) w3 w4 o []:=by rw[← Ag,← ho];exact dU.start w3
 have IX:=δ jT;clear jT Ag ho;go_upto_region 6 with (first
  |(go_at_call 168
    refine(Vw x HX.out.2.2.2.2.2.2.1 IX.out sM).mono ?_;rintro e w5 ⟨rfl,h5⟩;rw[nW,HX.out.2.2.1] at h5;obtain⟨-,-,-,c3⟩:=aZ.cells (iw.out.1.ε h5.ε (fun e=>e));rw[HX.out.1] at c3;have H5:=δ h5;clear h5)
  |(go_at_call 100
    refine(vS H5.out D (by rw[HX.out.2.1];have:=HX.out.2.2.2.2.2.1;omega) (oN HX.out.2.2.2.1)).mono ?_;rintro e w6 ⟨rfl,h6⟩;rw[HX.out.2.2.2.2.1] at h6;have H6:=δ h6;clear h6 c3)
  |(refine eL _ g (iw.out.1.ε IX.out.ε (fun e=>e)) underlying191 (by rw[tF.out];kernel_rfl) ?_))
 have az:=(ζ.refl (fun _=>False) w6).drew;have hst:=FY (H6.out.still az);rw[HX.out.2.2.2.2.2.2.2.2] at hst;have wC:ς 101 #[.pointer (some ⟨o,0,none⟩)] w6.drew fun e w''=>e=ώ (.string S)∧w''=w6.drew:=hst.mono fun _ _ h=>⟨h.1,h.2.symm⟩
 have fT:=δ wC;have Ah:=iw.out.1.ε (H6.out.ε.then az φ) (fun e=>e);have hcs:=HCS.out;have hcv:=Pm w6.drew g 4 32 32 x.tag MM.out (fun i hi=>aZ.aiv Ah i (by rw[MM.out];exact hi));rw[HX.out.2.2.2.2.2.2.2.1] at hcv;have HF:=δ (iw.out.2.then (H6.out.ε.then az φ) φ);clear az hst wC Ah;refine wp_region_still_lit kR kR ?_;still_call fT.out
 still_step
 still_step
 still_step
 still_step
 still_step
 still_step
 refine wpStill_nil ?_;go_wp2_with fail
 go_ret2
 exact⟨rfl,HF.out⟩
end
end Go.Proofs.YtbhjgfibhegddaaGreat
