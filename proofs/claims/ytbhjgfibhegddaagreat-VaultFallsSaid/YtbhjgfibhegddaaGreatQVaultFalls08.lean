/-
  Parts of the proof of VaultFalls: KeptA, SealC.
-/
import Derived.Test.YtbhjgfibhegddaaGreatQVaultFalls07
import Derived.ChangeKeysEq
import Derived.Deep.DeepCutAuto
import Derived.Deep.RegionHeld3
import Derived.StillTailTactics
set_option maxRecDepth 100000
set_option maxHeartbeats 16000000
namespace Go.Proofs.YtbhjgfibhegddaaGreat
abbrev QN:=@Go.run_equalIn_int
abbrev af':=@Go.run_equalIn_string
abbrev Fi:=@Go.run_part_plain
abbrev mH:=@Bool.false_eq_true
abbrev oV:=@List.getElem?_cons_zero
abbrev qm:=@List.getElem?_cons_succ
abbrev xA:=@List.set_cons_succ
abbrev Yc:=@Go.wp_region_held_drew
abbrev QO:=@Go.wpAnyH_ready
abbrev QS:=@Go.AllReadyH.cons
abbrev QT:=@Go.AllReadyH.nil
abbrev oU:=@List.mem_filterMap
abbrev Mm:=@Option.getD_some
abbrev IE:=@Bool.true_and
abbrev jX:=@List.mem_append
open Tryz
section
open Go Go.RowKit
theorem DI {P:Prop} (h:P:=by rw[HA.out];omega):P:=h
theorem TW {P:Prop} (h:P:=by cases l with | nil=>simp at h0 | cons p l=>rfl):P:=h
theorem zJ {P:Prop} (h:P:=by unfold aM;omega):P:=h
theorem DJ {P:Prop} (h:P:=by rw[HB.out];simp):P:=h
structure Pt where
 gen:Nat
 number:Nat
 all:Nat
 text:List UInt8
deriving DecidableEq
def Pt.cells (p:Pt):List Value:=[ω p.gen,ι p.number,ι p.all,.string (str p.text)]
def Pt.val (p:Pt):Value:=.agg #[ω p.gen,ι p.number,ι p.all,.string (str p.text)]
def Pt.body (p:Pt):List UInt8:=leB p.gen 8++[UInt8.ofNat p.number,UInt8.ofNat p.all,UInt8.ofNat p.text.length,0]++p.text++List.replicate (48 - p.text.length) 0
theorem Pt.FC (p:Pt) (h:p.text.length≤48):p.body.length=60:=by simp[Pt.body,pN];omega
theorem Bf (a b:List UInt8):str a++str b=str (a++b):=by
 unfold str;rw[ByteArray.mk_append_mk]
theorem YH (n:Nat):(⟨(Lib.repeatL (⟨#[0]⟩:ByteArray).data.toList n).toArray⟩:ByteArray)=str (List.replicate n 0):=by
 unfold str;congr 2
 induction n with
 | zero=>rfl
 | succ n ih=>rw[Lib.repeatL,ih];rfl
theorem Src.rY {P:Program} {w:World} {xT t e:TypeId} {size n:Nat} (ht:P.underlying xT=some (.slice t)) (news:List Value) (hn:news.length=n*size) :
 Src P (w.alloc (.cells news.toArray e)) xT size (.slice (some ⟨w.heap.size,0,none⟩) n n) n news :=
 .vt ht _ _ _ hn fun j u hu=>by
  have ju:(⟨w.heap.size,0,none⟩:Addr).add j=⟨w.heap.size,j,none⟩:=KA
  rw[ju,af1];simpa using hu
theorem acm (nu al n:Nat) (h1:nu<256) (h2:al<256) (h3:n<256):aO [UInt8.ofNat nu,UInt8.ofNat al,UInt8.ofNat n,0]=[ϋ (nu:Int),ϋ (al:Int),ϋ (n:Int),ϋ 0]:=by
 simp only[aO,kO,AW];rw[JA,JA,JA,X5 oM oM,X5 oM oM,X5 oM oM];rfl
theorem aj9 (p:Pt) (w:World) (hg:p.gen<18446744073709551616) (ht:p.text.length≤48) (hn:p.number<256) (ha:p.all<256) :
 ς 186 #[p.val] w fun e w'=>e=ώ (.string (str (gW p.body)))∧Below w.heap.size w w':=by
 obtain⟨i0,bx,bU,bK,aY⟩:=jD Dh;have ef:=δ (p.FC ht);have HB:Hid (p.body=leB p.gen 8++[UInt8.ofNat p.number,UInt8.ofNat p.all,UInt8.ofNat p.text.length,0]++p.text++List.replicate (48 - p.text.length) 0):=rfl;obtain⟨g,nu,al,tx⟩:=p;generalize (⟨g,nu,al,tx⟩:Pt).body=bd at *;simp only[Pt.val] at *;have hsz:(str tx).size=tx.length:=bR tx;go_enter func186,ntmps186
 go_wp2_with fail
 refine(agu (.slice none 0 0) 0 [] g 8 _ (Own.nil _ _ _) oM oM).mono ?_;rintro e w1 ⟨v1,rfl,gE,az,iM⟩;simp only[lK,oR] at gE;have nO:η (w.alloc (.cells #[ω (g:Int),ι (nu:Int),ι (al:Int),.string (str tx)] 277)) w.heap.size 277 #[ω (g:Int),ι (nu:Int),ι (al:Int),.string (str tx)]:=η.new _ _ _;have aP:=nO.ε az lV;have hc1:=aP.iE;have adN:υ w w1:=((ζ.refl _ w).alloc _).then az (fun b h=>by simp[Value.ownBlock] at h);have adO:∀q,v1.ownBlock=some q→w.heap.size+1≤q:=fun q hq=>by
  rcases iM with h | ⟨q',h,hq'⟩
  ·rw[h] at hq;simp[Value.ownBlock] at hq
  ·rw[h] at hq
   have:=dM hq;simp at hq'
   omega
 have H1:=aq adN adO aP;clear az iM nO aP adN adO;have h4:=δ (acm nu al tx.length hn ha oM);have HR:Hid (∀W,ς 20 #[.string ⟨#[0]⟩,ι (48 - (tx.length:Int))] W fun e w'=>e=ώ (.string (str (List.replicate (48 - tx.length) 0)))∧Below W.heap.size W w'):=by
  intro W;have h:=strings_Repeat ⟨#[0]⟩ (48 - tx.length) W oM (by show 1*_≤_;omega);rw[YH] at h;rw[show (48 - (tx.length:Int))=((48 - tx.length:Nat):Int) from by omega];exact h
 go_wp2_with (first
  |(at_builtin
    refine kr rfl (.tmp 9) (.tmp 20) _ _ rfl 5 i0 _ 1 1 underlying89 bx bU bK aY rfl v1 8 _ rfl (gE.alloc _) _ 4 [ϋ (nu:Int),ϋ (al:Int),ϋ (tx.length:Int),ϋ 0] rfl (Src.rY underlying89 _ rfl) jN ke oM ?_;intro v2 w2 bL σ hl2 cn;obtain⟨az,iM,aP⟩:=H1.out;have aD:=(aP.alloc _).ε σ (fun e=>oN (iM _ e));have hc2:=aD.iE;have JZ:υ w w2:=(az.alloc _).then σ (fun b h=>.inr (oN (iM b h)));have J0:∀q,v2.ownBlock=some q→w.heap.size+1≤q:=fun q hq=>by
     rcases hl2 with h | h
     ·exact iM q JY
     ·rw[h] at hq
      have h5:=dM hq;have h6:=aP.lt;simp at h5
      omega
    rw[← h4.out,← rW] at bL;have H2:=aq JZ J0 aD;clear az iM aP σ hl2 cn aD JZ J0 gE hc1)
  |(at_builtin
    refine kr rfl (.tmp 22) (.tmp 24) _ _ rfl 5 i0 _ 1 1 underlying89 bx bU bK aY rfl v2 (8+4) _ rfl bL _ (str tx).size _ rfl (Src.of_string underlying9 (str tx)) (C8 _) ke oM ?_;intro v3 w3 gG χ fV fF;obtain⟨az,iM,aP⟩:=H2.out;have aC:=aP.ε χ (fun e=>oN (iM _ e));have sH:=aC.iE;have adP:υ w w3:=az.then χ (fun b h=>.inr (oN (iM b h)));have OB:Own w3 5 1 v3 (8+4+(str tx).size) (aO (leB g 8++[UInt8.ofNat nu,UInt8.ofNat al,UInt8.ofNat tx.length,0]++tx)):=by rw[rW];exact gG
    have H3:=τ adP aC;clear az iM aP χ fV fF aC adP gG bL hc2))
 generalize hL:leB g 8++[UInt8.ofNat nu,UInt8.ofNat al,UInt8.ofNat tx.length,0]++tx=L at OB HB;have wB:L.length=12+tx.length:=by rw[← hL];simp[pN];omega
 have uu:(convert 89 9 v3).run prog w3.drew=.ok (.string (str L)) w3.drew:=xE OB.drew;have hls:(str L).size=12+tx.length:=by rw[bR,wB]
 have TX:=δ (Bf L (List.replicate (48 - tx.length) 0));have OC:(str (List.replicate (48 - tx.length) 0)).size=48 - tx.length:=by rw[bR];simp
 have HO:=δ OB;have hHL:=δ hL;have an_:IntKind.i64.wrap (48 - (tx.length:Int))=48 - (tx.length:Int):=cZ _ oM;clear hL OB;go_region_with (first
  |(go_at_call 20
    refine(HR.out _).mono ?_;rintro e w4 ⟨rfl,hb4⟩;have xV:(convert 89 9 v3).run prog w4=.ok (.string (str L)) w4:=xE (HO.out.dr fun q hq=>hb4.block q (HO.out.lt hq));have tM:w4.cell? ⟨w.heap.size,3,none⟩=some (.string (str tx)):=(hb4.cell (p:=⟨w.heap.size,3,none⟩) H3.out.2.lt).trans sH.2.2.2)
  |(go_at_call 157
    refine(Sp _ _ (by rw[IC,hls,OC];omega)).mono ?_;rintro e w5 ⟨rfl,mU⟩))
 all_goals go_wp2
 all_goals
  go_ret
  refine⟨?_,?_⟩
  ·rw[HB.out]
   first
    | rfl
    |(trace_state;fail)
  ·have qG:Below w.heap.size w w3:=H3.out.1.below (fun _ h=>h.elim)
   have J1:Below w3.heap.size w3 w4:=xF hb4;exact qG.trans ((J1.mono qG.size).trans (mU.mono (ic qG.size J1.size)))
def aM (n:Nat):Nat:=max ((n+47) / 48) 1
def aU (text:List UInt8) (gen:Nat):List Pt:=(List.range (aM text.length)).map fun i=>⟨gen,i,aM text.length,(text.drop (48*i)).take 48⟩
def pQ (l:List Pt):List Value:=l.flatMap Pt.cells
theorem od (text:List UInt8) (gen:Nat):(aU text gen).length=aM text.length:=by simp[aU]
theorem aar:(prog.info? 277).map (fun i=>(i.zero,i.size,i.bytes))=some (some (.agg #[ω 0,ι 0,ι 0,.string ByteArray.empty]),4,40):=kR
theorem adQ {P:Prop} (h:P:=by
 rcases h3 with h | h
 ·exact hl q JY
 ·rw[h] at hq
  have h5:=dM hq;have:=hb.size;simp at h5
  omega):P:=h
theorem acn (s:ByteArray) (gen:Nat) (w:World) (hs:s.size≤100000) :
 ς 173 #[.string s,ω (gen:Int)] w fun e w'=>∃v,e=ώ v∧Own w' 277 4 v (aM s.size) (pQ (aU s.data.toList gen))∧Below w.heap.size w w'∧(∀q,v.ownBlock=some q→w.heap.size≤q):=by
 obtain⟨i0,bx,bU,bK,aY⟩:=jD aar;have HA:Hid (aM s.size=max ((s.size+47) / 48) 1):=rfl;have Ea:1≤aM s.size:=DI
 have nJ:48*(aM s.size - 1)≤s.size:=DI
 have qE:s.size≤48*aM s.size:=DI
 have vN:((aM s.size:Nat):Int)=max (((s.size:Int)+48 - 1) / 48) 1:=DI
 have HM:=δ vN;clear vN;go_enter func173,ntmps173
 go_wp2_with fail
 rw[← HM.out];have HC:Hid (∀k,k≤aM s.size→(aU s.data.toList gen).take k=(List.range k).map fun i=>(⟨gen,i,aM s.size,(s.data.toList.drop (48*i)).take 48⟩:Pt)):=by
  intro k hk;have e:s.data.toList.length=s.size:=gZ
  rw[aU,e,← Ff,List.take_range,xy hk]
 go_loopw [6,15] (fun v i wr=>∃k:Nat,k≤aM s.size∧i=ι k∧Own wr 277 4 v k (pQ ((aU s.data.toList gen).take k))∧Below w.heap.size w wr∧(∀q,v.ownBlock=some q→w.heap.size≤q)) (fun _ i _=>aM s.size - (intOf i).toNat)
 case atStart=>exact⟨0,oM,rfl,by simpa [pQ] using Own.nil _ _ _,oT _ _,by simp[Value.ownBlock]⟩
 case round =>
  obtain⟨k,hk,rfl,hO,hb,hl⟩:=hrel;by_cases hlt:k<aM s.size
  ·have HX:=τ hb hl
   have adR:48*k≤s.size:=oM;clear hb hl;have key:∀(wx:World) (v2:Value) (w2:World) (x:Value),Own w2 277 4 v2 (k+1) (pQ ((aU s.data.toList gen).take k)++Pt.cells ⟨gen,k,aM s.size,(s.data.toList.drop (48*k)).take 48⟩)→ζ (fun q=>u6.ownBlock=some q) (wr.alloc (.cells x.cells 277)) w2 →
    (v2.ownBlock=u6.ownBlock∨v2.ownBlock=some (wr.alloc (.cells x.cells 277)).heap.size) →
    Own w2 277 4 v2 (k+1) (pQ ((aU s.data.toList gen).take (k+1)))∧Below w.heap.size w w2∧(∀q,v2.ownBlock=some q→w.heap.size≤q):=by
    intro wx v2 w2 x h1 h2 h3;obtain⟨hb,hl⟩:=HX.out;refine⟨?_,(hb.alloc hb.size _).trans ⟨h2.os,h2.tape,h2.output,h2.size,fun q hq=>h2.block q (by have:=hb.size;simp;omega) (fun e=>oN (hl q e))⟩,fun q hq=>?_⟩
    ·rw[HC.out (k+1) oM,t_,lq,← HC.out k oM]
     simpa [pQ] using h1
    ·exact adQ
   have Key:=δ key;have hcell:Hid (([ω (gen:Int),ι (k:Int),ι (aM s.size:Int),.string (s.extract (k*48) (min (((k:Int)+1)*48) (s.size:Int)).toNat)]:List Value)=Pt.cells ⟨gen,k,aM s.size,(s.data.toList.drop (48*k)).take 48⟩):=by
    show _=_;rw[Pt.cells,uc];have e:((s.data.toList.drop (k*48)).take ((min (((k:Int)+1)*48) (s.size:Int)).toNat - k*48))=(s.data.toList.drop (48*k)).take 48:=by
     rw[Mb k 48];by_cases hin:48*k+48≤s.size
     ·rw[show (min (((k:Int)+1)*48) (s.size:Int)).toNat - 48*k=48 by omega]
     ·rw[show (min (((k:Int)+1)*48) (s.size:Int)).toNat - 48*k=s.size - 48*k by omega,dV sM,dV iy]
    rw[e]
   clear HA HM key;go_wp2_with (at_builtin;refine kr rfl _ _ _ _ rfl 277 i0 _ 4 40 underlying210 bx bU bK aY rfl u6 k _ rfl (hO.alloc _) _ 1 [_,_,_,_] rfl (Src.rY underlying210 _ rfl) jN ke oM ?_;intro v2 w2 bL σ hl2 cn);rw[hcell.out] at bL;obtain⟨k1,k2,k3⟩:=Key.out wr v2 w2 (.agg #[ω (gen:Int),ι (k:Int),ι (aM s.size:Int),.string (s.extract (k*48) (min (((k:Int)+1)*48) (s.size:Int)).toNat)]) bL σ hl2;go_roundw
   case rel=>exact⟨k+1,oM,by go_num,k1,k2,k3⟩
   case measure=>simp[intOf];omega
  ·obtain rfl:k=aM s.size:=oM
   have HX:=aq hO hb hl;clear hO hb hl;go_wp2
   go_ret
   obtain⟨hO,hb,hl⟩:=HX.out;rw[dV (by rw[od];simp)] at hO
   exact⟨u6,rfl,hO,hb,hl⟩
def kQ (l:List Pt):List UInt8:=l.flatMap Pt.text
def qU (l:List Pt):Nat:=(l.head?.map Pt.all).getD 0
def vp (l:List Pt):Nat:=(l.head?.map Pt.gen).getD 0
def ec (l:List Pt):List UInt8 × Nat :=
 if vp l=0 then ([],0) else
 if 400<(kQ (l.take (qU l))).length then ([],0) else
 if aU (kQ (l.take (qU l))) (vp l)=l.take (aM (kQ (l.take (qU l))).length) then (kQ (l.take (qU l)),vp l) else ([],0)
theorem Rk (l:List Pt) (i:Nat) (hi:i<l.length) (j:Nat) (hj:j<4):(pQ l)[i*4+j]? = (Pt.cells l[i])[j]? := by
 induction l generalizing i with
 | nil=>simp at hi
 | cons p l ih =>
   cases i with
   | zero =>
     simp only[pQ,yZ];rw[qi (by simp[Pt.cells];omega)];simp
   | succ i =>
     simp only[pQ,yZ];rw[mG (by simp[Pt.cells];omega)];have e:(i+1)*4+j - (Pt.cells p).length=i*4+j:=by simp[Pt.cells];omega
     rw[e];have:=ih i tA;simpa [pQ] using this
theorem aiI (l:List Pt) (ht:∀p ∈ l,p.text.length≤48):(kQ l).length≤48*l.length:=by
 induction l with
 | nil=>simp[kQ]
 | cons p l ih =>
   have h1:=ih fun q hq=>ht q z_
   have h2:=ht p sM;simp only[kQ,yZ,aN,eZ] at h1 ⊢;omega
theorem agn (l:List Pt) (k:Nat) (hk:k<l.length):kQ (l.take (k+1))=kQ (l.take k)++l[k].text:=by
 rw[ia hk,kQ,xq];simp[kQ]
theorem Nu (a b:List UInt8):((str a).toList == (str b).toList)=decide (a=b):=by
 rw[CV,CV];simp only[str];by_cases h:a=b<;>simp[h]
theorem ag7:(prog.fieldsOf 277).toList.map (fun f=>(f.name == "_",f.type,f.offset))=[(false,112,0),(false,3,1),(false,3,2),(false,9,3)]:=kR
theorem aj_ (p q:Pt) (W:World):(binOp .neq 277 p.val q.val).run prog W=.ok (.bool (!decide (p=q))) W:=by
 rw[Pt.val,Pt.val,run_neq_struct,run_equalIn_agg _ _ _ _ _ kR kR];have hf:=ag7;generalize (prog.fieldsOf 277).toList=fs at hf;obtain⟨f0,f1,f2,f3,rfl⟩:∃f0 f1 f2 f3,fs=[f0,f1,f2,f3]:=by
  have hl:=aI List.length hf;match fs,hl with
  | [a,b,c,d],_=>exact⟨a,b,c,d,rfl⟩
 simp only[kO,AW,qP,tY,iX,qN] at hf;obtain⟨⟨a0,b0,c0⟩,⟨a1,b1,c1⟩,⟨a2,b2,c2⟩,⟨a3,b3,c3⟩⟩:=hf;obtain⟨g1,n1,l1,t1⟩:=p;obtain⟨g2,n2,l2,t2⟩:=q;have hq (n m:Nat):((n:Int) == (m:Int))=decide (n=m):=by
  by_cases h:n=m
  ·simp[h]
  ·rw[gI h,iX];omega
 have e1 (x y:Int) (W:World):(Op.equalIn 9999 112 (ω x) (ω y)).run prog W=.ok (x == y) W:=QN W 9998 112 .u64 .u64 x y underlying112;have e2 (x y:Int) (W:World):(Op.equalIn 9999 3 (ι x) (ι y)).run prog W=.ok (x == y) W:=QN W 9998 3 .i64 .i64 x y underlying3;have e3 (x y:ByteArray) (W:World):(Op.equalIn 9999 9 (.string x) (.string y)).run prog W=.ok (x.toList == y.toList) W:=af' W 9998 9 x y underlying9;have q1 (k:Nat) (xs:Array Value) (v:Value) (W:World) (h:xs[k]? = some v):(part 112 xs k).run prog W=.ok v W:=Fi (w:=W) kR h;have q2 (k:Nat) (xs:Array Value) (v:Value) (W:World) (h:xs[k]? = some v):(part 3 xs k).run prog W=.ok v W:=Fi (w:=W) kR h;have q3 (k:Nat) (xs:Array Value) (v:Value) (W:World) (h:xs[k]? = some v):(part 9 xs k).run prog W=.ok v W:=Fi (w:=W) kR h;simp only[Op.eqFields,a0,a1,a2,a3,b0,b1,b2,b3,c0,c1,c2,c3,rT,AY,Iv,vf];rw[q1 0 _ (ω g1) _ rfl,fZ,q1 0 _ (ω g2) _ rfl,fZ,e1,fZ,hq]
 by_cases h0:g1=g2
 ·rw[fo h0]
  simp only[xu,mH,jj,rT];rw[q2 1 _ (ι n1) _ rfl,fZ,q2 1 _ (ι n2) _ rfl,fZ,e2,fZ,hq];by_cases h1:n1=n2
  ·rw[fo h1]
   simp only[xu,mH,jj,rT];rw[q2 2 _ (ι l1) _ rfl,fZ,q2 2 _ (ι l2) _ rfl,fZ,e2,fZ,hq];by_cases h2:l1=l2
   ·rw[fo h2]
    simp only[xu,mH,jj,rT];rw[q3 3 _ (.string (str t1)) _ rfl,fZ,q3 3 _ (.string (str t2)) _ rfl,fZ,e3,fZ,Nu];by_cases h3:t1=t2<;>simp[h0,h1,h2,h3]
   ·simp[h2]
  ·simp[h1]
 ·simp[h0]
theorem Nh (p:Pt):(#[Value.int .u64 (p.gen:Int),ι (p.number:Int),ι (p.all:Int),.string (str p.text)]).all (·.oneCell')=true:=by simp[Value.oneCell']
theorem YI {n:Nat} {w w':World} (h:Below n w w'):Below n w w'.drew:=h.trans (Below.drew (oT _ _))
theorem Jd (t:ByteArray) (n:Int):(#[Value.string t,ω n]).all (·.oneCell')=true:=by simp[Value.oneCell']
theorem adS {P:Prop} (h:P:=by
 go_enter func119,ntmps119
 go_wp2
 exact cJ (jU rfl _ _ w.heap.size _ _ _ _ rfl ((η.new w _ _).alloc _) underlying207 rfl rfl) rfl ⟨rfl,((oT _ w).alloc (bO _) _).alloc sM _⟩):P:=h
theorem TY {P:Prop} (h:P:=by
 exact hb.trans ⟨aB.os,aB.tape,aB.output,aB.size,fun b ef=>aB.block b (nY ef hb.size) oM⟩):P:=h
theorem adT {P:Prop} (h:P:=by
 intro j hj;have fX:=HOw.out.lt (k:=g) lV;rw[← HC.out k j oI hj,GZ.cell (p:=⟨g,k*4+j,none⟩) (nY fX H2.out.2.1.size),H2.out.2.1.cell (p:=⟨g,k*4+j,none⟩) fX]):P:=h
theorem amI (v:Value) (l:List Pt) (w:World) (hO:Own w 277 4 v l.length (pQ l)) (hl:l.length≤1000) (ht:∀p ∈ l,p.text.length≤48) (ha:∀p ∈ l,p.all<256) :
 ς 119 #[v] w fun e w'=>e=ώ (.agg #[.string (str (ec l).1),ω ((ec l).2:Int)])∧Below w.heap.size w w':=by
 by_cases hn:l.length=0
 ·obtain⟨A,c,hv,_⟩:=hO.shape
  have hl0:l=[]:=Mh.1 hn;subst hl0;simp only[AV] at hv;subst hv;clear hO hn;have hr:ec []=([],0):=rfl;rw[hr];exact adS
 ·obtain⟨g, cap,rfl,_,_⟩:=hO.head oM
  have h0:0<l.length:=oM;have VF:=(hO.alloc (.cells #[.string ⟨#[]⟩,ω 0] 207)).alloc (.cells #[.string ⟨#[]⟩,ω 0] 207);have hcell:∀(i j:Nat) (hi:i<l.length) (hj:j<4),((w.alloc (.cells #[.string ⟨#[]⟩,ω 0] 207)).alloc (.cells #[.string ⟨#[]⟩,ω 0] 207)).cell? ⟨g,i*4+j,none⟩=(Pt.cells l[i])[j]? := by
   intro i j hi hj;rw[VF.cellAt (i*4+j) oM,Rk l i hi j hj]
  have uP:=hcell 0 0 h0 oM;have ha0:=hcell 0 2 h0 oM;simp only[Nat.zero_mul,lK,Pt.cells,oV,qm] at uP ha0;have an':(0:Int)<(l.length:Int):=oM;have adI:((l.length:Int) == 0)=false:=ru
  have HC:=δ hcell;have HOw:=δ VF;clear hcell VF hO;by_cases hz:l[0].gen=0
  ·have hr:ec l=([],0):=by
    have e:vp l=l[0].gen:=TW
    simp[ec,e,hz]
   rw[hr];rw[hz] at uP;exact adS
  ·have hz' : ((l[0].gen:Int) == 0)=false:=by rw[iX];omega
   go_enter func119,ntmps119
   go_wp2
   have lH:η ((w.alloc (.cells #[.string ⟨#[]⟩,ω 0] 207)).alloc (.cells #[.string ⟨#[]⟩,ω 0] 207)) (w.heap.size+1) 207 #[.string ⟨#[]⟩,ω 0]:=by
    have h:=η.new (w.alloc (.cells #[.string ⟨#[]⟩,ω 0] 207)) 207 #[.string ⟨#[]⟩,ω 0];simpa using h
   have kj:η ((w.alloc (.cells #[.string ⟨#[]⟩,ω 0] 207)).alloc (.cells #[.string ⟨#[]⟩,ω 0] 207)) w.heap.size 207 #[.string ⟨#[]⟩,ω 0]:=(η.new w _ _).alloc _;have Cg:Below w.heap.size w ((w.alloc (.cells #[.string ⟨#[]⟩,ω 0] 207)).alloc (.cells #[.string ⟨#[]⟩,ω 0] 207)):=((oT _ w).alloc (bO _) _).alloc sM _;have K5:((w.alloc (.cells #[.string ⟨#[]⟩,ω 0] 207)).alloc (.cells #[.string ⟨#[]⟩,ω 0] 207)).heap.size=w.heap.size+2:=gZ
   have HB:=aF kj lH Cg K5;clear kj lH Cg K5;clear uP ha0;generalize ((w.alloc (.cells #[.string ⟨#[]⟩,ω 0] 207)).alloc (.cells #[.string ⟨#[]⟩,ω 0] 207))=W at *;have hmn:min (l[0].all:Int) (l.length:Int)=((min l[0].all l.length:Nat):Int):=oM;have HT:=δ (agn l);have HL:Hid (∀k,k≤l.length→(kQ (l.take k)).length≤48*k):=by
    intro k hk;have h:=aiI (l.take k) fun p hp=>ht p (Iw hp)
    rw[iW,xy hk] at h;exact h
   have hmr:=Nat.min_le_right l[0].all l.length;go_loopw [4,27] (fun t i wr=>∃k:Nat,k≤min l[0].all l.length∧t=.string (str (kQ (l.take k)))∧i=ι k∧wr=W) (fun _ i _=>min l[0].all l.length - (intOf i).toNat)
   case atStart=>exact⟨0,oM,rfl,rfl,rfl⟩
   case round =>
    obtain⟨k,hk,rfl,rfl,rfl⟩:=hrel;by_cases hlt:k<min l[0].all l.length
    ·have oI:k<l.length:=oM
     have hc:=HC.out k 3 oI oM;simp only[Pt.cells,oV,qm] at hc;have hs:=δ (HL.out k oM);have hsk:=HL.out k oM;have cU:=ht l[k] (eE _);have bK:(str (kQ (l.take k))).size≤48*k:=by rw[bR];exact hsk
     have aY:(str l[k].text).size≤48:=by rw[bR];exact cU
     have TX:=Bf (kQ (l.take k)) l[k].text;clear hsk cU;go_wp2
     go_roundw
     case rel=>exact⟨k+1,oM,by rw[HT.out k oI],by go_num,trivial⟩
     case measure=>simp[intOf];omega
    ·obtain rfl : k=min l[0].all l.length:=oM
     have htl:l.take (min l[0].all l.length)=l.take (qU l):=by
      have e:qU l=l[0].all:=TW
      rw[e];by_cases h:l[0].all≤l.length
      ·rw[xy h]
      ·rw[Nat.min_eq_right oM,dV (bO _),dV oM]
     have hfg:vp l=l[0].gen:=TW
     have iN:(kQ (l.take (qU l))).length≤48*l.length:=by
      rw[← htl];have h:=HL.out (min l[0].all l.length) hmr;omega
     rw[htl];have HH:Hid (ec l=if 400<(kQ (l.take (qU l))).length then ([],0) else
      if aU (kQ (l.take (qU l))) (vp l)=l.take (aM (kQ (l.take (qU l))).length) then (kQ (l.take (qU l)),vp l) else ([],0)):=by
      show _=_;rw[ec,ν (by rw[hfg];exact hz)]
     generalize kQ (l.take (qU l))=T at HH iN ⊢;have uO:(str T).size=T.length:=bR T;by_cases h4:400<T.length
     ·have Es:(400:Int)<(str T).size:=oM
      go_wp2_with (first|(refine lM rfl _ _ rfl (w.heap.size+1) rfl _ _ _ HB.out.2.1 underlying207 rfl rfl ?_)|(refine eN 207 w.heap.size #[.string ⟨#[]⟩,ω 0] HB.out.1 (Jd _ _) ?_;intro w2 aD σ cn));refine cJ (jU rfl _ _ w.heap.size _ _ _ _ rfl aD underlying207 rfl rfl) rfl ⟨?_,HB.out.2.2.1.trans ⟨σ.os,σ.tape,σ.output,σ.size,fun b hb=>σ.block b (nY hb HB.out.2.2.1.size) oM⟩⟩;rw[HH.out,π h4];rfl
     ·have Es : ¬(400:Int)<(str T).size:=oM
      rw[ν h4] at HH;have BK:Hid (∀W,ς 173 #[.string (str T),ω (l[0].gen:Int)] W fun e w'=>∃v,e=ώ v∧Own w' 277 4 v (aM T.length) (pQ (aU T l[0].gen))∧Below W.heap.size W w'∧(∀q,v.ownBlock=some q→W.heap.size≤q)):=by
       intro W;have h:=acn (str T) l[0].gen W oM;rw[uO] at h;have e:(str T).data.toList=T:=by simp[str]
       rw[e] at h;exact h
      have uP:=HC.out 0 0 h0 oM;simp only[Nat.zero_mul,lK,Pt.cells,oV] at uP;have OD:=HB.out.2.2.2;have hA:aM T.length≤9:=zJ
      have hA':1≤aM T.length:=zJ
      by_cases h5:l.length<aM T.length
      ·have VG:(l.length:Int)<(aM T.length:Int):=oM
       go_wp2_with (first
        |(go_at_call 173
          refine(BK.out _).mono ?_;rintro e w2 ⟨v2,rfl,bL,bM,hl2⟩;obtain⟨g2,fJ,rfl,hx1,hx2⟩:=bL.head oM;have kj:=HB.out.1.dr (bM.block _ oM);have lH:=HB.out.2.1.dr (bM.block _ oM);have H2:=cD bL bM hl2 kj lH;clear bL bM hl2 kj lH)
        |(refine lM rfl _ _ rfl (w.heap.size+1) rfl _ _ _ H2.out.2.2.2.2 underlying207 rfl rfl ?_)
        |(refine eN 207 w.heap.size #[.string ⟨#[]⟩,ω 0] H2.out.2.2.2.1 (Jd _ _) ?_
          intro w3 aC χ fF))
       refine cJ (jU rfl _ _ w.heap.size _ _ _ _ rfl aC underlying207 rfl rfl) rfl ⟨?_,?_⟩
       ·rw[HH.out,ν]
        ·rfl
        ·intro h
         have h:=aI List.length h;rw[od,iW] at h;omega
       ·have bM:=H2.out.2.1
        rw[OD] at bM;have hb:=HB.out.2.2.1.trans (bM.mono oM);exact hb.trans ⟨χ.os,χ.tape,χ.output,χ.size,fun b ef=>χ.block b (nY ef hb.size) oM⟩
      ·have VG : ¬(l.length:Int)<(aM T.length:Int):=oM
       go_wp2_with (first
        |(go_at_call 173
          refine(BK.out _).mono ?_;rintro e w2 ⟨v2,rfl,bL,bM,hl2⟩;obtain⟨g2,fJ,rfl,hx1,hx2⟩:=bL.head oM;have kj:=HB.out.1.dr (bM.block _ oM);have lH:=HB.out.2.1.dr (bM.block _ oM);have H2:=cD bL bM hl2 kj lH;clear bL bM hl2 kj lH))
       have Ch:=od T l[0].gen;generalize hCd:aU T l[0].gen=C at *;go_loopw [56] (fun i wx=>∃k:Nat,k≤aM T.length∧i=ι k∧Below w2.heap.size w2 wx∧C.take k=l.take k) (fun i _=>aM T.length - (intOf i).toNat)
       case atStart=>exact⟨0,oM,rfl,oT _ _,rfl⟩
       case round =>
        obtain⟨k,hk2,rfl,nO,heq⟩:=hrel;by_cases pT:k<aM T.length
        ·have oI:k<l.length:=oM
         have PM:k<C.length:=oM;have hc0:∀j,j<4→wr.cell? ⟨g2,k*4+j,none⟩=(Pt.cells C[k])[j]? := by
          intro j hj;have bL:=(H2.out.1).dr (w':=wr) fun q hq=>nO.block q (H2.out.1.lt hq)
          rw[bL.cellAt (k*4+j) oM,Rk C k PM j hj]
         have tN:=hc0 0 oM;have l7:=hc0 1 oM;have nL:=hc0 2 oM;have rJ:=hc0 3 oM;simp only[sU,Pt.cells,oV,qm] at tN l7 nL rJ;clear hc0;have hbW:=OD;have HX:=aq nO heq PM;clear nO heq;have wj:=aj_ l[k] C[k];simp only[Pt.val] at wj;by_cases hpq:l[k]=C[k]
         ·rw[fo hpq] at wj
          simp only[xu] at wj;go_wp2_with (first
           |(refine eN 277 wr.heap.size #[ω C[k].gen,ι C[k].number,ι C[k].all,.string (str C[k].text)] (η.new wr 277 #[ω 0,ι 0,ι 0,.string ⟨#[]⟩]) (Nh _) ?_
             intro w3 aC χ fF;have sH:=aC.iE;have yK:Below wr.heap.size wr w3:=⟨χ.os,χ.tape,χ.output,by simp at fF;omega,fun q hq=>(χ.block q iy oM).trans (rS wr _ q hq)⟩;have GZ:Below w2.heap.size w2 w3:=HX.out.1.trans (yK.mono HX.out.1.size);have PN:=HB.out.2.2.1.size;have jQ:∀j,j<4→w3.cell? ⟨g,k*4+j,none⟩=(Pt.cells l[k])[j]? := by
              exact adT
             have VH:=jQ 0 oM;have hp1:=jQ 1 oM;have hp2:=jQ 2 oM;have VI:=jQ 3 oM;simp only[sU,Pt.cells,oV,qm] at VH hp1 hp2 VI;have H3:=τ GZ aC;clear jQ GZ PN yK χ fF aC tN l7 nL rJ))
          go_region
          all_goals
           go_wp2
           go_roundw
           case rel =>
            refine⟨k+1,oM,by go_num,YI H3.out.1,?_⟩;rw[ia PM,ia oI,HX.out.2.1,hpq]
           case measure=>simp[intOf];omega
         ·rw[gI hpq] at wj
          simp only[Bool.not_false] at wj;go_wp2_with (first
           |(refine eN 277 wr.heap.size #[ω C[k].gen,ι C[k].number,ι C[k].all,.string (str C[k].text)] (η.new wr 277 #[ω 0,ι 0,ι 0,.string ⟨#[]⟩]) (Nh _) ?_
             intro w3 aC χ fF;have sH:=aC.iE;have yK:Below wr.heap.size wr w3:=⟨χ.os,χ.tape,χ.output,by simp at fF;omega,fun q hq=>(χ.block q iy oM).trans (rS wr _ q hq)⟩;have GZ:Below w2.heap.size w2 w3:=HX.out.1.trans (yK.mono HX.out.1.size);have PN:=HB.out.2.2.1.size;have jQ:∀j,j<4→w3.cell? ⟨g,k*4+j,none⟩=(Pt.cells l[k])[j]? := by
              exact adT
             have VH:=jQ 0 oM;have hp1:=jQ 1 oM;have hp2:=jQ 2 oM;have VI:=jQ 3 oM;simp only[sU,Pt.cells,oV,qm] at VH hp1 hp2 VI;have H3:=τ GZ aC;clear jQ GZ PN yK χ fF aC tN l7 nL rJ))
          go_region
          all_goals
           have aJ:η w3.drew (w.heap.size+1) 207 #[.string ⟨#[]⟩,ω 0]:=(H2.out.2.2.2.2).dr (H3.out.1.block _ H2.out.2.2.2.2.lt);have aK:η w3.drew w.heap.size 207 #[.string ⟨#[]⟩,ω 0]:=(H2.out.2.2.2.1).dr (H3.out.1.block _ H2.out.2.2.2.1.lt);have H5:=τ aJ aK;clear aJ aK;go_wp2_with (first
            |(refine lM rfl _ _ rfl (w.heap.size+1) rfl _ _ _ H5.out.1 underlying207 rfl rfl ?_)
            |(refine eN 207 w.heap.size #[.string ⟨#[]⟩,ω 0] H5.out.2 (Jd _ _) ?_
              intro w6 cY aB tO))
           refine cJ (jU rfl _ _ w.heap.size _ _ _ _ rfl cY underlying207 rfl rfl) rfl ⟨?_,?_⟩
           ·rw[HH.out,ν]
            ·rfl
            ·intro h
             apply hpq
             have hh:=aI (fun x=>x[k]?) h;rw[hfg] at hh;simp only[hCd] at hh;rw[List.getElem?_take_of_lt pT,bu PM,bu oI] at hh;exact(dM hh).symm
           ·have bM:=H2.out.2.1
            rw[OD] at bM;have hb:=(HB.out.2.2.1.trans (bM.mono oM)).trans ((YI (H3.out.1)).mono (ic (HB.out.2.2.1.size) (H2.out.2.1.size)));exact TY
        ·obtain rfl:k=aM T.length:=oM
         have HX:=τ nO heq;clear nO heq;have K6:wr.cell? ⟨g,0,none⟩=some (ω (l[0].gen:Int)):=by
          have fX:=HOw.out.lt (k:=g) lV;have PN:=HB.out.2.2.1.size;rw[HX.out.1.cell (p:=⟨g,0,none⟩) (nY fX H2.out.2.1.size),H2.out.2.1.cell (p:=⟨g,0,none⟩) fX];exact uP
         have aK:η wr w.heap.size 207 #[.string ⟨#[]⟩,ω 0]:=(H2.out.2.2.2.1).dr (HX.out.1.block _ H2.out.2.2.2.1.lt);have H5:=δ aK;clear aK uP;go_wp2_with (first
          |(refine eN 207 w.heap.size #[.string (str T),ω l[0].gen] H5.out (Jd _ _) ?_
            intro w6 cY aB tO))
         refine cJ (jU rfl _ _ w.heap.size _ _ _ _ rfl cY underlying207 rfl rfl) rfl ⟨?_,?_⟩
         ·rw[HH.out,π,hfg]
          rw[hfg,hCd,← HX.out.2,dV oM]
         ·have bM:=H2.out.2.1
          rw[OD] at bM;have hb:=(HB.out.2.2.1.trans (bM.mono oM)).trans (HX.out.1.mono (ic (HB.out.2.2.1.size) (H2.out.2.1.size)));exact TY
def lB (b:List UInt8):Pt × Bool :=
 if 48<(b.getD 10 0).toNat then (⟨dP (b.take 8),(b.getD 8 0).toNat,(b.getD 9 0).toNat,[]⟩,false) else
 (⟨dP (b.take 8),(b.getD 8 0).toNat,(b.getD 9 0).toNat,(b.drop 12).take (b.getD 10 0).toNat⟩,
   decide (b.getD 11 0=0∧b.drop (12+(b.getD 10 0).toNat)=List.replicate (48 - (b.getD 10 0).toNat) 0))
theorem Bj (s:ByteArray) (k:Nat) (hk:k<s.size):s.data.toList.getD k 0=s[k]:=by
 simp[List.getD,hk,ByteArray.getElem_eq_getElem_data]
theorem Bk (b:UInt8):IntKind.i64.wrap (b.toNat:Int)=(b.toNat:Int):=cZ _ (oN b.toNat_lt)
theorem aiJ (l:List UInt8) (m n:Nat) (hm:m=60) (hl:l.length=60) (hn:n≤48):((Lib.countByte (List.take (m - (12+n)) (List.drop (12+n) l)) 0:Int) == 48 - (n:Int))=decide (List.drop (12+n) l=List.replicate (48 - n) 0):=by
 have hd:(List.drop (12+n) l).length=48 - n:=by simp[hl];omega
 rw[dV oM];have h:=MI (List.drop (12+n) l);rw[hd] at h;by_cases hz:List.drop (12+n) l=List.replicate (48 - n) 0
 ·rw[fo hz,h.2 hz,jV];omega
 ·rw[gI hz,iX]
  intro hh;exact hz (h.1 oM)
theorem adU {P:Prop} (h:P:=by
 have Ak:tmps[p]?.getD undef=.pointer (some ⟨g,0,none⟩):=by simpa using hp
 simp[results,h,Ak,asAddr,run_loadVar_row w g t ty cs fr d hg hu hd hi]):P:=h
theorem jk {P:Program} {fn:Func} {p q:Tmp} {ty:TypeId} (h:fn.results=#[.cell p ty,.tmp q]) (tmps:Array Value) (w:World) (g:Nat) (t:TypeId) (cs:Array Value) (fr:Nat × Nat) (d:TypeDesc)
 (hp:tmps.getD p undef=.pointer (some ⟨g,0,none⟩)) (hg:w.heap[g]? = some (.cells cs t fr))
 (hu:P.underlying ty=some d) (hd:(match d with | .struct _ | .array _ _=>true | _=>false)=true) (hi:(P.info? ty).map (·.size)=some cs.size) (v:Value) (hv:tmps.getD q undef=v) :
 (results fn tmps).run P w=.ok (.tuple #[.agg cs,v]) w:=by
 subst hv;exact adU
theorem adV {P:Prop} (h:P:=by
 have hb:=HB.out.2.2.1;have χ:=H3.out.2.2;have h1:=hb.trans (⟨χ.os,χ.tape,χ.output,χ.size,fun b ef=>χ.block b (nY ef hb.size) oM⟩:Below w.heap.size _ w3);exact((((h1.setCell (p:=⟨w.heap.size,0,none⟩) (bO _) _).setCell (p:=⟨w.heap.size,1,none⟩) (bO _) _).setCell (p:=⟨w.heap.size,2,none⟩) (bO _) _).setCell (p:=⟨w.heap.size,3,none⟩) (bO _) _).drew):P:=h
theorem amJ (s:ByteArray) (w:World) (hs:s.size=60) :
 ς 172 #[.string s] w fun e w'=>e=ώ (.tuple #[(lB s.data.toList).1.val,.bool (lB s.data.toList).2])∧Below w.heap.size w w':=by
 have h8:(8:Int)<s.size:=oM;have h9:(9:Int)<s.size:=oM;have h10:(10:Int)<s.size:=oM;have h11:(11:Int)<s.size:=oM;have g8:8<s.size:=oM;have g9:9<s.size:=oM;have g10:10<s.size:=oM;have g11:11<s.size:=oM;have e8:=δ (Bj s 8 g8);have e9:=δ (Bj s 9 g9);have e10:=δ (Bj s 10 g10);have e11:=δ (Bj s 11 g11);have hg:=δ (fun W=>agv s 8 W oM oM);go_enter func172,ntmps172
 go_upto_region 1 with fail
 go_cut [4] (fun s4 wx=>s4=.pointer (some ⟨w.heap.size+1,0,none⟩)∧η wx w.heap.size 277 #[ω 0,ι 0,ι 0,.string ⟨#[]⟩]∧η wx (w.heap.size+1) 277 #[ω (dP (s.data.toList.take 8):Int),ι ((s.data.toList.getD 8 0).toNat:Int),ι ((s.data.toList.getD 9 0).toNat:Int),.string ⟨#[]⟩]∧Below w.heap.size w wx∧wx.heap.size=w.heap.size+2)
 case first =>
  go_region_held3 (fun _=>True) (trivial) (first|(go_at_call 216;refine(hg.out _).mono ?_;rintro e w2 ⟨rfl,rfl⟩));all_goals
   go_wp2_with fail
   go_meet
   rw[Bk,Bk,← e8.out,← e9.out];refine⟨rfl,?_,?_,?_,?_⟩
   ·exact(η.new w _ _).alloc _
   ·have h:=η.new (w.alloc (.cells #[ω 0,ι 0,ι 0,.string ⟨#[]⟩] 277)) 277 #[ω (dP (s.data.toList.take 8):Int),ι ((s.data.toList.getD 8 0).toNat:Int),ι ((s.data.toList.getD 9 0).toNat:Int),.string ⟨#[]⟩]
    have h2:=h.drew;simpa using h2
   ·exact(((oT _ w).alloc (bO _) _).alloc sM _).drew
   ·simp
 case rest =>
  obtain⟨rfl,kj,lH,Cg,hsz⟩:=hcut;have hcb:=lH.iE;have HB:=aF kj lH Cg hsz;clear kj lH Cg hsz;by_cases h48:48<(s.data.toList.getD 10 0).toNat
  ·have JR:(48:Int)<(s[10].toNat:Int):=by rw[← e10.out];omega
   have hwr:IntKind.i64.wrap (s[10].toNat:Int)=(s[10].toNat:Int):=Bk _;have hr:lB s.data.toList=(⟨dP (s.data.toList.take 8),(s.data.toList.getD 8 0).toNat,(s.data.toList.getD 9 0).toNat,[]⟩,false):=by unfold lB;rw[π h48]
   have HR:=δ hr;clear hcb hr;go_wp2_with (first
    |(refine lM rfl _ _ rfl (w.heap.size+1) rfl _ _ _ HB.out.2.1 underlying277 rfl rfl ?_)
    |(refine eN 277 w.heap.size #[ω (dP (s.data.toList.take 8):Int),ι ((s.data.toList.getD 8 0).toNat:Int),ι ((s.data.toList.getD 9 0).toNat:Int),.string ⟨#[]⟩] HB.out.1 jN ?_
      intro w6 cY aB tO))
   have K7:=HR.out;generalize lB s.data.toList=rr at K7;subst K7;refine cJ (jk rfl _ _ w.heap.size _ _ _ _ rfl cY underlying277 rfl rfl (.bool false) rfl) rfl ⟨rfl,?_⟩;have hb:=HB.out.2.2.1;exact TY
  ·have JR:¬(48:Int)<(s[10].toNat:Int):=by rw[← e10.out];omega
   have hwr:IntKind.i64.wrap (s[10].toNat:Int)=(s[10].toNat:Int):=Bk _;have hr:lB s.data.toList=(⟨dP (s.data.toList.take 8),(s.data.toList.getD 8 0).toNat,(s.data.toList.getD 9 0).toNat,(s.data.toList.drop 12).take (s.data.toList.getD 10 0).toNat⟩,decide (s.data.toList.getD 11 0=0∧s.data.toList.drop (12+(s.data.toList.getD 10 0).toNat)=List.replicate (48 - (s.data.toList.getD 10 0).toNat) 0)):=by unfold lB;rw[ν h48]
   have HR:=δ hr;clear hcb hr;by_cases h0:s[11]=0
   ·have h0':((s[11].toNat:Int) == 0)=true:=by rw[h0];rfl
    go_wp2_with (first
     |(refine gJ rfl 9 _ _ rfl (w.heap.size+1) 3 (.string (s.extract 12 (12+s[10].toNat))) rfl rfl _ _ HB.out.2.1 sM rfl kR ?_
       intro w3 aC χ fF))
    simp only[jW,xA,xz] at aC;have sH:=aC.iE;have kj:η w3 w.heap.size 277 #[ω 0,ι 0,ι 0,.string ⟨#[]⟩]:=HB.out.1.ε χ oM;have H3:=aq aC kj χ;have HK:=δ (fun W=>strings_Count_one (s.extract (12+s[10].toNat) s.size) 0 W);have J2:=e10.out;generalize s[10]=b10 at *;have Pk:b10.toNat≤48:=oM;generalize hn:b10.toNat=n at *;have hle:(12:Int)+(n:Int)≤(s.size:Int):=oM;have hsub:IntKind.i64.wrap (48 - (n:Int))=48 - (n:Int):=cZ _ oM;have ju:IntKind.i64.wrap (12+(n:Int))=12+(n:Int):=cZ _ oM;have hnn:(0:Int)≤12+(n:Int):=oM;have Hs:=aq hs hn J2;clear hs hn J2 e10;have hca:=kj.iE;have bU:=kj.frozen 0;have bK:=kj.frozen 1;have aY:=kj.frozen 2;have fY:=kj.frozen 3;clear aC kj χ fF;go_region_held3 (fun w'=>w'.cell? ⟨w.heap.size+1,0,none⟩=some (ω (dP (s.data.toList.take 8):Int))∧w'.cell? ⟨w.heap.size+1,1,none⟩=some (ι ((s.data.toList.getD 8 0).toNat:Int))∧w'.cell? ⟨w.heap.size+1,2,none⟩=some (ι ((s.data.toList.getD 9 0).toNat:Int))∧w'.cell? ⟨w.heap.size+1,3,none⟩=some (.string (s.extract 12 (12+n)))) (go_keep) (first|(go_at_call 90;refine(HK.out _).mono ?_;rintro e w' ⟨rfl,rfl⟩))
    all_goals
     go_wp2
     have wC:=((((H3.out.2.1.bE 0 (ω (dP (s.data.toList.take 8):Int))).bE 1 (ι (s[8].toNat:Int))).bE 2 (ι (s[9].toNat:Int))).bE 3 (.string (s.extract 12 (12+n)))).drew;simp only[jW,xA,xz] at wC;refine cJ (jk rfl _ _ w.heap.size _ _ _ _ rfl wC underlying277 rfl rfl (.bool ((Lib.countByte (List.take (s.size - (12+n)) (List.drop (12+n) s.data.toList)) 0:Int) == 48 - (n:Int))) rfl) rfl ⟨?_,?_⟩
     ·rw[HR.out,Hs.out.2.2,Hs.out.2.1]
      simp only[Pt.val];rw[e8.out,e9.out,e11.out,uc,rU];rw[aiJ _ _ _ Hs.out.1 (by simp[Hs.out.1]) Pk];simp[h0]
     ·exact adV
   ·have h0':((s[11].toNat:Int) == 0)=false:=by
     rw[iX];intro h;exact h0 (xp.1 (by have:(0:UInt8).toNat=0:=rfl;omega))
    go_wp2_with (first
     |(refine gJ rfl 9 _ _ rfl (w.heap.size+1) 3 (.string (s.extract 12 (12+s[10].toNat))) rfl rfl _ _ HB.out.2.1 sM rfl kR ?_
       intro w3 aC χ fF))
    simp only[jW,xA,xz] at aC;have sH:=aC.iE;have kj:η w3 w.heap.size 277 #[ω 0,ι 0,ι 0,.string ⟨#[]⟩]:=HB.out.1.ε χ oM;have H3:=aq aC kj χ;have HK:=δ (fun W=>strings_Count_one (s.extract (12+s[10].toNat) s.size) 0 W);have J2:=e10.out;generalize s[10]=b10 at *;have Pk:b10.toNat≤48:=oM;generalize hn:b10.toNat=n at *;have hle:(12:Int)+(n:Int)≤(s.size:Int):=oM;have hsub:IntKind.i64.wrap (48 - (n:Int))=48 - (n:Int):=cZ _ oM;have ju:IntKind.i64.wrap (12+(n:Int))=12+(n:Int):=cZ _ oM;have hnn:(0:Int)≤12+(n:Int):=oM;have Hs:=aq hs hn J2;clear hs hn J2 e10;have hca:=kj.iE;have bU:=kj.frozen 0;have bK:=kj.frozen 1;have aY:=kj.frozen 2;have fY:=kj.frozen 3;clear aC kj χ fF;refine dW ?_;refine Yc (S:=(fun w'=>w'.cell? ⟨w.heap.size+1,0,none⟩=some (ω (dP (s.data.toList.take 8):Int))∧w'.cell? ⟨w.heap.size+1,1,none⟩=some (ι ((s.data.toList.getD 8 0).toNat:Int))∧w'.cell? ⟨w.heap.size+1,2,none⟩=some (ι ((s.data.toList.getD 9 0).toNat:Int))∧w'.cell? ⟨w.heap.size+1,3,none⟩=some (.string (s.extract 12 (12+n))))) kR ?_ (fun hHeld=>?_)
    ·go_keep
    refine fP 0 (.agg #[ω (dP (s.data.toList.take 8):Int),ι ((s.data.toList.getD 8 0).toNat:Int),ι ((s.data.toList.getD 9 0).toNat:Int),.string (s.extract 12 (12+n))]) ?_;refine fP 1 (.string s) ?_;refine fP 2 (ϋ (s[11].toNat:Int)) ?_;refine fP 3 (.bool false) ?_;refine fP 4 (.bool false) ?_;refine qA 5 ?_;refine qA 6 ?_;refine qA 7 ?_;refine qA 8 ?_;refine qA 9 ?_;refine qA 10 ?_;refine qA 11 ?_;refine qA 12 ?_;refine fP 13 (.bool false) ?_;refine QO (rs:=[14]) kR sM ?_;refine QS rfl (fun K hK=>?_) QT;go_simp
    refine hK.out _ _ ?_ (fun SU=>?_)
    ·go_keep
    clear hK K;refine fP 15 (.bool false) ?_;refine wpAnyH_done kR ?_ _;refine dz ?_;all_goals
     go_wp2
     have wC:=((((H3.out.2.1.bE 0 (ω (dP (s.data.toList.take 8):Int))).bE 1 (ι (s[8].toNat:Int))).bE 2 (ι (s[9].toNat:Int))).bE 3 (.string (s.extract 12 (12+n)))).drew;simp only[jW,xA,xz] at wC;refine cJ (jk rfl _ _ w.heap.size _ _ _ _ rfl wC underlying277 rfl rfl (.bool false) rfl) rfl ⟨?_,?_⟩
     ·rw[HR.out,Hs.out.2.2,Hs.out.2.1]
      simp only[Pt.val];rw[e8.out,e9.out,e11.out,uc,rU];simp[h0]
     ·exact adV
structure Kp where
 from_:Nat
 text:List UInt8
 gen:Nat
 at_:Nat
 seen:Nat
 broken:Bool
def Kp.cells (p:Nat) (k:Kp):Array Value :=
 #[.pointer (some ⟨p,0,none⟩),ι k.from_,.string (str k.text),ω k.gen,ι k.at_,ω k.seen,.bool k.broken]
structure xM where
 l:List Pt
 row:Bool
 seen:Nat
 bad:Bool
def zh (st:xM) (s:List UInt8):xM :=
 if st.bad then st else
 if (cK s).2=2 then { st with bad:=true } else
 if (cK s).2=1 then
  { l:=if st.row && (lB (cK s).1).2 then st.l++[(lB (cK s).1).1] else st.l,row:=st.row && (lB (cK s).1).2,seen:=max st.seen (lB (cK s).1).1.gen,bad:=false }
 else { st with row:=false }
def fH (d:Dk) (at_ seen:Nat) (k:Nat):xM:=((List.range k).map fun i=>(d.now (at_+i)).data.toList).foldl zh ⟨[],true,seen,false⟩
theorem IL (d:Dk) (a seen k:Nat):fH d a seen (k+1)=zh (fH d a seen k) (d.now (a+k)).data.toList:=by
 simp[fH,List.range_succ]
theorem ahM (d:Dk) (a seen k m:Nat) (h:k≤m) (hb:(fH d a seen k).bad=true):fH d a seen m=fH d a seen k:=by
 induction m with
 | zero => obtain rfl:k=0:=oM
           rfl
 | succ m ih =>
   by_cases hk:k=m+1
   ·rw[hk]
   ·rw[IL,ih oM,zh,π hb]
theorem adW {P:Prop} (h:P:=by
 split
 ·omega
 ·split
  ·simp only;omega
  ·split
   ·simp only
    split
    ·simp;omega
    ·omega
   ·simp only;omega):P:=h
theorem Y4 (d:Dk) (a seen k:Nat):(fH d a seen k).l.length≤k:=by
 induction k with
 | zero=>simp[fH]
 | succ k ih =>
   rw[IL,zh];exact adW
theorem Y5 {l:List UInt8} (h:(cK l).2=1):(cK l).1=l.take 60∧l.length=64:=by
 unfold cK at h ⊢;split at h
 ·simp at h
 ·split at h
  ·simp at h
  ·split at h
   ·simp at h
   ·rename_i h1 h2 h3
    rw[ν h1,ν h2,ν h3];exact⟨rfl,by simpa using h1⟩
theorem bG.not_mem {w:World} {p b:Nat} {d:Dk} {F:List Nat} {t:TypeId} {cs:Array Value} (h:bG w p d F) (hB:η w b t cs) (h1:t≠151) (h2:t≠9):b ∉ F:=by
 obtain⟨bl,cap,bm,m,g1,g2,g3,g4,g5,rfl,g7⟩:=h;intro hb;simp only[cC,oU] at hb;rcases hb with rfl | rfl | rfl | ⟨q,hq,hk⟩
 ·exact hB.B5 g1 h1 rfl
 ·exact g2.f_ hB (nt h2) lV
 ·exact g3.f_ hB rfl
 ·obtain⟨i,_,_,_,h8⟩:=g4.each q hq
  exact h8.f_ hB (nt h2) hk
theorem Dk.Y6 {d:Dk} (hoff:d.off=false) {i:Nat} (hi:i<d.ψ.length):d.read (i:Int)=(d.now i,0):=by
 unfold Dk.read Dk.there;rw[hoff,ν sM,π iy];simp
theorem alF {w:World} {p:Nat} {d:Dk} {F:List Nat} (hD:bG w p d F) (i:Int) :
 ς 46 #[.pointer (some ⟨p,0,none⟩),ι i] w.drew fun e w'=>e=ώ (.tuple #[.string (d.read i).1,ι (d.read i).2])∧w.drew=w':=NM hD.drew i
theorem Dk.wf.Sb {d:Dk} (h:d.wf) {i:Nat} (hi:i<d.ψ.length):(d.now i).size=64:=by
 unfold Dk.now;cases hl:(d.at_ i).getLast? with
 | none =>
   simp only[Option.getD_none];unfold Dk.last;rw[bN,bu hi];exact h.ψ _ (eE _)
 | some b =>
   simp only[Mm];have hb:=List.mem_of_getLast? hl;unfold Dk.at_ at hb;have hw:i<d.waits.length:=by rw[h.len];exact hi
   rw[bN,bu hw] at hb;exact h.waits _ (eE _) _ hb
theorem YJ (l:List UInt8):(cK l).2=0∨(cK l).2=1∨(cK l).2=2:=by
 unfold cK;split
 ·simp
 ·split
  ·simp
  ·split<;>simp
structure qp (w w':World) (b p:Nat) (k:Kp) (v:Value) (st:xM):Prop where
 list:Own w' 277 4 v st.l.length (pQ st.l)
 new:∀q,v.ownBlock=some q→w.heap.size≤q
 kept:η w' b 209 ({ k with seen:=st.seen }.cells p)
 ε:ζ (· = b) w w'
theorem qp.below {w w1 w2:World} {b p:Nat} {k:Kp} {v:Value} {st:xM} (h:qp w w1 b p k v st) (hb:Below w1.heap.size w1 w2):qp w w2 b p k v st :=
 ⟨h.list.dr fun q hq=>hb.block q (h.list.lt hq),h.new,h.kept.dr (hb.block _ h.kept.lt),h.ε.then (ζ.pM hb (fun _=>False)) φ⟩
theorem qp.drew {w w1:World} {b p:Nat} {k:Kp} {v:Value} {st:xM} (h:qp w w1 b p k v st):qp w w1.drew b p k v st:=h.below (oT _ _).drew
theorem qp.VJ {w w1:World} {b p:Nat} {k:Kp} {v:Value} {st:xM} (h:qp w w1 b p k v st) (m:Nat):qp w (w1.setCell ⟨b,5,none⟩ (ω (m:Int))) b p k v { st with seen:=m } := by
 refine⟨h.list.b9 (h.list.f_ h.kept dC) _,h.new,?_,h.ε.setCell (p:=⟨b,5,none⟩) (.inl rfl) _⟩;have:=h.kept.bE 5 (ω (m:Int));simpa [Kp.cells] using this
theorem adX {P:Prop} (h:P:=by
 rcases hl2 with e | e
 ·exact h.new q ux
 ·rw[e] at hq
  have h5:=dM hq;have:=h.ε.size;simp at h5
  omega):P:=h
theorem qp.app {w w1 w2:World} {b p:Nat} {k:Kp} {v v2:Value} {st:xM} {pt:Pt} (h:qp w w1 b p k v st) (o:Obj) (bL:Own w2 277 4 v2 (st.l.length+1) (pQ st.l++Pt.cells pt)) (σ:ζ (fun q=>v.ownBlock=some q) (w1.alloc o) w2)
 (hl2:v2.ownBlock=v.ownBlock∨v2.ownBlock=some (w1.alloc o).heap.size):qp w w2 b p k v2 { st with l:=st.l++[pt] } := by
 refine⟨?_,fun q hq=>?_,(h.kept.alloc o).ε σ (fun e=>h.list.f_ h.kept dC e),(h.ε.alloc o).then σ (fun q e=>.inr (h.new q e))⟩
 ·simpa [pQ] using bL
 ·exact adX
def FL (st:xM):Int:=if st.bad then 9 else 0
structure alG (w w':World) (b p:Nat) (k:Kp) (v:Value) (st:xM):Prop where
 ex:∃vl,(st.bad=false→v=vl)∧qp w w' b p k vl st
theorem adY {P:Prop} (h:P:=by
 have HS:=δ qd;clear qd Al;go_wp2
 go_roundw
 case rel =>
  refine⟨j+1,oM,by go_num,?_,?_,?_⟩;all_goals rw[HS.out]
  have h:=wD.out;exact⟨h.list,h.new,h.kept,h.ε⟩
 case measure=>simp[intOf];omega):P:=h
theorem aiK {w:World} {p b:Nat} {d:Dk} {F:List Nat} {k:Kp} (hD:bG w p d F) (hK:η w b 209 (k.cells p)) (n:Nat) (hn:n≤1) (hf:k.from_+20≤d.ψ.length) (hoff:d.off=false) :
 ς 118 #[.pointer (some ⟨b,0,none⟩),ι n] w fun e w' =>
  ∃v,e=ώ (.tuple #[v,ι (FL (fH d (k.from_+n*10) k.seen 10))])∧alG w w' b p k v (fH d (k.from_+n*10) k.seen 10):=by
 have hm:=hD.wf.most;obtain⟨i0,bx,bU,bK,aY⟩:=jD aar;have HD:=aF hD hK hf hoff;have hF:k.from_≤4096:=oM;have J3:(fH d (k.from_+n*10) k.seen 0)=⟨[],true,k.seen,false⟩:=rfl;have HZ:=δ J3;clear hD hK hf hoff hm J3;go_enter func118,ntmps118
 go_wp2
 go_loopw [6,7,15] (fun v r i wr=>∃j:Nat,j≤10∧i=ι j∧(fH d (k.from_+n*10) k.seen j).bad=false∧r=.bool (fH d (k.from_+n*10) k.seen j).row∧qp w wr b p k v (fH d (k.from_+n*10) k.seen j)) (fun _ _ i _=>10 - (intOf i).toNat)
 case atStart =>
  refine⟨0,oM,rfl,rfl,rfl,?_⟩;rw[HZ.out];exact⟨Own.nil _ _ _,by simp[Value.ownBlock],HD.out.2.1,ζ.refl _ _⟩
 case round =>
  obtain⟨j,hj,rfl,jI,rfl,hL⟩:=hrel;by_cases hlt:j<10
  ·have kI:bG wr p d F:=HD.out.1.ε hL.ε fun q hq e=>HD.out.1.not_mem HD.out.2.1 dC dC (e ▸ hq)
   have hrd:=Dk.Y6 HD.out.2.2.2 (i:=k.from_+n*10+j) (oN HD.out.2.2.1);have HR:=δ hrd;have F4:(d.read ((k.from_:Int)+(n:Int)*10+(j:Int)))=(d.now (k.from_+n*10+j),0):=by
    rw[← hrd];congr 1
   have hcs:=hL.kept.s6;have hs1:IntKind.i64.wrap ((n:Int)*10)=(n:Int)*10:=cZ _ oM;have cn:IntKind.i64.wrap ((k.from_:Int)+(n:Int)*10)=(k.from_:Int)+(n:Int)*10:=cZ _ oM;have fF:IntKind.i64.wrap ((k.from_:Int)+(n:Int)*10+(j:Int))=(k.from_:Int)+(n:Int)*10+(j:Int):=cZ _ oM;have HL:=aq hL jI kI;have Ci:=δ F4;clear hL jI kI hrd F4;go_wp2_with fail
   go_region_held3 (fun w'=>w'.cell? ⟨b,0,none⟩=some (.pointer (some ⟨p,0,none⟩))∧w'.cell? ⟨b,1,none⟩=some (ι (k.from_:Int))) (go_keep) (first|(go_at_call 46;refine(alF HL.out.2.2 _).mono ?_;rintro e w' ⟨rfl,rfl⟩));all_goals
    simp only[Ci.out];have hst:=IL d (k.from_+n*10) k.seen j;have hsz:=HD.out.1.wf.Sb (i:=k.from_+n*10+j) (oN HD.out.2.2.1);have hbd:=fun h=>ahM d (k.from_+n*10) k.seen (j+1) 10 oM h
    have HLd:qp w wr.drew b p k u6 (fH d (k.from_+n*10) k.seen j):=HL.out.1.below (oT _ _).drew;have jI:=HL.out.2.1;generalize d.now (k.from_+n*10+j)=sec at *;have HW:=aF hst hsz hbd HLd;have HB:=δ jI;have tR:=δ (fun W=>SL sec W oM);clear hst hsz hbd HLd jI HR Ci hcs hs1 cn fF;generalize wr.drew=w1 at *;rcases YJ sec.data.toList with hc | hc | hc
    ·rw[hc] at tR
     go_wp2_with (go_at_call 47;refine(tR.out _).mono ?_;rintro e w2 ⟨rfl,bM⟩);go_roundw
     case rel =>
      refine⟨j+1,oM,by go_num,?_,?_,?_⟩;all_goals rw[HW.out.1,zh,ν DJ,ν (by rw[hc];decide),ν (by rw[hc];decide)]
      ·exact HB.out
      ·have h:=HW.out.2.2.2.below bM
       exact⟨h.list,h.new,h.kept,h.ε⟩
     case measure=>simp[intOf];omega
    ·obtain⟨hbody,hlen⟩:=Y5 hc
     have K8:=δ (fun W=>amJ (str (cK sec.data.toList).1) W (by rw[bR,hbody];simp[hlen]))
     rw[hc] at tR;have hdt:(str (cK sec.data.toList).1).data.toList=(cK sec.data.toList).1:=by simp[str]
     rw[hdt] at K8;have hS:fH d (k.from_+n*10) k.seen (j+1) = { l:=if (fH d (k.from_+n*10) k.seen j).row && (lB (cK sec.data.toList).1).2 then (fH d (k.from_+n*10) k.seen j).l++[(lB (cK sec.data.toList).1).1] else (fH d (k.from_+n*10) k.seen j).l,row:=(fH d (k.from_+n*10) k.seen j).row && (lB (cK sec.data.toList).1).2,seen:=max (fH d (k.from_+n*10) k.seen j).seen (lB (cK sec.data.toList).1).1.gen,bad:=false } := by
      rw[HW.out.1,zh,ν DJ,ν (by rw[hc];decide),π hc]
     have HS:=δ hS;have Cj:=δ HW.out.2.2.2;clear hS hdt hbody hlen hc HW HB HL;have K9:(fH d (k.from_+n*10) k.seen j).l.length≤j:=Y4 _ _ _ _;generalize fH d (k.from_+n*10) k.seen j=st at *;generalize lB (cK sec.data.toList).1=pr at *;obtain⟨pt,is⟩:=pr;simp only at *
     go_wp2_with (first
      |(go_at_call 47
        refine(tR.out _).mono ?_;rintro e w2 ⟨rfl,bM⟩)
      |(go_at_call 172
        refine(K8.out _).mono ?_;rintro e w3 ⟨rfl,qG⟩;have HL3:=δ ((Cj.out.below bM).below qG))
      |(refine eN 277 w3.heap.size #[ω pt.gen,ι pt.number,ι pt.all,.string (str pt.text)] (η.new w3 277 #[ω 0,ι 0,ι 0,.string ⟨#[]⟩]) (Nh _) ?_
        intro w4 aJ au hs4;have hb4:Below w3.heap.size w3 w4:=⟨au.os,au.tape,au.output,by simp at hs4;omega,fun q hq=>(au.block q iy oM).trans (rS w3 _ q hq)⟩;have pz:=τ (HL3.out.below hb4) aJ;have tM:=aJ.iE;have yL:=pz.out.1.kept.s6;have dh:=pz.out.1.kept.frozen 5;clear aJ au hs4 hb4))
     go_region
     all_goals
      have hmx:max (st.seen:Int) (pt.gen:Int)=((max st.seen pt.gen:Nat):Int):=oM;simp only[hmx];have wD:=δ ((pz.out.1.VJ (max st.seen pt.gen)).drew);have aK:η (w4.setCell ⟨b,5,none⟩ (ω ((max st.seen pt.gen:Nat):Int))).drew w3.heap.size 277 #[ω pt.gen,ι pt.number,ι pt.all,.string (str pt.text)] :=
       (pz.out.2.b9 (p:=⟨b,5,none⟩) (fun e=>pz.out.2.B5 pz.out.1.kept dC e) _).drew
      have Al:=aK.iE;have qd:=HS.out;clear tM yL dh aK hmx HS;generalize (w4.setCell ⟨b,5,none⟩ (ω ((max st.seen pt.gen:Nat):Int))).drew=w5 at *;cases hr:st.row
      ·simp only[hr,Bool.false_and,mH,jj] at qd
       exact adY
      ·cases l8:is
       ·simp only[hr,l8,IE,mH,jj] at qd
        exact adY
       ·simp only[hr,l8,IE,vf] at qd
        have HS:=δ qd;clear qd;go_wp2_with (at_builtin;refine kr rfl _ _ _ _ rfl 277 i0 _ 4 40 underlying210 bx bU bK aY rfl u6 st.l.length _ rfl (wD.out.list.alloc _) _ 1 [_,_,_,_] rfl (Src.rY underlying210 _ rfl) jN (by have:=K9;unfold maxLen;omega) (oN K9) ?_;intro v2 w6 bL σ hl2 cn);go_roundw
        case rel =>
         refine⟨j+1,oM,by go_num,?_,?_,?_⟩;all_goals rw[HS.out]
         have h:=wD.out.app _ bL σ hl2;exact⟨h.list,h.new,h.kept,h.ε⟩
        case measure=>simp[intOf];omega
    ·rw[hc] at tR
     go_wp2_with (go_at_call 47;refine(tR.out _).mono ?_;rintro e w2 ⟨rfl,bM⟩);have hS:fH d (k.from_+n*10) k.seen (j+1) = { fH d (k.from_+n*10) k.seen j with bad:=true } := by
      rw[HW.out.1,zh,ν DJ,π hc]
     have h10:=HW.out.2.2.1 (by rw[hS]);rw[hS] at h10;have gT:=δ h10;clear h10 hS;go_ret2
     rw[gT.out];have h:=HW.out.2.2.2.below bM;have hh:qp w w2 b p k u6 { fH d (k.from_+n*10) k.seen j with bad:=true } := ⟨h.list,h.new,h.kept,h.ε⟩;exact⟨_,rfl,⟨u6,sM,hh⟩⟩
  ·obtain rfl:j=10:=oM
   have HL:=τ hL jI;clear hL jI;go_wp2
   go_ret2
   refine⟨u6,?_,⟨u6,fun _=>rfl,HL.out.1⟩⟩;rw[FL,HL.out.2];rfl
theorem aj' (b:List UInt8):(lB b).1.text.length≤48∧(lB b).1.all<256∧(lB b).1.gen<18446744073709551616:=by
 have h8:dP (b.take 8)<18446744073709551616:=by
  have h:=NJ (b.take 8);have hl:(b.take 8).length≤8:=iy
  have:2 ^ (8*(b.take 8).length)≤2 ^ 64:=AO oM oM;have e:(2:Nat) ^ 64=18446744073709551616:=dC;omega
 have h9:=(b.getD 9 0).toNat_lt;unfold lB;split
 ·exact⟨sM,h9,h8⟩
 ·refine⟨?_,h9,h8⟩
  rw[iW];omega
theorem RM (d:Dk) (a seen k:Nat) (hs:seen<18446744073709551616) :
 (∀p ∈ (fH d a seen k).l,p.text.length≤48∧p.all<256∧p.gen<18446744073709551616)∧(fH d a seen k).seen<18446744073709551616:=by
 induction k with
 | zero=>exact⟨by simp[fH],hs⟩
 | succ k ih =>
   rw[IL,zh];have hr:=aj' (cK (d.now (a+k)).data.toList).1;split
   ·exact ih
   ·split
    ·exact ih
    ·split
     ·refine⟨fun p hp=>?_,?_⟩
      ·simp only at hp
       split at hp
       ·rcases jX.1 hp with h | h
        ·exact ih.1 p h
        ·simp at h
         subst h;exact hr
       ·exact ih.1 p hp
      ·simp only
       omega
     ·exact ih
def FD (d:Dk) (n:Nat) (k:Kp):Option Kp :=
 if (fH d (k.from_+n*10) k.seen 10).bad then none else
 some (if k.gen<(ec (fH d (k.from_+n*10) k.seen 10).l).2
  then { k with seen:=(fH d (k.from_+n*10) k.seen 10).seen,text:=(ec (fH d (k.from_+n*10) k.seen 10).l).1,gen:=(ec (fH d (k.from_+n*10) k.seen 10).l).2,at_:=n }
  else { k with seen:=(fH d (k.from_+n*10) k.seen 10).seen })
def sd (d:Dk) (from_:Nat):Nat→Option Kp
 | 0=>some ⟨from_,[],0,1,0,false⟩
 | n+1=>(sd d from_ n).bind (FD d n)
structure aka (w w':World) (p:Nat) (o:Option Kp) (v:Value):Prop where
 ε:υ w w'
 bad:o=none→v=.pointer none
 ok:∀k,o=some k→∃b,v=.pointer (some ⟨b,0,none⟩)∧η w' b 209 (k.cells p)∧w.heap.size≤b
def alH (o:Option Kp):Int:=if o.isSome then 0 else 9
theorem akb (d:Dk) (a seen:Nat) (hs:seen<18446744073709551616):(∀q ∈ (fH d a seen 10).l,q.text.length≤48)∧(∀q ∈ (fH d a seen 10).l,q.all<256)∧(fH d a seen 10).l.length≤1000 :=
 ⟨fun q hq=>((RM d a seen 10 hs).1 q hq).1,fun q hq=>((RM d a seen 10 hs).1 q hq).2.1,by have:=Y4 d a seen 10;omega⟩
theorem ahN {d:Dk} {f n m:Nat} (h:sd d f n=none) (hm:n≤m):sd d f m=none:=by
 induction m with
 | zero => obtain rfl:n=0:=oM
           exact h
 | succ m ih =>
   by_cases e:n=m+1
   ·rw[← e];exact h
   ·rw[sd,ih oM];rfl
structure alI (w wr:World) (p b:Nat) (k:Kp) (f:Nat):Prop where
 ε:υ w wr
 kept:η wr b 209 (k.cells p)
 new:w.heap.size≤b
 from_:k.from_=f
 seen:k.seen<18446744073709551616
 at_:k.at_≤1
theorem alJ {w:World} {p:Nat} {d:Dk} {F:List Nat} (hD:bG w p d F) (f:Nat) (hf:f+20≤d.ψ.length) (hoff:d.off=false) :
 ς 63 #[.pointer (some ⟨p,0,none⟩),ι f] w fun e w'=>∃v,e=ώ (.tuple #[v,ι (alH (sd d f 2))])∧aka w w' p (sd d f 2) v:=by
 have hm:=hD.wf.most;have hne:((d.ψ.length:Int) == 0)=false:=ru
 have Eb:¬(f:Int)<0:=oM;have Pd:¬(d.ψ.length:Int) - 20<(f:Int):=oM;have HS:=δ (RL hD);have HD:=aq hD hf hoff;clear hD hoff;go_enter func63,ntmps63
 go_wp2_with (go_at_call 61;refine HS.out.mono ?_;rintro e w' ⟨rfl,rfl⟩);go_loopw [29] (fun i wr=>∃(n:Nat) (k:Kp),n≤2∧i=ι n∧sd d f n=some k∧alI w wr p w.heap.size k f) (fun i _=>2 - (intOf i).toNat)
 case atStart =>
  refine⟨0,⟨f,[],0,1,0,false⟩,oM,rfl,rfl,?_⟩;exact⟨(ζ.refl _ w).alloc _,η.new w _ _,bO _,rfl,by show 0<_;omega,by show 1≤1;omega⟩
 case round =>
  obtain⟨n,k,hn,rfl,hk,hO⟩:=hrel;by_cases hlt:n<2
  ·have kI:bG wr p d F:=HD.out.1.ε hO.ε fun _ _ e=>e
   have hSl:=aiK kI hO.kept n oM (by rw[hO.from_];exact HD.out.2.1) HD.out.2.2;have hst:sd d f (n+1)=FD d n k:=by rw[sd,hk];rfl
   have G0:=akb d (k.from_+n*10) k.seen hO.seen;have hok:=(RM d (k.from_+n*10) k.seen 10 hO.seen).2;unfold FD at hst;have PO:=δ hSl;have HO:=cD hO hk hst G0 hok;clear hO hk kI hSl hst G0 hok;generalize fH d (k.from_+n*10) k.seen 10=st at *;cases hb:st.bad
   ·have he:FL st=0:=by rw[FL,hb];rfl
    rw[he] at PO;go_wp2_with (first
     |(go_at_call 118
       refine PO.out.mono ?_;rintro e w1 ⟨v1,rfl,l9⟩;obtain⟨vl,hvl,yM⟩:=l9.ex;obtain rfl:v1=vl:=hvl hb;have GL:=δ yM;clear yM l9)
     |(go_at_call 119
       refine(amI v1 st.l _ GL.out.list HO.out.2.2.2.1.2.2 HO.out.2.2.2.1.1 HO.out.2.2.2.1.2.1).mono ?_;rintro e w2 ⟨rfl,bM⟩;have VK:=δ (GL.out.below bM);clear bM)
     |(refine eN 207 w2.heap.size #[.string (str (ec st.l).1),ω ((ec st.l).2:Int)] (η.new w2 207 #[.string ⟨#[]⟩,ω 0]) (Jd _ _) ?_
       intro w4 aJ au hs4;have hb4:Below w2.heap.size w2 w4:=⟨au.os,au.tape,au.output,by simp at hs4;omega,fun q hq=>(au.block q iy oM).trans (rS w2 _ q hq)⟩;have pz:=τ (VK.out.below hb4) aJ;have tM:=aJ.vA;have yL:=pz.out.1.kept.s6;clear aJ au hs4 hb4))
    go_region
    all_goals
     have uQ:=pz.out.1.drew;have Et:=uQ.kept.s6;have Ab:=uQ.kept.frozen 2;have vY:=uQ.kept.frozen 3;have GH:=uQ.kept.frozen 4;have Al:=pz.out.2.drew.vA;have wD:=δ uQ;clear tM yL uQ;have hst:=HO.out.2.2.1;rw[hb] at hst;simp only[mH,jj] at hst;generalize w4.drew=w5 at *;by_cases hg:k.gen<(ec st.l).2
     ·have hg':(k.gen:Int)<((ec st.l).2:Int):=oM
      rw[π hg] at hst;have gl:=δ hst;clear hst hg;go_wp2
      go_roundw
      case rel =>
       refine⟨n+1,_,oM,by go_num,gl.out,?_⟩;refine⟨?_,?_,HO.out.1.new,HO.out.1.from_,HO.out.2.2.2.2,by show n≤1;omega⟩
       ·exact(((HO.out.1.ε.then wD.out.ε (fun q e=>.inr (by rw[e];exact HO.out.1.new))).setCell (p:=⟨w.heap.size,2,none⟩) (.inr (bO _)) _).setCell (p:=⟨w.heap.size,3,none⟩) (.inr (bO _)) _).setCell (p:=⟨w.heap.size,4,none⟩) (.inr (bO _)) _
       ·have h:=((wD.out.kept.bE 2 (.string (str (ec st.l).1))).bE 3 (ω ((ec st.l).2:Int))).bE 4 (ι (n:Int))
        simpa [Kp.cells] using h
      case measure=>simp[intOf];omega
     ·have hg':¬(k.gen:Int)<((ec st.l).2:Int):=oM
      rw[ν hg] at hst;have gl:=δ hst;clear hst hg;go_wp2
      go_roundw
      case rel =>
       refine⟨n+1,_,oM,by go_num,gl.out,?_⟩;exact⟨HO.out.1.ε.then wD.out.ε (fun q e=>.inr (by rw[e];exact HO.out.1.new)),wD.out.kept,HO.out.1.new,HO.out.1.from_,HO.out.2.2.2.2,HO.out.1.at_⟩
      case measure=>simp[intOf];omega
   ·have he:FL st=9:=by rw[FL,hb];rfl
    rw[he] at PO;have hst:=HO.out.2.2.1;rw[hb] at hst;simp only[vf] at hst;have HN:=δ (ahN hst (by omega:n+1≤2));clear hst;go_wp2_with (go_at_call 118;refine PO.out.mono ?_;rintro e w1 ⟨v1,rfl,l9⟩;have HE:=δ l9;clear l9);go_ret2
    rw[HN.out];refine⟨_,rfl,?_⟩;obtain⟨vl,_,hL⟩:=HE.out.ex;exact⟨HO.out.1.ε.then hL.ε (fun q e=>.inr (by rw[e];exact HO.out.1.new)),fun _=>rfl,sM⟩
  ·obtain rfl:n=2:=oM
   have HO:=τ hk hO;clear hk hO;go_wp2
   go_ret2
   rw[HO.out.1];refine⟨_,rfl,HO.out.2.ε,sM,fun k' e=>?_⟩;obtain rfl:=dM e;exact⟨_,rfl,HO.out.2.kept,HO.out.2.new⟩
theorem J4 {P:Prop} (h:P:=by rw[HX.out.2.2.2.1];kernel_rfl):P:=h
theorem bF.akc (x:bF) (D:List UInt8):x.row.setIfInBounds 3 (.string (str D))=({ x with data:=D } : bF).row:=by
 unfold bF.row;rw[jW];rfl
theorem bF.alK {x:bF} (hx:x.tag.length=32) {T:List UInt8} (hT:T.length=32):x.row.toList.take 4++(aj T).toList++x.row.toList.drop (4+(aj T).size)=({ x with tag:=T } : bF).row.toList:=by
 rw[bX,hT];have h1:x.row.toList.drop (4+32)=[]:=qj (by rw[xo,bF.qT hx];decide)
 rw[h1,y7];rfl
theorem aiL (K B N:Nat):prog.built 191 [(0,ι (K:Int)),(1,.int .u32 (B:Int)),(2,ω (N:Int))]=some (bF.row ⟨K,B,N,[],List.replicate 32 0⟩):=kR
theorem akd (k:List UInt8) (hk:k.length=32) (K B N:Nat) (hK:K≤1048576) (hB:B<4294967296) (hN:N<18446744073709551616) (about text:ByteArray) (ha:about.size≤1000) (ht:text.size≤8192) (w:World) :
 ς 107 #[.agg (aj k),ι (K:Int),.int .u32 (B:Int),ω (N:Int),.string about,.string text] w fun e w' =>
  e=ώ (.tuple #[.agg (bF.row ⟨K,B,N,pR k B N text.data.toList,td k K B N about.data.toList (pR k B N text.data.toList)⟩),ι 0])∧υ w w':=by
 have jg:=aiL K B N;obtain⟨x0,hx0⟩:∃x,(⟨K,B,N,[],List.replicate 32 0⟩:bF)=x:=⟨_,rfl⟩;have PS:vC x0:=by rw[← hx0];exact⟨hK,hB,hN,sM,jE⟩
 have K_:=fun W=>R_ x0 PS W
 have Am:=fun W=>Zy k hk x0 PS text ht W
 have e1:x0.κ=B:=by rw[← hx0]
 have e2:x0.n=N:=by rw[← hx0]
 rw[e1,e2] at Am;obtain⟨D,hD⟩:=μ (pR k B N text.data.toList);rw[hD] at Am ⊢;have hDl:D.length=text.size:=by rw[← hD,MR];rfl
 obtain⟨x1,hx1⟩:∃x,({ x0 with data:=D } : bF)=x:=⟨_,rfl⟩;have PT:vC x1:=by rw[← hx1,← hx0];exact⟨hK,hB,hN,by show D.length≤8192;omega,jE⟩
 have Ck:=fun W=>abF k hk x1 PT about ha W
 rw[show td k x1.key x1.κ x1.n about.data.toList x1.data=td k K B N about.data.toList D by rw[← hx1,← hx0]] at Ck;obtain⟨T,hT⟩:=μ (td k K B N about.data.toList D);rw[hT] at Ck ⊢;have iN:T.length=32:=by rw[← hT];exact vo _ _
 obtain⟨x2,hx2⟩:∃x,(⟨K,B,N,D,T⟩:bF)=x:=⟨_,rfl⟩;have h12:({ x1 with tag:=T } : bF)=x2:=by rw[← hx2,← hx1,← hx0]
 have cz:=bF.akc x0 D;rw[hx1] at cz;have bn:=bF.alK PT.tag iN;rw[h12] at bn;have z2:x2.row.size=36:=bF.qT (by rw[← hx2];exact iN);rw[hx2];rw[hx0] at jg;have tz:(text.size:Int)≤8192:=oM;have HR:=δ K_;have HS:=δ Am;have HT:=δ Ck;have HX:=p7 cz bn (bF.qT PS.tag) (bF.qT PT.tag) z2 iN hk;have VL:=δ jg;clear K_ Am Ck cz bn z2 jg h12 hx2 iN hT PT hx1 hDl hD e1 e2 PS hx0 hK hB hN ha ht hk;obtain⟨g,hg⟩:=μ w.heap.size;have HG:=δ hg;go_enter func107,ntmps107
 go_upto_region 1 with (fail)
 generalize bp:World.alloc _ _=w2;have hk2:η w2 g 194 (aj k):=BH
 have hr2:η w2 (g+1) 191 (bF.row ⟨0,0,0,[],List.replicate 32 0⟩):=by
  have h:=η.new (w.alloc (.cells (aj k) 194)) 191 (bF.row ⟨0,0,0,[],List.replicate 32 0⟩);rw[dx,hg] at h;rw[← bp];exact h
 have σ:υ w w2:=ya
 have aY:w2.heap.size=g+2:=by rw[← bp,dx,dx,hg]
 have a_:=aq hk2 hr2 σ;clear hk2 hr2 σ bp hg;obtain⟨q,hq⟩:=μ w2.heap.size;have HQ:=δ (show q=g+2 by omega);clear aY;go_upto_region 2 with (first
  |(refine qQ rfl _ _ rfl [(0,ι (K:Int)),(1,.int .u32 (B:Int)),(2,ω (N:Int))] _ kR VL.out ?_)
  |(refine fG rfl 191 _ _ rfl w2.heap.size x0.row (by rw[hq];rfl) rfl 191 _ (η.new w2 _ _) (by rw[HX.out.2.2.1];rfl) (bF.row_one _) (by rw[HX.out.2.2.1];kernel_rfl) ?_
    intro w3 aC χ fY))
 have l6:υ w2 w3:=((ζ.refl (fun _=>False) w2).alloc _).then χ (fun b hb=>.inr oM);rw[hq] at aC χ;have iO:=aF (a_.out.1.ε l6 id) (a_.out.2.1.ε l6 id) aC (a_.out.2.2.then l6 φ);clear χ fY l6 aC hq;go_upto_region 4 with (first
  |(refine eA _ q iO.out.2.2.1 underlying191 (by rw[HX.out.2.2.1];kernel_rfl) ?_)
  |(go_at_call 162
    refine(HR.out _).mono ?_;rintro e w4 ⟨rfl,au⟩;have kW:=aF (iO.out.1.ε au id) (iO.out.2.1.ε au id) (iO.out.2.2.1.ε au id) (iO.out.2.2.2.then au φ);clear au))
 go_upto_region 6 with (fail)
 go_upto_region 7 with (first
  |(refine eA _ g kW.out.1 underlying194 (by rw[bX,HX.out.2.2.2.2.2.2];kernel_rfl) ?_)
  |(refine eA _ q kW.out.2.2.1 underlying191 (by rw[HX.out.2.2.1];kernel_rfl) ?_)
  |(go_at_call 163
    refine(HS.out _).mono ?_;rintro e w5 ⟨rfl,ay⟩;have Eu:=aF (kW.out.1.ε ay id) (kW.out.2.1.ε ay id) (kW.out.2.2.1.ε ay id) (kW.out.2.2.2.then ay φ);clear ay)
  |(refine gJ rfl 9 _ _ rfl q 3 (.string (str D)) rfl rfl _ _ Eu.out.2.2.1 (by rw[HX.out.2.2.1];decide) rfl kR ?_
    intro w6 cY aB iT;rw[HX.out.1] at cY;have La:=aF (Eu.out.1.ε aB (oN HQ.out)) (Eu.out.2.1.ε aB (oN HQ.out)) cY (Eu.out.2.2.2.then aB (fun b hb=>.inr (oO HQ.out HG.out)));clear aB iT cY))
 go_upto_region 8 with (first
  |(refine eA _ g La.out.1 underlying194 (by rw[bX,HX.out.2.2.2.2.2.2];kernel_rfl) ?_)
  |(refine eA _ q La.out.2.2.1 underlying191 J4 ?_)
  |(go_at_call 164
    refine(HT.out _).mono ?_;rintro e w7 ⟨rfl,bI⟩;have mD:=aq (La.out.2.1.ε bI id) (La.out.2.2.1.ε bI id) (La.out.2.2.2.then bI φ);clear bI)
  |(refine ze rfl 189 _ _ rfl q 4 (aj T) rfl rfl _ _ x2.row mD.out.2.1 (by rw[bX,HX.out.2.2.2.1,HX.out.2.2.2.2.2.1];decide) HX.out.2.1 (mI _) (by rw[bX,HX.out.2.2.2.2.2.1];kernel_rfl) ?_
    intro w8 jB cT kX;have iA:=aq (mD.out.1.ε cT (oN HQ.out)) jB (mD.out.2.2.then cT (fun b hb=>.inr (oO HQ.out HG.out)));clear cT kX jB))
 go_wp2_with (first
  |(refine eA _ q iA.out.2.1 underlying191 (by rw[HX.out.2.2.2.2.1];kernel_rfl) ?_)
  |(refine fG rfl 191 _ _ rfl (g+1) x2.row rfl rfl _ _ iA.out.1 (by rw[HX.out.2.2.2.2.1];rfl) (bF.row_one _) (by rw[HX.out.2.2.2.2.1];kernel_rfl) ?_
    intro w9 dy eW nP))
 refine cJ (jk rfl _ _ (g+1) _ _ _ _ rfl dy underlying191 rfl (by rw[HX.out.2.2.2.2.1];kernel_rfl) (ι 0) rfl) rfl ⟨rfl,iA.out.2.2.then eW (fun b hb=>.inr (oF hb HG.out))⟩
theorem ake (x:bF) (hx:vC x) (w:World) :
 ς 109 #[.agg x.row] w fun e w'=>e=ώ (.tuple #[.string (str (qR x.key x.κ x.n++(bJ x.data++x.tag))),ι 0])∧υ w w':=by
 have hkk:=hx.key;have hb:=hx.κ;have hn:=hx.n;have hd:=hx.data;have s1:=dA (n:=x.key) oM;have s2:=dA (n:=x.κ) oM;have s3:=dA hn;obtain⟨D,hD⟩:=μ (str x.data);have hDl:D.data.toList=x.data:=by rw[← hD,cA]
 have sI:D.size=x.data.length:=by rw[← hD,bR]
 obtain⟨N,hN⟩:=μ (qR x.key x.κ x.n);have p8:N.length≤30:=by rw[← hN];unfold qR;simp only[aN,iY];omega
 obtain⟨T,hT⟩:=μ (N++bJ D.data.toList);obtain⟨B,hB⟩:=μ (str x.tag);have de:str (qR x.key x.κ x.n++(bJ x.data++x.tag))=str T++B:=by
  rw[← hB,Bf,← hT,hDl,hN,eC]
 rw[de];obtain⟨S,hS⟩:=μ (str T);rw[hS];have hcs:(9223372036854775807<S.size+B.size)=False:=by
  have h1:S.size=N.length+(bJ D.data.toList).length:=by rw[← hS,bR,← hT,aN]
  have h2:B.size=32:=by rw[← hB,bR,hx.tag]
  rw[hDl,jl] at h1;have h3:=lP (n:=x.data.length) oM;exact eq_false oM
 have HCS:=δ hcs;have HX:=δ (And.intro hD (And.intro sI (And.intro hN (And.intro p8 (And.intro hT (And.intro hd (And.intro hx (And.intro hB hS))))))));have lF:=δ (bF.qT hx.tag);have PU:=δ hx.tag;have HR:=δ (fun W=>R_ x hx W);clear hkk hb hn hd s1 s2 s3 hD hDl sI hN p8 hT de hx hB hS hcs;obtain⟨g,hg⟩:=μ w.heap.size;have HG:=δ hg;go_enter func109,ntmps109
 go_upto_region 1 with (fail)
 generalize bp:World.alloc _ _=w2;have ki:η w2 g 191 x.row:=DG
 have σ:υ w w2:=yb
 have a_:=τ ki σ;clear ki σ bp hg;go_upto_region 3 with (first
  |(refine eA _ g a_.out.1 underlying191 (by rw[lF.out];kernel_rfl) ?_)
  |(go_at_call 162
    refine(HR.out _).mono ?_;rintro e w3 ⟨rfl,χ⟩;have iO:=τ (a_.out.1.ε χ id) (a_.out.2.then χ φ);clear χ))
 obtain⟨o,ho⟩:=μ w3.heap.size;go_upto_region 4 with (fail)
 generalize Cl:World.alloc _ _=w4;have kH:eF (fun _=>False) w3 w4 o []:=by rw[← Cl,← ho];exact eF.start w3
 have Lb:=δ kH;clear kH Cl ho;go_upto_region 6 with (first
  |(go_at_call 168
    refine(Zx x HX.out.2.2.2.2.2.2.1 Lb.out sM).mono ?_;rintro e w5 ⟨rfl,h5⟩;rw[oR,HX.out.2.2.1] at h5;obtain⟨-,-,-,c3⟩:=bF.cells (iO.out.1.ε h5.ε id);rw[HX.out.1] at c3;have H5:=δ h5;clear h5)
  |(go_at_call 100
    refine(xH H5.out D (by rw[HX.out.2.1];have:=HX.out.2.2.2.2.2.1;omega) (oN HX.out.2.2.2.1)).mono ?_;rintro e w6 ⟨rfl,h6⟩;rw[HX.out.2.2.2.2.1] at h6;have H6:=δ h6;clear h6 c3)
  |(refine eA _ g (iO.out.1.ε Lb.out.ε id) underlying191 (by rw[lF.out];kernel_rfl) ?_))
 have aB:=(ζ.refl (fun _=>False) w6).drew;have hst:=I1 (H6.out.still aB);rw[HX.out.2.2.2.2.2.2.2.2] at hst;have yd:ς 101 #[.pointer (some ⟨o,0,none⟩)] w6.drew fun e w''=>e=ώ (.string S)∧w''=w6.drew:=hst.mono fun _ _ h=>⟨h.1,h.2.symm⟩
 have gl:=δ yd;have Cm:=iO.out.1.ε (H6.out.ε.then aB φ) id;have hcs:=HCS.out;have hcv:=Ss w6.drew g 4 32 32 x.tag PU.out (fun i hi=>bF.anq Cm i (by rw[PU.out];exact hi));rw[HX.out.2.2.2.2.2.2.2.1] at hcv;have HF:=δ (iO.out.2.then (H6.out.ε.then aB φ) φ);clear aB hst yd Cm;refine wp_region_still_lit kR kR ?_;still_call gl.out
 still_step
 still_step
 still_step
 still_step
 still_step
 still_step
 refine wpStill_nil ?_;go_wp2_with fail
 go_ret2
 exact⟨rfl,HF.out⟩
end
end Go.Proofs.YtbhjgfibhegddaaGreat
