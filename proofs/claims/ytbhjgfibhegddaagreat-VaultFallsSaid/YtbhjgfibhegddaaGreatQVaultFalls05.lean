/-
  Parts of the proof of VaultFalls: ShaC, SealM, Steps, ZipB, ZipD, Mac, AesA.
-/
import Derived.Test.YtbhjgfibhegddaaGreatQVaultFalls04
import Derived.Laws.BitsAllLaws
set_option maxRecDepth 100000
set_option maxHeartbeats 16000000
namespace Go.Proofs.YtbhjgfibhegddaaGreat
abbrev xy:=@Nat.min_eq_left
abbrev X9:=@List.drop_replicate
abbrev X_:=@List.ext_getElem
abbrev Ml:=@List.getElem?_drop
abbrev IC:=@ByteArray.size_append
abbrev af5:=@UInt8.toNat.inj
abbrev vj:=@List.length_range
abbrev t_:=@List.range_succ
abbrev Ya:=@UInt8.ofNat_toNat
open Tryz
section
open Go Go.RowKit
theorem TK {P:Prop} (h:P:=by have:=(mF.1 e).1;simpa [aO] using this):P:=h
theorem ry {P:Prop} (h:P:=by rw[← hw1];exact(ζ.refl _ w).alloc _):P:=h
theorem Oo {P:Prop} (h:P:=by rw[← hw1];exact η.new w _ _):P:=h
theorem BB {P:Prop} (h:P:=by rw[bX,HO.out.2];kernel_rfl):P:=h
def aj (l:List UInt8):Array Value:=(aO l).toArray
theorem bX (l:List UInt8):(aj l).size=l.length:=by simp[aj,aO]
theorem mI (l:List UInt8):(aj l).all (·.oneCell')=true:=by simp[aj,aO,Value.oneCell']
theorem gK.src {w:World} {v:Value} {l:List UInt8} (h:gK w v l):Src prog w 89 1 v l.length (aO l):=by
 obtain⟨A,cap,rfl,h1,h2,h3⟩:=h;by_cases h0:l=[]
 ·subst h0
  cases A with
  | none=>exact Src.of_nil underlying89 _
  | some a=>exact Src.vt underlying89 a 0 cap rfl (fun j u e=>by simp[aO] at e)
 ·obtain⟨b,off,rfl,hb,hc⟩:=h3 (Iu.2 h0)
  refine Src.vt underlying89 _ _ _ (by simp[aO]) (fun j u e=>?_);have hj:j<l.length:=TK
  rw[Addr.add_mid,hc j hj,← e];simp[aO,hj]
def NZ:Value→Nat
 | .slice _ n _=>n
 | _=>0
structure DE (w1 wr:World) (v:Value) (ls:List UInt8):Prop where
 own:Own wr 5 1 v ls.length (aO ls)
 ε:υ w1 wr
 b9:∀q,v.ownBlock=some q→w1.heap.size≤q
theorem DE.next {w1 wr w2 w3:World} {v v':Value} {ls l2:List UInt8} {m:Nat} {xs:List Value} (s:DE w1 wr v ls) (ha:υ wr w2) (ho:Own w3 5 1 v' m xs) (hm:m=(ls++l2).length) (hx:xs=aO (ls++l2)) (hU:ζ (fun k=>v.ownBlock=some k) w2 w3)
 (hl:v'.ownBlock=v.ownBlock∨v'.ownBlock=some w2.heap.size):DE w1 w3 v' (ls++l2):=by
 subst hm hx;refine⟨ho,(s.ε.then ha φ).then hU (fun q hq=>.inr (s.b9 q hq)),fun q hq=>?_⟩;rcases hl with e | e
 ·rw[e] at hq;exact s.b9 q hq
 ·rw[e] at hq
  have:=dM hq;have h1:=s.ε.size;have h2:=ha.size;omega
theorem ahE (w:World) (l:List Int) (hl:l.length=8) (k:Nat) (hk:k<8):(Instr.index 377 (.agg (eG l)) (ι (k:Int))).run prog w=.ok (.int .u32 (l.getD k 0)) w:=by
 obtain⟨a,b,c,d,e,f,g,i,rfl⟩:=eight hl;have h:k=0∨k=1∨k=2∨k=3∨k=4∨k=5∨k=6∨k=7:=oM;rcases h with rfl | rfl | rfl | rfl | rfl | rfl | rfl | rfl<;>rfl
theorem MK {w:World} {g off n cap:Nat} {T:TypeId} {l0 l:List UInt8} {v:Value} (hB:η w g T (aj l0)) (hs:gK w v l) (hn:l.length≤n) (hf:off+l.length≤l0.length) :
 ∃W r,(Builtin.copy_ #[89,89] 3 #[.slice (some ⟨g,off,none⟩) n cap,v]).run prog w=.ok r W∧η W g T (aj (l0.take off++l++l0.drop (off+l.length)))∧ζ (· = g) w W∧W.heap.size=w.heap.size:=by
 obtain⟨A,c,rfl,h1,h2,h3⟩:=hs;by_cases h0:l=[]
 ·subst h0
  refine⟨w,goInt 0,run_copy_none w _ _ _ 5 _ _ _ _ _ _ underlying89 kR sM,?_,ζ.refl _ _,rfl⟩;simpa using hB
 ·obtain⟨b,o,rfl,hb,hc⟩:=h3 (Iu.2 h0)
  have hrun:=run_copy_row (P:=prog) w 89 89 3 5 g off n cap ⟨b,o,none⟩ l.length c (aj l0) T (aO l) underlying89 kR hB (by rw[uh];exact(xy hn).symm) (fun j u e=>by
   have hj:j<l.length:=TK
   rw[Addr.add_mid,hc j hj,← e];simp[aO,hj]) (by rw[uh,bX];exact hf) (C8 _)
  refine⟨_,_,hrun,?_,ζ.Nn _ _ _,by simp[World.setRow]⟩;have e:((aj l0).toList.take off++aO l++(aj l0).toList.drop (off+(aO l).length)).toArray=aj (l0.take off++l++l0.drop (off+l.length)):=by
   simp[aj,aO,List.map_take,List.map_drop]
  rw[e];exact hB.setRow _
theorem Q2 {P:Program} {ops:Array Oper} {o:Oper} {a:Act} {w w':World} {K:Act→World→Prop} {Q:Exit→Act→World→Prop} {E:Prop} (hgd:o.guard=none) (d s:Operand) (dT sT:TypeId)
 (ho:o.op=.call { callee:=.builtin .copy,args:=#[d,s],argTypes:=#[dT,sT] }) {vd vs r:Value} (hd:a.eval d=vd) (hs:a.eval s=vs) (hrun:(Builtin.copy_ #[dT,sT] o.type #[vd,vs]).run P w=.ok r w')
 (h:K (a.put o.dst r) w'):if Region.wanted o (yielded ops a.tmps)=true then Oper.wp P o a w K Q else E:=by
 have hw:Region.wanted o (yielded ops a.tmps)=true:=by simp[Region.wanted,hgd]
 rw[π hw];subst hd hs;unfold Oper.wp;simp[execOp,ho,resolve,invoke,builtin,hrun,Result.andThen]
 exact h
theorem ajT {l:List Int} (hl:l.length=8) (k:Nat) (hk:k≤8):(pU (l.take k)++List.replicate (32 - 4*k) 0).length=32:=by
 rw[aN,Nd,iW,jE];omega
theorem aiz {l:List Int} (k:Nat) (hk:k<l.length) (hl:l.length=8):(pU (l.take k)++List.replicate (32 - 4*k) 0).take (4*k)++jw (l.getD k 0).toNat 4++(pU (l.take k)++List.replicate (32 - 4*k) 0).drop (4*k+4)=pU (l.take (k+1))++List.replicate (32 - 4*(k+1)) 0:=by
 have h1:(pU (l.take k)).length=4*k:=by rw[Nd,iW];omega
 have h2:pU (l.take (k+1))=pU (l.take k)++jw (l.getD k 0).toNat 4:=by
  rw[ia hk];unfold pU;rw[xq,bN,bu hk];simp
 rw[Mg oM,dV oM,← h1,List.drop_length_add_append,X9,h2];congr 2
 omega
theorem ajU {w0 w:World} {x:Nat} {h:List Int} {r:Value} {n:Nat} {l:List UInt8} (s:kC w0 w x h r n) (hb:gK w r l) (hl:l.length<64) (hn:n≤1000000) :
 ς 277 #[.pointer (some ⟨x,0,none⟩)] w fun e w'=>e=ώ (.agg (aj (pU (lQ ((vK l n).length / 64) h (vK l n)))))∧υ w w':=by
 obtain⟨i0,bx,bU,bK,aY⟩:=jD Dh;have Pn:=δ hb;obtain⟨A,cap,rfl,Dr,th,hby⟩:=hb;have HS:=τ s hby;have H0:=δ (fun W (hu:υ w W)=>Zw (s.still hu));obtain⟨P,hP⟩:=μ (vK l n);rw[hP];have Po:=δ hP;clear s hby hP;go_enter func277,ntmps277
 go_wp2_with fail
 refine(H0.out _ ((ζ.refl _ w).alloc _)).mono ?_;rintro e w' ⟨rfl,rfl⟩;generalize hw1:w.alloc (Obj.cells _ _)=w1;have az:υ w w1:=ry
 have gE:η w1 w.heap.size 189 (aj (List.replicate 32 0)):=Oo
 have c72:=(HS.out.1.still az).c72.1;have hxl:x<w1.heap.size:=(HS.out.1.still az).blk.lt;have nK:=τ az gE;clear hw1 az gE;obtain⟨g,hg⟩:=μ w.heap.size;rw[hg];have HG:=δ hg;clear hg;have lF:=δ (show w.heap.size<w1.heap.size from by have:=nK.out.2.lt;omega);go_wp2_with (first
  |(at_builtin
    refine kr rfl _ _ _ _ rfl 5 i0 _ 1 1 underlying89 bx bU bK aY rfl (.slice A2 l.length fJ) l.length (aO l) rfl (lW.out.1.alloc _) _ 1 [ϋ 128] rfl (Src.Bi underlying89 _) jN ke oM ?_;intro v3 w3 lY χ fV fF;obtain⟨A3,BC,rfl,qE,tI⟩:=lY.shape;have Ei:=aq lY χ fV;clear lY χ fV fF qE tI)
  |(at_builtin
    refine kr rfl _ _ _ _ rfl 5 i0 _ 1 1 underlying89 bx bU bK aY rfl (.slice (some ⟨w1.heap.size,0,none⟩) 0 0) 0 (aO []) rfl (Zr w1 [] sM) _ l.length (aO l) rfl ((Pn.out.ε (nK.out.1.alloc _) (fun _ _ e=>e)).src) (C8 _) ke oM ?_;intro v2 w2 kf σ hl2 cn;rw[lK,show aO []=[] from rfl,oR] at kf;obtain⟨A2,fJ,rfl,Ea,nJ⟩:=kf.shape;have lW:=aq kf σ hl2;clear kf σ hl2 cn c72 Ea nJ))
 have bn:DE w1 w2 (.slice A2 l.length fJ) l:=by
  refine⟨lW.out.1,((ζ.refl _ w1).alloc _).then lW.out.2.1 (fun q hq=>.inr (by have e:w1.heap.size=q:=dM hq;omega)),fun q hq=>?_⟩;rcases lW.out.2.2 with e | e
  ·rw[e] at hq;have e2:w1.heap.size=q:=dM hq;omega
  ·rw[e] at hq;have e2:=dM hq;simp at e2;omega
 have kg:DE w1 w3 (.slice A3 (l.length+1) BC) (l++[128]):=bn.next ((ζ.refl _ w2).alloc _) Ei.out.1 sM (by rw[rW];rfl) Ei.out.2.1 Ei.out.2.2
 have Ej:=δ kg;obtain⟨K,hK⟩:=μ ((119 - l.length % 64) % 64);have HK:=δ (show K≤63∧∀k,k≤K→((l.length+1+k) % 64=56↔k=K) from ⟨oM,fun k hk=>by omega⟩);have Pp:=δ hK;clear bn kg lW Ei lF hK;go_loopw [3] (fun u wr=>∃k:Nat,k≤K∧DE w1 wr u (l++128::List.replicate k 0)) (fun u _=>200 - NZ u)
 case atStart=>exact⟨0,oM,Ej.out⟩
 case round =>
  clear Ej;obtain⟨k,hk,hS⟩:=hrel;have hls:(l++128::List.replicate k 0).length=l.length+1+k:=iy
  have ho:=hS.own;rw[hls] at ho;obtain⟨A5,an1,rfl,jx,hA6⟩:=ho.shape;have wh:=aq hS ho hls;obtain⟨m,hm⟩:=μ (l.length+1+k);rw[hm] at wh jx ⊢;have HM:=δ hm;by_cases hlt:k<K
  ·have h56 : ((m:Int) % 64 != 56)=true:=by have:=(HK.out.2 k hk);simp;omega
   clear hS ho hls hm jx hA6;have hA7:m≤190:=by have:=HM.out;have:=HK.out.1;omega
   go_wp2_with (at_builtin
                refine kr rfl _ _ _ _ rfl 5 i0 _ 1 1 underlying89 bx bU bK aY rfl (.slice A5 m an1) m _ rfl (wh.out.2.1.alloc _) _ 1 [ϋ 0] rfl (Src.Bi underlying89 _) jN ke oM ?_;intro v3 w3 lY χ fV fF;obtain⟨A3,BC,rfl,qE,tI⟩:=lY.shape;have cW:DE w1 w3 (.slice A3 (m+1) BC) (l++128::List.replicate k 0++[0]):=wh.out.1.next (l2:=[0]) ((ζ.refl _ wr).alloc _) lY (by rw[aN,wh.out.2.2];rfl) (by rw[rW (l++128::List.replicate k 0) [0]];rfl) χ fV
                have HS6:=δ cW;clear cW lY χ fV fF qE tI)
   go_roundw
   case rel =>
    refine⟨k+1,oM,?_⟩;have e:l++128::List.replicate (k+1) 0=l++128::List.replicate k 0++[0]:=by rw[List.replicate_succ',eC];rfl
    rw[e];exact HS6.out
   case measure=>simp[NZ];omega
  ·obtain rfl:k=K:=oM
   have h56:((m:Int) % 64 != 56)=false:=by have:=(HK.out.2 k hk);simp;omega
   have mB:=nK.out.1.then wh.out.1.ε φ;have iK:=HS.out.1.still mB;obtain⟨c72,c73,-⟩:=iK.c72;obtain⟨a0,a1,a2,a3,a4,a5,a6,a7,rfl⟩:=eight iK.len;have B_:(n:Int)*8=((8*n:Nat):Int):=oM;clear hS ho hls hm jx hA6 mB iK;go_wp2_with fail
   rw[show (8*(n:Int))=((8*n:Nat):Int) by omega];refine(YV _ m _ (8*n) 8 wr wh.out.2.1 oM (oO HM.out HK.out.1)).mono ?_;rintro e w8 ⟨v8,rfl,Pq,cT,sE⟩;have hP:=Po.out;have hpe:l++128::List.replicate k 0++jw (8*n) 8=P:=by
    rw[← hP];unfold vK;rw[Pp.out,eC];rfl
   have hpl:P.length=m+8:=by rw[← hpe,aN,wh.out.2.2,vu]
   have wj:=ajO l n hl;rw[hP] at wj;have Af:υ w1 w8:=wh.out.1.ε.then cT (fun q hq=>.inr (wh.out.1.b9 q hq));have zF:∀q,v8.ownBlock=some q→w1.heap.size≤q:=by
    intro q hq;rcases sE with e | ⟨q2,e,h2⟩
    ·rw[e] at hq;exact wh.out.1.b9 q hq
    ·rw[e] at hq;have:=dM hq;have:=wh.out.1.ε.size;omega
   rw[← rW,hpe,← hpl] at Pq;have hby:=gK.ku Pq;obtain⟨A8,adn,rfl,hA8,hA9⟩:=Pq.shape;have HPL:=δ hpl;have HP:=cD hP wj Af zF hby;have hc8:=((nK.out.1.then Af φ));have iK:=HS.out.1.still hc8;obtain⟨c72,c73,-⟩:=iK.c72;obtain⟨q0,q1,q2,q3,q4,q5,q6,q7⟩:=iK.c8;have Pr:=δ iK;clear hP hpe hpl wj Af zF hby Pq cT sE hc8 iK;go_wp2_with fail
   clear q0 q1 q2 q3 q4 q5 q6 q7 c72 c73;obtain⟨hb,Pu⟩:=μ w8.heap.size;rw[Pu];have hstart:∃(j:Nat) (A:Option Addr) (cap:Nat),Value.slice A8 P.length adn=.slice A (P.length - 64*j) cap∧64*j≤P.length∧υ w8 (w8.alloc (.cells #[Value.int IntKind.u32 a0,Value.int IntKind.u32 a1,Value.int IntKind.u32 a2,Value.int IntKind.u32 a3,Value.int IntKind.u32 a4,Value.int IntKind.u32 a5,Value.int IntKind.u32 a6,Value.int IntKind.u32 a7] 377))∧η (w8.alloc (.cells #[Value.int IntKind.u32 a0,Value.int IntKind.u32 a1,Value.int IntKind.u32 a2,Value.int IntKind.u32 a3,Value.int IntKind.u32 a4,Value.int IntKind.u32 a5,Value.int IntKind.u32 a6,Value.int IntKind.u32 a7] 377)) hb 377 (eG (lQ j [a0,a1,a2,a3,a4,a5,a6,a7] P)) ∧
    gK (w8.alloc (.cells #[Value.int IntKind.u32 a0,Value.int IntKind.u32 a1,Value.int IntKind.u32 a2,Value.int IntKind.u32 a3,Value.int IntKind.u32 a4,Value.int IntKind.u32 a5,Value.int IntKind.u32 a6,Value.int IntKind.u32 a7] 377)) (.slice A (P.length - 64*j) cap) (P.drop (64*j))∧(Value.slice A (P.length - 64*j) cap).ownBlock≠some hb:=by
    subst Pu;refine⟨0,A8,adn,rfl,oM,(ζ.refl _ w8).alloc _,η.new w8 _ _,HP.out.2.2.2.2.ε ((ζ.refl (fun _=>False) w8).alloc _) (fun _ _ e=>e),fun e=>?_⟩;obtain⟨A',cap',e1,-,-,h3⟩:=HP.out.2.2.2.2;injection e1 with e1 e2 e3;subst e1;by_cases h0:0<P.length
    ·obtain⟨b,off,rfl,hlt,-⟩:=h3 h0
     have:=dM e;simp at this
     omega
    ·have:=HP.out.2.1
     have h9:P.length=m+8:=HPL.out;omega
   have gl:=δ hstart;have HHB:=δ Pu;clear hstart Pu;generalize (w8.alloc (Obj.cells _ _))=w9 at gl ⊢;go_loopw [3] (fun u wr=>∃(j:Nat) (A:Option Addr) (cap:Nat),u=.slice A (P.length - 64*j) cap∧64*j≤P.length∧υ w8 wr∧η wr hb 377 (eG (lQ j [a0,a1,a2,a3,a4,a5,a6,a7] P))∧gK wr (.slice A (P.length - 64*j) cap) (P.drop (64*j))∧(Value.slice A (P.length - 64*j) cap).ownBlock≠some hb) (fun u _=>NZ u)
   case atStart=>exact gl.out
   case round =>
    clear gl;obtain⟨j,A,cap,rfl,hj,hu,hB,hby,hne⟩:=hrel;have hok:=Nc Pr.out.len Pr.out.all j P;obtain⟨h9,KN⟩:=μ (lQ j [a0,a1,a2,a3,a4,a5,a6,a7] P);rw[KN] at hB hok;by_cases hlt:64≤P.length - 64*j
    ·obtain⟨d0,d1,d2,d3,d4,d5,d6,d7,rfl⟩:=eight hok.1
     obtain⟨A',cap',e,Dr,th,hbz⟩:=hby;injection e with e1 e2 e3;subst e1 e3;have hl:(P.drop (64*j)).length=P.length - 64*j:=by rw[jC]
     rw[hl] at Dr;obtain⟨b,off,rfl,ef,hbz⟩:=hbz oM;obtain⟨L,hL⟩:=μ (P.length - 64*j);have Eg:=τ hL hj;rw[hL] at hlt hl Dr hne ⊢;have lE:=τ hl hbz;have qF:=hB.drew;have HU:=aF hu hB KN hok.2;obtain⟨q0,q1,q2,q3,q4,q5,q6,q7⟩:wr.cell? ⟨hb,0,none⟩=some (.int .u32 d0)∧wr.cell? ⟨hb,1,none⟩=some (.int .u32 d1)∧wr.cell? ⟨hb,2,none⟩=some (.int .u32 d2)∧wr.cell? ⟨hb,3,none⟩=some (.int .u32 d3)∧wr.cell? ⟨hb,4,none⟩=some (.int .u32 d4)∧wr.cell? ⟨hb,5,none⟩=some (.int .u32 d5)∧wr.cell? ⟨hb,6,none⟩=some (.int .u32 d6)∧wr.cell? ⟨hb,7,none⟩=some (.int .u32 d7):=⟨hB.cell 0,hB.cell 1,hB.cell 2,hB.cell 3,hB.cell 4,hB.cell 5,hB.cell 6,hB.cell 7⟩;have i1:(64:Int)≤(L:Int):=oM;have i2:(64:Int)≤(cap:Int):=oM;have Vq:=δ hne;unfold maxLen at th;clear hu hB KN hok hbz e2 hl hL hj hne qF;go_wp2_with fail
     go_still_tail 7,kR
     change wpList _ _ _ _ _ wr.drew;clear q0 q1 q2 q3 q4 q5 q6 q7;go_wp2_with (first
      |(go_at_call 292
        refine(abC [d0,d1,d2,d3,d4,d5,d6,d7] [d0,d1,d2,d3,d4,d5,d6,d7] oy ((P.drop (64*j)).take 64) x 8 b off cap _ rfl rfl Fy.1 HU.out.2.2.2 HU.out.2.2.2 Fy.2 (Pr.out.still HU.out.1.drew).k_ (Pr.out.still HU.out.1.drew).blk.lt (by rw[iW,lE.out.1];omega) oM oM ef (fun i hi=>by
         rw[Mi,lE.out.2 i (by rw[lE.out.1];omega)];simp[List.getD_eq_getElem?_getD,hi])).mono ?_
        rintro e w10 ⟨rfl,fE⟩;obtain⟨h',yA⟩:∃h',zw [d0,d1,d2,d3,d4,d5,d6,d7] [d0,d1,d2,d3,d4,d5,d6,d7] oy ((P.drop (64*j)).take 64)=h':=⟨_,rfl⟩;have yz:h'.length=8:=by rw[← yA,RC];rfl
        rw[yA];have Gd:=aq fE yz yA;clear fE yz yA)
      |(show wpList _ _ _ (⟨none,_,_,_,_,_⟩::_) _ _
        refine fG rfl 377 _ _ rfl hb (eG h') rfl rfl 377 _ (HU.out.2.1.ε (ζ.drew (ζ.refl (fun _=>False) wr)|>.then Gd.out.1 φ) id) (by rw[Fu,Fu,Gd.out.2.1];rfl) (Nf _) (by rw[Fu,Gd.out.2.1];kernel_rfl) ?_
        intro w11 gA qy JV))
     have de:∀(A':Option Addr) (cap':Nat),gK w11 (.slice A' (L - 64) cap') ((P.drop (64*j)).drop 64)→(Value.slice A' (L - 64) cap').ownBlock≠some hb →
      (∃(j:Nat) (A:Option Addr) (cap:Nat),Value.slice A' (L - 64) cap'=.slice A (P.length - 64*j) cap∧64*j≤P.length∧υ w8 w11∧η w11 hb 377 (eG (lQ j [a0,a1,a2,a3,a4,a5,a6,a7] P))∧gK w11 (.slice A (P.length - 64*j) cap) (P.drop (64*j))∧(Value.slice A (P.length - 64*j) cap).ownBlock≠some hb):=by
      intro A' cap' h1 h2;have e64:P.length - 64*(j+1)=L - 64:=by have:=Eg.out.1;omega
      refine⟨j+1,A',cap',by rw[e64],by have:=Eg.out.1;omega,(HU.out.1.drew.then Gd.out.1 φ).then qy (fun q hq=>.inr (oN HHB.out)),?_,?_,?_⟩
      ·rw[YU,HU.out.2.2.1,Gd.out.2.2]
       exact gA
      ·rw[e64,show 64*(j+1)=64*j+64 by omega,← CW]
       exact h1
      ·rw[e64];exact h2
     have an2:gK w11 (.slice (some ⟨b,off,none⟩) L cap) (P.drop (64*j)):=by
      have h1:gK wr (.slice (some ⟨b,off,none⟩) L cap) (P.drop (64*j)):=⟨_,cap,by rw[lE.out.1],by rw[lE.out.1];exact Dr,by unfold maxLen;exact th,fun _=>⟨b,off,rfl,ef,lE.out.2⟩⟩;exact h1.ε (((ζ.refl (fun _=>False) wr).drew.then Gd.out.1 φ).trans qy (H:=(· = hb)) φ (fun _ e=>.inl e)) (fun k hk e=>Vq.out (by rw[hk,e]))
     go_roundw
     case rel =>
      by_cases JC:cap=64
      ·rw[π JC,JC]
       obtain rfl:L=64:=oM;refine de _ _ ?_ Vq.out;exact On
      ·rw[ν JC]
       refine de _ _ ?_ Vq.out;by_cases TJ:L=64
       ·subst TJ
        exact On
       ·exact an2.drop oM
     case measure=>simp[NZ];omega
    ·have an3:=HP.out.2.1.1
     have hj0:P.length - 64*j=0:=oM;have hjq:P.length / 64=j:=oM;rw[hj0] at hne hby ⊢;obtain⟨d0,d1,d2,d3,d4,d5,d6,d7,rfl⟩:=eight hok.1;have HU:=cD hu hB KN hok.2 hjq;have HOB:Hid (η wr g 189 (aj (List.replicate 32 0))):=δ (by
      rw[← HG.out];exact nK.out.2.ε (HP.out.2.2.1.then hu φ) id)
     clear an3 hj0 hjq hu hB KN hok hne hby hlt hj;go_wp2_with (first
      |(refine lM rfl _ _ rfl hb rfl _ _ _ HU.out.2.1 underlying377 rfl rfl ?_))
     go_loopw [51] (fun u wr=>∃k:Nat,k≤8∧u=ι (k:Int)∧ζ (fun q=>q=g) w1 wr∧η wr g 189 (aj (pU ([d0,d1,d2,d3,d4,d5,d6,d7].take k)++List.replicate (32 - 4*k) 0))) (fun u _=>8 - (intOf u).toNat)
     case atStart=>exact⟨0,oM,rfl,(HP.out.2.2.1.then HU.out.1 φ).mono φ,HOB.out⟩
     case round =>
      clear HOB;obtain⟨k,hk,rfl,hu,hB⟩:=hrel;have HB:=τ hu hB;clear hu hB;by_cases hlt:k<8
      ·have hd:[d0,d1,d2,d3,d4,d5,d6,d7].length=8:=rfl
       obtain⟨zk,Vr⟩:∃z,[d0,d1,d2,d3,d4,d5,d6,d7].getD k 0=z:=⟨_,rfl⟩;have Ek:=ahE wr [d0,d1,d2,d3,d4,d5,d6,d7] rfl k hlt;have Pv:=HU.out.2.2.2.1.get k;rw[Vr] at Ek Pv;obtain⟨z,rfl⟩:∃z:Nat,zk=(z:Int):=⟨zk.toNat,by have:=Pv.1;omega⟩;have apa:z<4294967296:=by have:=Pv.2;omega
       have hstep:=aiz (l:=[d0,d1,d2,d3,d4,d5,d6,d7]) k iy rfl;rw[Vr,af3] at hstep;have HZ:=δ hstep;have qF:=HB.out.2.drew;have HBD:=δ qF;obtain⟨q,hq⟩:=μ (4*k);have HQ:=δ hq;have i1:(q:Int)≤32:=oM;have i0:(0:Int)≤(q:Int):=oM;have i2:q<32:=oM;have i3:¬32=q:=oM;have i4:IntKind.i64.wrap (4*(k:Int))=(q:Int):=qx
       clear Vr hd Pv hstep qF hq;go_wp2_with fail
       refine dW ?_;refine eo (S:=fun w'=>υ wr w') (T:=fun k=>k == 6) kR ?_;have aE:=(ζ.refl (fun _=>False) wr).drew;refine tk 0 ?_;simp only[av];refine tk 1 ?_;simp only[av];refine tk 2 ?_;simp only[av];refine tk 3 ?_;simp only[av];refine tk 4 ?_;simp only[av];refine Ri (i:=5) kR rfl (fun K hK=>?_);go_simp
       clear i4 Ek;rw[Ja z oM];refine(YV (.slice none 0 0) 0 [] z 4 _ (Own.nil _ _ _) dC dC).mono ?_;rintro e w12 ⟨v12,rfl,zG,iq,TM⟩;rw[lK,oR] at zG;have Ge:υ wr.drew w12:=iq.mono (fun b hb=>by simp[Value.ownBlock] at hb);have cz:=aE.then Ge φ;refine hK.out _ _ cz ?_;have hby:=gK.ku zG;have pg:=ajT (l:=[d0,d1,d2,d3,d4,d5,d6,d7]) rfl k hk;have hlb:=vu z 4;have hq:=HQ.out;obtain⟨W,rv,sF,mO,sj,Gf⟩:=MK (off:=q) (n:=32 - q) (cap:=32 - q) (l:=jw z 4) (HBD.out.ε Ge id) hby oM oM;obtain⟨A12,c12,rfl,-,-⟩:=zG.shape;clear hK;refine Q9 (i:=6) kR rfl kR (fun K hK=>?_);refine Q2 ak _ _ _ _ ak ak ak sF ?_;refine hK.out _ _ ?_;rw[hlb,← hq,HZ.out] at mO;have HE:=aq mO cz sj;clear hK sF mO sj Gf cz aE pg hlb hq hby zG iq TM Ge;refine Q_ kR ?_ _;refine dz ?_;go_wp2_with fail
       go_roundw
       case rel=>exact⟨k+1,oM,by go_num,(HB.out.1.then HE.out.2.1 φ).then HE.out.2.2 (fun q hq=>.inl hq),HE.out.1⟩
       case measure=>simp[intOf]<;>omega
      ·obtain rfl:k=8:=oM
       have e8:((8:Nat):Int)=8:=rfl;rw[e8];have de:pU ([d0,d1,d2,d3,d4,d5,d6,d7].take 8)++List.replicate (32 - 4*8) 0=pU (lQ (P.length / 64) [a0,a1,a2,a3,a4,a5,a6,a7] P):=by
        rw[HU.out.2.2.2.2,HU.out.2.2.1];simp
       have hB:=HB.out.2;rw[de] at hB;obtain⟨O,hO⟩:=μ (pU (lQ (P.length / 64) [a0,a1,a2,a3,a4,a5,a6,a7] P));have lZ:O.length=32:=by rw[← hO,HU.out.2.2.2.2,HU.out.2.2.1,Nd];rfl
       rw[hO] at hB;have kG:=aq hB hO lZ;clear hB hO lZ de e8 hlt hk;go_wp2_with (first
        |(show wpList _ _ _ (⟨none,_,_,_,_,_⟩::_) _ _
          refine fG rfl 189 _ _ rfl g (aj O) rfl rfl 189 _ kG.out.1 rfl (mI _) (by rw[bX,kG.out.2.2];kernel_rfl) ?_
          intro w14 qz jY Gg)
        |(refine lM rfl _ _ rfl g rfl _ _ _ kG.out.1 underlying189 rfl (by rw[bX,kG.out.2.2];kernel_rfl) ?_))
       have an4:=(nK.out.1.then HB.out.1 (fun q hq=>.inr (oN HG.out))).then jY (fun q hq=>.inr (oN HG.out));refine cJ (jU rfl _ _ g _ _ _ _ rfl qz underlying189 rfl (by rw[bX,kG.out.2.2];kernel_rfl)) rfl ⟨by rw[kG.out.2.1],an4⟩
theorem abD (t:ByteArray) (ht:t.size≤1000000) (w:World):ς 248 #[.string t] w fun e w'=>e=ώ (.agg (aj (zE t.data.toList)))∧υ w w':=by
 have HD:=δ (show zE t.data.toList=pU (lQ ((vK (t.data.toList.drop (64*(t.size / 64))) t.size).length / 64) (lQ (t.size / 64) rf t.data.toList) (vK (t.data.toList.drop (64*(t.size / 64))) t.size)) from rfl);obtain⟨O,hO⟩:=μ (zE t.data.toList);have lZ:O.length=32:=by rw[← hO];exact R6 _
 rw[hO];have HO:=τ hO lZ;clear hO lZ;go_enter func248,ntmps248
 go_wp2_with fail
 generalize hw1:w.alloc (Obj.cells _ _)=w1;have az:υ w w1:=ry
 have gE:η w1 w.heap.size 189 (aj (List.replicate 32 0)):=Oo
 have nK:=τ az gE;clear hw1 az gE;refine(ajS w1).mono ?_;rintro e w2 ⟨x,rfl,cn⟩;have uJ:=δ cn;clear cn;go_wp2_with fail
 refine(ahD uJ.out t ht).mono ?_;rintro e w3 ⟨r,rfl,fF,qG⟩;have Ej:=τ fF qG;clear fF qG;go_wp2_with fail
 refine(ajU Ej.out.1 Ej.out.2 (by rw[jC];show t.size - _<64;omega) ht).mono ?_;rintro e w4 ⟨rfl,au⟩;rw[← HD.out,HO.out.1];have je:Hid (η w4 w.heap.size 189 (aj (List.replicate 32 0))):=δ (nK.out.2.ε (Ej.out.1.ε.then au φ) id);have oH:=δ ((nK.out.1.then Ej.out.1.ε φ).then au φ);clear au;go_wp2_with (first
  |(show wpList _ _ _ (⟨none,_,_,_,_,_⟩::_) _ _
    refine fG rfl 189 _ _ rfl w.heap.size (aj O) rfl rfl 189 _ je.out (by rw[bX,bX,HO.out.2];rfl) (mI _) BB ?_
    intro w14 qz jY Gg))
 refine cJ (jU rfl _ _ w.heap.size _ _ _ _ rfl qz underlying189 rfl BB) rfl ⟨rfl,oH.out.then jY (fun q hq=>.inr oM)⟩
def x_ (key:List UInt8) (yB:UInt8):List UInt8:=(key++List.replicate (64 - key.length) 0).map (· ^^^ yB)
def sn (key text:List UInt8):List UInt8:=zE (x_ key 0x5c++zE (x_ key 0x36++text))
theorem R7 {key:List UInt8} {b:UInt8} (h:key.length≤64):(x_ key b).length=64:=by
 unfold x_;rw[bz,aN,jE];omega
theorem vo (key text:List UInt8):(sn key text).length=32:=R6 _
def sG (b:UInt8):UInt8:=(b <<< 1) ^^^ ((b >>> 7)*27)
def vL (b:UInt8) (k:Nat):UInt8:=UInt8.ofNat ((b.toNat*2 ^ k) % 256+b.toNat / 2 ^ (8 - k))
structure BoxM where
 p:UInt8
 q:UInt8
 s:List UInt8
def BoxM.q1 (b:BoxM):UInt8:=b.q ^^^ (b.q <<< 1)
def BoxM.q2 (b:BoxM):UInt8:=b.q1 ^^^ (b.q1 <<< 2)
def BoxM.q3 (b:BoxM):UInt8:=b.q2 ^^^ (b.q2 <<< 4)
def BoxM.next (b:BoxM):BoxM :=
 ⟨b.p ^^^ sG b.p,b.q3 ^^^ ((b.q3 >>> 7)*9),b.s.set b.p.toNat (b.q ^^^ vL b.q 1 ^^^ vL b.q 2 ^^^ vL b.q 3 ^^^ vL b.q 4 ^^^ 0x63)⟩
def xS:Nat→BoxM
 | 0=>⟨1,1,List.replicate 256 0⟩
 | n+1=>(xS n).next
def sr:List UInt8:=(xS 255).s.set 0 0x63
theorem RF (n:Nat):(xS n).s.length=256:=by
 induction n with
 | zero=>exact jE
 | succ n ih=>exact Ix.trans ih
theorem R8:sr.length=256:=by rw[sr,Ix,RF]
def JD (i:Nat) (power:UInt8) (t:List UInt8):List UInt8 :=
 let t1:=if i % 8=0 then [t.getD 1 0,t.getD 2 0,t.getD 3 0,t.getD 0 0] else t
 let t2:=if i % 4=0 then t1.map fun b=>sr.getD b.toNat 0 else t1
 if i % 8=0 then t2.set 0 (t2.getD 0 0 ^^^ power) else t2
def mj (key:List UInt8):Nat→List UInt8 × UInt8
 | 0=>(key,1)
 | n+1 =>
   let w:=(mj key n).1
   let t:=JD (n+8) (mj key n).2 (w.drop (4*(n+7)))
   (w++(List.range 4).map (fun k=>w.getD (4*n+k) 0 ^^^ t.getD k 0),if (n+8) % 8=0 then sG (mj key n).2 else (mj key n).2)
def Di (key:List UInt8):List UInt8:=(mj key 52).1
theorem YG {key:List UInt8} (h:key.length=32) (n:Nat):(mj key n).1.length=32+4*n:=by
 induction n with
 | zero=>exact h
 | succ n ih =>
   show (_++_:List UInt8).length=_;rw[aN,ih];simp
   omega
theorem ahF {key:List UInt8} (h:key.length=32):(Di key).length=240:=YG h 52
def tB (w b:List UInt8) (round:Nat):List UInt8:=(List.range 16).map fun i=>b.getD i 0 ^^^ w.getD (16*round+i) 0
def su (b:List UInt8):List UInt8:=(List.range 16).map fun i =>
 let n:=fun k=>b.getD (i / 4*4+(i+k) % 4) 0
 sG (n 0) ^^^ sG (n 1) ^^^ n 1 ^^^ n 2 ^^^ n 3
def BF (b:List UInt8):List UInt8:=(List.range 16).map fun i=>sr.getD (b.getD ((i+4*(i % 4)) % 16) 0).toNat 0
def ot (w:List UInt8):Nat→List UInt8→List UInt8
 | 0,b=>tB w b 0
 | r+1,b=>tB w (if r+1<14 then su (BF (ot w r b)) else BF (ot w r b)) (r+1)
def SP (key b:List UInt8):List UInt8:=ot (Di key) 14 b
theorem R9 (w b:List UInt8) (r:Nat):(tB w b r).length=16:=by simp[tB]
theorem IW (w b:List UInt8) (r:Nat):(ot w r b).length=16:=by cases r<;>exact R9 _ _ _
theorem ahG (key b:List UInt8):(SP key b).length=16:=IW _ _ _
def Fz (key fA:List UInt8) (i:Nat):UInt8:=(SP key (fA++jw (i / 16) 4)).getD (i % 16) 0
def vw (key fA text:List UInt8):List UInt8:=text.mapIdx fun i b=>b ^^^ Fz key fA i
theorem ag4 (key fA text:List UInt8):(vw key fA text).length=text.length:=by simp[vw]
theorem agM (key fA text:List UInt8):vw key fA (vw key fA text)=text:=by
 unfold vw;refine X_ sM fun i h1 h2=>?_
 simp only[List.getElem_mapIdx];rw[UInt8.xor_assoc,UInt8.xor_self,UInt8.xor_zero]
def qR (key κ n:Nat):List UInt8:=aR key++(aR κ++aR n)
def pR (k:List UInt8) (κ n:Nat) (text:List UInt8):List UInt8:=vw (sn k [101,110,99]) (jw κ 4++jw n 8) text
def td (k:List UInt8) (key κ n:Nat) (about data:List UInt8):List UInt8:=sn (sn k [109,97,99]) (qR key κ n++(bJ about++bJ data))
def r_ (k:List UInt8) (key κ n:Nat) (about text:List UInt8):List UInt8 :=
 qR key κ n++(bJ (pR k κ n text)++td k key κ n about (pR k κ n text))
def kP (aV:List UInt8) (i:Nat):List UInt8:=sn aV ([114,105,110,103]++jw i 8)
theorem MR (k:List UInt8) (κ n:Nat) (text:List UInt8):(pR k κ n text).length=text.length:=ag4 _ _ _
theorem ahH (k:List UInt8) (κ n:Nat) (text:List UInt8):pR k κ n (pR k κ n text)=text:=agM _ _ _
theorem RG {k:List UInt8} {key κ n:Nat} {about text:List UInt8} (hk:key≤1048576) (hb:κ<4294967296) (hn:n<18446744073709551616) (ht:text.length≤8192):(r_ k key κ n about text).length≤text.length+52:=by
 have h1:bD key≤3:=(M_ 2 key).2 oM;have h2:bD κ≤5:=(M_ 4 κ).2 oM;have h3:=dA hn;have h4:=lP (n:=text.length) oM;unfold r_ qR;simp only[aN,iY,jl,MR,td,vo];omega
section
variable {P:Program} {ops:Array Oper} {Q:Exit→Act→World→Prop} {md:Region.Mode} {S:World→Prop} {T:Nat→Bool}
def zn (md:Region.Mode) (ops:Array Oper) (T:Nat→Bool) (listed:Array Bool) (i:Nat):Bool :=
 closed md ops listed && !T i && (List.range ops.size).all fun j => !T j || reach md ops i 8 j
theorem agN {listed:Array Bool} {i:Nat} (h:zn md ops T listed i=true) :
 zq md ops listed∧T i=false∧∀j oj,ops[j]? = some oj→T j=true→reach md ops i 8 j=true:=by
 unfold zn at h;exact adj
theorem Q5 {i:Nat} {oi:Oper} {v:Value} {fuel:Nat} {listed:Array Bool} {a:Act} {w:World} (hi:ops[i]? = some oi)
 (hs:Region.noSelect ops=true) (hf:Region.free md ops listed i=true) (hr:(Region.ready md ops listed).contains i=true) (hw:zn md ops T listed i=true)
 (hQ:∀c a w,Q (.panic c) (a.put oi.dst v) w→Q (.panic c) a w) (hT:mN P ops Q S i oi v a) (hS:S w) (hz:ops.size=listed.size)
 (h:eu P md ops Q S T fuel (listed.setIfInBounds i true) (a.put oi.dst v) w):eu P md ops Q S T (fuel+1) listed a w:=by
 have hsel := X6 hs;obtain⟨TI,uI,iJ⟩:=agN hw;have main:∀(fuel:Nat) (listed:Array Bool) (a:Act) (w:World),
  (∀j oj,ops[j]? = some oj→j≠i→listed.getD j true=false→(∀e ∈ oj.after,Region.binds md e=true→e.on≠i)→oi.apart ops oj=true) →
  zq md ops listed→ops.size=listed.size →
  i ∈ Region.ready md ops listed→mN P ops Q S i oi v a→S w →
  eu P md ops Q S T fuel (listed.setIfInBounds i true) (a.put oi.dst v) w→eu P md ops Q S T (fuel+1) listed a w:=by
  intro fuel;induction fuel with
  | zero =>
    exact adl
  | succ fuel ih =>
    intro listed a w hfree cv hz hr hT hS H;refine⟨fun h0=>DD,fun j hj=>?_⟩
    by_cases e:j=i
    ·subst e
     exact hT a rfl rfl _ w hS ⟨fun _=>hS,H⟩
    ·have h1:=H.2 j (AZ hj e)
     obtain⟨hun,oj,p_,hall⟩:=Iy.1 hj;have g0:=(Iy.1 hr).1;have Ef:listed.getD i false=false:=by
      by_cases hlt:i<listed.size
      ·simp[hlt] at g0 ⊢
       exact g0
      ·simp[Array.getElem?_eq_none (Nat.le_of_not_lt hlt)] at g0
     have hno:∀e ∈ oj.after,Region.binds md e=true→e.on≠i:=by
      intro x hx hb KJ;have g1:=hall x hx hb;rw[KJ,Ef] at g1;cases g1
     have hd:ri T ((listed.setIfInBounds i true).setIfInBounds j true)=false:=ME.2 fun k hk=>by
      have hki:i≠k:=fun e=>by rw[e,hk] at uI;cases uI
      by_cases KM:j=k
      ·subst KM
       have g1:=IU cv 8 j oj p_ hall (iJ j oj p_ hk);rw[Ef] at g1;cases g1
      ·rw[Fh false KM,Fh false hki]
       cases hlk:listed.getD k false with
       | false=>rfl
       | true =>
         have hlt:k<ops.size:=by
          rcases Io k listed.size with h | h
          ·omega
          ·simp[Array.getElem?_eq_none h] at hlk
         have hok:ops[k]? = some ops[k]:=QG hlt;have g1:=IU cv 8 k _ hok (cv k _ hok hlk) (iJ k _ hok hk);rw[Ef] at g1;cases g1
     exact adk
 exact main fuel listed a w (X8 hi hf) TI hz (by simpa using hr) hT hS h
theorem vn {i j:Nat} {oi oj:Oper} {fuel:Nat} {listed:Array Bool} {a:Act} {w:World} (hr:Region.ready md ops listed=[i,j]) (hi:ops[i]? = some oi) (hj:ops[j]? = some oj)
 (h1:∀K':Act→World→Prop,Shut (∀a w,S w→eu P md ops Q S T fuel (listed.setIfInBounds i true) a w→K' a w)→if Region.wanted oi (yielded ops a.tmps)=true then Oper.wp P oi a w K' Q else K' (a.put oi.dst undef) w)
 (h2:∀K':Act→World→Prop,Shut (∀a w,S w→eu P md ops Q S T fuel (listed.setIfInBounds j true) a w→K' a w)→if Region.wanted oj (yielded ops a.tmps)=true then Oper.wp P oj a w K' Q else K' (a.put oj.dst undef) w) :
 eu P md ops Q S T (fuel+1) listed a w:=by
 refine⟨fun h0=>(by rw[hr] at h0;cases h0),fun k hk=>?_⟩
 rw[hr] at hk;rcases (by simpa using hk:k=i∨k=j) with rfl | rfl
 ·exact wpOp_step hi (fun K' hK=>h1 K' (fun a w hS hW=>hK a w ⟨fun _=>hS,hW⟩))
 ·exact wpOp_step hj (fun K' hK=>h2 K' (fun a w hS hW=>hK a w ⟨fun _=>hS,hW⟩))
theorem ud {o:Oper} {a:Act} {w:World} {K:Act→World→Prop} {E:Prop} (hg:o.guard=none) (ty:TypeId) (x y:Operand) (ho:o.op=.store ty x y) (g:Nat) (new:Array Value) (hx:a.eval x=.pointer (some ⟨g,0,none⟩)) (hy:a.eval y=.agg new)
 (t:TypeId) (cs:Array Value) (hB:η w g t cs) (hs:cs.size=new.size) (h1:new.all (·.oneCell')=true) (hsz:(P.info? ty).map (·.size)=some new.size)
 (h:∀w',η w' g t new→ζ (· = g) w w'→w'.heap.size=w.heap.size→K (a.put o.dst undef) w'):if Region.wanted o (yielded ops a.tmps)=true then Oper.wp P o a w K Q else E:=by
 have hw:Region.wanted o (yielded ops a.tmps)=true:=by simp[Region.wanted,hg]
 rw[π hw];exact IG ty x y ho g new hx hy t cs hB hs h1 hsz h
end
section
variable {P:Program} {ops:Array Oper} {Q:Exit→Act→World→Prop} {md:Region.Mode} {S:World→Prop} {T:Nat→Bool}
theorem KO (i:Nat) {oi:Oper} {v:Value} {fuel:Nat} {listed:Array Bool} {a:Act} {w:World} (h:eu P md ops Q S T fuel (listed.setIfInBounds i true) (a.put oi.dst v) w)
 (hi:ops[i]? = some oi:=by rfl) (hv:∀w',S w'→(execOp a.eval oi).run P w'=.ok (.value v) w':=by intro w' hSw;go_split_ands;first|(go_simp;done)|(go_simp;rfl)| rfl) (hS:S w:=by assumption) (iJ:Region.wanted oi (yielded ops a.tmps)=true:=by rfl)
 (hc:(Region.noSelect ops && Region.free md ops listed i && (Region.ready md ops listed).contains i && zn md ops T listed i && ops.size == listed.size)=true:=by kernel_rfl) (hQ:∀c a w,Q (.panic c) (a.put oi.dst v) w→Q (.panic c) a w:=by exact fun _ _ _ h=>h):eu P md ops Q S T (fuel+1) listed a w:=by
 simp only[gV,jV] at hc;exact Q5 hi hc.1.1.1.1 hc.1.1.1.2 hc.1.1.2 hc.1.2 hQ (uf hi (Or.inl ⟨iJ,hv⟩)) hS hc.2 h
end
section
variable {P:Program} {ops:Array Oper} {Q:Exit→Act→World→Prop} {md:Region.Mode} {S:World→Prop} {T:Nat→Bool}
theorem bf (i:Nat) {o:Oper} {fuel:Nat} {listed:Array Bool} {a:Act} {w:World}
 (h:∀K':Act→World→Prop,Shut (∀a w,S w→eu P md ops Q S T fuel (listed.setIfInBounds i true) a w→K' a w)→if Region.wanted o (yielded ops a.tmps)=true then Oper.wp P o a w K' Q else K' (a.put o.dst undef) w)
 (hr:Region.ready md ops listed=[i]:=by kernel_rfl) (ho:ops[i]? = some o:=by rfl):eu P md ops Q S T (fuel+1) listed a w:=Ri hr ho h
theorem lG (i:Nat) {o:Oper} {fuel:Nat} {listed:Array Bool} {a:Act} {w:World}
 (h:∀K':Act→World→Prop,Shut (∀a w,eu P md ops Q S T fuel (listed.setIfInBounds i true) a w→K' a w)→if Region.wanted o (yielded ops a.tmps)=true then Oper.wp P o a w K' Q else K' (a.put o.dst undef) w)
 (hr:Region.ready md ops listed=[i]:=by kernel_rfl) (ho:ops[i]? = some o:=by rfl) (hd:ri T (listed.setIfInBounds i true)=true:=by kernel_rfl):eu P md ops Q S T (fuel+1) listed a w:=Q9 hr ho hd h
theorem dY {fuel:Nat} {listed:Array Bool} {a:Act} {w:World} (h:Q .normal a w) (hr:Region.ready md ops listed=[]:=by kernel_rfl):eu P md ops Q S T fuel listed a w:=Q_ hr h fuel
theorem wt8 (i:Nat) {oi:Oper} (v:Value) {fuel:Nat} {listed:Array Bool} {a:Act} {w:World} (hT:mN P ops Q S i oi v a) (h:eu P md ops Q S T fuel (listed.setIfInBounds i true) (a.put oi.dst v) w)
 (hi:ops[i]? = some oi:=by rfl) (hS:S w:=by assumption)
 (hc:(Region.noSelect ops && Region.free md ops listed i && (Region.ready md ops listed).contains i && zn md ops T listed i && ops.size == listed.size)=true:=by kernel_rfl) (hQ:∀c a w,Q (.panic c) (a.put oi.dst v) w→Q (.panic c) a w:=by exact fun _ _ _ h=>h):eu P md ops Q S T (fuel+1) listed a w:=by
 simp only[gV,jV] at hc;exact Q5 hi hc.1.1.1.1 hc.1.1.1.2 hc.1.1.2 hc.1.2 hQ hT hS hc.2 h
theorem tkW (i:Nat) {oi:Oper} (v:Value) {fuel:Nat} {listed:Array Bool} {a:Act} {w:World} (h:eu P md ops Q S T fuel (listed.setIfInBounds i true) (a.put oi.dst v) w)
 (hi:ops[i]? = some oi:=by rfl) (hv:∀w':World,True→(execOp a.eval oi).run P w'=.ok (.value v) w':=by intro w' hSw;go_simp) (hI:ri T listed=true∨S w:=by first| exact Or.inr aS | exact Or.inl kR) (iJ:Region.wanted oi (yielded ops a.tmps)=true:=by rfl)
 (hc:(Region.noSelect ops && Region.free md ops listed i && (Region.ready md ops listed).contains i && T i == false)=true:=by kernel_rfl) (hQ:∀c a w,Q (.panic c) (a.put oi.dst v) w→Q (.panic c) a w:=by exact fun _ _ _ h=>h):eu P md ops Q S T (fuel+1) listed a w:=by
 simp only[gV,jV] at hc;exact agJ hi hc.1.1.1 hc.1.1.2 hc.1.2 hc.2 hQ (uf hi (Or.inl ⟨iJ,hv⟩)) hI h
theorem tkH (i:Nat) {oi:Oper} (v:Value) {fuel:Nat} {listed:Array Bool} {a:Act} {w:World} (h:wpAnyH P md ops Q S fuel (listed.setIfInBounds i true) (a.put oi.dst v) w)
 (hi:ops[i]? = some oi:=by rfl) (hv:∀w',S w'→(execOp a.eval oi).run P w'=.ok (.value v) w':=by intro w' hSw;go_split_ands;go_simp) (hS:S w:=by assumption) (iJ:Region.wanted oi (yielded ops a.tmps)=true:=by rfl)
 (hc:(Region.noSelect ops && Region.free md ops listed i && (Region.ready md ops listed).contains i)=true:=by kernel_rfl) (hQ:∀c a w,Q (.panic c) (a.put oi.dst v) w→Q (.panic c) a w:=by exact fun _ _ _ h=>h):wpAnyH P md ops Q S (fuel+1) listed a w:=by
 simp only[gV] at hc;exact wpAnyH_take hi hc.1.1 hc.1.2 hc.2 hQ (Or.inl ⟨iJ,hv⟩) hS h
theorem an5 (i:Nat) {oi:Oper} {fuel:Nat} {listed:Array Bool} {a:Act} {w:World} (h:wpAnyH P md ops Q S fuel (listed.setIfInBounds i true) (a.put oi.dst undef) w)
 (hi:ops[i]? = some oi:=by rfl) (hS:S w:=by assumption) (iJ:Region.wanted oi (yielded ops a.tmps)=false:=by rfl)
 (hc:(Region.noSelect ops && Region.free md ops listed i && (Region.ready md ops listed).contains i)=true:=by kernel_rfl) (hQ:∀c a w,Q (.panic c) (a.put oi.dst undef) w→Q (.panic c) a w:=by exact fun _ _ _ h=>h):wpAnyH P md ops Q S (fuel+1) listed a w:=by
 simp only[gV] at hc;exact wpAnyH_take hi hc.1.1 hc.1.2 hc.2 hQ (Or.inr ⟨iJ,rfl⟩) hS h
theorem tK (i:Nat) {oi:Oper} {v:Value} {fuel:Nat} {listed l':Array Bool} {a a':Act} {w:World} (h:eu P md ops Q S T fuel l' a' w)
 (hi:ops[i]? = some oi:=by rfl) (hv:∀w',S w'→(execOp a.eval oi).run P w'=.ok (.value v) w':=by intro w' hSw;go_split_ands;first|(go_simp;done)|(go_simp;rfl)| rfl) (hS:S w:=by assumption) (iJ:Region.wanted oi (yielded ops a.tmps)=true:=by rfl) (hc:(Region.noSelect ops && Region.free md ops listed i && (Region.ready md ops listed).contains i && FT md ops T listed i && ops.size == listed.size)=true:=by kernel_rfl) (hQ:∀c a w,Q (.panic c) (a.put oi.dst v) w→Q (.panic c) a w:=by exact fun _ _ _ h=>h)
 (hl:listed.setIfInBounds i true=l':=by first|(simp only[av];done)|(simp only[av];rfl)| rfl) (ha:a.put oi.dst v=a':=by first|(simp only[av];done)|(simp only[av];rfl)| rfl):eu P md ops Q S T (fuel+1) listed a w:=by
 subst hl ha;exact tk i h hi hv hS iJ hc hQ
theorem ξ (i:Nat) {oi:Oper} {v:Value} {fuel:Nat} {listed l':Array Bool} {a a':Act} {w:World} (h:eu P md ops Q S T fuel l' a' w)
 (hi:ops[i]? = some oi:=by rfl) (hv:∀w',S w'→(execOp a.eval oi).run P w'=.ok (.value v) w':=by intro w' hSw;go_split_ands;first|(go_simp;done)|(go_simp;rfl)| rfl) (hS:S w:=by assumption) (iJ:Region.wanted oi (yielded ops a.tmps)=true:=by rfl) (hc:(Region.noSelect ops && Region.free md ops listed i && (Region.ready md ops listed).contains i && zn md ops T listed i && ops.size == listed.size)=true:=by kernel_rfl) (hQ:∀c a w,Q (.panic c) (a.put oi.dst v) w→Q (.panic c) a w:=by exact fun _ _ _ h=>h)
 (hl:listed.setIfInBounds i true=l':=by first|(simp only[av];done)|(simp only[av];rfl)| rfl) (ha:a.put oi.dst v=a':=by first|(simp only[av];done)|(simp only[av];rfl)| rfl):eu P md ops Q S T (fuel+1) listed a w:=by
 subst hl ha;exact KO i h hi hv hS iJ hc hQ
theorem iL (i:Nat) {oi:Oper} (v:Value) {fuel:Nat} {listed l':Array Bool} {a a':Act} {w:World} (hT:mN P ops Q S i oi v a) (h:eu P md ops Q S T fuel l' a' w)
 (hi:ops[i]? = some oi:=by rfl) (hS:S w:=by assumption) (hc:(Region.noSelect ops && Region.free md ops listed i && (Region.ready md ops listed).contains i && zn md ops T listed i && ops.size == listed.size)=true:=by kernel_rfl) (hQ:∀c a w,Q (.panic c) (a.put oi.dst v) w→Q (.panic c) a w:=by exact fun _ _ _ h=>h)
 (hl:listed.setIfInBounds i true=l':=by first|(simp only[av];done)|(simp only[av];rfl)| rfl) (ha:a.put oi.dst v=a':=by first|(simp only[av];done)|(simp only[av];rfl)| rfl):eu P md ops Q S T (fuel+1) listed a w:=by
 subst hl ha;exact wt8 i v hT h hi hS hc hQ
theorem gm (i:Nat) {oi:Oper} (v:Value) {fuel:Nat} {listed l':Array Bool} {a a':Act} {w:World} (h:eu P md ops Q S T fuel l' a' w)
 (hi:ops[i]? = some oi:=by rfl) (hv:∀w':World,True→(execOp a.eval oi).run P w'=.ok (.value v) w':=by intro w' hSw;go_simp) (hI:ri T listed=true∨S w:=by first| exact Or.inr aS | exact Or.inl kR) (iJ:Region.wanted oi (yielded ops a.tmps)=true:=by rfl) (hc:(Region.noSelect ops && Region.free md ops listed i && (Region.ready md ops listed).contains i && T i == false)=true:=by kernel_rfl) (hQ:∀c a w,Q (.panic c) (a.put oi.dst v) w→Q (.panic c) a w:=by exact fun _ _ _ h=>h)
 (hl:listed.setIfInBounds i true=l':=by first|(simp only[av];done)|(simp only[av];rfl)| rfl) (ha:a.put oi.dst v=a':=by first|(simp only[av];done)|(simp only[av];rfl)| rfl):eu P md ops Q S T (fuel+1) listed a w:=by
 subst hl ha;exact tkW i v h hi hv hI iJ hc hQ
theorem fP (i:Nat) {oi:Oper} (v:Value) {fuel:Nat} {listed l':Array Bool} {a a':Act} {w:World} (h:wpAnyH P md ops Q S fuel l' a' w)
 (hi:ops[i]? = some oi:=by rfl) (hv:∀w',S w'→(execOp a.eval oi).run P w'=.ok (.value v) w':=by intro w' hSw;go_split_ands;go_simp) (hS:S w:=by assumption) (iJ:Region.wanted oi (yielded ops a.tmps)=true:=by rfl) (hc:(Region.noSelect ops && Region.free md ops listed i && (Region.ready md ops listed).contains i)=true:=by kernel_rfl) (hQ:∀c a w,Q (.panic c) (a.put oi.dst v) w→Q (.panic c) a w:=by exact fun _ _ _ h=>h)
 (hl:listed.setIfInBounds i true=l':=by first|(simp only[av];done)|(simp only[av];rfl)| rfl) (ha:a.put oi.dst v=a':=by first|(simp only[av];done)|(simp only[av];rfl)| rfl):wpAnyH P md ops Q S (fuel+1) listed a w:=by
 subst hl ha;exact tkH i v h hi hv hS iJ hc hQ
theorem qA (i:Nat) {oi:Oper} {fuel:Nat} {listed l':Array Bool} {a a':Act} {w:World} (h:wpAnyH P md ops Q S fuel l' a' w)
 (hi:ops[i]? = some oi:=by rfl) (hS:S w:=by assumption) (iJ:Region.wanted oi (yielded ops a.tmps)=false:=by rfl) (hc:(Region.noSelect ops && Region.free md ops listed i && (Region.ready md ops listed).contains i)=true:=by kernel_rfl) (hQ:∀c a w,Q (.panic c) (a.put oi.dst undef) w→Q (.panic c) a w:=by exact fun _ _ _ h=>h)
 (hl:listed.setIfInBounds i true=l':=by first|(simp only[av];done)|(simp only[av];rfl)| rfl) (ha:a.put oi.dst undef=a':=by first|(simp only[av];done)|(simp only[av];rfl)| rfl):wpAnyH P md ops Q S (fuel+1) listed a w:=by
 subst hl ha;exact an5 i h hi hS iJ hc hQ
theorem tQ (i:Nat) {oi:Oper} {v:Value} {fuel:Nat} {listed l':Array Bool} {a a':Act} {w:World} {F:World→Prop} (hf:∀w',S w'→F w') (h:eu P md ops Q S T fuel l' a' w)
 (hi:ops[i]? = some oi:=by rfl) (hv:∀w',S w'→F w'→(execOp a.eval oi).run P w'=.ok (.value v) w':=by intro w' hSw hFF;go_split_ands;first|(go_simp;done)|(go_simp;rfl)| rfl) (hS:S w:=by assumption) (iJ:Region.wanted oi (yielded ops a.tmps)=true:=by rfl) (hc:(Region.noSelect ops && Region.free md ops listed i && (Region.ready md ops listed).contains i && FT md ops T listed i && ops.size == listed.size)=true:=by kernel_rfl) (hQ:∀c a w,Q (.panic c) (a.put oi.dst v) w→Q (.panic c) a w:=by exact fun _ _ _ h=>h)
 (hl:listed.setIfInBounds i true=l':=by first|(simp only[av];done)|(simp only[av];rfl)| rfl) (ha:a.put oi.dst v=a':=by first|(simp only[av];done)|(simp only[av];rfl)| rfl):eu P md ops Q S T (fuel+1) listed a w:=by
 subst hl ha;exact tk i h hi (fun w' s=>hv w' s (hf w' s)) hS iJ hc hQ
theorem aX (i:Nat) {oi:Oper} {v:Value} {fuel:Nat} {listed l':Array Bool} {a a':Act} {w:World} {F:World→Prop} (hf:∀w',S w'→F w') (h:eu P md ops Q S T fuel l' a' w)
 (hi:ops[i]? = some oi:=by rfl) (hv:∀w',S w'→F w'→(execOp a.eval oi).run P w'=.ok (.value v) w':=by intro w' hSw hFF;go_split_ands;first|(go_simp;done)|(go_simp;rfl)| rfl) (hS:S w:=by assumption) (iJ:Region.wanted oi (yielded ops a.tmps)=true:=by rfl) (hc:(Region.noSelect ops && Region.free md ops listed i && (Region.ready md ops listed).contains i && zn md ops T listed i && ops.size == listed.size)=true:=by kernel_rfl) (hQ:∀c a w,Q (.panic c) (a.put oi.dst v) w→Q (.panic c) a w:=by exact fun _ _ _ h=>h)
 (hl:listed.setIfInBounds i true=l':=by first|(simp only[av];done)|(simp only[av];rfl)| rfl) (ha:a.put oi.dst v=a':=by first|(simp only[av];done)|(simp only[av];rfl)| rfl):eu P md ops Q S T (fuel+1) listed a w:=by
 subst hl ha;exact KO i h hi (fun w' s=>hv w' s (hf w' s)) hS iJ hc hQ
end
section
variable {P:Program} {ops:Array Oper} {Q:Exit→Act→World→Prop} {o:Oper} {rest:List Oper} {a:Act} {w:World}
theorem gp (ty:TypeId) {x:Operand} (g:Nat) {t:TypeId} {cs:Array Value} {d:TypeDesc} (hB:η w g t cs) (hu:P.underlying ty=some d) (h:wpList P ops Q rest (a.put o.dst (.agg cs)) w)
 (hg:o.guard=none:=by rfl) (ho:o.op=.load ty x:=by rfl) (hx:a.eval x=.pointer (some ⟨g,0,none⟩):=by rfl) (hd:(match d with | .struct _ | .array _ _=>true | _=>false)=true:=by rfl) (hi:(P.info? ty).map (·.size)=some cs.size:=by kernel_rfl):wpList P ops Q (o::rest) a w:=lM hg ty x ho g hx t cs d hB hu hd hi h
theorem eA (ty:TypeId) {x:Operand} (g:Nat) {t:TypeId} {cs:Array Value} {d:TypeDesc} (hB:η w g t cs) (hu:P.underlying ty=some d) (hi:(P.info? ty).map (·.size)=some cs.size) (h:wpList P ops Q rest (a.put o.dst (.agg cs)) w)
 (hg:o.guard=none:=by rfl) (ho:o.op=.load ty x:=by rfl) (hx:a.eval x=.pointer (some ⟨g,0,none⟩):=by rfl) (hd:(match d with | .struct _ | .array _ _=>true | _=>false)=true:=by rfl):wpList P ops Q (o::rest) a w:=lM hg ty x ho g hx t cs d hB hu hd hi h
theorem eN (ty:TypeId) {x y:Operand} (g:Nat) (new:Array Value) {t:TypeId} {cs:Array Value} (hB:η w g t cs) (h1:new.all (·.oneCell')=true)
 (h:∀w',η w' g t new→ζ (· = g) w w'→w'.heap.size=w.heap.size→wpList P ops Q rest (a.put o.dst undef) w')
 (hg:o.guard=none:=by rfl) (ho:o.op=.store ty x y:=by rfl) (hx:a.eval x=.pointer (some ⟨g,0,none⟩):=by rfl) (hy:a.eval y=.agg new:=by rfl) (hs:cs.size=new.size:=by rfl) (hsz:(P.info? ty).map (·.size)=some new.size:=by kernel_rfl):wpList P ops Q (o::rest) a w:=fG hg ty x y ho g new hx hy t cs hB hs h1 hsz h
end
theorem TN {P:Prop} (h:P:=by rw[bz,iW];omega):P:=h
theorem BG {P:Prop} (h:P:=by rw[jE];omega):P:=h
theorem Oq {P:Prop} (h:P:=by rw[bX,HL.out.2];kernel_rfl):P:=h
theorem DF {P:Prop} (h:P:=by rw[bR];omega):P:=h
theorem BH {P:Prop} (h:P:=by rw[← bp,← hg];exact(η.new w _ _).alloc _):P:=h
theorem ya {P:Prop} (h:P:=by rw[← bp];exact((ζ.refl _ w).alloc _).alloc _):P:=h
theorem pW (a b:UInt8):bits .xor .u8 (a.toNat:Int) (b.toNat:Int)=((a ^^^ b).toNat:Int):=by rw[u8_xor_nat _ _ a.toNat_lt b.toNat_lt,UInt8.toNat_xor]
theorem aan (l:List UInt8) (i:Nat) (h:i<l.length):(aj l)[i]? = some (ϋ ((l.getD i 0).toNat:Int)):=by simp[aj,aO,h]
theorem ajV (l:List UInt8) (i:Nat) (b:UInt8):(aj l).setIfInBounds i (ϋ (b.toNat:Int))=aj (l.set i b):=by simp[aj,aO,List.map_set]
theorem η.lz {w:World} {g:Nat} {t:TypeId} {l:List UInt8} (h:η w g t (aj l)) (i:Nat) (hi:i<l.length):w.cell? ⟨g,i,none⟩=some (ϋ ((l.getD i 0).toNat:Int)):=(h.cell i).trans (aan l i hi)
theorem η.zH {w:World} {g:Nat} {t:TypeId} {l:List UInt8} (h:η w g t (aj l)) (i:Nat) (b:UInt8):η (w.setCell ⟨g,i,none⟩ (ϋ (b.toNat:Int))) g t (aj (l.set i b)):=by
 rw[← ajV];exact h.bE i _
theorem Da {w:World} {g:Nat} {t:TypeId} {l:List UInt8} (h:η w g t (aj l)) (n cap:Nat) (hn:l.length=n):(convert 89 9 (.slice (some ⟨g,0,none⟩) n cap)).run prog w=.ok (.string (str l)) w :=
 Ss w g 0 n cap l hn (fun i hi=>by rw[lK];exact h.lz i oM)
theorem aiA {w:World} {g off n cap:Nat} {T:TypeId} {l0:List UInt8} {s:ByteArray} (hB:η w g T (aj l0)) (hn:s.size≤n) (hf:off+s.size≤l0.length) :
 ∃W r,(Builtin.copy_ #[89,9] 3 #[.slice (some ⟨g,off,none⟩) n cap,.string s]).run prog w=.ok r W∧η W g T (aj (l0.take off++s.data.toList++l0.drop (off+s.size)))∧ζ (· = g) w W∧W.heap.size=w.heap.size:=by
 have hlen:(aO s.data.toList).length=s.size:=by rw[uh];rfl
 have hst:=run_storeCells_at prog g off T (aO s.data.toList) 0 (aj l0) w hB (by rw[hlen,bX];omega) (C8 _);rw[hlen] at hst;simp only[sU] at hst;have hsize:(prog.info? 5).map (·.size)=some 1:=kR;have hmin:Nat.min s.size n=s.size:=xy hn;refine⟨w.setRow g ((aj l0).toList.take off++aO s.data.toList++(aj l0).toList.drop (off+s.size)).toArray,goInt s.size,?_,?_,ζ.Nn _ _ _,by simp[World.setRow]⟩
 ·cases hi:prog.info? 5 with
  | none=>rw[hi] at hsize;simp at hsize
  | some i =>
    have cU:List.take s.size (List.map (fun b:UInt8=>Value.int IntKind.u8 (b.toNat:Int)) s.data.toList)=aO s.data.toList:=by
     rw[dV (by rw[bz];exact bO _)];rfl
    simp[Builtin.copy_,run_underlying underlying89,Builtin.lenOf,Builtin.firstCells,sizeOf,typeInfo,hi,hmin]
    rw[cU,hst];simp[Result.andThen]
 ·have e:((aj l0).toList.take off++aO s.data.toList++(aj l0).toList.drop (off+s.size)).toArray=aj (l0.take off++s.data.toList++l0.drop (off+s.size)):=by
   simp[aj,aO,List.map_take,List.map_drop]
  rw[e];exact hB.setRow _
def rj (f:UInt8→UInt8) (l:List UInt8) (k:Nat):List UInt8:=(l.take k).map f++l.drop k
theorem RH (f:UInt8→UInt8) (l:List UInt8) (k:Nat):(rj f l k).length=l.length:=by
 unfold rj;rw[aN,bz,iW,jC];omega
theorem ado {P:Prop} (h:P:=by
 rw[bN,mG oM,h1,Ir,Ml,bN];rfl):P:=h
theorem RI (f:UInt8→UInt8) (l:List UInt8) (k:Nat) (hk:k<l.length):(rj f l k).getD k 0=l.getD k 0:=by
 unfold rj;have h1:((l.take k).map f).length=k:=TN
 exact ado
theorem Rj (f:UInt8→UInt8) (l:List UInt8) (k:Nat) (hk:k<l.length):(rj f l k).set k (f (l.getD k 0))=rj f l (k+1):=by
 unfold rj;have h1:((l.take k).map f).length=k:=TN
 rw[Iq _ _ oM,h1,Ir,ia hk,lq,eC,vc hk,bN,bu hk];rfl
theorem RJ (f:UInt8→UInt8) (l:List UInt8):rj f l l.length=l.map f:=by
 unfold rj;rw[sW,List.drop_length,y7]
theorem ace (key:ByteArray) (yB:UInt8) (w:World) (hk:key.size≤64) :
 ς 249 #[.string key,ϋ (yB.toNat:Int)] w fun e w'=>e=ώ (.string (str (x_ key.data.toList yB)))∧υ w w':=by
 have hk2:((key.size:Nat):Int)≤64:=oM;obtain⟨X,hX⟩:=μ (key.data.toList++List.replicate (64 - key.data.toList.length) 0);have mS:X.length=64:=by rw[← hX,aN,jE];show key.size+(64 - key.size)=64;omega
 have HX:=τ hX mS;clear hX mS;go_enter func249,ntmps249
 go_wp2_with fail
 generalize hw1:w.alloc (Obj.cells _ _)=w1;have az:υ w w1:=ry
 have gE:η w1 w.heap.size 367 (aj (List.replicate 64 0)):=Oo
 obtain⟨g,hg⟩:=μ w.heap.size;have HG:=δ hg;rw[hg] at gE;obtain⟨W,r,sF,aD,σ,aY⟩:=aiA (s:=key) (off:=0) (n:=64) (cap:=64) gE hk BG;have hE:(List.replicate 64 0).take 0++key.data.toList++(List.replicate 64 (0:UInt8)).drop (0+key.size)=X:=by
  rw[← HX.out.1,Fg,oR,lK,X9];rfl
 rw[hE] at aD;have HW:=aq az aD σ;rw[hg,sF];clear az gE hE aD σ aY hg hw1 sF;go_wp2_with fail
 go_loopw [18] (fun u wr=>∃k:Nat,k≤64∧u=ι (k:Int)∧ζ (fun q=>q=g) w wr∧η wr g 367 (aj (rj (· ^^^ yB) X k))) (fun u _=>64 - (intOf u).toNat)
 case atStart=>exact⟨0,oM,rfl,HW.out.1.trans HW.out.2.2 φ (fun _ e=>.inl e),HW.out.2.1⟩
 case round =>
  obtain⟨k,an6,rfl,hu,hB⟩:=hrel;clear HW;have HB:=τ hu hB;have mS:=HX.out.2;by_cases hlt:k<64
  ·have hc:=hB.lz k (by rw[RH];omega)
   have hf:=hB.frozen k;rw[RI _ _ _ oM] at hc;have hst:=Rj (· ^^^ yB) X k oM;obtain⟨b,hb⟩:=μ (X.getD k 0);rw[hb] at hc hst;have hx:=pW b yB;have gl:=δ hst;have hk1:(k:Int)<64:=oM;clear hu hB hb hst mS;go_wp2_with fail
   go_roundw
   case rel =>
    refine⟨k+1,oM,by go_num,HB.out.1.setCell (.inl rfl) _,?_⟩;rw[← gl.out];have h:=HB.out.2.zH k (b ^^^ yB);rw[UInt8.toNat_xor] at h;exact h
   case measure=>simp[intOf]<;>omega
  ·obtain rfl:k=64:=oM
   have e64:((64:Nat):Int)=64:=rfl;rw[e64];have de:rj (· ^^^ yB) X 64=x_ key.data.toList yB:=by
    rw[← mS,RJ,← HX.out.1];rfl
   rw[de] at hB;have hcv:=Da hB 64 64 (R7 (by show key.size≤64;exact hk));clear hB de mS hlt e64 an6;go_wp2_with fail
   go_ret
   exact⟨rfl,hu.mono (fun q hq=>.inr (oN HG.out))⟩
theorem Td (key text:ByteArray) (w:World) (hk:key.size≤64) (ht:text.size≤900000) :
 ς 212 #[.string key,.string text] w fun e w'=>e=ώ (.agg (aj (sn key.data.toList text.data.toList)))∧υ w w':=by
 obtain⟨P1,El⟩:∃P,x_ key.data.toList 54=P:=⟨_,rfl⟩;obtain⟨P2,yC⟩:∃P,x_ key.data.toList 92=P:=⟨_,rfl⟩;have iM:P1.length=64:=by rw[← El];exact R7 (by show key.size≤64;exact hk)
 have hl2:P2.length=64:=by rw[← yC];exact R7 (by show key.size≤64;exact hk)
 have h1:∀W,key.size≤64→ς 249 #[.string key,ϋ 54] W fun e w'=>e=ώ (.string (str (x_ key.data.toList 54)))∧υ W w':=ace key 54
 have h2:∀W,key.size≤64→ς 249 #[.string key,ϋ 92] W fun e w'=>e=ώ (.string (str (x_ key.data.toList 92)))∧υ W w':=ace key 92
 rw[El] at h1;rw[yC] at h2;have H1:=δ (fun W=>h1 W hk);have H2:=δ (fun W=>h2 W hk);obtain⟨T1,Px⟩:=μ (str P1++text);have adp:T1.data.toList=P1++text.data.toList:=by rw[← Px,ByteArray.data_append,XU,cA]
 have adq:T1.size=64+text.size:=by rw[← Px,IC,bR,iM]
 obtain⟨I,hI⟩:=μ (zE T1.data.toList);have Py:I.length=32:=by rw[← hI];exact R6 _
 obtain⟨T2,mC⟩:=μ (str P2++str I);have adr:T2.data.toList=P2++I:=by rw[← mC,ByteArray.data_append,XU,cA,cA]
 have ads:T2.size=96:=by rw[← mC,IC,bR,bR,hl2,Py]
 obtain⟨O,hO⟩:=μ (sn key.data.toList text.data.toList);have bL:zE T2.data.toList=O:=by rw[← hO,adr];unfold sn;rw[El,yC,← adp,hI]
 have lZ:O.length=32:=by rw[← hO];exact vo _ _
 rw[hO];have hs1:(9223372036854775807<(str P1).size+text.size)=False:=by rw[bR,iM];simp;omega
 have cn:(9223372036854775807<(str P2).size+(str I).size)=False:=by rw[bR,bR,hl2,Py];simp
 have uK:=aq Px adq hI;have mR:=aq mC ads bL;have HL:=τ Py lZ;have uJ:=δ cn;clear El yC iM hl2 h1 h2 Px adp adq hI Py mC adr ads hO bL lZ cn;go_enter func212,ntmps212
 go_wp2_with fail
 generalize hw1:w.alloc (Obj.cells _ _)=w1;have az:υ w w1:=ry
 have gE:η w1 w.heap.size 189 (aj (List.replicate 32 0)):=Oo
 have nK:=τ az gE;clear hw1 az gE;refine(H1.out _).mono ?_;rintro e w2 ⟨rfl,σ⟩;have jP:=δ σ;clear σ;go_wp2_with fail
 rw[uK.out.1];refine(abD T1 (by rw[uK.out.2.1];omega) w2).mono ?_;rintro e w3 ⟨rfl,χ⟩;rw[uK.out.2.2];have gr:=δ (jP.out.then χ φ);clear χ hs1;obtain⟨g,hg⟩:=μ w.heap.size;have HG:=δ hg;rw[hg];clear hg;go_wp2_with (first
  |(show wpList _ _ _ (⟨none,_,_,_,_,_⟩::_) _ _
    refine fG rfl 189 _ _ rfl w3.heap.size (aj I) rfl rfl 189 _ (η.new w3 _ _) (by rw[bX,HL.out.1];rfl) (mI _) (by rw[bX,HL.out.1];kernel_rfl) ?_
    intro w4 aJ au dh))
 obtain⟨g5,Ca⟩:=μ w3.heap.size;have uL:υ w3 w4:=((ζ.refl (fun _=>False) w3).alloc _).then au (fun q hq=>.inr oM);rw[Ca] at aJ ⊢;have kH:η w4 g 189 (aj (List.replicate 32 0)):=by rw[← HG.out];exact nK.out.2.ε (gr.out.then uL φ) id
 have kW:=aq ((nK.out.1.then gr.out φ).then uL φ) aJ kH;have cn:=uJ.out;clear au dh uL kH Ca aJ;refine dW ?_;refine eo (S:=fun w'=>υ w4 w') (T:=fun k=>k == 6) kR ?_;have aE:=(ζ.refl (fun _=>False) w4).drew;refine tQ 0 (fun w' hSw=>Da (kW.out.2.1.ε hSw id) 32 32 HL.out.1) ?_;refine tQ 2 (fun w' hSw=>Da (kW.out.2.1.ε hSw id) 32 32 HL.out.1) ?_;refine tQ 3 (fun w' hSw=>Da (kW.out.2.1.ε hSw id) 32 32 HL.out.1) ?_;refine bf 1 (fun K hK=>?_);go_simp
 refine(H2.out _).mono ?_;rintro e w5 ⟨rfl,ay⟩;have jO:=aE.then ay φ;refine hK.out _ _ jO ?_;clear hK ay;refine tK 4 ?_;refine bf 5 (fun K hK=>?_);go_simp
 rw[mR.out.1];refine(abD T2 (by rw[mR.out.2.1];omega) w5).mono ?_;rintro e w6 ⟨rfl,aB⟩;rw[mR.out.2.2];have cW:=jO.then aB φ;refine hK.out _ _ cW ?_;clear hK aB;refine lG 6 (fun K hK=>?_);refine ud ak 189 _ _ ak g (aj O) ak ak _ _ (kW.out.2.2.ε cW id) (by rw[bX,bX,HL.out.2];rfl) (mI _) Oq ?_
 intro w7 dI bI jf;refine hK.out _ _ ?_;refine dY ?_;refine dz ?_;have de:=(kW.out.1.then cW φ).then bI (fun q hq=>.inr (oN HG.out));have HF:=τ de dI;clear de dI bI jf hK aE jO cW cn;go_wp2_with fail
 refine cJ (jU rfl _ _ g _ _ _ _ rfl HF.out.2 underlying189 rfl Oq) rfl ⟨rfl,HF.out.1⟩
theorem abE (key:List UInt8) (label:ByteArray) (w:World) (hk:key.length=32) (hl:label.size≤900000) :
 ς 211 #[.agg (aj key),.string label] w fun e w'=>e=ώ (.agg (aj (sn key label.data.toList)))∧υ w w':=by
 obtain⟨O,hO⟩:=μ (sn key label.data.toList);have lZ:O.length=32:=by rw[← hO];exact vo _ _
 have ht:=fun W=>Td (str key) label W DF hl
 rw[cA,hO] at ht;rw[hO];have HT:=δ ht;have HL:=τ hk lZ;clear hO lZ ht hk;obtain⟨g,hg⟩:=μ w.heap.size;have HG:=δ hg;go_enter func211,ntmps211
 go_wp2_with fail
 generalize bp:World.alloc _ _=w2;have aD:η w2 g 194 (aj key):=BH
 have bL:η w2 (g+1) 194 (aj (List.replicate 32 0)):=by
  have h:=η.new (w.alloc (.cells (aj key) 194)) 194 (aj (List.replicate 32 0));rw[dx,hg] at h;rw[← bp];exact h
 have σ:υ w w2:=ya
 have hcv:=Da aD 32 32 HL.out.1;have a_:=τ bL σ;rw[hcv];clear aD bL σ hcv bp hg;go_wp2_with fail
 refine(HT.out _).mono ?_;rintro e w3 ⟨rfl,χ⟩;have gr:=δ χ;clear χ;go_wp2_with (first
  |(show wpList _ _ _ (⟨none,_,_,_,_,_⟩::_) _ _
    refine fG rfl 194 _ _ rfl (g+1) (aj O) rfl rfl 194 _ (a_.out.1.ε gr.out id) (by rw[bX,bX,HL.out.2];rfl) (mI _) Oq ?_
    intro w4 aJ au dh))
 refine cJ (jU rfl _ _ (g+1) _ _ _ _ rfl aJ underlying194 rfl Oq) rfl ⟨rfl,(a_.out.2.then gr.out φ).then au (fun q hq=>.inr (oN HG.out))⟩
theorem ajW (a b:UInt8):a ||| b=0↔a=0∧b=0:=by
 constructor
 ·intro h
  have h1:=aI UInt8.toNat h;rw[UInt8.toNat_or] at h1;have h2:a.toNat=0∧b.toNat=0:=by
   have e:=Nat.or_eq_zero_iff.1 h1;exact e
  exact⟨af5 h2.1,af5 h2.2⟩
 ·rintro⟨rfl,rfl⟩
  rfl
theorem aiB (a b:UInt8):a ^^^ b=0↔a=b:=by
 constructor
 ·intro h
  have:a ^^^ b ^^^ b=0 ^^^ b:=by rw[h]
  rw[UInt8.xor_assoc,UInt8.xor_self,UInt8.xor_zero,UInt8.zero_xor] at this;exact this
 ·rintro rfl
  exact UInt8.xor_self
theorem orB (a b:UInt8):bits .or .u8 (a.toNat:Int) (b.toNat:Int)=((a ||| b).toNat:Int):=by rw[u8_or_nat _ _ a.toNat_lt b.toNat_lt,UInt8.toNat_or]
theorem alC (x y : List UInt8) (w : World) (hx:x.length=32) (hy:y.length=32) :
 ς 222 #[.agg (aj x),.agg (aj y)] w fun e w'=>e=ώ (.bool (decide (x=y)))∧υ w w':=by
 have HL:=τ hx hy;obtain⟨g,hg⟩:=μ w.heap.size;clear hx hy;go_enter func222,ntmps222
 go_wp2_with fail
 generalize bp:World.alloc _ _=w2;have aD:η w2 g 189 (aj x):=BH
 have ki:η w2 (g+1) 189 (aj y):=by
  have h:=η.new (w.alloc (.cells (aj x) 189)) 189 (aj y);rw[dx,hg] at h;rw[← bp];exact h
 have σ:υ w w2:=ya
 have a_:=aq aD ki σ;clear aD ki σ bp hg;go_loopw [5,7] (fun d u wr=>∃(k:Nat) (z:UInt8),k≤32∧u=ι (k:Int)∧d=ϋ (z.toNat:Int)∧(z=0↔x.take k=y.take k)∧υ w2 wr) (fun _ u _=>32 - (intOf u).toNat)
 case atStart=>exact⟨0,0,oM,rfl,rfl,sM,ζ.refl _ _⟩
 case round =>
  obtain⟨k,z,hk,rfl,rfl,hz,hu⟩:=hrel;have HZ:=δ hz;by_cases hlt:k<32
  ·have c1:=(a_.out.1.ε hu id).lz k (by rw[HL.out.1];exact hlt)
   have c2:=(a_.out.2.1.ε hu id).lz k (by rw[HL.out.2];exact hlt);obtain⟨a,ha⟩:=μ (x.getD k 0);obtain⟨b,hb⟩:=μ (y.getD k 0);rw[ha] at c1;rw[hb] at c2;have HAB:=τ ha hb;have HU:=δ hu;have hk1:(k:Int)<32:=oM;have e1:=pW a b;have e2:=orB z (a ^^^ b);obtain⟨ab,hab⟩:=μ (a ^^^ b);rw[hab] at e1 e2;obtain⟨z2,aY⟩:=μ (z ||| ab)
   rw[aY] at e2;have HH:=τ hab aY;clear ha hb hu hz hab aY;go_wp2_with fail
   go_quiet (fail)
   go_wp2_with fail
   go_roundw
   case rel =>
    refine⟨k+1,z2,oM,by go_num,?_,?_,HU.out.drewN _⟩
    ·first| rfl | rw[e1,e2]
    ·rw[← HH.out.2,ajW,HZ.out,← HH.out.1,aiB,ia (by rw[HL.out.1];exact hlt),ia (by rw[HL.out.2];exact hlt)]
     have ea:x[k]'(by rw[HL.out.1];exact hlt)=a:=by rw[← HAB.out.1,bN,bu];rfl
     have eb:y[k]'(by rw[HL.out.2];exact hlt)=b:=by rw[← HAB.out.2,bN,bu];rfl
     rw[ea,eb];constructor
     ·rintro⟨h1,h2⟩;rw[h1,h2]
     ·intro h
      have:=List.append_inj' h rfl;exact⟨this.1,by simpa using this.2⟩
   case measure=>simp[intOf]<;>omega
  ·obtain rfl : k = 32 := oM
   have e32:((32:Nat):Int)=32:=rfl;rw[e32];have HU:=δ (a_.out.2.2.then hu φ);have hd:decide (x=y)=decide (z=0):=by
    have h:=HZ.out;rw[dV (Nat.le_of_eq HL.out.1),dV (Nat.le_of_eq HL.out.2)] at h;rw[y9];simp[h]
   have nL : ((z.toNat : Int) == 0) = decide (z=0):=by
    rw[y9];simp only[jV,eD];constructor
    ·intro h; exact af5 (by have:z.toNat=0:=oM
                            rw[this];rfl)
    ·rintro rfl;rfl
   have HD:=τ hd nL;clear hu hz hd nL e32 hlt hk;go_wp2_with fail
   go_ret
   refine⟨?_,HU.out⟩;rw[HD.out.1,← HD.out.2];first| rfl |(congr 1;done)
theorem DG {P:Prop} (h:P:=by rw[← bp,← hg];exact η.new w _ _):P:=h
theorem yb {P:Prop} (h:P:=by rw[← bp];exact(ζ.refl _ w).alloc _):P:=h
def ou (f:Nat→UInt8) (l:List UInt8) (k:Nat):List UInt8:=(List.range k).map f++l.drop k
theorem IX (f:Nat→UInt8) (l:List UInt8) (k:Nat) (hk:k≤l.length):(ou f l k).length=l.length:=by
 unfold ou;rw[aN,bz,vj,jC];omega
theorem YX (f:Nat→UInt8) (l:List UInt8) (k:Nat):(ou f l k).getD k 0=l.getD k 0:=by
 unfold ou;have h1:((List.range k).map f).length=k:=by rw[bz,vj]
 exact ado
theorem IJ (f:Nat→UInt8) (l:List UInt8) (k:Nat) (hk:k<l.length):(ou f l k).set k (f k)=ou f l (k+1):=by
 unfold ou;have h1:((List.range k).map f).length=k:=by rw[bz,vj]
 rw[Iq _ _ oM,h1,Ir,t_,lq,eC,vc hk];rfl
theorem IY (f:Nat→UInt8) (l:List UInt8) (k:Nat) (hk:l.length=k):ou f l k=(List.range k).map f:=by
 unfold ou;rw[qj oM,y7]
theorem twB (b:UInt8):bits .xor .u8 ((b.toNat:Int)*2 % 256) ((b.toNat:Int) / 128*27)=((sG b).toNat:Int):=by
 have h:∀x:Fin 256,bits .xor .u8 ((x.val:Int)*2 % 256) ((x.val:Int) / 128*27)=((sG (UInt8.ofNat x.val)).toNat:Int):=zC
 have:=h ⟨b.toNat,b.toNat_lt⟩;rw[Ya] at this;exact this
theorem Ns (b:UInt8) (w:World):ς 272 #[ϋ (b.toNat:Int)] w fun e w'=>e=ώ (ϋ ((sG b).toNat:Int))∧w=w':=by
 have hb:=b.toNat_lt;have h:=twB b;go_enter func272,ntmps272
 go_wp2_with fail
 go_ret
 exact⟨rfl,rfl⟩
theorem an7 (b:UInt8) (r:Nat) (hr:r=1∨r=2∨r=3∨r=4):bits .or .u8 ((b.toNat:Int)*2 ^ r % 256) ((b.toNat:Int) / 2 ^ (8 - r))=((vL b r).toNat:Int):=by
 have h:∀x:Fin 256,∀r:Fin 4,bits .or .u8 ((x.val:Int)*2 ^ (r.val+1) % 256) ((x.val:Int) / 2 ^ (8 - (r.val+1)))=((vL (UInt8.ofNat x.val) (r.val+1)).toNat:Int):=zC
 have h1:=h ⟨b.toNat,b.toNat_lt⟩;rw[Ya] at h1;rcases hr with rfl | rfl | rfl | rfl
 ·exact h1 0
 ·exact h1 1
 ·exact h1 2
 ·exact h1 3
theorem NK (b:UInt8) (r:Nat) (hr:r=1∨r=2∨r=3∨r=4) (w:World):ς 287 #[ϋ (b.toNat:Int),ι (r:Int)] w fun e w'=>e=ώ (ϋ ((vL b r).toNat:Int))∧w=w':=by
 have hb:=b.toNat_lt;have HR:=δ (an7 b r hr);have hk:bits .and .u64 (r:Int) 7=(r:Int):=by rcases hr with rfl | rfl | rfl | rfl<;>decide +kernel
 have hk2:IntKind.u64.wrap (8 - (r:Int))=((8 - r:Nat):Int):=by rcases hr with rfl | rfl | rfl | rfl<;>decide +kernel
 have Pz:r<8:=oM;clear hr;go_enter func287,ntmps287
 go_wp2_with fail
 go_ret
 exact⟨by rw[← HR.out];rfl,rfl⟩
theorem TP (q:UInt8) (k:Nat) (hk:k=1∨k=2∨k=4):(q.toNat:Int)*2 ^ k % 256=((q <<< (UInt8.ofNat k)).toNat:Int):=by
 have h:∀x:Fin 256,(x.val:Int)*2 ^ 1 % 256=((UInt8.ofNat x.val <<< (1:UInt8)).toNat:Int)∧(x.val:Int)*2 ^ 2 % 256=((UInt8.ofNat x.val <<< (2:UInt8)).toNat:Int)∧(x.val:Int)*2 ^ 4 % 256=((UInt8.ofNat x.val <<< (4:UInt8)).toNat:Int):=zC
 have h1:=h ⟨q.toNat,q.toNat_lt⟩;rw[Ya] at h1;rcases hk with rfl | rfl | rfl
 ·exact h1.1
 ·exact h1.2.1
 ·exact h1.2.2
theorem ann (q:UInt8):(q.toNat:Int) / 128*9=(((q >>> 7)*9).toNat:Int):=by
 have h:∀x:Fin 256,(x.val:Int) / 128*9=(((UInt8.ofNat x.val >>> 7)*9).toNat:Int):=zC
 have h1:=h ⟨q.toNat,q.toNat_lt⟩;rw[Ya] at h1;exact h1
theorem Ot (a:UInt8) (z:Int) (b:UInt8) (h:z=(b.toNat:Int)):bits .xor .u8 (a.toNat:Int) z=((a ^^^ b).toNat:Int):=by rw[h];exact pW a b
theorem ano (w:World):ς 271 #[] w fun e w'=>e=ώ (.agg (aj sr))∧υ w w':=by
 obtain⟨g,hg⟩:=μ w.heap.size;have HG:=δ hg;go_enter func271,ntmps271
 go_wp2_with fail
 generalize bp:World.alloc _ _=w2;have aD:η w2 g 357 (aj (List.replicate 256 0)):=DG
 have σ:υ w w2:=yb
 have a_:=τ aD σ;clear aD σ bp hg;go_loopw [1,2,3] (fun a b u wr=>∃(k:Nat),k≤255∧u=ι (k:Int)∧a=ϋ ((xS k).p.toNat:Int)∧b=ϋ ((xS k).q.toNat:Int)∧η wr g 357 (aj (xS k).s)∧ζ (fun q=>q=g) w2 wr) (fun _ _ u _=>255 - (intOf u).toNat)
 case atStart=>exact⟨0,oM,rfl,rfl,rfl,a_.out.1,ζ.refl _ _⟩
 case round =>
  obtain⟨k,hk,rfl,rfl,rfl,hB,hu⟩:=hrel;by_cases hlt:k<255
  ·have dJ:=RF k
   have cy:xS (k+1)=(xS k).next:=rfl;obtain⟨⟨p,q,s⟩,hbk⟩:∃b,xS k=b:=⟨_,rfl⟩;rw[hbk] at hB dJ cy ⊢;simp only at hB dJ ⊢
   have mQ:=δ cy;have HB:=τ hB hu;have hf:=hB.frozen p.toNat;have hcell:∃v,w2.cell? ⟨g,p.toNat,none⟩=some v:=⟨_,a_.out.1.lz p.toNat (by rw[jE];exact p.toNat_lt)⟩;have hc:=hB.lz p.toNat (by rw[dJ];exact p.toNat_lt);have hp:(p.toNat:Int)<256:=by have:=p.toNat_lt;omega
   -- the letters
   obtain⟨r1,wm⟩:∃r,vL q 1=r:=⟨_,rfl⟩;obtain⟨r2,hr2⟩:∃r,vL q 2=r:=⟨_,rfl⟩;obtain⟨r3,wu⟩:∃r,vL q 3=r:=⟨_,rfl⟩;obtain⟨r4,Ag⟩:∃r,vL q 4=r:=⟨_,rfl⟩;obtain⟨tw,KP⟩:∃r,sG p=r:=⟨_,rfl⟩;have c1:=NK q 1 sM;have c2:=NK q 2 sM;have c3:=NK q 3 sM;have c4:=NK q 4 sM;have c5:=Ns p;rw[wm] at c1;rw[hr2] at c2;rw[wu] at c3;rw[Ag] at c4;rw[KP] at c5;have C1:=δ c1;have C2:=δ c2;have C3:=δ c3;have C4:=δ c4;have C5:=δ c5;have HR:=cD wm hr2 wu Ag KP;clear c1 c2 c3 c4 c5 wm hr2 wu Ag KP hbk cy hB hu dJ hcell;obtain⟨y1,hy1⟩:∃y,q ^^^ r1=y:=⟨_,rfl⟩;obtain⟨y2,hy2⟩:∃y,y1 ^^^ r2=y:=⟨_,rfl⟩;obtain⟨y3,Vs⟩:∃y,y2 ^^^ r3=y:=⟨_,rfl⟩;obtain⟨y4,Vt⟩:∃y,y3 ^^^ r4=y:=⟨_,rfl⟩;obtain⟨y5,Vu⟩:∃y,y4 ^^^ 99=y:=⟨_,rfl⟩;obtain⟨p1,hp1⟩:∃y,p ^^^ tw=y:=⟨_,rfl⟩;obtain⟨q1,hq1⟩:∃y,q ^^^ (q <<< 1)=y:=⟨_,rfl⟩;obtain⟨q2,qD⟩:∃y,q1 ^^^ (q1 <<< 2)=y:=⟨_,rfl⟩;obtain⟨q3,Em⟩:∃y,q2 ^^^ (q2 <<< 4)=y:=⟨_,rfl⟩;obtain⟨q4,Vv⟩:∃y,q3 ^^^ ((q3 >>> 7)*9)=y:=⟨_,rfl⟩
   have e1:=pW q r1;have e2:=pW y1 r2;have e3:=pW y2 r3;have e4:=pW y3 r4;have e5:bits .xor .u8 (y4.toNat:Int) 99=((y4 ^^^ 99).toNat:Int):=pW y4 99;have e6:=pW p tw;have e7:bits .xor .u8 (q.toNat:Int) ((q.toNat:Int)*2 % 256)=((q ^^^ (q <<< 1)).toNat:Int):=Ot q _ _ (TP q 1 sM);have e8:bits .xor .u8 (q1.toNat:Int) ((q1.toNat:Int)*4 % 256)=((q1 ^^^ (q1 <<< 2)).toNat:Int):=Ot q1 _ _ (TP q1 2 sM);have e9:bits .xor .u8 (q2.toNat:Int) ((q2.toNat:Int)*16 % 256)=((q2 ^^^ (q2 <<< 4)).toNat:Int):=Ot q2 _ _ (TP q2 4 sM);have e10:bits .xor .u8 (q3.toNat:Int) ((q3.toNat:Int) / 128*9)=((q3 ^^^ ((q3 >>> 7)*9)).toNat:Int):=Ot q3 _ _ (ann q3);rw[hy1] at e1;rw[hy2] at e2;rw[Vs] at e3;rw[Vt] at e4;rw[Vu] at e5;rw[hp1] at e6;rw[hq1] at e7;rw[qD] at e8;rw[Em] at e9;rw[Vv] at e10;have b1:=q.toNat_lt;have b2:=q1.toNat_lt;have b3:=q2.toNat_lt;have b4:=q3.toNat_lt;have HY:=δ (show (⟨p,q,s⟩:BoxM).next=⟨p1,q4,s.set p.toNat y5⟩ by
    obtain⟨wm,hr2,wu,Ag,KP⟩:=HR.out;unfold BoxM.next BoxM.q3 BoxM.q2 BoxM.q1;simp only[wm,hr2,wu,Ag,KP,hy1,hy2,Vs,Vt,Vu,hp1,hq1,qD,Em,Vv])
   clear hy1 hy2 Vs Vt Vu hp1 hq1 qD Em Vv;go_wp2_with fail
   refine(C1.out _).mono ?_;rintro e w' ⟨rfl,rfl⟩;go_wp2_with fail
   refine(C2.out _).mono ?_;rintro e w' ⟨rfl,rfl⟩;go_wp2_with fail
   refine(C3.out _).mono ?_;rintro e w' ⟨rfl,rfl⟩;go_wp2_with fail
   refine(C4.out _).mono ?_;rintro e w' ⟨rfl,rfl⟩;go_wp2_with fail
   refine(C5.out _).mono ?_;rintro e w' ⟨rfl,rfl⟩;go_wp2_with fail
   go_roundw
   case rel =>
    refine⟨k+1,oM,by go_num,?_,?_,?_,HB.out.2.setCell (.inl rfl) _⟩
    ·rw[mQ.out,HY.out]
    ·rw[mQ.out,HY.out]
    ·rw[mQ.out,HY.out]
     exact HB.out.1.zH _ _
   case measure=>simp[intOf]<;>omega
  ·obtain rfl:k=255:=oM
   have e255:((255:Nat):Int)=255:=rfl;rw[e255];have aD:=hB.zH 0 0x63;rw[show (xS 255).s.set 0 0x63=sr from rfl] at aD;have hl:=R8;have hf:=hB.frozen 0;have hc:=hB.lz 0 (by rw[RF];omega);have adt:η (wr.setCell ⟨g,0,none⟩ (ϋ 99)) g 357 (aj sr):=aD;have HU:=δ (hu.setCell (p:=⟨g,0,none⟩) (.inl rfl) (ϋ 99));have kG:=τ adt hl;clear aD adt hl hB hu e255 hlt hk;go_wp2_with (first
    |(show wpList _ _ _ (⟨none,Op.store _ _ (.tmp _),_,_,_,_⟩::_) _ _
      refine fG rfl 357 _ _ rfl g (aj sr) rfl rfl 357 _ kG.out.1 rfl (mI _) (by rw[bX,kG.out.2];kernel_rfl) ?_
      intro w14 qz jY Gg)
    |(refine eA _ g kG.out.1 underlying357 (by rw[bX,kG.out.2];kernel_rfl) ?_))
   refine cJ (jU rfl _ _ g _ _ _ _ rfl qz underlying357 rfl (by rw[bX,kG.out.2];kernel_rfl)) rfl ⟨rfl,(a_.out.2.then HU.out (fun q hq=>.inr (oN HG.out))).then jY (fun q hq=>.inr (oN HG.out))⟩
end
end Go.Proofs.YtbhjgfibhegddaaGreat
