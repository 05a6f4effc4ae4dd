/-
  Parts of the proof of VaultPlays: ShaC, SealM, Steps, ZipB, ZipD, Mac.
-/
import Derived.Test.YtbhjgfibhegddaaGreatQVaultPlays04
import Derived.Laws.BitsAllLaws
set_option maxRecDepth 100000
set_option maxHeartbeats 16000000
namespace Go.Proofs.YtbhjgfibhegddaaGreat
abbrev vM:=@Nat.min_eq_left
abbrev Ud:=@List.drop_replicate
abbrev Ue:=@List.ext_getElem
abbrev FD:=@List.getElem?_drop
abbrev FE:=@ByteArray.size_append
abbrev aaW:=@UInt8.toNat.inj
open Tryz
section
open Go Go.RowKit
def ψ (l:List UInt8):Array Value:=(aK l).toArray
theorem bq (l:List UInt8):(ψ l).size=l.length:=by simp[ψ,aK]
theorem lY (l:List UInt8):(ψ l).all (·.oneCell')=true:=by simp[ψ,aK,Value.oneCell']
theorem gx.src {w:World} {v:Value} {l:List UInt8} (h:gx w v l):Src prog w 89 1 v l.length (aK l):=by
 obtain⟨A,cap,rfl,h1,h2,h3⟩:=h;by_cases h0:l=[]
 ·subst h0
  cases A with
  | none=>exact Src.of_nil underlying89 _
  | some a=>exact Src.uq underlying89 a 0 cap rfl (fun j u e=>by simp[aK] at e)
 ·obtain⟨b,off,rfl,hb,hc⟩:=h3 (Fu.2 h0)
  refine Src.uq underlying89 _ _ _ (by simp[aK]) (fun j u e=>?_);have hj:j<l.length:=by have:=(kT.1 e).1;simpa [aK] using this
  rw[Addr.add_mid,hc j hj,← e];simp[aK,hj]
def Lk:Value→Nat
 | .slice _ n _=>n
 | _=>0
structure BV (w1 wr:World) (v:Value) (ls:List UInt8):Prop where
 own:Own wr 5 1 v ls.length (aK ls)
 ε:υ w1 wr
 bP:∀q,v.ownBlock=some q→w1.heap.size≤q
theorem BV.next {w1 wr w2 w3:World} {v v':Value} {ls l2:List UInt8} {m:Nat} {xs:List Value} (s:BV w1 wr v ls) (ha:υ wr w2) (ho:Own w3 5 1 v' m xs) (hm:m=(ls++l2).length) (hx:xs=aK (ls++l2)) (hU:ζ (fun k=>v.ownBlock=some k) w2 w3)
 (hl:v'.ownBlock=v.ownBlock∨v'.ownBlock=some w2.heap.size):BV w1 w3 v' (ls++l2):=by
 subst hm hx;refine⟨ho,(s.ε.then ha φ).then hU (fun q hq=>.inr (s.bP q hq)),fun q hq=>?_⟩;rcases hl with e | e
 ·rw[e] at hq;exact s.bP q hq
 ·rw[e] at hq
  have:=dw hq;have h1:=s.ε.size;have h2:=ha.size;omega
theorem acD (w:World) (l:List Int) (hl:l.length=8) (k:Nat) (hk:k<8):(Instr.index 377 (.agg (dV l)) (ι (k:Int))).run prog w=.ok (.int .u32 (l.getD k 0)) w:=by
 obtain⟨a,b,c,d,e,f,g,i,rfl⟩:=eight hl;have h:k=0∨k=1∨k=2∨k=3∨k=4∨k=5∨k=6∨k=7:=oM;rcases h with rfl | rfl | rfl | rfl | rfl | rfl | rfl | rfl<;>rfl
theorem Ko {w:World} {g off n cap:Nat} {T:TypeId} {l0 l:List UInt8} {v:Value} (hB:η w g T (ψ l0)) (hs:gx w v l) (hn:l.length≤n) (hf:off+l.length≤l0.length) :
 ∃W r,(Builtin.copy_ #[89,89] 3 #[.slice (some ⟨g,off,none⟩) n cap,v]).run prog w=.ok r W∧η W g T (ψ (l0.take off++l++l0.drop (off+l.length)))∧ζ (· = g) w W∧W.heap.size=w.heap.size:=by
 obtain⟨A,c,rfl,h1,h2,h3⟩:=hs;by_cases h0:l=[]
 ·subst h0
  refine⟨w,goInt 0,run_copy_none w _ _ _ 5 _ _ _ _ _ _ underlying89 kR sM,?_,ζ.refl _ _,rfl⟩;simpa using hB
 ·obtain⟨b,o,rfl,hb,hc⟩:=h3 (Fu.2 h0)
  have hrun:=run_copy_row (P:=prog) w 89 89 3 5 g off n cap ⟨b,o,none⟩ l.length c (ψ l0) T (aK l) underlying89 kR hB (by rw[sR];exact(vM hn).symm) (fun j u e=>by
   have hj:j<l.length:=by have:=(kT.1 e).1;simpa [aK] using this
   rw[Addr.add_mid,hc j hj,← e];simp[aK,hj]) (by rw[sR,bq];exact hf) (Bg _)
  refine⟨_,_,hrun,?_,ζ.KQ _ _ _,by simp[World.setRow]⟩;have e:((ψ l0).toList.take off++aK l++(ψ l0).toList.drop (off+(aK l).length)).toArray=ψ (l0.take off++l++l0.drop (off+l.length)):=by
   simp[ψ,aK,List.map_take,List.map_drop]
  rw[e];exact hB.setRow _
theorem NY {P:Program} {ops:Array Oper} {o:Oper} {a:Act} {w w':World} {K:Act→World→Prop} {Q:Exit→Act→World→Prop} {E:Prop} (hgd:o.guard=none) (d s:Operand) (dT sT:TypeId)
 (ho:o.op=.call { callee:=.builtin .copy,args:=#[d,s],argTypes:=#[dT,sT] }) {vd vs r:Value} (hd:a.eval d=vd) (hs:a.eval s=vs) (hrun:(Builtin.copy_ #[dT,sT] o.type #[vd,vs]).run P w=.ok r w')
 (h:K (a.put o.dst r) w'):if Region.wanted o (yielded ops a.tmps)=true then Oper.wp P o a w K Q else E:=by
 have hw:Region.wanted o (yielded ops a.tmps)=true:=by simp[Region.wanted,hgd]
 rw[σ hw];subst hd hs;unfold Oper.wp;simp[execOp,ho,resolve,invoke,builtin,hrun,Result.andThen]
 exact h
theorem aeY {l:List Int} (hl:l.length=8) (k:Nat) (hk:k≤8):(oW (l.take k)++List.replicate (32 - 4*k) 0).length=32:=by
 rw[aL,KG,fF,fG];omega
theorem adz {l:List Int} (k:Nat) (hk:k<l.length) (hl:l.length=8):(oW (l.take k)++List.replicate (32 - 4*k) 0).take (4*k)++i6 (l.getD k 0).toNat 4++(oW (l.take k)++List.replicate (32 - 4*k) 0).drop (4*k+4)=oW (l.take (k+1))++List.replicate (32 - 4*(k+1)) 0:=by
 have h1:(oW (l.take k)).length=4*k:=by rw[KG,fF];omega
 have h2:oW (l.take (k+1))=oW (l.take k)++i6 (l.getD k 0).toNat 4:=by
  rw[gX hk];unfold oW;rw[vJ,bJ,bD hk];simp
 rw[JU oM,dH oM,← h1,List.drop_length_add_append,Ud,h2];congr 2
 omega
theorem aeZ {w0 w:World} {x:Nat} {h:List Int} {r:Value} {n:Nat} {l:List UInt8} (s:jO w0 w x h r n) (hb:gx w r l) (hl:l.length<64) (hn:n≤1000000) :
 ς 277 #[.pointer (some ⟨x,0,none⟩)] w fun e w'=>e=ώ (.agg (ψ (oW (kZ ((uC l n).length / 64) h (uC l n)))))∧υ w w':=by
 obtain⟨i0,bx,bN,bG,aT⟩:=je Bv;have Mq:=δ hb;obtain⟨A,cap,rfl,BI,rT,hby⟩:=hb;have HS:=τ s hby;have H0:=δ (fun W (hu:υ w W)=>Vv (s.still hu));obtain⟨P,hP⟩:=κ (uC l n);rw[hP];have Mr:=δ hP;clear s hby hP;go_enter func277,ntmps277
 go_wp2_with fail
 refine(H0.out _ ((ζ.refl _ w).alloc _)).mono ?_;rintro e w' ⟨rfl,rfl⟩;generalize hw1:w.alloc (Obj.cells _ _)=w1;have ax:υ w w1:=by rw[← hw1];exact(ζ.refl _ w).alloc _
 have gj:η w1 w.heap.size 189 (ψ (List.replicate 32 0)):=by rw[← hw1];exact η.new w _ _
 have c72:=(HS.out.1.still ax).c72.1;have hxl:x<w1.heap.size:=(HS.out.1.still ax).blk.lt;have mP:=τ ax gj;clear hw1 ax gj;obtain⟨g,hg⟩:=κ w.heap.size;rw[hg];have HG:=δ hg;clear hg;have tF:=δ (show w.heap.size<w1.heap.size from by have:=mP.out.2.lt;omega);go_wp2_with (first
  |(at_builtin
    refine jH rfl _ _ _ _ rfl 5 i0 _ 1 1 underlying89 bx bN bG aT rfl (.slice A2 l.length eY) l.length (aK l) rfl (jR.out.1.alloc _) _ 1 [ϋ 128] rfl (Src.zi underlying89 _) (by simp[Value.oneCell']) (by unfold maxLen;omega) oM ?_;intro v3 w3 lC χ fI eU;obtain⟨A3,zx,rfl,p6,sj⟩:=lC.shape;have Cp:=aj lC χ fI;clear lC χ fI eU p6 sj)
  |(at_builtin
    refine jH rfl _ _ _ _ rfl 5 i0 _ 1 1 underlying89 bx bN bG aT rfl (.slice (some ⟨w1.heap.size,0,none⟩) 0 0) 0 (aK []) rfl (Vq w1 [] sM) _ l.length (aK l) rfl ((Mq.out.ε (mP.out.1.alloc _) (fun _ _ e=>e)).src) (Bg _) (by unfold maxLen;omega) oM ?_;intro v2 w2 kL π hl2 bV;rw[kU,show aK []=[] from rfl,nW] at kL;obtain⟨A2,eY,rfl,Ch,mO⟩:=kL.shape;have jR:=aj kL π hl2;clear kL π hl2 bV c72 Ch mO))
 have a_:BV w1 w2 (.slice A2 l.length eY) l:=by
  refine⟨jR.out.1,((ζ.refl _ w1).alloc _).then jR.out.2.1 (fun q hq=>.inr (by have e:w1.heap.size=q:=dw hq;omega)),fun q hq=>?_⟩;rcases jR.out.2.2 with e | e
  ·rw[e] at hq;have e2:w1.heap.size=q:=dw hq;omega
  ·rw[e] at hq;have e2:=dw hq;simp at e2;omega
 have jC:BV w1 w3 (.slice A3 (l.length+1) zx) (l++[128]):=a_.next ((ζ.refl _ w2).alloc _) Cp.out.1 sM (by rw[qM];rfl) Cp.out.2.1 Cp.out.2.2
 have Cq:=δ jC;obtain⟨K,hK⟩:=κ ((119 - l.length % 64) % 64);have HK:=δ (show K≤63∧∀k,k≤K→((l.length+1+k) % 64=56↔k=K) from ⟨oM,fun k hk=>by omega⟩);have Ms:=δ hK;clear a_ jC jR Cp tF hK;go_loopw [3] (fun u wr=>∃k:Nat,k≤K∧BV w1 wr u (l++128::List.replicate k 0)) (fun u _=>200 - Lk u)
 case atStart=>exact⟨0,oM,Cq.out⟩
 case round =>
  clear Cq;obtain⟨k,hk,hS⟩:=hrel;have hls:(l++128::List.replicate k 0).length=l.length+1+k:=by simp;omega
  have ho:=hS.own;rw[hls] at ho;obtain⟨A5,ai4,rfl,i_,hA6⟩:=ho.shape;have uU:=aj hS ho hls;obtain⟨m,hm⟩:=κ (l.length+1+k);rw[hm] at uU i_ ⊢;have HM:=δ hm;by_cases hlt:k<K
  ·have h56 : ((m:Int) % 64 != 56)=true:=by have:=(HK.out.2 k hk);simp;omega
   clear hS ho hls hm i_ hA6;have hA7:m≤190:=by have:=HM.out;have:=HK.out.1;omega
   go_wp2_with (at_builtin
                refine jH rfl _ _ _ _ rfl 5 i0 _ 1 1 underlying89 bx bN bG aT rfl (.slice A5 m ai4) m _ rfl (uU.out.2.1.alloc _) _ 1 [ϋ 0] rfl (Src.zi underlying89 _) (by simp[Value.oneCell']) (by unfold maxLen;omega) oM ?_;intro v3 w3 lC χ fI eU;obtain⟨A3,zx,rfl,p6,sj⟩:=lC.shape;have cH:BV w1 w3 (.slice A3 (m+1) zx) (l++128::List.replicate k 0++[0]):=uU.out.1.next (l2:=[0]) ((ζ.refl _ wr).alloc _) lC (by rw[aL,uU.out.2.2];rfl) (by rw[qM (l++128::List.replicate k 0) [0]];rfl) χ fI
                have HS6:=δ cH;clear cH lC χ fI eU p6 sj)
   go_roundw
   case rel =>
    refine⟨k+1,oM,?_⟩;have e:l++128::List.replicate (k+1) 0=l++128::List.replicate k 0++[0]:=by rw[List.replicate_succ',dQ];rfl
    rw[e];exact HS6.out
   case measure=>simp[Lk];omega
  ·obtain rfl:k=K:=oM
   have h56:((m:Int) % 64 != 56)=false:=by have:=(HK.out.2 k hk);simp;omega
   have lU:=mP.out.1.then uU.out.1.ε φ;have ij:=HS.out.1.still lU;obtain⟨c72,c73,-⟩:=ij.c72;obtain⟨a0,a1,a2,a3,a4,a5,a6,a7,rfl⟩:=eight ij.len;have zT:(n:Int)*8=((8*n:Nat):Int):=oM;clear hS ho hls hm i_ hA6 lU ij;go_wp2_with fail
   rw[show (8*(n:Int))=((8*n:Nat):Int) by omega];refine(UU _ m _ (8*n) 8 wr uU.out.2.1 oM (oO HM.out HK.out.1)).mono ?_;rintro e w8 ⟨v8,rfl,Mt,cC,ry⟩;have hP:=Mr.out;have hpe:l++128::List.replicate k 0++i6 (8*n) 8=P:=by
    rw[← hP];unfold uC;rw[Ms.out,dQ];rfl
   have hpl:P.length=m+8:=by rw[← hpe,aL,uU.out.2.2,ur]
   have uV:=aeT l n hl;rw[hP] at uV;have ym:υ w1 w8:=uU.out.1.ε.then cC (fun q hq=>.inr (uU.out.1.bP q hq));have xU:∀q,v8.ownBlock=some q→w1.heap.size≤q:=by
    intro q hq;rcases ry with e | ⟨q2,e,h2⟩
    ·rw[e] at hq;exact uU.out.1.bP q hq
    ·rw[e] at hq;have:=dw hq;have:=uU.out.1.ε.size;omega
   rw[← qM,hpe,← hpl] at Mt;have hby:=gx.jK Mt;obtain⟨A8,YL,rfl,hA8,hA9⟩:=Mt.shape;have HPL:=δ hpl;have HP:=cx hP uV ym xU hby;have hc8:=((mP.out.1.then ym φ));have ij:=HS.out.1.still hc8;obtain⟨c72,c73,-⟩:=ij.c72;obtain⟨q0,q1,q2,q3,q4,q5,q6,q7⟩:=ij.c8;have Mu:=δ ij;clear hP hpe hpl uV ym xU hby Mt cC ry hc8 ij;go_wp2_with fail
   clear q0 q1 q2 q3 q4 q5 q6 q7 c72 c73;obtain⟨hb,Mv⟩:=κ w8.heap.size;rw[Mv];have hstart:∃(j:Nat) (A:Option Addr) (cap:Nat),Value.slice A8 P.length YL=.slice A (P.length - 64*j) cap∧64*j≤P.length∧υ w8 (w8.alloc (.cells #[Value.int IntKind.u32 a0,Value.int IntKind.u32 a1,Value.int IntKind.u32 a2,Value.int IntKind.u32 a3,Value.int IntKind.u32 a4,Value.int IntKind.u32 a5,Value.int IntKind.u32 a6,Value.int IntKind.u32 a7] 377))∧η (w8.alloc (.cells #[Value.int IntKind.u32 a0,Value.int IntKind.u32 a1,Value.int IntKind.u32 a2,Value.int IntKind.u32 a3,Value.int IntKind.u32 a4,Value.int IntKind.u32 a5,Value.int IntKind.u32 a6,Value.int IntKind.u32 a7] 377)) hb 377 (dV (kZ j [a0,a1,a2,a3,a4,a5,a6,a7] P)) ∧
    gx (w8.alloc (.cells #[Value.int IntKind.u32 a0,Value.int IntKind.u32 a1,Value.int IntKind.u32 a2,Value.int IntKind.u32 a3,Value.int IntKind.u32 a4,Value.int IntKind.u32 a5,Value.int IntKind.u32 a6,Value.int IntKind.u32 a7] 377)) (.slice A (P.length - 64*j) cap) (P.drop (64*j))∧(Value.slice A (P.length - 64*j) cap).ownBlock≠some hb:=by
    subst Mv;refine⟨0,A8,YL,rfl,oM,(ζ.refl _ w8).alloc _,η.new w8 _ _,HP.out.2.2.2.2.ε ((ζ.refl (fun _=>False) w8).alloc _) (fun _ _ e=>e),fun e=>?_⟩;obtain⟨A',cap',e1,-,-,h3⟩:=HP.out.2.2.2.2;injection e1 with e1 e2 e3;subst e1;by_cases h0:0<P.length
    ·obtain⟨b,off,rfl,hlt,-⟩:=h3 h0
     have:=dw e;simp at this
     omega
    ·have:=HP.out.2.1
     have h9:P.length=m+8:=HPL.out;omega
   have fT:=δ hstart;have HHB:=δ Mv;clear hstart Mv;generalize (w8.alloc (Obj.cells _ _))=w9 at fT ⊢;go_loopw [3] (fun u wr=>∃(j:Nat) (A:Option Addr) (cap:Nat),u=.slice A (P.length - 64*j) cap∧64*j≤P.length∧υ w8 wr∧η wr hb 377 (dV (kZ j [a0,a1,a2,a3,a4,a5,a6,a7] P))∧gx wr (.slice A (P.length - 64*j) cap) (P.drop (64*j))∧(Value.slice A (P.length - 64*j) cap).ownBlock≠some hb) (fun u _=>Lk u)
   case atStart=>exact fT.out
   case round =>
    clear fT;obtain⟨j,A,cap,rfl,hj,hu,hB,hby,hne⟩:=hrel;have hok:=KF Mu.out.len Mu.out.all j P;obtain⟨h9,Iu⟩:=κ (kZ j [a0,a1,a2,a3,a4,a5,a6,a7] P);rw[Iu] at hB hok;by_cases hlt:64≤P.length - 64*j
    ·obtain⟨d0,d1,d2,d3,d4,d5,d6,d7,rfl⟩:=eight hok.1
     obtain⟨A',cap',e,BI,rT,hbz⟩:=hby;injection e with e1 e2 e3;subst e1 e3;have hl:(P.drop (64*j)).length=P.length - 64*j:=by rw[gM]
     rw[hl] at BI;obtain⟨b,off,rfl,dO,hbz⟩:=hbz oM;obtain⟨L,hL⟩:=κ (P.length - 64*j);have Cm:=τ hL hj;rw[hL] at hlt hl BI hne ⊢;have kN:=τ hl hbz;have p7:=hB.drew;have HU:=aD hu hB Iu hok.2;obtain⟨q0,q1,q2,q3,q4,q5,q6,q7⟩:wr.cell? ⟨hb,0,none⟩=some (.int .u32 d0)∧wr.cell? ⟨hb,1,none⟩=some (.int .u32 d1)∧wr.cell? ⟨hb,2,none⟩=some (.int .u32 d2)∧wr.cell? ⟨hb,3,none⟩=some (.int .u32 d3)∧wr.cell? ⟨hb,4,none⟩=some (.int .u32 d4)∧wr.cell? ⟨hb,5,none⟩=some (.int .u32 d5)∧wr.cell? ⟨hb,6,none⟩=some (.int .u32 d6)∧wr.cell? ⟨hb,7,none⟩=some (.int .u32 d7):=⟨hB.cell 0,hB.cell 1,hB.cell 2,hB.cell 3,hB.cell 4,hB.cell 5,hB.cell 6,hB.cell 7⟩;have i1:(64:Int)≤(L:Int):=oM;have i2:(64:Int)≤(cap:Int):=oM;have RJ:=δ hne;unfold maxLen at rT;clear hu hB Iu hok hbz e2 hl hL hj hne p7;go_wp2_with fail
     go_still_tail 7,kR
     change wpList _ _ _ _ _ wr.drew;clear q0 q1 q2 q3 q4 q5 q6 q7;go_wp2_with (first
      |(go_at_call 292
        refine(Xe [d0,d1,d2,d3,d4,d5,d6,d7] [d0,d1,d2,d3,d4,d5,d6,d7] nD ((P.drop (64*j)).take 64) x 8 b off cap _ rfl rfl DC.1 HU.out.2.2.2 HU.out.2.2.2 DC.2 (Mu.out.still HU.out.1.drew).k_ (Mu.out.still HU.out.1.drew).blk.lt (by rw[fF,kN.out.1];omega) oM oM dO (fun i hi=>by
         rw[JX,kN.out.2 i (by rw[kN.out.1];omega)];simp[List.getD_eq_getElem?_getD,hi])).mono ?_
        rintro e w10 ⟨rfl,eT⟩;obtain⟨h',wL⟩:∃h',xK [d0,d1,d2,d3,d4,d5,d6,d7] [d0,d1,d2,d3,d4,d5,d6,d7] nD ((P.drop (64*j)).take 64)=h':=⟨_,rfl⟩;have wK:h'.length=8:=by rw[← wL,Oz];rfl
        rw[wL];have Eg:=aj eT wK wL;clear eT wK wL)
      |(show wpList _ _ _ (⟨none,_,_,_,_,_⟩::_) _ _
        refine fk rfl 377 _ _ rfl hb (dV h') rfl rfl 377 _ (HU.out.2.1.ε (ζ.drew (ζ.refl (fun _=>False) wr)|>.then Eg.out.1 φ) (fun e=>e)) (by rw[Dy,Dy,Eg.out.2.1];rfl) (KH _) (by rw[Dy,Eg.out.2.1];kernel_rfl) ?_
        intro w11 f_ pW GW))
     have cN:∀(A':Option Addr) (cap':Nat),gx w11 (.slice A' (L - 64) cap') ((P.drop (64*j)).drop 64)→(Value.slice A' (L - 64) cap').ownBlock≠some hb →
      (∃(j:Nat) (A:Option Addr) (cap:Nat),Value.slice A' (L - 64) cap'=.slice A (P.length - 64*j) cap∧64*j≤P.length∧υ w8 w11∧η w11 hb 377 (dV (kZ j [a0,a1,a2,a3,a4,a5,a6,a7] P))∧gx w11 (.slice A (P.length - 64*j) cap) (P.drop (64*j))∧(Value.slice A (P.length - 64*j) cap).ownBlock≠some hb):=by
      intro A' cap' h1 h2;have e64:P.length - 64*(j+1)=L - 64:=by have:=Cm.out.1;omega
      refine⟨j+1,A',cap',by rw[e64],by have:=Cm.out.1;omega,(HU.out.1.drew.then Eg.out.1 φ).then pW (fun q hq=>.inr (oN HHB.out)),?_,?_,?_⟩
      ·rw[UT,HU.out.2.2.1,Eg.out.2.2]
       exact f_
      ·rw[e64,show 64*(j+1)=64*j+64 by omega,← AZ]
       exact h1
      ·rw[e64];exact h2
     have ai5:gx w11 (.slice (some ⟨b,off,none⟩) L cap) (P.drop (64*j)):=by
      have h1:gx wr (.slice (some ⟨b,off,none⟩) L cap) (P.drop (64*j)):=⟨_,cap,by rw[kN.out.1],by rw[kN.out.1];exact BI,by unfold maxLen;exact rT,fun _=>⟨b,off,rfl,dO,kN.out.2⟩⟩;exact h1.ε (((ζ.refl (fun _=>False) wr).drew.then Eg.out.1 φ).trans pW (H:=(· = hb)) φ (fun _ e=>.inl e)) (fun k hk e=>RJ.out (by rw[hk,e]))
     go_roundw
     case rel =>
      by_cases GD:cap=64
      ·rw[σ GD,GD]
       obtain rfl:L=64:=oM;refine cN _ _ ?_ RJ.out;exact LJ
      ·rw[ν GD]
       refine cN _ _ ?_ RJ.out;by_cases QB:L=64
       ·subst QB
        exact LJ
       ·exact ai5.drop oM
     case measure=>simp[Lk];omega
    ·have ai6:=HP.out.2.1.1
     have hj0:P.length - 64*j=0:=oM;have hjq:P.length / 64=j:=oM;rw[hj0] at hne hby ⊢;obtain⟨d0,d1,d2,d3,d4,d5,d6,d7,rfl⟩:=eight hok.1;have HU:=cx hu hB Iu hok.2 hjq;have HOB:Hid (η wr g 189 (ψ (List.replicate 32 0))):=δ (by
      rw[← HG.out];exact mP.out.2.ε (HP.out.2.2.1.then hu φ) (fun e=>e))
     clear ai6 hj0 hjq hu hB Iu hok hne hby hlt hj;go_wp2_with (first
      |(refine kW rfl _ _ rfl hb rfl _ _ _ HU.out.2.1 underlying377 rfl rfl ?_))
     go_loopw [51] (fun u wr=>∃k:Nat,k≤8∧u=ι (k:Int)∧ζ (fun q=>q=g) w1 wr∧η wr g 189 (ψ (oW ([d0,d1,d2,d3,d4,d5,d6,d7].take k)++List.replicate (32 - 4*k) 0))) (fun u _=>8 - (intOf u).toNat)
     case atStart=>exact⟨0,oM,rfl,(HP.out.2.2.1.then HU.out.1 φ).mono φ,HOB.out⟩
     case round =>
      clear HOB;obtain⟨k,hk,rfl,hu,hB⟩:=hrel;have HB:=τ hu hB;clear hu hB;by_cases hlt:k<8
      ·have hd:[d0,d1,d2,d3,d4,d5,d6,d7].length=8:=rfl
       obtain⟨zk,RL⟩:∃z,[d0,d1,d2,d3,d4,d5,d6,d7].getD k 0=z:=⟨_,rfl⟩;have Cr:=acD wr [d0,d1,d2,d3,d4,d5,d6,d7] rfl k hlt;have Mw:=HU.out.2.2.2.1.get k;rw[RL] at Cr Mw;obtain⟨z,rfl⟩:∃z:Nat,zk=(z:Int):=⟨zk.toNat,by have:=Mw.1;omega⟩;have aj9:z<4294967296:=by have:=Mw.2;omega
       have hstep:=adz (l:=[d0,d1,d2,d3,d4,d5,d6,d7]) k (by simp;omega) rfl;rw[RL,aaU] at hstep;have HZ:=δ hstep;have p7:=HB.out.2.drew;have HBD:=δ p7;obtain⟨q,hq⟩:=κ (4*k);have HQ:=δ hq;have i1:(q:Int)≤32:=oM;have i0:(0:Int)≤(q:Int):=oM;have i2:q<32:=oM;have i3:¬32=q:=oM;have i4:IntKind.i64.wrap (4*(k:Int))=(q:Int):=by rw[bX _ oM];omega
       clear RL hd Mw hstep p7 hq;go_wp2_with fail
       refine dB ?_;refine dK (S:=fun w'=>υ wr w') (T:=fun k=>k == 6) kR ?_;have aC:=(ζ.refl (fun _=>False) wr).drew;refine tk 0 ?_;simp only[ak];refine tk 1 ?_;simp only[ak];refine tk 2 ?_;simp only[ak];refine tk 3 ?_;simp only[ak];refine tk 4 ?_;simp only[ak];refine Oe (i:=5) kR rfl (fun K hK=>?_);go_simp
       clear i4 Cr;rw[Ga z oM];refine(UU (.slice none 0 0) 0 [] z 4 _ (Own.nil _ _ _) dC dC).mono ?_;rintro e w12 ⟨v12,rfl,xV,gT,QC⟩;rw[kU,nW] at xV;have Eh:υ wr.drew w12:=gT.mono (fun b hb=>by simp[Value.ownBlock] at hb);have b9:=aC.then Eh φ;refine hK.out _ _ b9 ?_;have hby:=gx.jK xV;have tC:=aeY (l:=[d0,d1,d2,d3,d4,d5,d6,d7]) rfl k hk;have hlb:=ur z 4;have hq:=HQ.out;obtain⟨W,rv,rz,l9,qW,Ei⟩:=Ko (off:=q) (n:=32 - q) (cap:=32 - q) (l:=i6 z 4) (HBD.out.ε Eh (fun e=>e)) hby oM oM;obtain⟨A12,c12,rfl,-,-⟩:=xV.shape;clear hK;refine N4 (i:=6) kR rfl kR (fun K hK=>?_);refine NY (by rfl) _ _ _ _ (by rfl) (by rfl) (by rfl) rz ?_;refine hK.out _ _ ?_;rw[hlb,← hq,HZ.out] at l9;have HE:=aj l9 b9 qW;clear hK rz l9 qW Ei b9 aC tC hlb hq hby xV gT QC Eh;refine N5 kR ?_ _;refine cZ ?_;go_wp2_with fail
       go_roundw
       case rel=>exact⟨k+1,oM,by go_num,(HB.out.1.then HE.out.2.1 φ).then HE.out.2.2 (fun q hq=>.inl hq),HE.out.1⟩
       case measure=>simp[intOf]<;>omega
      ·obtain rfl:k=8:=oM
       have e8:((8:Nat):Int)=8:=rfl;rw[e8];have cN:oW ([d0,d1,d2,d3,d4,d5,d6,d7].take 8)++List.replicate (32 - 4*8) 0=oW (kZ (P.length / 64) [a0,a1,a2,a3,a4,a5,a6,a7] P):=by
        rw[HU.out.2.2.2.2,HU.out.2.2.1];simp
       have hB:=HB.out.2;rw[cN] at hB;obtain⟨O,hO⟩:=κ (oW (kZ (P.length / 64) [a0,a1,a2,a3,a4,a5,a6,a7] P));have lD:O.length=32:=by rw[← hO,HU.out.2.2.2.2,HU.out.2.2.1,KG];rfl
       rw[hO] at hB;have jQ:=aj hB hO lD;clear hB hO lD cN e8 hlt hk;go_wp2_with (first
        |(show wpList _ _ _ (⟨none,_,_,_,_,_⟩::_) _ _
          refine fk rfl 189 _ _ rfl g (ψ O) rfl rfl 189 _ jQ.out.1 rfl (lY _) (by rw[bq,jQ.out.2.2];kernel_rfl) ?_
          intro w14 pX jA Ej)
        |(refine kW rfl _ _ rfl g rfl _ _ _ jQ.out.1 underlying189 rfl (by rw[bq,jQ.out.2.2];kernel_rfl) ?_))
       have ai7:=(mP.out.1.then HB.out.1 (fun q hq=>.inr (oN HG.out))).then jA (fun q hq=>.inr (oN HG.out));refine cy (jx rfl _ _ g _ _ _ _ rfl pX underlying189 rfl (by rw[bq,jQ.out.2.2];kernel_rfl)) rfl ⟨by rw[jQ.out.2.1],ai7⟩
theorem Xf (t:ByteArray) (ht:t.size≤1000000) (w:World):ς 248 #[.string t] w fun e w'=>e=ώ (.agg (ψ (xS t.data.toList)))∧υ w w':=by
 have HD:=δ (show xS t.data.toList=oW (kZ ((uC (t.data.toList.drop (64*(t.size / 64))) t.size).length / 64) (kZ (t.size / 64) qp t.data.toList) (uC (t.data.toList.drop (64*(t.size / 64))) t.size)) from rfl);obtain⟨O,hO⟩:=κ (xS t.data.toList);have lD:O.length=32:=by rw[← hO];exact O3 _
 rw[hO];have HO:=τ hO lD;clear hO lD;go_enter func248,ntmps248
 go_wp2_with fail
 generalize hw1:w.alloc (Obj.cells _ _)=w1;have ax:υ w w1:=by rw[← hw1];exact(ζ.refl _ w).alloc _
 have gj:η w1 w.heap.size 189 (ψ (List.replicate 32 0)):=by rw[← hw1];exact η.new w _ _
 have mP:=τ ax gj;clear hw1 ax gj;refine(aeX w1).mono ?_;rintro e w2 ⟨x,rfl,bV⟩;have tE:=δ bV;clear bV;go_wp2_with fail
 refine(acC tE.out t ht).mono ?_;rintro e w3 ⟨r,rfl,eU,nL⟩;have Cq:=τ eU nL;clear eU nL;go_wp2_with fail
 refine(aeZ Cq.out.1 Cq.out.2 (by rw[gM];show t.size - _<64;omega) ht).mono ?_;rintro e w4 ⟨rfl,ag⟩;rw[← HD.out,HO.out.1];have iN:Hid (η w4 w.heap.size 189 (ψ (List.replicate 32 0))):=δ (mP.out.2.ε (Cq.out.1.ε.then ag φ) (fun e=>e));have nM:=δ ((mP.out.1.then Cq.out.1.ε φ).then ag φ);clear ag;go_wp2_with (first
  |(show wpList _ _ _ (⟨none,_,_,_,_,_⟩::_) _ _
    refine fk rfl 189 _ _ rfl w.heap.size (ψ O) rfl rfl 189 _ iN.out (by rw[bq,bq,HO.out.2];rfl) (lY _) (by rw[bq,HO.out.2];kernel_rfl) ?_
    intro w14 pX jA Ej))
 refine cy (jx rfl _ _ w.heap.size _ _ _ _ rfl pX underlying189 rfl (by rw[bq,HO.out.2];kernel_rfl)) rfl ⟨rfl,nM.out.then jA (fun q hq=>.inr oM)⟩
def wB (key:List UInt8) (wM:UInt8):List UInt8:=(key++List.replicate (64 - key.length) 0).map (· ^^^ wM)
def qX (key text:List UInt8):List UInt8:=xS (wB key 0x5c++xS (wB key 0x36++text))
theorem O4 {key:List UInt8} {b:UInt8} (h:key.length≤64):(wB key b).length=64:=by
 unfold wB;rw[bp,aL,fG];omega
theorem qi (key text:List UInt8):(qX key text).length=32:=O3 _
def rA (b:UInt8):UInt8:=(b <<< 1) ^^^ ((b >>> 7)*27)
def uD (b:UInt8) (k:Nat):UInt8:=UInt8.ofNat ((b.toNat*2 ^ k) % 256+b.toNat / 2 ^ (8 - k))
structure BoxM where
 p:UInt8
 q:UInt8
 s:List UInt8
def BoxM.q1 (b:BoxM):UInt8:=b.q ^^^ (b.q <<< 1)
def BoxM.q2 (b:BoxM):UInt8:=b.q1 ^^^ (b.q1 <<< 2)
def BoxM.q3 (b:BoxM):UInt8:=b.q2 ^^^ (b.q2 <<< 4)
def BoxM.next (b:BoxM):BoxM :=
 ⟨b.p ^^^ rA b.p,b.q3 ^^^ ((b.q3 >>> 7)*9),b.s.set b.p.toNat (b.q ^^^ uD b.q 1 ^^^ uD b.q 2 ^^^ uD b.q 3 ^^^ uD b.q 4 ^^^ 0x63)⟩
def vZ:Nat→BoxM
 | 0=>⟨1,1,List.replicate 256 0⟩
 | n+1=>(vZ n).next
def qY:List UInt8:=(vZ 255).s.set 0 0x63
theorem OD (n:Nat):(vZ n).s.length=256:=by
 induction n with
 | zero=>exact fG
 | succ n ih=>exact Fx.trans ih
theorem O5:qY.length=256:=by rw[qY,Fx,OD]
def GF (i:Nat) (power:UInt8) (t:List UInt8):List UInt8 :=
 let t1:=if i % 8=0 then [t.getD 1 0,t.getD 2 0,t.getD 3 0,t.getD 0 0] else t
 let t2:=if i % 4=0 then t1.map fun b=>qY.getD b.toNat 0 else t1
 if i % 8=0 then t2.set 0 (t2.getD 0 0 ^^^ power) else t2
def lN (key:List UInt8):Nat→List UInt8 × UInt8
 | 0=>(key,1)
 | n+1 =>
   let w:=(lN key n).1
   let t:=GF (n+8) (lN key n).2 (w.drop (4*(n+7)))
   (w++(List.range 4).map (fun k=>w.getD (4*n+k) 0 ^^^ t.getD k 0),if (n+8) % 8=0 then rA (lN key n).2 else (lN key n).2)
def Bw (key:List UInt8):List UInt8:=(lN key 52).1
theorem UF {key:List UInt8} (h:key.length=32) (n:Nat):(lN key n).1.length=32+4*n:=by
 induction n with
 | zero=>exact h
 | succ n ih =>
   show (_++_:List UInt8).length=_;rw[aL,ih];simp
   omega
theorem acE {key:List UInt8} (h:key.length=32):(Bw key).length=240:=UF h 52
def rY (w b:List UInt8) (round:Nat):List UInt8:=(List.range 16).map fun i=>b.getD i 0 ^^^ w.getD (16*round+i) 0
def qZ (b:List UInt8):List UInt8:=(List.range 16).map fun i =>
 let n:=fun k=>b.getD (i / 4*4+(i+k) % 4) 0
 rA (n 0) ^^^ rA (n 1) ^^^ n 1 ^^^ n 2 ^^^ n 3
def zy (b:List UInt8):List UInt8:=(List.range 16).map fun i=>qY.getD (b.getD ((i+4*(i % 4)) % 16) 0).toNat 0
def ny (w:List UInt8):Nat→List UInt8→List UInt8
 | 0,b=>rY w b 0
 | r+1,b=>rY w (if r+1<14 then qZ (zy (ny w r b)) else zy (ny w r b)) (r+1)
def PJ (key b:List UInt8):List UInt8:=ny (Bw key) 14 b
theorem O6 (w b:List UInt8) (r:Nat):(rY w b r).length=16:=by simp[rY]
theorem FT (w b:List UInt8) (r:Nat):(ny w r b).length=16:=by cases r<;>exact O6 _ _ _
theorem acF (key b:List UInt8):(PJ key b).length=16:=FT _ _ _
def DD (key eN:List UInt8) (i:Nat):UInt8:=(PJ key (eN++i6 (i / 16) 4)).getD (i % 16) 0
def uu (key eN text:List UInt8):List UInt8:=text.mapIdx fun i b=>b ^^^ DD key eN i
theorem abZ (key eN text:List UInt8):(uu key eN text).length=text.length:=by simp[uu]
theorem abG (key eN text:List UInt8):uu key eN (uu key eN text)=text:=by
 unfold uu;refine Ue sM fun i h1 h2=>?_
 simp only[List.getElem_mapIdx];rw[UInt8.xor_assoc,UInt8.xor_self,UInt8.xor_zero]
def qj (key μ n:Nat):List UInt8:=aN key++(aN μ++aN n)
def oT (k:List UInt8) (μ n:Nat) (text:List UInt8):List UInt8:=uu (qX k [101,110,99]) (i6 μ 4++i6 n 8) text
def rR (k:List UInt8) (key μ n:Nat) (about data:List UInt8):List UInt8:=qX (qX k [109,97,99]) (qj key μ n++(bF about++bF data))
def qT (k:List UInt8) (key μ n:Nat) (about text:List UInt8):List UInt8 :=
 qj key μ n++(bF (oT k μ n text)++rR k key μ n about (oT k μ n text))
def kf (aP:List UInt8) (i:Nat):List UInt8:=qX aP ([114,105,110,103]++i6 i 8)
theorem Kv (k:List UInt8) (μ n:Nat) (text:List UInt8):(oT k μ n text).length=text.length:=abZ _ _ _
theorem acG (k:List UInt8) (μ n:Nat) (text:List UInt8):oT k μ n (oT k μ n text)=text:=abG _ _ _
theorem OE {k:List UInt8} {key μ n:Nat} {about text:List UInt8} (hk:key≤1048576) (hb:μ<4294967296) (hn:n<18446744073709551616) (ht:text.length≤8192):(qT k key μ n about text).length≤text.length+52:=by
 have h1:bC key≤3:=(KC 2 key).2 oM;have h2:bC μ≤5:=(KC 4 μ).2 oM;have h3:=dc hn;have h4:=kY (n:=text.length) oM;unfold qT qj;simp only[aL,iF,iT,Kv,rR,qi];omega
section
variable {P:Program} {ops:Array Oper} {Q:Exit→Act→World→Prop} {md:Region.Mode} {S:World→Prop} {T:Nat→Bool}
def xH (md:Region.Mode) (ops:Array Oper) (T:Nat→Bool) (listed:Array Bool) (i:Nat):Bool :=
 closed md ops listed && !T i && (List.range ops.size).all fun j => !T j || reach md ops i 8 j
theorem abH {listed:Array Bool} {i:Nat} (h:xH md ops T listed i=true) :
 xJ md ops listed∧T i=false∧∀j oj,ops[j]? = some oj→T j=true→reach md ops i 8 j=true:=by
 unfold xH at h;exact YI
theorem N0 {i:Nat} {oi:Oper} {v:Value} {fuel:Nat} {listed:Array Bool} {a:Act} {w:World} (hi:ops[i]? = some oi)
 (hs:Region.noSelect ops=true) (hf:Region.free md ops listed i=true) (hr:(Region.ready md ops listed).contains i=true) (hw:xH md ops T listed i=true)
 (hQ:∀c a w,Q (.panic c) (a.put oi.dst v) w→Q (.panic c) a w) (hT:l7 P ops Q S i oi v a) (hS:S w) (hz:ops.size=listed.size)
 (h:dL P md ops Q S T fuel (listed.setIfInBounds i true) (a.put oi.dst v) w):dL P md ops Q S T (fuel+1) listed a w:=by
 have hsel := Ua hs;obtain⟨QA,tD,ie⟩:=abH hw;have main:∀(fuel:Nat) (listed:Array Bool) (a:Act) (w:World),
  (∀j oj,ops[j]? = some oj→j≠i→listed.getD j true=false→(∀e ∈ oj.after,Region.binds md e=true→e.on≠i)→oi.apart ops oj=true) →
  xJ md ops listed→ops.size=listed.size →
  i ∈ Region.ready md ops listed→l7 P ops Q S i oi v a→S w →
  dL P md ops Q S T fuel (listed.setIfInBounds i true) (a.put oi.dst v) w→dL P md ops Q S T (fuel+1) listed a w:=by
  intro fuel;induction fuel with
  | zero =>
    exact YK
  | succ fuel ih =>
    intro listed a w hfree cu hz hr hT hS H;refine⟨fun h0=>(by rw[h0] at hr;cases hr),fun j hj=>?_⟩
    by_cases e:j=i
    ·subst e
     exact hT a rfl rfl _ w hS ⟨fun _=>hS,H⟩
    ·have h1:=H.2 j (y8 hj e)
     obtain⟨hun,oj,pn,hall⟩:=Fz.1 hj;have g0:=(Fz.1 hr).1;have Cl:listed.getD i false=false:=by
      by_cases hlt:i<listed.size
      ·simp[hlt] at g0 ⊢
       exact g0
      ·simp[Array.getElem?_eq_none (Nat.le_of_not_lt hlt)] at g0
     have hno:∀e ∈ oj.after,Region.binds md e=true→e.on≠i:=by
      intro x hx hb Iq;have g1:=hall x hx hb;rw[Iq,Cl] at g1;cases g1
     have hd:qq T ((listed.setIfInBounds i true).setIfInBounds j true)=false:=Kj.2 fun k hk=>by
      have hki:i≠k:=fun e=>by rw[e,hk] at tD;cases tD
      by_cases Ir:j=k
      ·subst Ir
       have g1:=FQ cu 8 j oj pn hall (ie j oj pn hk);rw[Cl] at g1;cases g1
      ·rw[Dp false Ir,Dp false hki]
       cases hlk:listed.getD k false with
       | false=>rfl
       | true =>
         have hlt:k<ops.size:=by
          rcases Fp k listed.size with h | h
          ·omega
          ·simp[Array.getElem?_eq_none h] at hlk
         have hok:ops[k]? = some ops[k]:=NA hlt;have g1:=FQ cu 8 k _ hok (cu k _ hok hlk) (ie k _ hok hk);rw[Cl] at g1;cases g1
     exact YJ
 exact main fuel listed a w (Uc hi hf) QA hz (by simpa using hr) hT hS h
theorem uj {i j:Nat} {oi oj:Oper} {fuel:Nat} {listed:Array Bool} {a:Act} {w:World} (hr:Region.ready md ops listed=[i,j]) (hi:ops[i]? = some oi) (hj:ops[j]? = some oj)
 (h1:∀K':Act→World→Prop,Shut (∀a w,S w→dL P md ops Q S T fuel (listed.setIfInBounds i true) a w→K' a w)→if Region.wanted oi (yielded ops a.tmps)=true then Oper.wp P oi a w K' Q else K' (a.put oi.dst undef) w)
 (h2:∀K':Act→World→Prop,Shut (∀a w,S w→dL P md ops Q S T fuel (listed.setIfInBounds j true) a w→K' a w)→if Region.wanted oj (yielded ops a.tmps)=true then Oper.wp P oj a w K' Q else K' (a.put oj.dst undef) w) :
 dL P md ops Q S T (fuel+1) listed a w:=by
 refine⟨fun h0=>(by rw[hr] at h0;cases h0),fun k hk=>?_⟩
 rw[hr] at hk;rcases (by simpa using hk:k=i∨k=j) with rfl | rfl
 ·exact wpOp_step hi (fun K' hK=>h1 K' (fun a w hS hW=>hK a w ⟨fun _=>hS,hW⟩))
 ·exact wpOp_step hj (fun K' hK=>h2 K' (fun a w hS hW=>hK a w ⟨fun _=>hS,hW⟩))
theorem sO {o:Oper} {a:Act} {w:World} {K:Act→World→Prop} {E:Prop} (hg:o.guard=none) (ty:TypeId) (x y:Operand) (ho:o.op=.store ty x y) (g:Nat) (new:Array Value) (hx:a.eval x=.pointer (some ⟨g,0,none⟩)) (hy:a.eval y=.agg new)
 (t:TypeId) (cs:Array Value) (hB:η w g t cs) (hs:cs.size=new.size) (h1:new.all (·.oneCell')=true) (hsz:(P.info? ty).map (·.size)=some new.size)
 (h:∀w',η w' g t new→ζ (· = g) w w'→w'.heap.size=w.heap.size→K (a.put o.dst undef) w'):if Region.wanted o (yielded ops a.tmps)=true then Oper.wp P o a w K Q else E:=by
 have hw:Region.wanted o (yielded ops a.tmps)=true:=by simp[Region.wanted,hg]
 rw[σ hw];exact FI ty x y ho g new hx hy t cs hB hs h1 hsz h
end
section
variable {P:Program} {ops:Array Oper} {Q:Exit→Act→World→Prop} {md:Region.Mode} {S:World→Prop} {T:Nat→Bool}
theorem Iv (i:Nat) {oi:Oper} {v:Value} {fuel:Nat} {listed:Array Bool} {a:Act} {w:World} (h:dL P md ops Q S T fuel (listed.setIfInBounds i true) (a.put oi.dst v) w)
 (hi:ops[i]? = some oi:=by rfl) (hv:∀w',S w'→(execOp a.eval oi).run P w'=.ok (.value v) w':=by intro w' hSw;go_split_ands;first|(go_simp;done)|(go_simp;rfl)| rfl) (hS:S w:=by assumption) (ie:Region.wanted oi (yielded ops a.tmps)=true:=by rfl)
 (hc:(Region.noSelect ops && Region.free md ops listed i && (Region.ready md ops listed).contains i && xH md ops T listed i && ops.size == listed.size)=true:=by kernel_rfl) (hQ:∀c a w,Q (.panic c) (a.put oi.dst v) w→Q (.panic c) a w:=by exact fun _ _ _ h=>h):dL P md ops Q S T (fuel+1) listed a w:=by
 simp only[gY,kV] at hc;exact N0 hi hc.1.1.1.1 hc.1.1.1.2 hc.1.1.2 hc.1.2 hQ (sQ hi (Or.inl ⟨ie,hv⟩)) hS hc.2 h
end
section
variable {P:Program} {ops:Array Oper} {Q:Exit→Act→World→Prop} {md:Region.Mode} {S:World→Prop} {T:Nat→Bool}
theorem aY (i:Nat) {o:Oper} {fuel:Nat} {listed:Array Bool} {a:Act} {w:World}
 (h:∀K':Act→World→Prop,Shut (∀a w,S w→dL P md ops Q S T fuel (listed.setIfInBounds i true) a w→K' a w)→if Region.wanted o (yielded ops a.tmps)=true then Oper.wp P o a w K' Q else K' (a.put o.dst undef) w)
 (hr:Region.ready md ops listed=[i]:=by kernel_rfl) (ho:ops[i]? = some o:=by rfl):dL P md ops Q S T (fuel+1) listed a w:=Oe hr ho h
theorem kO (i:Nat) {o:Oper} {fuel:Nat} {listed:Array Bool} {a:Act} {w:World}
 (h:∀K':Act→World→Prop,Shut (∀a w,dL P md ops Q S T fuel (listed.setIfInBounds i true) a w→K' a w)→if Region.wanted o (yielded ops a.tmps)=true then Oper.wp P o a w K' Q else K' (a.put o.dst undef) w)
 (hr:Region.ready md ops listed=[i]:=by kernel_rfl) (ho:ops[i]? = some o:=by rfl) (hd:qq T (listed.setIfInBounds i true)=true:=by kernel_rfl):dL P md ops Q S T (fuel+1) listed a w:=N4 hr ho hd h
theorem dF {fuel:Nat} {listed:Array Bool} {a:Act} {w:World} (h:Q .normal a w) (hr:Region.ready md ops listed=[]:=by kernel_rfl):dL P md ops Q S T fuel listed a w:=N5 hr h fuel
theorem wt8 (i:Nat) {oi:Oper} (v:Value) {fuel:Nat} {listed:Array Bool} {a:Act} {w:World} (hT:l7 P ops Q S i oi v a) (h:dL P md ops Q S T fuel (listed.setIfInBounds i true) (a.put oi.dst v) w)
 (hi:ops[i]? = some oi:=by rfl) (hS:S w:=by assumption)
 (hc:(Region.noSelect ops && Region.free md ops listed i && (Region.ready md ops listed).contains i && xH md ops T listed i && ops.size == listed.size)=true:=by kernel_rfl) (hQ:∀c a w,Q (.panic c) (a.put oi.dst v) w→Q (.panic c) a w:=by exact fun _ _ _ h=>h):dL P md ops Q S T (fuel+1) listed a w:=by
 simp only[gY,kV] at hc;exact N0 hi hc.1.1.1.1 hc.1.1.1.2 hc.1.1.2 hc.1.2 hQ hT hS hc.2 h
theorem tkW (i:Nat) {oi:Oper} (v:Value) {fuel:Nat} {listed:Array Bool} {a:Act} {w:World} (h:dL P md ops Q S T fuel (listed.setIfInBounds i true) (a.put oi.dst v) w)
 (hi:ops[i]? = some oi:=by rfl) (hv:∀w':World,True→(execOp a.eval oi).run P w'=.ok (.value v) w':=by intro w' hSw;go_simp) (hI:qq T listed=true∨S w:=by first| exact Or.inr aS | exact Or.inl kR) (ie:Region.wanted oi (yielded ops a.tmps)=true:=by rfl)
 (hc:(Region.noSelect ops && Region.free md ops listed i && (Region.ready md ops listed).contains i && T i == false)=true:=by kernel_rfl) (hQ:∀c a w,Q (.panic c) (a.put oi.dst v) w→Q (.panic c) a w:=by exact fun _ _ _ h=>h):dL P md ops Q S T (fuel+1) listed a w:=by
 simp only[gY,kV] at hc;exact abD hi hc.1.1.1 hc.1.1.2 hc.1.2 hc.2 hQ (sQ hi (Or.inl ⟨ie,hv⟩)) hI h
theorem tkH (i:Nat) {oi:Oper} (v:Value) {fuel:Nat} {listed:Array Bool} {a:Act} {w:World} (h:wpAnyH P md ops Q S fuel (listed.setIfInBounds i true) (a.put oi.dst v) w)
 (hi:ops[i]? = some oi:=by rfl) (hv:∀w',S w'→(execOp a.eval oi).run P w'=.ok (.value v) w':=by intro w' hSw;go_split_ands;go_simp) (hS:S w:=by assumption) (ie:Region.wanted oi (yielded ops a.tmps)=true:=by rfl)
 (hc:(Region.noSelect ops && Region.free md ops listed i && (Region.ready md ops listed).contains i)=true:=by kernel_rfl) (hQ:∀c a w,Q (.panic c) (a.put oi.dst v) w→Q (.panic c) a w:=by exact fun _ _ _ h=>h):wpAnyH P md ops Q S (fuel+1) listed a w:=by
 simp only[gY] at hc;exact wpAnyH_take hi hc.1.1 hc.1.2 hc.2 hQ (Or.inl ⟨ie,hv⟩) hS h
theorem ai8 (i:Nat) {oi:Oper} {fuel:Nat} {listed:Array Bool} {a:Act} {w:World} (h:wpAnyH P md ops Q S fuel (listed.setIfInBounds i true) (a.put oi.dst undef) w)
 (hi:ops[i]? = some oi:=by rfl) (hS:S w:=by assumption) (ie:Region.wanted oi (yielded ops a.tmps)=false:=by rfl)
 (hc:(Region.noSelect ops && Region.free md ops listed i && (Region.ready md ops listed).contains i)=true:=by kernel_rfl) (hQ:∀c a w,Q (.panic c) (a.put oi.dst undef) w→Q (.panic c) a w:=by exact fun _ _ _ h=>h):wpAnyH P md ops Q S (fuel+1) listed a w:=by
 simp only[gY] at hc;exact wpAnyH_take hi hc.1.1 hc.1.2 hc.2 hQ (Or.inr ⟨ie,rfl⟩) hS h
theorem tK (i:Nat) {oi:Oper} {v:Value} {fuel:Nat} {listed l':Array Bool} {a a':Act} {w:World} (h:dL P md ops Q S T fuel l' a' w)
 (hi:ops[i]? = some oi:=by rfl) (hv:∀w',S w'→(execOp a.eval oi).run P w'=.ok (.value v) w':=by intro w' hSw;go_split_ands;first|(go_simp;done)|(go_simp;rfl)| rfl) (hS:S w:=by assumption) (ie:Region.wanted oi (yielded ops a.tmps)=true:=by rfl) (hc:(Region.noSelect ops && Region.free md ops listed i && (Region.ready md ops listed).contains i && DW md ops T listed i && ops.size == listed.size)=true:=by kernel_rfl) (hQ:∀c a w,Q (.panic c) (a.put oi.dst v) w→Q (.panic c) a w:=by exact fun _ _ _ h=>h)
 (hl:listed.setIfInBounds i true=l':=by first|(simp only[ak];done)|(simp only[ak];rfl)| rfl) (ha:a.put oi.dst v=a':=by first|(simp only[ak];done)|(simp only[ak];rfl)| rfl):dL P md ops Q S T (fuel+1) listed a w:=by
 subst hl ha;exact tk i h hi hv hS ie hc hQ
theorem ξ (i:Nat) {oi:Oper} {v:Value} {fuel:Nat} {listed l':Array Bool} {a a':Act} {w:World} (h:dL P md ops Q S T fuel l' a' w)
 (hi:ops[i]? = some oi:=by rfl) (hv:∀w',S w'→(execOp a.eval oi).run P w'=.ok (.value v) w':=by intro w' hSw;go_split_ands;first|(go_simp;done)|(go_simp;rfl)| rfl) (hS:S w:=by assumption) (ie:Region.wanted oi (yielded ops a.tmps)=true:=by rfl) (hc:(Region.noSelect ops && Region.free md ops listed i && (Region.ready md ops listed).contains i && xH md ops T listed i && ops.size == listed.size)=true:=by kernel_rfl) (hQ:∀c a w,Q (.panic c) (a.put oi.dst v) w→Q (.panic c) a w:=by exact fun _ _ _ h=>h)
 (hl:listed.setIfInBounds i true=l':=by first|(simp only[ak];done)|(simp only[ak];rfl)| rfl) (ha:a.put oi.dst v=a':=by first|(simp only[ak];done)|(simp only[ak];rfl)| rfl):dL P md ops Q S T (fuel+1) listed a w:=by
 subst hl ha;exact Iv i h hi hv hS ie hc hQ
theorem iq (i:Nat) {oi:Oper} (v:Value) {fuel:Nat} {listed l':Array Bool} {a a':Act} {w:World} (hT:l7 P ops Q S i oi v a) (h:dL P md ops Q S T fuel l' a' w)
 (hi:ops[i]? = some oi:=by rfl) (hS:S w:=by assumption) (hc:(Region.noSelect ops && Region.free md ops listed i && (Region.ready md ops listed).contains i && xH md ops T listed i && ops.size == listed.size)=true:=by kernel_rfl) (hQ:∀c a w,Q (.panic c) (a.put oi.dst v) w→Q (.panic c) a w:=by exact fun _ _ _ h=>h)
 (hl:listed.setIfInBounds i true=l':=by first|(simp only[ak];done)|(simp only[ak];rfl)| rfl) (ha:a.put oi.dst v=a':=by first|(simp only[ak];done)|(simp only[ak];rfl)| rfl):dL P md ops Q S T (fuel+1) listed a w:=by
 subst hl ha;exact wt8 i v hT h hi hS hc hQ
theorem fU (i:Nat) {oi:Oper} (v:Value) {fuel:Nat} {listed l':Array Bool} {a a':Act} {w:World} (h:dL P md ops Q S T fuel l' a' w)
 (hi:ops[i]? = some oi:=by rfl) (hv:∀w':World,True→(execOp a.eval oi).run P w'=.ok (.value v) w':=by intro w' hSw;go_simp) (hI:qq T listed=true∨S w:=by first| exact Or.inr aS | exact Or.inl kR) (ie:Region.wanted oi (yielded ops a.tmps)=true:=by rfl) (hc:(Region.noSelect ops && Region.free md ops listed i && (Region.ready md ops listed).contains i && T i == false)=true:=by kernel_rfl) (hQ:∀c a w,Q (.panic c) (a.put oi.dst v) w→Q (.panic c) a w:=by exact fun _ _ _ h=>h)
 (hl:listed.setIfInBounds i true=l':=by first|(simp only[ak];done)|(simp only[ak];rfl)| rfl) (ha:a.put oi.dst v=a':=by first|(simp only[ak];done)|(simp only[ak];rfl)| rfl):dL P md ops Q S T (fuel+1) listed a w:=by
 subst hl ha;exact tkW i v h hi hv hI ie hc hQ
theorem fC (i:Nat) {oi:Oper} (v:Value) {fuel:Nat} {listed l':Array Bool} {a a':Act} {w:World} (h:wpAnyH P md ops Q S fuel l' a' w)
 (hi:ops[i]? = some oi:=by rfl) (hv:∀w',S w'→(execOp a.eval oi).run P w'=.ok (.value v) w':=by intro w' hSw;go_split_ands;go_simp) (hS:S w:=by assumption) (ie:Region.wanted oi (yielded ops a.tmps)=true:=by rfl) (hc:(Region.noSelect ops && Region.free md ops listed i && (Region.ready md ops listed).contains i)=true:=by kernel_rfl) (hQ:∀c a w,Q (.panic c) (a.put oi.dst v) w→Q (.panic c) a w:=by exact fun _ _ _ h=>h)
 (hl:listed.setIfInBounds i true=l':=by first|(simp only[ak];done)|(simp only[ak];rfl)| rfl) (ha:a.put oi.dst v=a':=by first|(simp only[ak];done)|(simp only[ak];rfl)| rfl):wpAnyH P md ops Q S (fuel+1) listed a w:=by
 subst hl ha;exact tkH i v h hi hv hS ie hc hQ
theorem pY (i:Nat) {oi:Oper} {fuel:Nat} {listed l':Array Bool} {a a':Act} {w:World} (h:wpAnyH P md ops Q S fuel l' a' w)
 (hi:ops[i]? = some oi:=by rfl) (hS:S w:=by assumption) (ie:Region.wanted oi (yielded ops a.tmps)=false:=by rfl) (hc:(Region.noSelect ops && Region.free md ops listed i && (Region.ready md ops listed).contains i)=true:=by kernel_rfl) (hQ:∀c a w,Q (.panic c) (a.put oi.dst undef) w→Q (.panic c) a w:=by exact fun _ _ _ h=>h)
 (hl:listed.setIfInBounds i true=l':=by first|(simp only[ak];done)|(simp only[ak];rfl)| rfl) (ha:a.put oi.dst undef=a':=by first|(simp only[ak];done)|(simp only[ak];rfl)| rfl):wpAnyH P md ops Q S (fuel+1) listed a w:=by
 subst hl ha;exact ai8 i h hi hS ie hc hQ
theorem tQ (i:Nat) {oi:Oper} {v:Value} {fuel:Nat} {listed l':Array Bool} {a a':Act} {w:World} {F:World→Prop} (hf:∀w',S w'→F w') (h:dL P md ops Q S T fuel l' a' w)
 (hi:ops[i]? = some oi:=by rfl) (hv:∀w',S w'→F w'→(execOp a.eval oi).run P w'=.ok (.value v) w':=by intro w' hSw hFF;go_split_ands;first|(go_simp;done)|(go_simp;rfl)| rfl) (hS:S w:=by assumption) (ie:Region.wanted oi (yielded ops a.tmps)=true:=by rfl) (hc:(Region.noSelect ops && Region.free md ops listed i && (Region.ready md ops listed).contains i && DW md ops T listed i && ops.size == listed.size)=true:=by kernel_rfl) (hQ:∀c a w,Q (.panic c) (a.put oi.dst v) w→Q (.panic c) a w:=by exact fun _ _ _ h=>h)
 (hl:listed.setIfInBounds i true=l':=by first|(simp only[ak];done)|(simp only[ak];rfl)| rfl) (ha:a.put oi.dst v=a':=by first|(simp only[ak];done)|(simp only[ak];rfl)| rfl):dL P md ops Q S T (fuel+1) listed a w:=by
 subst hl ha;exact tk i h hi (fun w' s=>hv w' s (hf w' s)) hS ie hc hQ
theorem aQ (i:Nat) {oi:Oper} {v:Value} {fuel:Nat} {listed l':Array Bool} {a a':Act} {w:World} {F:World→Prop} (hf:∀w',S w'→F w') (h:dL P md ops Q S T fuel l' a' w)
 (hi:ops[i]? = some oi:=by rfl) (hv:∀w',S w'→F w'→(execOp a.eval oi).run P w'=.ok (.value v) w':=by intro w' hSw hFF;go_split_ands;first|(go_simp;done)|(go_simp;rfl)| rfl) (hS:S w:=by assumption) (ie:Region.wanted oi (yielded ops a.tmps)=true:=by rfl) (hc:(Region.noSelect ops && Region.free md ops listed i && (Region.ready md ops listed).contains i && xH md ops T listed i && ops.size == listed.size)=true:=by kernel_rfl) (hQ:∀c a w,Q (.panic c) (a.put oi.dst v) w→Q (.panic c) a w:=by exact fun _ _ _ h=>h)
 (hl:listed.setIfInBounds i true=l':=by first|(simp only[ak];done)|(simp only[ak];rfl)| rfl) (ha:a.put oi.dst v=a':=by first|(simp only[ak];done)|(simp only[ak];rfl)| rfl):dL P md ops Q S T (fuel+1) listed a w:=by
 subst hl ha;exact Iv i h hi (fun w' s=>hv w' s (hf w' s)) hS ie hc hQ
end
section
variable {P:Program} {ops:Array Oper} {Q:Exit→Act→World→Prop} {o:Oper} {rest:List Oper} {a:Act} {w:World}
theorem fV (ty:TypeId) {x:Operand} (g:Nat) {t:TypeId} {cs:Array Value} {d:TypeDesc} (hB:η w g t cs) (hu:P.underlying ty=some d) (h:wpList P ops Q rest (a.put o.dst (.agg cs)) w)
 (hg:o.guard=none:=by rfl) (ho:o.op=.load ty x:=by rfl) (hx:a.eval x=.pointer (some ⟨g,0,none⟩):=by rfl) (hd:(match d with | .struct _ | .array _ _=>true | _=>false)=true:=by rfl) (hi:(P.info? ty).map (·.size)=some cs.size:=by kernel_rfl):wpList P ops Q (o::rest) a w:=kW hg ty x ho g hx t cs d hB hu hd hi h
theorem eL (ty:TypeId) {x:Operand} (g:Nat) {t:TypeId} {cs:Array Value} {d:TypeDesc} (hB:η w g t cs) (hu:P.underlying ty=some d) (hi:(P.info? ty).map (·.size)=some cs.size) (h:wpList P ops Q rest (a.put o.dst (.agg cs)) w)
 (hg:o.guard=none:=by rfl) (ho:o.op=.load ty x:=by rfl) (hx:a.eval x=.pointer (some ⟨g,0,none⟩):=by rfl) (hd:(match d with | .struct _ | .array _ _=>true | _=>false)=true:=by rfl):wpList P ops Q (o::rest) a w:=kW hg ty x ho g hx t cs d hB hu hd hi h
theorem ef (ty:TypeId) {x y:Operand} (g:Nat) (new:Array Value) {t:TypeId} {cs:Array Value} (hB:η w g t cs) (h1:new.all (·.oneCell')=true)
 (h:∀w',η w' g t new→ζ (· = g) w w'→w'.heap.size=w.heap.size→wpList P ops Q rest (a.put o.dst undef) w')
 (hg:o.guard=none:=by rfl) (ho:o.op=.store ty x y:=by rfl) (hx:a.eval x=.pointer (some ⟨g,0,none⟩):=by rfl) (hy:a.eval y=.agg new:=by rfl) (hs:cs.size=new.size:=by rfl) (hsz:(P.info? ty).map (·.size)=some new.size:=by kernel_rfl):wpList P ops Q (o::rest) a w:=fk hg ty x y ho g new hx hy t cs hB hs h1 hsz h
end
theorem oX (a b:UInt8):bits .xor .u8 (a.toNat:Int) (b.toNat:Int)=((a ^^^ b).toNat:Int):=by rw[u8_xor_nat _ _ a.toNat_lt b.toNat_lt,UInt8.toNat_xor]
theorem V_ (l:List UInt8) (i:Nat) (h:i<l.length):(ψ l)[i]? = some (ϋ ((l.getD i 0).toNat:Int)):=by simp[ψ,aK,h]
theorem ae0 (l:List UInt8) (i:Nat) (b:UInt8):(ψ l).setIfInBounds i (ϋ (b.toNat:Int))=ψ (l.set i b):=by simp[ψ,aK,List.map_set]
theorem η.kI {w:World} {g:Nat} {t:TypeId} {l:List UInt8} (h:η w g t (ψ l)) (i:Nat) (hi:i<l.length):w.cell? ⟨g,i,none⟩=some (ϋ ((l.getD i 0).toNat:Int)):=(h.cell i).trans (V_ l i hi)
theorem η.xW {w:World} {g:Nat} {t:TypeId} {l:List UInt8} (h:η w g t (ψ l)) (i:Nat) (b:UInt8):η (w.setCell ⟨g,i,none⟩ (ϋ (b.toNat:Int))) g t (ψ (l.set i b)):=by
 rw[← ae0];exact h.bE i _
theorem Bk {w:World} {g:Nat} {t:TypeId} {l:List UInt8} (h:η w g t (ψ l)) (n cap:Nat) (hn:l.length=n):(convert 89 9 (.slice (some ⟨g,0,none⟩) n cap)).run prog w=.ok (.string (str l)) w :=
 Pm w g 0 n cap l hn (fun i hi=>by rw[kU];exact h.kI i oM)
theorem adA {w:World} {g off n cap:Nat} {T:TypeId} {l0:List UInt8} {s:ByteArray} (hB:η w g T (ψ l0)) (hn:s.size≤n) (hf:off+s.size≤l0.length) :
 ∃W r,(Builtin.copy_ #[89,9] 3 #[.slice (some ⟨g,off,none⟩) n cap,.string s]).run prog w=.ok r W∧η W g T (ψ (l0.take off++s.data.toList++l0.drop (off+s.size)))∧ζ (· = g) w W∧W.heap.size=w.heap.size:=by
 have hlen:(aK s.data.toList).length=s.size:=by rw[sR];rfl
 have hst:=run_storeCells_at prog g off T (aK s.data.toList) 0 (ψ l0) w hB (by rw[hlen,bq];omega) (Bg _);rw[hlen] at hst;simp only[rM] at hst;have hsize:(prog.info? 5).map (·.size)=some 1:=kR;have hmin:Nat.min s.size n=s.size:=vM hn;refine⟨w.setRow g ((ψ l0).toList.take off++aK s.data.toList++(ψ l0).toList.drop (off+s.size)).toArray,goInt s.size,?_,?_,ζ.KQ _ _ _,by simp[World.setRow]⟩
 ·cases hi:prog.info? 5 with
  | none=>rw[hi] at hsize;simp at hsize
  | some i =>
    have dn:List.take s.size (List.map (fun b:UInt8=>Value.int IntKind.u8 (b.toNat:Int)) s.data.toList)=aK s.data.toList:=by
     rw[dH (by rw[bp];exact bQ _)];rfl
    simp[Builtin.copy_,run_underlying underlying89,Builtin.lenOf,Builtin.firstCells,sizeOf,typeInfo,hi,hmin]
    rw[dn,hst];simp[Result.andThen]
 ·have e:((ψ l0).toList.take off++aK s.data.toList++(ψ l0).toList.drop (off+s.size)).toArray=ψ (l0.take off++s.data.toList++l0.drop (off+s.size)):=by
   simp[ψ,aK,List.map_take,List.map_drop]
  rw[e];exact hB.setRow _
def qs (f:UInt8→UInt8) (l:List UInt8) (k:Nat):List UInt8:=(l.take k).map f++l.drop k
theorem OG (f:UInt8→UInt8) (l:List UInt8) (k:Nat):(qs f l k).length=l.length:=by
 unfold qs;rw[aL,bp,fF,gM];omega
theorem OH (f:UInt8→UInt8) (l:List UInt8) (k:Nat) (hk:k<l.length):(qs f l k).getD k 0=l.getD k 0:=by
 unfold qs;have h1:((l.take k).map f).length=k:=by rw[bp,fF];omega
 rw[bJ,lM oM,h1,Dn,FD,bJ];rfl
theorem Of (f:UInt8→UInt8) (l:List UInt8) (k:Nat) (hk:k<l.length):(qs f l k).set k (f (l.getD k 0))=qs f l (k+1):=by
 unfold qs;have h1:((l.take k).map f).length=k:=by rw[bp,fF];omega
 rw[Fs _ _ oM,h1,Dn,gX hk,kG,dQ,ua hk,bJ,bD hk];rfl
theorem OI (f:UInt8→UInt8) (l:List UInt8):qs f l l.length=l.map f:=by
 unfold qs;rw[rO,List.drop_length,xz]
theorem XM (key:ByteArray) (wM:UInt8) (w:World) (hk:key.size≤64) :
 ς 249 #[.string key,ϋ (wM.toNat:Int)] w fun e w'=>e=ώ (.string (str (wB key.data.toList wM)))∧υ w w':=by
 have hk2:((key.size:Nat):Int)≤64:=oM;obtain⟨X,hX⟩:=κ (key.data.toList++List.replicate (64 - key.data.toList.length) 0);have mh:X.length=64:=by rw[← hX,aL,fG];show key.size+(64 - key.size)=64;omega
 have HX:=τ hX mh;clear hX mh;go_enter func249,ntmps249
 go_wp2_with fail
 generalize hw1:w.alloc (Obj.cells _ _)=w1;have ax:υ w w1:=by rw[← hw1];exact(ζ.refl _ w).alloc _
 have gj:η w1 w.heap.size 367 (ψ (List.replicate 64 0)):=by rw[← hw1];exact η.new w _ _
 obtain⟨g,hg⟩:=κ w.heap.size;have HG:=δ hg;rw[hg] at gj;obtain⟨W,r,rz,aB,π,aT⟩:=adA (s:=key) (off:=0) (n:=64) (cap:=64) gj hk (by rw[fG];omega);have hE:(List.replicate 64 0).take 0++key.data.toList++(List.replicate 64 (0:UInt8)).drop (0+key.size)=X:=by
  rw[← HX.out.1,Fw,nW,kU,Ud];rfl
 rw[hE] at aB;have HW:=aj ax aB π;rw[hg,rz];clear ax gj hE aB π aT hg hw1 rz;go_wp2_with fail
 go_loopw [18] (fun u wr=>∃k:Nat,k≤64∧u=ι (k:Int)∧ζ (fun q=>q=g) w wr∧η wr g 367 (ψ (qs (· ^^^ wM) X k))) (fun u _=>64 - (intOf u).toNat)
 case atStart=>exact⟨0,oM,rfl,HW.out.1.trans HW.out.2.2 φ (fun _ e=>.inl e),HW.out.2.1⟩
 case round =>
  obtain⟨k,ai9,rfl,hu,hB⟩:=hrel;clear HW;have HB:=τ hu hB;have mh:=HX.out.2;by_cases hlt:k<64
  ·have hc:=hB.kI k (by rw[OG];omega)
   have hf:=hB.frozen k;rw[OH _ _ _ oM] at hc;have hst:=Of (· ^^^ wM) X k oM;obtain⟨b,hb⟩:=κ (X.getD k 0);rw[hb] at hc hst;have hx:=oX b wM;have fT:=δ hst;have hk1:(k:Int)<64:=oM;clear hu hB hb hst mh;go_wp2_with fail
   go_roundw
   case rel =>
    refine⟨k+1,oM,by go_num,HB.out.1.setCell (.inl rfl) _,?_⟩;rw[← fT.out];have h:=HB.out.2.xW k (b ^^^ wM);rw[UInt8.toNat_xor] at h;exact h
   case measure=>simp[intOf]<;>omega
  ·obtain rfl:k=64:=oM
   have e64:((64:Nat):Int)=64:=rfl;rw[e64];have cN:qs (· ^^^ wM) X 64=wB key.data.toList wM:=by
    rw[← mh,OI,← HX.out.1];rfl
   rw[cN] at hB;have hcv:=Bk hB 64 64 (O4 (by show key.size≤64;exact hk));clear hB cN mh hlt e64 ai9;go_wp2_with fail
   go_ret
   exact⟨rfl,hu.mono (fun q hq=>.inr (oN HG.out))⟩
theorem Qa (key text:ByteArray) (w:World) (hk:key.size≤64) (ht:text.size≤900000) :
 ς 212 #[.string key,.string text] w fun e w'=>e=ώ (.agg (ψ (qX key.data.toList text.data.toList)))∧υ w w':=by
 obtain⟨P1,Cs⟩:∃P,wB key.data.toList 54=P:=⟨_,rfl⟩;obtain⟨P2,wN⟩:∃P,wB key.data.toList 92=P:=⟨_,rfl⟩;have ir:P1.length=64:=by rw[← Cs];exact O4 (by show key.size≤64;exact hk)
 have hl2:P2.length=64:=by rw[← wN];exact O4 (by show key.size≤64;exact hk)
 have h1:∀W,key.size≤64→ς 249 #[.string key,ϋ 54] W fun e w'=>e=ώ (.string (str (wB key.data.toList 54)))∧υ W w':=XM key 54
 have h2:∀W,key.size≤64→ς 249 #[.string key,ϋ 92] W fun e w'=>e=ώ (.string (str (wB key.data.toList 92)))∧υ W w':=XM key 92
 rw[Cs] at h1;rw[wN] at h2;have H1:=δ (fun W=>h1 W hk);have H2:=δ (fun W=>h2 W hk);obtain⟨T1,Mx⟩:=κ (str P1++text);have YM:T1.data.toList=P1++text.data.toList:=by rw[← Mx,ByteArray.data_append,T3,bS]
 have YN:T1.size=64+text.size:=by rw[← Mx,FE,bf,ir]
 obtain⟨I,hI⟩:=κ (xS T1.data.toList);have My:I.length=32:=by rw[← hI];exact O3 _
 obtain⟨T2,lE⟩:=κ (str P2++str I);have YO:T2.data.toList=P2++I:=by rw[← lE,ByteArray.data_append,T3,bS,bS]
 have YP:T2.size=96:=by rw[← lE,FE,bf,bf,hl2,My]
 obtain⟨O,hO⟩:=κ (qX key.data.toList text.data.toList);have bH:xS T2.data.toList=O:=by rw[← hO,YO];unfold qX;rw[Cs,wN,← YM,hI]
 have lD:O.length=32:=by rw[← hO];exact qi _ _
 rw[hO];have hs1:(9223372036854775807<(str P1).size+text.size)=False:=by rw[bf,ir];simp;omega
 have bV:(9223372036854775807<(str P2).size+(str I).size)=False:=by rw[bf,bf,hl2,My];simp
 have tG:=aj Mx YN hI;have mg:=aj lE YP bH;have HL:=τ My lD;have tE:=δ bV;clear Cs wN ir hl2 h1 h2 Mx YM YN hI My lE YO YP hO bH lD bV;go_enter func212,ntmps212
 go_wp2_with fail
 generalize hw1:w.alloc (Obj.cells _ _)=w1;have ax:υ w w1:=by rw[← hw1];exact(ζ.refl _ w).alloc _
 have gj:η w1 w.heap.size 189 (ψ (List.replicate 32 0)):=by rw[← hw1];exact η.new w _ _
 have mP:=τ ax gj;clear hw1 ax gj;refine(H1.out _).mono ?_;rintro e w2 ⟨rfl,π⟩;have lV:=δ π;clear π;go_wp2_with fail
 rw[tG.out.1];refine(Xf T1 (by rw[tG.out.2.1];omega) w2).mono ?_;rintro e w3 ⟨rfl,χ⟩;rw[tG.out.2.2];have iu:=δ (lV.out.then χ φ);clear χ hs1;obtain⟨g,hg⟩:=κ w.heap.size;have HG:=δ hg;rw[hg];clear hg;go_wp2_with (first
  |(show wpList _ _ _ (⟨none,_,_,_,_,_⟩::_) _ _
    refine fk rfl 189 _ _ rfl w3.heap.size (ψ I) rfl rfl 189 _ (η.new w3 _ _) (by rw[bq,HL.out.1];rfl) (lY _) (by rw[bq,HL.out.1];kernel_rfl) ?_
    intro w4 aE ag cG))
 obtain⟨g5,zU⟩:=κ w3.heap.size;have tH:υ w3 w4:=((ζ.refl (fun _=>False) w3).alloc _).then ag (fun q hq=>.inr oM);rw[zU] at aE ⊢;have jT:η w4 g 189 (ψ (List.replicate 32 0)):=by rw[← HG.out];exact mP.out.2.ε (iu.out.then tH φ) (fun e=>e)
 have kB:=aj ((mP.out.1.then iu.out φ).then tH φ) aE jT;have bV:=tE.out;clear ag cG tH jT zU aE;refine dB ?_;refine dK (S:=fun w'=>υ w4 w') (T:=fun k=>k == 6) kR ?_;have aC:=(ζ.refl (fun _=>False) w4).drew;refine tQ 0 (fun w' hSw=>Bk (kB.out.2.1.ε hSw (fun e=>e)) 32 32 HL.out.1) ?_;refine tQ 2 (fun w' hSw=>Bk (kB.out.2.1.ε hSw (fun e=>e)) 32 32 HL.out.1) ?_;refine tQ 3 (fun w' hSw=>Bk (kB.out.2.1.ε hSw (fun e=>e)) 32 32 HL.out.1) ?_;refine aY 1 (fun K hK=>?_);go_simp
 refine(H2.out _).mono ?_;rintro e w5 ⟨rfl,av⟩;have ig:=aC.then av φ;refine hK.out _ _ ig ?_;clear hK av;refine tK 4 ?_;refine aY 5 (fun K hK=>?_);go_simp
 rw[mg.out.1];refine(Xf T2 (by rw[mg.out.2.1];omega) w5).mono ?_;rintro e w6 ⟨rfl,az⟩;rw[mg.out.2.2];have cH:=ig.then az φ;refine hK.out _ _ cH ?_;clear hK az;refine kO 6 (fun K hK=>?_);refine sO (by rfl) 189 _ _ (by rfl) g (ψ O) (by rfl) (by rfl) _ _ (kB.out.2.2.ε cH (fun e=>e)) (by rw[bq,bq,HL.out.2];rfl) (lY _) (by rw[bq,HL.out.2];kernel_rfl) ?_
 intro w7 dG bK jq;refine hK.out _ _ ?_;refine dF ?_;refine cZ ?_;have cN:=(kB.out.1.then cH φ).then bK (fun q hq=>.inr (oN HG.out));have HF:=τ cN dG;clear cN dG bK jq hK aC ig cH bV;go_wp2_with fail
 refine cy (jx rfl _ _ g _ _ _ _ rfl HF.out.2 underlying189 rfl (by rw[bq,HL.out.2];kernel_rfl)) rfl ⟨rfl,HF.out.1⟩
theorem Xg (key:List UInt8) (label:ByteArray) (w:World) (hk:key.length=32) (hl:label.size≤900000) :
 ς 211 #[.agg (ψ key),.string label] w fun e w'=>e=ώ (.agg (ψ (qX key label.data.toList)))∧υ w w':=by
 obtain⟨O,hO⟩:=κ (qX key label.data.toList);have lD:O.length=32:=by rw[← hO];exact qi _ _
 have ht:=fun W=>Qa (str key) label W (by rw[bf];omega) hl
 rw[bS,hO] at ht;rw[hO];have HT:=δ ht;have HL:=τ hk lD;clear hO lD ht hk;obtain⟨g,hg⟩:=κ w.heap.size;have HG:=δ hg;go_enter func211,ntmps211
 go_wp2_with fail
 generalize aH:World.alloc _ _=w2;have aB:η w2 g 194 (ψ key):=by rw[← aH,← hg];exact(η.new w _ _).alloc _
 have bH:η w2 (g+1) 194 (ψ (List.replicate 32 0)):=by
  have h:=η.new (w.alloc (.cells (ψ key) 194)) 194 (ψ (List.replicate 32 0));rw[cM,hg] at h;rw[← aH];exact h
 have π:υ w w2:=by rw[← aH];exact((ζ.refl _ w).alloc _).alloc _
 have hcv:=Bk aB 32 32 HL.out.1;have aU:=τ bH π;rw[hcv];clear aB bH π hcv aH hg;go_wp2_with fail
 refine(HT.out _).mono ?_;rintro e w3 ⟨rfl,χ⟩;have iu:=δ χ;clear χ;go_wp2_with (first
  |(show wpList _ _ _ (⟨none,_,_,_,_,_⟩::_) _ _
    refine fk rfl 194 _ _ rfl (g+1) (ψ O) rfl rfl 194 _ (aU.out.1.ε iu.out (fun e=>e)) (by rw[bq,bq,HL.out.2];rfl) (lY _) (by rw[bq,HL.out.2];kernel_rfl) ?_
    intro w4 aE ag cG))
 refine cy (jx rfl _ _ (g+1) _ _ _ _ rfl aE underlying194 rfl (by rw[bq,HL.out.2];kernel_rfl)) rfl ⟨rfl,(aU.out.2.then iu.out φ).then ag (fun q hq=>.inr (oN HG.out))⟩
theorem ae1 (a b:UInt8):a ||| b=0↔a=0∧b=0:=by
 constructor
 ·intro h
  have h1:=aJ UInt8.toNat h;rw[UInt8.toNat_or] at h1;have h2:a.toNat=0∧b.toNat=0:=by
   have e:=Nat.or_eq_zero_iff.1 h1;exact e
  exact⟨aaW h2.1,aaW h2.2⟩
 ·rintro⟨rfl,rfl⟩
  rfl
theorem adB (a b:UInt8):a ^^^ b=0↔a=b:=by
 constructor
 ·intro h
  have:a ^^^ b ^^^ b=0 ^^^ b:=by rw[h]
  rw[UInt8.xor_assoc,UInt8.xor_self,UInt8.xor_zero,UInt8.zero_xor] at this;exact this
 ·rintro rfl
  exact UInt8.xor_self
theorem orB (a b:UInt8):bits .or .u8 (a.toNat:Int) (b.toNat:Int)=((a ||| b).toNat:Int):=by rw[u8_or_nat _ _ a.toNat_lt b.toNat_lt,UInt8.toNat_or]
theorem agE (x y : List UInt8) (w : World) (hx:x.length=32) (hy:y.length=32) :
 ς 222 #[.agg (ψ x),.agg (ψ y)] w fun e w'=>e=ώ (.bool (decide (x=y)))∧υ w w':=by
 have HL:=τ hx hy;obtain⟨g,hg⟩:=κ w.heap.size;clear hx hy;go_enter func222,ntmps222
 go_wp2_with fail
 generalize aH:World.alloc _ _=w2;have aB:η w2 g 189 (ψ x):=by rw[← aH,← hg];exact(η.new w _ _).alloc _
 have jD:η w2 (g+1) 189 (ψ y):=by
  have h:=η.new (w.alloc (.cells (ψ x) 189)) 189 (ψ y);rw[cM,hg] at h;rw[← aH];exact h
 have π:υ w w2:=by rw[← aH];exact((ζ.refl _ w).alloc _).alloc _
 have aU:=aj aB jD π;clear aB jD π aH hg;go_loopw [5,7] (fun d u wr=>∃(k:Nat) (z:UInt8),k≤32∧u=ι (k:Int)∧d=ϋ (z.toNat:Int)∧(z=0↔x.take k=y.take k)∧υ w2 wr) (fun _ u _=>32 - (intOf u).toNat)
 case atStart=>exact⟨0,0,oM,rfl,rfl,sM,ζ.refl _ _⟩
 case round =>
  obtain⟨k,z,hk,rfl,rfl,hz,hu⟩:=hrel;have HZ:=δ hz;by_cases hlt:k<32
  ·have c1:=(aU.out.1.ε hu (fun e=>e)).kI k (by rw[HL.out.1];exact hlt)
   have c2:=(aU.out.2.1.ε hu (fun e=>e)).kI k (by rw[HL.out.2];exact hlt);obtain⟨a,ha⟩:=κ (x.getD k 0);obtain⟨b,hb⟩:=κ (y.getD k 0);rw[ha] at c1;rw[hb] at c2;have HAB:=τ ha hb;have HU:=δ hu;have hk1:(k:Int)<32:=oM;have e1:=oX a b;have e2:=orB z (a ^^^ b);obtain⟨ab,hab⟩:=κ (a ^^^ b);rw[hab] at e1 e2;obtain⟨z2,aT⟩:=κ (z ||| ab)
   rw[aT] at e2;have HH:=τ hab aT;clear ha hb hu hz hab aT;go_wp2_with fail
   go_quiet (fail)
   go_wp2_with fail
   go_roundw
   case rel =>
    refine⟨k+1,z2,oM,by go_num,?_,?_,HU.out.drewN _⟩
    ·first| rfl | rw[e1,e2]
    ·rw[← HH.out.2,ae1,HZ.out,← HH.out.1,adB,gX (by rw[HL.out.1];exact hlt),gX (by rw[HL.out.2];exact hlt)]
     have ea:x[k]'(by rw[HL.out.1];exact hlt)=a:=by rw[← HAB.out.1,bJ,bD];rfl
     have eb:y[k]'(by rw[HL.out.2];exact hlt)=b:=by rw[← HAB.out.2,bJ,bD];rfl
     rw[ea,eb];constructor
     ·rintro⟨h1,h2⟩;rw[h1,h2]
     ·intro h
      have:=List.append_inj' h rfl;exact⟨this.1,by simpa using this.2⟩
   case measure=>simp[intOf]<;>omega
  ·obtain rfl : k = 32 := oM
   have e32:((32:Nat):Int)=32:=rfl;rw[e32];have HU:=δ (aU.out.2.2.then hu φ);have hd:decide (x=y)=decide (z=0):=by
    have h:=HZ.out;rw[dH (Nat.le_of_eq HL.out.1),dH (Nat.le_of_eq HL.out.2)] at h;rw[vH];simp[h]
   have mQ : ((z.toNat : Int) == 0) = decide (z=0):=by
    rw[vH];simp only[kV,dR];constructor
    ·intro h; exact aaW (by have:z.toNat=0:=oM
                            rw[this];rfl)
    ·rintro rfl;rfl
   have HD:=τ hd mQ;clear hu hz hd mQ e32 hlt hk;go_wp2_with fail
   go_ret
   refine⟨?_,HU.out⟩;rw[HD.out.1,← HD.out.2];first| rfl |(congr 1;done)
end
end Go.Proofs.YtbhjgfibhegddaaGreat
