/-
  Parts of the proof of VaultSpoils: ShaC, SealM, Steps, ZipB, ZipD, Mac.
-/
import Derived.Test.YtbhjgfibhegddaaGreatQVaultSpoils04
import Derived.Laws.BitsAllLaws
set_option maxRecDepth 100000
set_option maxHeartbeats 16000000
namespace Go.Proofs.YtbhjgfibhegddaaGreat
section
open Go Go.RowKit
def arrB (l:List UInt8):Array Value:=(bytesV l).toArray
theorem arrB_size (l:List UInt8):(arrB l).size=l.length:=by simp [arrB,bytesV]
theorem arrB_one (l:List UInt8):(arrB l).all (·.oneCell')=true:=by simp [arrB,bytesV,Value.oneCell']
theorem BytesAt.src {w:World} {v:Value} {l:List UInt8} (h:BytesAt w v l):Src Tryz.prog w 89 1 v l.length (bytesV l):=by
 obtain ⟨A,cap,rfl,h1,h2,h3⟩:=h;by_cases h0:l=[]
 ·subst h0
  cases A with
  | none=>exact Src.of_nil Tryz.underlying89 _
  | some a=>exact Src.of_addr Tryz.underlying89 a 0 cap rfl (fun j u e=>by simp [bytesV] at e)
 ·obtain ⟨b,off,rfl,hb,hc⟩:=h3 (List.length_pos_iff.2 h0)
  refine Src.of_addr Tryz.underlying89 _ _ _ (by simp [bytesV]) (fun j u e=>?_);have hj:j<l.length:=by have:=(List.getElem?_eq_some_iff.1 e).1;simpa [bytesV] using this
  rw [Addr.add_mid,hc j hj,← e];simp [bytesV,hj]
def lenSl:Value→Nat
 | .slice _ n _=>n
 | _=>0
structure SumS (w1 wr:World) (v:Value) (ls:List UInt8):Prop where
 own:Own wr 5 1 v ls.length (bytesV ls)
 upd:Upd (fun _=>False) w1 wr
 far:∀q,v.ownBlock=some q→w1.heap.size≤q
theorem SumS.next {w1 wr w2 w3:World} {v v':Value} {ls l2:List UInt8} {m:Nat} {xs:List Value} (s:SumS w1 wr v ls) (ha:Upd (fun _=>False) wr w2) (ho:Own w3 5 1 v' m xs) (hm:m=(ls++l2).length) (hx:xs=bytesV (ls++l2)) (hU:Upd (fun k=>v.ownBlock=some k) w2 w3)
 (hl:v'.ownBlock=v.ownBlock∨v'.ownBlock=some w2.heap.size):SumS w1 w3 v' (ls++l2):=by
 subst hm hx;refine ⟨ho,(s.upd.then ha wz0).then hU (fun q hq=>.inr (s.far q hq)),fun q hq=>?_⟩;rcases hl with e | e
 ·rw [e] at hq;exact s.far q hq
 ·rw [e] at hq
  have:=Option.some.inj hq;have h1:=s.upd.size;have h2:=ha.size;omega
theorem run_index8 (w:World) (l:List Int) (hl:l.length=8) (k:Nat) (hk:k<8):(Instr.index 377 (.agg (arrU l)) (.int .i64 (k:Int))).run Tryz.prog w=.ok (.int .u32 (l.getD k 0)) w:=by
 obtain ⟨a,b,c,d,e,f,g,i,rfl⟩:=eight hl;have h:k=0∨k=1∨k=2∨k=3∨k=4∨k=5∨k=6∨k=7:=oM;rcases h with rfl | rfl | rfl | rfl | rfl | rfl | rfl | rfl<;>rfl
theorem copy_bytes {w:World} {g off n cap:Nat} {T:TypeId} {l0 l:List UInt8} {v:Value} (hB:Blk w g T (arrB l0)) (hs:BytesAt w v l) (hn:l.length≤n) (hf:off+l.length≤l0.length) :
 ∃W r,(Builtin.copy_ #[89,89] 3 #[.slice (some ⟨g,off,none⟩) n cap,v]).run Tryz.prog w=.ok r W∧Blk W g T (arrB (l0.take off++l++l0.drop (off+l.length)))∧Upd (· = g) w W∧W.heap.size=w.heap.size:=by
 obtain ⟨A,c,rfl,h1,h2,h3⟩:=hs;by_cases h0:l=[]
 ·subst h0
  refine ⟨w,goInt 0,run_copy_none w _ _ _ 5 _ _ _ _ _ _ Tryz.underlying89 kR sM,?_,Upd.refl _ _,rfl⟩;simpa using hB
 ·obtain ⟨b,o,rfl,hb,hc⟩:=h3 (List.length_pos_iff.2 h0)
  have hrun:=run_copy_row (P:=Tryz.prog) w 89 89 3 5 g off n cap ⟨b,o,none⟩ l.length c (arrB l0) T (bytesV l) Tryz.underlying89 kR hB (by rw [bytesV_len];exact (Nat.min_eq_left hn).symm) (fun j u e=>by
   have hj:j<l.length:=by have:=(List.getElem?_eq_some_iff.1 e).1;simpa [bytesV] using this
   rw [Addr.add_mid,hc j hj,← e];simp [bytesV,hj]) (by rw [bytesV_len,arrB_size];exact hf) (bytesV_one _)
  refine ⟨_,_,hrun,?_,Upd.setRow_ _ _ _,by simp [World.setRow]⟩;have e:((arrB l0).toList.take off++bytesV l++(arrB l0).toList.drop (off+(bytesV l).length)).toArray=arrB (l0.take off++l++l0.drop (off+l.length)):=by
   simp [arrB,bytesV,List.map_take,List.map_drop]
  rw [e];exact hB.setRow _
theorem step_copy_run {P:Program} {ops:Array Oper} {o:Oper} {a:Act} {w w':World} {K:Act→World→Prop} {Q:Exit→Act→World→Prop} {E:Prop} (hgd:o.guard=none) (d s:Operand) (dT sT:TypeId)
 (ho:o.op=.call { callee:=.builtin .copy,args:=#[d,s],argTypes:=#[dT,sT] }) {vd vs r:Value} (hd:a.eval d=vd) (hs:a.eval s=vs) (hrun:(Builtin.copy_ #[dT,sT] o.type #[vd,vs]).run P w=.ok r w')
 (h:K (a.put o.dst r) w'):if Region.wanted o (yielded ops a.tmps)=true then Oper.wp P o a w K Q else E:=by
 have hw:Region.wanted o (yielded ops a.tmps)=true:=by simp [Region.wanted,hgd]
 rw [if_pos hw];subst hd hs;unfold Oper.wp;simp [execOp,ho,resolve,invoke,builtin,hrun,Result.andThen]
 exact h
theorem outL_pad {l:List Int} (hl:l.length=8) (k:Nat) (hk:k≤8):(outL (l.take k)++List.replicate (32 - 4*k) 0).length=32:=by
 rw [List.length_append,outL_len,List.length_take,List.length_replicate];omega
theorem outL_step {l:List Int} (k:Nat) (hk:k<l.length) (hl:l.length=8):(outL (l.take k)++List.replicate (32 - 4*k) 0).take (4*k)++beB (l.getD k 0).toNat 4++(outL (l.take k)++List.replicate (32 - 4*k) 0).drop (4*k+4)=outL (l.take (k+1))++List.replicate (32 - 4*(k+1)) 0:=by
 have h1:(outL (l.take k)).length=4*k:=by rw [outL_len,List.length_take];omega
 have h2:outL (l.take (k+1))=outL (l.take k)++beB (l.getD k 0).toNat 4:=by
  rw [List.take_succ_eq_append_getElem hk];unfold outL;rw [List.flatMap_append,List.getD_eq_getElem?_getD,List.getElem?_eq_getElem hk];simp
 rw [List.take_append_of_le_length oM,List.take_of_length_le oM,← h1,List.drop_length_add_append,List.drop_replicate,h2];congr 2
 omega
theorem shasum_c {w0 w:World} {x:Nat} {h:List Int} {r:Value} {n:Nat} {l:List UInt8} (s:ShaS w0 w x h r n) (hb:BytesAt w r l) (hl:l.length<64) (hn:n≤1000000) :
 Calls Tryz.prog 277 #[.pointer (some ⟨x,0,none⟩)] w fun e w'=>e=.returned (.agg (arrB (outL (hashN ((padB l n).length / 64) h (padB l n)))))∧Upd (fun _=>False) w w':=by
 obtain ⟨i0,hi0,hz0,hz1,hz2⟩:=info_parts infoU8;have HB0:=Lib.hid hb;obtain ⟨A,cap,rfl,hcap1,hcap2,hby⟩:=hb;have HS:=h2k s hby;have H0:=Lib.hid (fun W (hu:Upd (fun _=>False) w W)=>shanone_c (s.still hu));obtain ⟨P,hP⟩:=eqx (padB l n);rw [hP];have HPP:=Lib.hid hP;clear s hby hP;go_enter Tryz.func277,Tryz.ntmps277
 go_wp2_with fail
 refine (H0.out _ ((Upd.refl _ w).alloc _)).mono ?_;rintro e w' ⟨rfl,rfl⟩;generalize hw1:w.alloc (Obj.cells _ _)=w1;have hU1:Upd (fun _=>False) w w1:=by rw [← hw1];exact (Upd.refl _ w).alloc _
 have hO1:Blk w1 w.heap.size 189 (arrB (List.replicate 32 0)):=by rw [← hw1];exact Blk.new w _ _
 have c72:=(HS.out.1.still hU1).c72.1;have hxl:x<w1.heap.size:=(HS.out.1.still hU1).blk.lt;have HW1:=h2k hU1 hO1;clear hw1 hU1 hO1;obtain ⟨g,hg⟩:=eqx w.heap.size;rw [hg];have HG:=Lib.hid hg;clear hg;have HSZ:=Lib.hid (show w.heap.size<w1.heap.size from by have:=HW1.out.2.lt;omega);go_wp2_with (first
  | (at_builtin
     refine wpList_append_src rfl _ _ _ _ rfl 5 i0 _ 1 1 Tryz.underlying89 hi0 hz0 hz1 hz2 rfl (.slice A2 l.length cap2) l.length (bytesV l) rfl (HO2.out.1.alloc _) _ 1 [.int .u8 128] rfl (Src.of_new Tryz.underlying89 _) (by simp [Value.oneCell']) (by unfold maxLen;omega) oM ?_;intro v3 w3 ho3 hU3 hl3 hs3;obtain ⟨A3,cap3,rfl,hA3,hA4⟩:=ho3.shape;have HO3:=h3k ho3 hU3 hl3;clear ho3 hU3 hl3 hs3 hA3 hA4)
  | (at_builtin
     refine wpList_append_src rfl _ _ _ _ rfl 5 i0 _ 1 1 Tryz.underlying89 hi0 hz0 hz1 hz2 rfl (.slice (some ⟨w1.heap.size,0,none⟩) 0 0) 0 (bytesV []) rfl (own_bytes w1 [] sM) _ l.length (bytesV l) rfl ((HB0.out.upd (HW1.out.1.alloc _) (fun _ _ e=>e)).src) (bytesV_one _) (by unfold maxLen;omega) oM ?_;intro v2 w2 ho2 hU2 hl2 hs2;rw [Nat.zero_add,show bytesV []=[] from rfl,List.nil_append] at ho2;obtain ⟨A2,cap2,rfl,hA1,hA2⟩:=ho2.shape;have HO2:=h3k ho2 hU2 hl2;clear ho2 hU2 hl2 hs2 c72 hA1 hA2))
 have hS2:SumS w1 w2 (.slice A2 l.length cap2) l:=by
  refine ⟨HO2.out.1,((Upd.refl _ w1).alloc _).then HO2.out.2.1 (fun q hq=>.inr (by have e:w1.heap.size=q:=Option.some.inj hq;omega)),fun q hq=>?_⟩;rcases HO2.out.2.2 with e | e
  ·rw [e] at hq;have e2:w1.heap.size=q:=Option.some.inj hq;omega
  ·rw [e] at hq;have e2:=Option.some.inj hq;simp at e2;omega
 have hS3:SumS w1 w3 (.slice A3 (l.length+1) cap3) (l++[128]):=hS2.next ((Upd.refl _ w2).alloc _) HO3.out.1 sM (by rw [bytesV_app];rfl) HO3.out.2.1 HO3.out.2.2
 have HS3:=Lib.hid hS3;obtain ⟨K,hK⟩:=eqx ((119 - l.length % 64) % 64);have HK:=Lib.hid (show K≤63∧∀k,k≤K→((l.length+1+k) % 64=56↔k=K) from ⟨oM,fun k hk=>by omega⟩);have HK2:=Lib.hid hK;clear hS2 hS3 HO2 HO3 HSZ hK;go_loopw [3] (fun u wr=>∃k:Nat,k≤K∧SumS w1 wr u (l++128::List.replicate k 0)) (fun u _=>200 - lenSl u)
 case atStart=>exact ⟨0,oM,HS3.out⟩
 case round =>
  clear HS3;obtain ⟨k,hk,hS⟩:=hrel;have hls:(l++128::List.replicate k 0).length=l.length+1+k:=by simp;omega
  have ho:=hS.own;rw [hls] at ho;obtain ⟨A5,cap5,rfl,hA5,hA6⟩:=ho.shape;have HS5:=h3k hS ho hls;obtain ⟨m,hm⟩:=eqx (l.length+1+k);rw [hm] at HS5 hA5 ⊢;have HM:=Lib.hid hm;by_cases hlt:k<K
  ·have h56 : ((m:Int) % 64 != 56)=true:=by have:=(HK.out.2 k hk);simp;omega
   clear hS ho hls hm hA5 hA6;have hA7:m≤190:=by have:=HM.out;have:=HK.out.1;omega
   go_wp2_with (at_builtin
                refine wpList_append_src rfl _ _ _ _ rfl 5 i0 _ 1 1 Tryz.underlying89 hi0 hz0 hz1 hz2 rfl (.slice A5 m cap5) m _ rfl (HS5.out.2.1.alloc _) _ 1 [.int .u8 0] rfl (Src.of_new Tryz.underlying89 _) (by simp [Value.oneCell']) (by unfold maxLen;omega) oM ?_;intro v3 w3 ho3 hU3 hl3 hs3;obtain ⟨A3,cap3,rfl,hA3,hA4⟩:=ho3.shape;have hS6:SumS w1 w3 (.slice A3 (m+1) cap3) (l++128::List.replicate k 0++[0]):=HS5.out.1.next (l2:=[0]) ((Upd.refl _ wr).alloc _) ho3 (by rw [List.length_append,HS5.out.2.2];rfl) (by rw [bytesV_app (l++128::List.replicate k 0) [0]];rfl) hU3 hl3
                have HS6:=Lib.hid hS6;clear hS6 ho3 hU3 hl3 hs3 hA3 hA4)
   go_roundw
   case rel =>
    refine ⟨k+1,oM,?_⟩;have e:l++128::List.replicate (k+1) 0=l++128::List.replicate k 0++[0]:=by rw [List.replicate_succ',List.append_assoc];rfl
    rw [e];exact HS6.out
   case measure=>simp [lenSl];omega
  ·obtain rfl:k=K:=oM
   have h56:((m:Int) % 64 != 56)=false:=by have:=(HK.out.2 k hk);simp;omega
   have hS7:=HW1.out.1.then HS5.out.1.upd wz0;have hS8:=HS.out.1.still hS7;obtain ⟨c72,c73,-⟩:=hS8.c72;obtain ⟨a0,a1,a2,a3,a4,a5,a6,a7,rfl⟩:=eight hS8.len;have hn8:(n:Int)*8=((8*n:Nat):Int):=oM;clear hS ho hls hm hA5 hA6 hS7 hS8;go_wp2_with fail
   rw [show (8*(n:Int))=((8*n:Nat):Int) by omega];refine (putBig_sha _ m _ (8*n) 8 wr HS5.out.2.1 oM (oO HM.out HK.out.1)).mono ?_;rintro e w8 ⟨v8,rfl,ho8,hU8,hl8⟩;have hP:=HPP.out;have hpe:l++128::List.replicate k 0++beB (8*n) 8=P:=by
    rw [← hP];unfold padB;rw [HK2.out,List.append_assoc];rfl
   have hpl:P.length=m+8:=by rw [← hpe,List.length_append,HS5.out.2.2,beB_len]
   have hpd:=padB_len l n hl;rw [hP] at hpd;have hu8:Upd (fun _=>False) w1 w8:=HS5.out.1.upd.then hU8 (fun q hq=>.inr (HS5.out.1.far q hq));have hfar:∀q,v8.ownBlock=some q→w1.heap.size≤q:=by
    intro q hq;rcases hl8 with e | ⟨q2,e,h2⟩
    ·rw [e] at hq;exact HS5.out.1.far q hq
    ·rw [e] at hq;have:=Option.some.inj hq;have:=HS5.out.1.upd.size;omega
   rw [← bytesV_app,hpe,← hpl] at ho8;have hby:=BytesAt.of_own ho8;obtain ⟨A8,cap8,rfl,hA8,hA9⟩:=ho8.shape;have HPL:=Lib.hid hpl;have HP:=h5k hP hpd hu8 hfar hby;have hc8:=((HW1.out.1.then hu8 wz0));have hS8:=HS.out.1.still hc8;obtain ⟨c72,c73,-⟩:=hS8.c72;obtain ⟨q0,q1,q2,q3,q4,q5,q6,q7⟩:=hS8.c8;have HS8:=Lib.hid hS8;clear hP hpe hpl hpd hu8 hfar hby ho8 hU8 hl8 hc8 hS8;go_wp2_with fail
   clear q0 q1 q2 q3 q4 q5 q6 q7 c72 c73;obtain ⟨hb,hhb⟩:=eqx w8.heap.size;rw [hhb];have hstart:∃(j:Nat) (A:Option Addr) (cap:Nat),Value.slice A8 P.length cap8=.slice A (P.length - 64*j) cap∧64*j≤P.length∧Upd (fun _=>False) w8 (w8.alloc (.cells #[Value.int IntKind.u32 a0,Value.int IntKind.u32 a1,Value.int IntKind.u32 a2,Value.int IntKind.u32 a3,Value.int IntKind.u32 a4,Value.int IntKind.u32 a5,Value.int IntKind.u32 a6,Value.int IntKind.u32 a7] 377))∧Blk (w8.alloc (.cells #[Value.int IntKind.u32 a0,Value.int IntKind.u32 a1,Value.int IntKind.u32 a2,Value.int IntKind.u32 a3,Value.int IntKind.u32 a4,Value.int IntKind.u32 a5,Value.int IntKind.u32 a6,Value.int IntKind.u32 a7] 377)) hb 377 (arrU (hashN j [a0,a1,a2,a3,a4,a5,a6,a7] P)) ∧
    BytesAt (w8.alloc (.cells #[Value.int IntKind.u32 a0,Value.int IntKind.u32 a1,Value.int IntKind.u32 a2,Value.int IntKind.u32 a3,Value.int IntKind.u32 a4,Value.int IntKind.u32 a5,Value.int IntKind.u32 a6,Value.int IntKind.u32 a7] 377)) (.slice A (P.length - 64*j) cap) (P.drop (64*j))∧(Value.slice A (P.length - 64*j) cap).ownBlock≠some hb:=by
    subst hhb;refine ⟨0,A8,cap8,rfl,oM,(Upd.refl _ w8).alloc _,Blk.new w8 _ _,HP.out.2.2.2.2.upd ((Upd.refl (fun _=>False) w8).alloc _) (fun _ _ e=>e),fun e=>?_⟩;obtain ⟨A',cap',e1,-,-,h3⟩:=HP.out.2.2.2.2;injection e1 with e1 e2 e3;subst e1;by_cases h0:0<P.length
    ·obtain ⟨b,off,rfl,hlt,-⟩:=h3 h0
     have:=Option.some.inj e;simp at this
     omega
    ·have:=HP.out.2.1
     have h9:P.length=m+8:=HPL.out;omega
   have HST:=Lib.hid hstart;have HHB:=Lib.hid hhb;clear hstart hhb;generalize (w8.alloc (Obj.cells _ _))=w9 at HST ⊢;go_loopw [3] (fun u wr=>∃(j:Nat) (A:Option Addr) (cap:Nat),u=.slice A (P.length - 64*j) cap∧64*j≤P.length∧Upd (fun _=>False) w8 wr∧Blk wr hb 377 (arrU (hashN j [a0,a1,a2,a3,a4,a5,a6,a7] P))∧BytesAt wr (.slice A (P.length - 64*j) cap) (P.drop (64*j))∧(Value.slice A (P.length - 64*j) cap).ownBlock≠some hb) (fun u _=>lenSl u)
   case atStart=>exact HST.out
   case round =>
    clear HST;obtain ⟨j,A,cap,rfl,hj,hu,hB,hby,hne⟩:=hrel;have hok:=hashN_ok HS8.out.len HS8.out.all j P;obtain ⟨h9,hh9⟩:=eqx (hashN j [a0,a1,a2,a3,a4,a5,a6,a7] P);rw [hh9] at hB hok;by_cases hlt:64≤P.length - 64*j
    ·obtain ⟨d0,d1,d2,d3,d4,d5,d6,d7,rfl⟩:=eight hok.1
     obtain ⟨A',cap',e,hcap1,hcap2,hbz⟩:=hby;injection e with e1 e2 e3;subst e1 e3;have hl:(P.drop (64*j)).length=P.length - 64*j:=by rw [List.length_drop]
     rw [hl] at hcap1;obtain ⟨b,off,rfl,hbl,hbz⟩:=hbz oM;obtain ⟨L,hL⟩:=eqx (P.length - 64*j);have HLj:=h2k hL hj;rw [hL] at hlt hl hcap1 hne ⊢;have HBY:=h2k hl hbz;have hBd:=hB.drew;have HU:=h4k hu hB hh9 hok.2;obtain ⟨q0,q1,q2,q3,q4,q5,q6,q7⟩:wr.cell? ⟨hb,0,none⟩=some (.int .u32 d0)∧wr.cell? ⟨hb,1,none⟩=some (.int .u32 d1)∧wr.cell? ⟨hb,2,none⟩=some (.int .u32 d2)∧wr.cell? ⟨hb,3,none⟩=some (.int .u32 d3)∧wr.cell? ⟨hb,4,none⟩=some (.int .u32 d4)∧wr.cell? ⟨hb,5,none⟩=some (.int .u32 d5)∧wr.cell? ⟨hb,6,none⟩=some (.int .u32 d6)∧wr.cell? ⟨hb,7,none⟩=some (.int .u32 d7):=⟨hB.cell 0,hB.cell 1,hB.cell 2,hB.cell 3,hB.cell 4,hB.cell 5,hB.cell 6,hB.cell 7⟩;have i1:(64:Int)≤(L:Int):=oM;have i2:(64:Int)≤(cap:Int):=oM;have HNE:=Lib.hid hne;unfold maxLen at hcap2;clear hu hB hh9 hok hbz e2 hl hL hj hne hBd;go_wp2_with fail
     go_still_tail 7,kR
     change wpList _ _ _ _ _ wr.drew;clear q0 q1 q2 q3 q4 q5 q6 q7;go_wp2_with (first
      | (go_at_call 292
         refine (turn_c [d0,d1,d2,d3,d4,d5,d6,d7] [d0,d1,d2,d3,d4,d5,d6,d7] hashK ((P.drop (64*j)).take 64) x 8 b off cap _ rfl rfl hashK_ok.1 HU.out.2.2.2 HU.out.2.2.2 hashK_ok.2 (HS8.out.still HU.out.1.drew).k_ (HS8.out.still HU.out.1.drew).blk.lt (by rw [List.length_take,HBY.out.1];omega) oM oM hbl (fun i hi=>by
          rw [World.cell?_drew,HBY.out.2 i (by rw [HBY.out.1];omega)];simp [List.getD_eq_getElem?_getD,hi])).mono ?_
         rintro e w10 ⟨rfl,hU10⟩;obtain ⟨h',hh'⟩:∃h',turnL [d0,d1,d2,d3,d4,d5,d6,d7] [d0,d1,d2,d3,d4,d5,d6,d7] hashK ((P.drop (64*j)).take 64)=h':=⟨_,rfl⟩;have h8':h'.length=8:=by rw [← hh',turnL_len];rfl
         rw [hh'];have HU10:=h3k hU10 h8' hh';clear hU10 h8' hh')
      | (show wpList _ _ _ (⟨none,_,_,_,_,_⟩::_) _ _
         refine wpList_store_all rfl 377 _ _ rfl hb (arrU h') rfl rfl 377 _ (HU.out.2.1.upd (Upd.drew (Upd.refl (fun _=>False) wr) |>.then HU10.out.1 wz0) (fun e=>e)) (by rw [arrU_size,arrU_size,HU10.out.2.1];rfl) (arrU_one _) (by rw [arrU_size,HU10.out.2.1];kernel_rfl) ?_
         intro w11 hB11 hU11 hz11))
     have hfin:∀(A':Option Addr) (cap':Nat),BytesAt w11 (.slice A' (L - 64) cap') ((P.drop (64*j)).drop 64)→(Value.slice A' (L - 64) cap').ownBlock≠some hb →
      (∃(j:Nat) (A:Option Addr) (cap:Nat),Value.slice A' (L - 64) cap'=.slice A (P.length - 64*j) cap∧64*j≤P.length∧Upd (fun _=>False) w8 w11∧Blk w11 hb 377 (arrU (hashN j [a0,a1,a2,a3,a4,a5,a6,a7] P))∧BytesAt w11 (.slice A (P.length - 64*j) cap) (P.drop (64*j))∧(Value.slice A (P.length - 64*j) cap).ownBlock≠some hb):=by
      intro A' cap' h1 h2;have e64:P.length - 64*(j+1)=L - 64:=by have:=HLj.out.1;omega
      refine ⟨j+1,A',cap',by rw [e64],by have:=HLj.out.1;omega,(HU.out.1.drew.then HU10.out.1 wz0).then hU11 (fun q hq=>.inr (oN HHB.out)),?_,?_,?_⟩
      ·rw [hashN_snoc,HU.out.2.2.1,HU10.out.2.2]
       exact hB11
      ·rw [e64,show 64*(j+1)=64*j+64 by omega,← List.drop_drop]
       exact h1
      ·rw [e64];exact h2
     have hby2:BytesAt w11 (.slice (some ⟨b,off,none⟩) L cap) (P.drop (64*j)):=by
      have h1:BytesAt wr (.slice (some ⟨b,off,none⟩) L cap) (P.drop (64*j)):=⟨_,cap,by rw [HBY.out.1],by rw [HBY.out.1];exact hcap1,by unfold maxLen;exact hcap2,fun _=>⟨b,off,rfl,hbl,HBY.out.2⟩⟩;exact h1.upd (((Upd.refl (fun _=>False) wr).drew.then HU10.out.1 wz0).trans hU11 (H:=(· = hb)) wz0 (fun _ e=>.inl e)) (fun k hk e=>HNE.out (by rw [hk,e]))
     go_roundw
     case rel =>
      by_cases hcapL:cap=64
      ·rw [if_pos hcapL,hcapL]
       obtain rfl:L=64:=oM;refine hfin _ _ ?_ HNE.out;exact zz20
      ·rw [if_neg hcapL]
       refine hfin _ _ ?_ HNE.out;by_cases hL64:L=64
       ·subst hL64
        exact zz20
       ·exact hby2.drop oM
     case measure=>simp [lenSl];omega
    ·have hP64:=HP.out.2.1.1
     have hj0:P.length - 64*j=0:=oM;have hjq:P.length / 64=j:=oM;rw [hj0] at hne hby ⊢;obtain ⟨d0,d1,d2,d3,d4,d5,d6,d7,rfl⟩:=eight hok.1;have HU:=h5k hu hB hh9 hok.2 hjq;have HOB:Hid (Blk wr g 189 (arrB (List.replicate 32 0))):=Lib.hid (by
      rw [← HG.out];exact HW1.out.2.upd (HP.out.2.2.1.then hu wz0) (fun e=>e))
     clear hP64 hj0 hjq hu hB hh9 hok hne hby hlt hj;go_wp2_with (first
      | (refine wpList_load_all rfl _ _ rfl hb rfl _ _ _ HU.out.2.1 Tryz.underlying377 rfl rfl ?_))
     go_loopw [51] (fun u wr=>∃k:Nat,k≤8∧u=.int .i64 (k:Int)∧Upd (fun q=>q=g) w1 wr∧Blk wr g 189 (arrB (outL ([d0,d1,d2,d3,d4,d5,d6,d7].take k)++List.replicate (32 - 4*k) 0))) (fun u _=>8 - (intOf u).toNat)
     case atStart=>exact ⟨0,oM,rfl,(HP.out.2.2.1.then HU.out.1 wz0).mono wz0,HOB.out⟩
     case round =>
      clear HOB;obtain ⟨k,hk,rfl,hu,hB⟩:=hrel;have HB:=h2k hu hB;clear hu hB;by_cases hlt:k<8
      ·have hd:[d0,d1,d2,d3,d4,d5,d6,d7].length=8:=rfl
       obtain ⟨zk,hzk⟩:∃z,[d0,d1,d2,d3,d4,d5,d6,d7].getD k 0=z:=⟨_,rfl⟩;have hix:=run_index8 wr [d0,d1,d2,d3,d4,d5,d6,d7] rfl k hlt;have hzu:=HU.out.2.2.2.1.get k;rw [hzk] at hix hzu;obtain ⟨z,rfl⟩:∃z:Nat,zk=(z:Int):=⟨zk.toNat,by have:=hzu.1;omega⟩;have hz1':z<4294967296:=by have:=hzu.2;omega
       have hstep:=outL_step (l:=[d0,d1,d2,d3,d4,d5,d6,d7]) k (by simp;omega) rfl;rw [hzk,Int.toNat_natCast] at hstep;have HZ:=Lib.hid hstep;have hBd:=HB.out.2.drew;have HBD:=Lib.hid hBd;obtain ⟨q,hq⟩:=eqx (4*k);have HQ:=Lib.hid hq;have i1:(q:Int)≤32:=oM;have i0:(0:Int)≤(q:Int):=oM;have i2:q<32:=oM;have i3:¬32=q:=oM;have i4:IntKind.i64.wrap (4*(k:Int))=(q:Int):=by rw [IntWalk.i64_in _ oM];omega
       clear hzk hd hzu hstep hBd hq;go_wp2_with fail
       refine wp_region_noPanic ?_;refine wp_region_T (S:=fun w'=>Upd (fun _=>False) wr w') (T:=fun k=>k == 6) kR ?_;have hS0:=(Upd.refl (fun _=>False) wr).drew;refine tk 0 ?_;simp only [tkS];refine tk 1 ?_;simp only [tkS];refine tk 2 ?_;simp only [tkS];refine tk 3 ?_;simp only [tkS];refine tk 4 ?_;simp only [tkS];refine wpAnyT_one (i:=5) kR rfl (fun K hK=>?_);go_simp
       clear i4 hix;rw [u64_wrap z oM];refine (putBig_sha (.slice none 0 0) 0 [] z 4 _ (Own.nil _ _ _) dC dC).mono ?_;rintro e w12 ⟨v12,rfl,ho12,hU12,hl12⟩;rw [Nat.zero_add,List.nil_append] at ho12;have hu12:Upd (fun _=>False) wr.drew w12:=hU12.mono (fun b hb=>by simp [Value.ownBlock] at hb);have hS1:=hS0.then hu12 wz0;refine hK.out _ _ hS1 ?_;have hby:=BytesAt.of_own ho12;have hln:=outL_pad (l:=[d0,d1,d2,d3,d4,d5,d6,d7]) rfl k hk;have hlb:=beB_len z 4;have hq:=HQ.out;obtain ⟨W,rv,hcp,hB13,hU13,hz13⟩:=copy_bytes (off:=q) (n:=32 - q) (cap:=32 - q) (l:=beB z 4) (HBD.out.upd hu12 (fun e=>e)) hby oM oM;obtain ⟨A12,c12,rfl,-,-⟩:=ho12.shape;clear hK;refine wpAnyT_oneT (i:=6) kR rfl kR (fun K hK=>?_);refine step_copy_run (by rfl) _ _ _ _ (by rfl) (by rfl) (by rfl) hcp ?_;refine hK.out _ _ ?_;rw [hlb,← hq,HZ.out] at hB13;have HE:=h3k hB13 hS1 hU13;clear hK hcp hB13 hU13 hz13 hS1 hS0 hln hlb hq hby ho12 hU12 hl12 hu12;refine wpAnyT_done kR ?_ _;refine NoPanic.normal ?_;go_wp2_with fail
       go_roundw
       case rel=>exact ⟨k+1,oM,by go_num,(HB.out.1.then HE.out.2.1 wz0).then HE.out.2.2 (fun q hq=>.inl hq),HE.out.1⟩
       case measure=>simp [intOf]<;>omega
      ·obtain rfl:k=8:=oM
       have e8:((8:Nat):Int)=8:=rfl;rw [e8];have hfin:outL ([d0,d1,d2,d3,d4,d5,d6,d7].take 8)++List.replicate (32 - 4*8) 0=outL (hashN (P.length / 64) [a0,a1,a2,a3,a4,a5,a6,a7] P):=by
        rw [HU.out.2.2.2.2,HU.out.2.2.1];simp
       have hB:=HB.out.2;rw [hfin] at hB;obtain ⟨O,hO⟩:=eqx (outL (hashN (P.length / 64) [a0,a1,a2,a3,a4,a5,a6,a7] P));have hOl:O.length=32:=by rw [← hO,HU.out.2.2.2.2,HU.out.2.2.1,outL_len];rfl
       rw [hO] at hB;have HB2:=h3k hB hO hOl;clear hB hO hOl hfin e8 hlt hk;go_wp2_with (first
        | (show wpList _ _ _ (⟨none,_,_,_,_,_⟩::_) _ _
           refine wpList_store_all rfl 189 _ _ rfl g (arrB O) rfl rfl 189 _ HB2.out.1 rfl (arrB_one _) (by rw [arrB_size,HB2.out.2.2];kernel_rfl) ?_
           intro w14 hB14 hU14 hz14)
        | (refine wpList_load_all rfl _ _ rfl g rfl _ _ _ HB2.out.1 Tryz.underlying189 rfl (by rw [arrB_size,HB2.out.2.2];kernel_rfl) ?_))
       have hu14:=(HW1.out.1.then HB.out.1 (fun q hq=>.inr (oN HG.out))).then hU14 (fun q hq=>.inr (oN HG.out));refine bodyPost_ret (results_cell_row rfl _ _ g _ _ _ _ rfl hB14 Tryz.underlying189 rfl (by rw [arrB_size,HB2.out.2.2];kernel_rfl)) rfl ⟨by rw [HB2.out.2.1],hu14⟩
theorem hash_c (t:ByteArray) (ht:t.size≤1000000) (w:World):Calls Tryz.prog 248 #[.string t] w fun e w'=>e=.returned (.agg (arrB (shaL t.data.toList)))∧Upd (fun _=>False) w w':=by
 have HD:=Lib.hid (show shaL t.data.toList=outL (hashN ((padB (t.data.toList.drop (64*(t.size / 64))) t.size).length / 64) (hashN (t.size / 64) hash0 t.data.toList) (padB (t.data.toList.drop (64*(t.size / 64))) t.size)) from rfl);obtain ⟨O,hO⟩:=eqx (shaL t.data.toList);have hOl:O.length=32:=by rw [← hO];exact shaL_len _
 rw [hO];have HO:=h2k hO hOl;clear hO hOl;go_enter Tryz.func248,Tryz.ntmps248
 go_wp2_with fail
 generalize hw1:w.alloc (Obj.cells _ _)=w1;have hU1:Upd (fun _=>False) w w1:=by rw [← hw1];exact (Upd.refl _ w).alloc _
 have hO1:Blk w1 w.heap.size 189 (arrB (List.replicate 32 0)):=by rw [← hw1];exact Blk.new w _ _
 have HW1:=h2k hU1 hO1;clear hw1 hU1 hO1;refine (shanew_c w1).mono ?_;rintro e w2 ⟨x,rfl,hs2⟩;have HS2:=Lib.hid hs2;clear hs2;go_wp2_with fail
 refine (shawrite_c HS2.out t ht).mono ?_;rintro e w3 ⟨r,rfl,hs3,hb3⟩;have HS3:=h2k hs3 hb3;clear hs3 hb3;go_wp2_with fail
 refine (shasum_c HS3.out.1 HS3.out.2 (by rw [List.length_drop];show t.size - _<64;omega) ht).mono ?_;rintro e w4 ⟨rfl,hU4⟩;rw [← HD.out,HO.out.1];have HB4:Hid (Blk w4 w.heap.size 189 (arrB (List.replicate 32 0))):=Lib.hid (HW1.out.2.upd (HS3.out.1.upd.then hU4 wz0) (fun e=>e));have HU4:=Lib.hid ((HW1.out.1.then HS3.out.1.upd wz0).then hU4 wz0);clear hU4;go_wp2_with (first
  | (show wpList _ _ _ (⟨none,_,_,_,_,_⟩::_) _ _
     refine wpList_store_all rfl 189 _ _ rfl w.heap.size (arrB O) rfl rfl 189 _ HB4.out (by rw [arrB_size,arrB_size,HO.out.2];rfl) (arrB_one _) (by rw [arrB_size,HO.out.2];kernel_rfl) ?_
     intro w14 hB14 hU14 hz14))
 refine bodyPost_ret (results_cell_row rfl _ _ w.heap.size _ _ _ _ rfl hB14 Tryz.underlying189 rfl (by rw [arrB_size,HO.out.2];kernel_rfl)) rfl ⟨rfl,HU4.out.then hU14 (fun q hq=>.inr oM)⟩
def padK (key:List UInt8) (by_:UInt8):List UInt8:=(key++List.replicate (64 - key.length) 0).map (· ^^^ by_)
def tagL (key text:List UInt8):List UInt8:=shaL (padK key 0x5c++shaL (padK key 0x36++text))
theorem padK_len {key:List UInt8} {b:UInt8} (h:key.length≤64):(padK key b).length=64:=by
 unfold padK;rw [List.length_map,List.length_append,List.length_replicate];omega
theorem tagL_len (key text:List UInt8):(tagL key text).length=32:=shaL_len _
def twU (b:UInt8):UInt8:=(b <<< 1) ^^^ ((b >>> 7)*27)
def rolU (b:UInt8) (k:Nat):UInt8:=UInt8.ofNat ((b.toNat*2 ^ k) % 256+b.toNat / 2 ^ (8 - k))
structure BoxM where
 p:UInt8
 q:UInt8
 s:List UInt8
def BoxM.q1 (b:BoxM):UInt8:=b.q ^^^ (b.q <<< 1)
def BoxM.q2 (b:BoxM):UInt8:=b.q1 ^^^ (b.q1 <<< 2)
def BoxM.q3 (b:BoxM):UInt8:=b.q2 ^^^ (b.q2 <<< 4)
def BoxM.next (b:BoxM):BoxM :=
 ⟨b.p ^^^ twU b.p,b.q3 ^^^ ((b.q3 >>> 7)*9),b.s.set b.p.toNat (b.q ^^^ rolU b.q 1 ^^^ rolU b.q 2 ^^^ rolU b.q 3 ^^^ rolU b.q 4 ^^^ 0x63)⟩
def boxAt:Nat→BoxM
 | 0=>⟨1,1,List.replicate 256 0⟩
 | n+1=>(boxAt n).next
def boxL:List UInt8:=(boxAt 255).s.set 0 0x63
theorem boxAt_len (n:Nat):(boxAt n).s.length=256:=by
 induction n with
 | zero=>exact List.length_replicate
 | succ n ih=>exact List.length_set.trans ih
theorem boxL_len:boxL.length=256:=by rw [boxL,List.length_set,boxAt_len]
def wordK (i:Nat) (power:UInt8) (t:List UInt8):List UInt8 :=
 let t1:=if i % 8=0 then [t.getD 1 0,t.getD 2 0,t.getD 3 0,t.getD 0 0] else t
 let t2:=if i % 4=0 then t1.map fun b=>boxL.getD b.toNat 0 else t1
 if i % 8=0 then t2.set 0 (t2.getD 0 0 ^^^ power) else t2
def schedAt (key:List UInt8):Nat→List UInt8 × UInt8
 | 0=>(key,1)
 | n+1 =>
   let w:=(schedAt key n).1
   let t:=wordK (n+8) (schedAt key n).2 (w.drop (4*(n+7)))
   (w++(List.range 4).map (fun k=>w.getD (4*n+k) 0 ^^^ t.getD k 0),if (n+8) % 8=0 then twU (schedAt key n).2 else (schedAt key n).2)
def schedL (key:List UInt8):List UInt8:=(schedAt key 52).1
theorem schedAt_len {key:List UInt8} (h:key.length=32) (n:Nat):(schedAt key n).1.length=32+4*n:=by
 induction n with
 | zero=>exact h
 | succ n ih =>
   show (_++_:List UInt8).length=_;rw [List.length_append,ih];simp
   omega
theorem schedL_len {key:List UInt8} (h:key.length=32):(schedL key).length=240:=schedAt_len h 52
def addK (w b:List UInt8) (round:Nat):List UInt8:=(List.range 16).map fun i=>b.getD i 0 ^^^ w.getD (16*round+i) 0
def mixK (b:List UInt8):List UInt8:=(List.range 16).map fun i =>
 let n:=fun k=>b.getD (i / 4*4+(i+k) % 4) 0
 twU (n 0) ^^^ twU (n 1) ^^^ n 1 ^^^ n 2 ^^^ n 3
def subK (b:List UInt8):List UInt8:=(List.range 16).map fun i=>boxL.getD (b.getD ((i+4*(i % 4)) % 16) 0).toNat 0
def roundK (w:List UInt8):Nat→List UInt8→List UInt8
 | 0,b=>addK w b 0
 | r+1,b=>addK w (if r+1<14 then mixK (subK (roundK w r b)) else subK (roundK w r b)) (r+1)
def blockL (key b:List UInt8):List UInt8:=roundK (schedL key) 14 b
theorem addK_len (w b:List UInt8) (r:Nat):(addK w b r).length=16:=by simp [addK]
theorem roundK_len (w b:List UInt8) (r:Nat):(roundK w r b).length=16:=by cases r<;>exact addK_len _ _ _
theorem blockL_len (key b:List UInt8):(blockL key b).length=16:=roundK_len _ _ _
def streamAt (key nonce:List UInt8) (i:Nat):UInt8:=(blockL key (nonce++beB (i / 16) 4)).getD (i % 16) 0
def streamL (key nonce text:List UInt8):List UInt8:=text.mapIdx fun i b=>b ^^^ streamAt key nonce i
theorem streamL_len (key nonce text:List UInt8):(streamL key nonce text).length=text.length:=by simp [streamL]
theorem streamL_back (key nonce text:List UInt8):streamL key nonce (streamL key nonce text)=text:=by
 unfold streamL;refine List.ext_getElem sM fun i h1 h2=>?_
 simp only [List.getElem_mapIdx];rw [UInt8.xor_assoc,UInt8.xor_self,UInt8.xor_zero]
def numbersB (key boot n:Nat):List UInt8:=putN key++(putN boot++putN n)
def dataL (k:List UInt8) (boot n:Nat) (text:List UInt8):List UInt8:=streamL (tagL k [101,110,99]) (beB boot 4++beB n 8) text
def stampL (k:List UInt8) (key boot n:Nat) (about data:List UInt8):List UInt8:=tagL (tagL k [109,97,99]) (numbersB key boot n++(textN about++textN data))
def sealB (k:List UInt8) (key boot n:Nat) (about text:List UInt8):List UInt8 :=
 numbersB key boot n++(textN (dataL k boot n text)++stampL k key boot n about (dataL k boot n text))
def ringK (master:List UInt8) (i:Nat):List UInt8:=tagL master ([114,105,110,103]++beB i 8)
theorem dataL_len (k:List UInt8) (boot n:Nat) (text:List UInt8):(dataL k boot n text).length=text.length:=streamL_len _ _ _
theorem dataL_back (k:List UInt8) (boot n:Nat) (text:List UInt8):dataL k boot n (dataL k boot n text)=text:=streamL_back _ _ _
theorem sealB_len {k:List UInt8} {key boot n:Nat} {about text:List UInt8} (hk:key≤1048576) (hb:boot<4294967296) (hn:n<18446744073709551616) (ht:text.length≤8192):(sealB k key boot n about text).length≤text.length+52:=by
 have h1:sizeN key≤3:=(sizeN_le 2 key).2 oM;have h2:sizeN boot≤5:=(sizeN_le 4 boot).2 oM;have h3:=size_u64 hn;have h4:=sizeN_small (n:=text.length) oM;unfold sealB numbersB;simp only [List.length_append,putN_len,textN_len,dataL_len,stampL,tagL_len];omega
section
variable {P:Program} {ops:Array Oper} {Q:Exit→Act→World→Prop} {md:Region.Mode} {S:World→Prop} {T:Nat→Bool}
def awaits8 (md:Region.Mode) (ops:Array Oper) (T:Nat→Bool) (listed:Array Bool) (i:Nat):Bool :=
 closed md ops listed && !T i && (List.range ops.size).all fun j => !T j || reach md ops i 8 j
theorem awaits8_spec {listed:Array Bool} {i:Nat} (h:awaits8 md ops T listed i=true) :
 Closed md ops listed∧T i=false∧∀j oj,ops[j]? = some oj→T j=true→reach md ops i 8 j=true:=by
 unfold awaits8 at h;exact zz38
theorem wpAnyT_take8 {i:Nat} {oi:Oper} {v:Value} {fuel:Nat} {listed:Array Bool} {a:Act} {w:World} (hi:ops[i]? = some oi)
 (hs:Region.noSelect ops=true) (hf:Region.free md ops listed i=true) (hr:(Region.ready md ops listed).contains i=true) (hw:awaits8 md ops T listed i=true)
 (hQ:∀c a w,Q (.panic c) (a.put oi.dst v) w→Q (.panic c) a w) (hT:Takes P ops Q S i oi v a) (hS:S w) (hz:ops.size=listed.size)
 (h:wpAnyT P md ops Q S T fuel (listed.setIfInBounds i true) (a.put oi.dst v) w):wpAnyT P md ops Q S T (fuel+1) listed a w:=by
 have hsel := Region.noSelect_spec hs;obtain ⟨hcl0,hTi,hwt⟩:=awaits8_spec hw;have main:∀(fuel:Nat) (listed:Array Bool) (a:Act) (w:World),
  (∀j oj,ops[j]? = some oj→j≠i→listed.getD j true=false→(∀e ∈ oj.after,Region.binds md e=true→e.on≠i)→oi.apart ops oj=true) →
  Closed md ops listed→ops.size=listed.size →
  i ∈ Region.ready md ops listed→Takes P ops Q S i oi v a→S w →
  wpAnyT P md ops Q S T fuel (listed.setIfInBounds i true) (a.put oi.dst v) w→wpAnyT P md ops Q S T (fuel+1) listed a w:=by
  intro fuel;induction fuel with
  | zero =>
    exact zz33
  | succ fuel ih =>
    intro listed a w hfree hcl hz hr hT hS H;refine ⟨fun h0=>(by rw [h0] at hr;cases hr),fun j hj=>?_⟩
    by_cases e:j=i
    ·subst e
     exact hT a rfl rfl _ w hS ⟨fun _=>hS,H⟩
    ·have h1:=H.2 j (ready_mono hj e)
     obtain ⟨hun,oj,hoj,hall⟩:=mem_ready.1 hj;have g0:=(mem_ready.1 hr).1;have hli:listed.getD i false=false:=by
      by_cases hlt:i<listed.size
      ·simp [hlt] at g0 ⊢
       exact g0
      ·simp [Array.getElem?_eq_none (Nat.le_of_not_lt hlt)] at g0
     have hno:∀e ∈ oj.after,Region.binds md e=true→e.on≠i:=by
      intro x hx hb hxi;have g1:=hall x hx hb;rw [hxi,hli] at g1;cases g1
     have hd:dirty T ((listed.setIfInBounds i true).setIfInBounds j true)=false:=dirty_false.2 fun k hk=>by
      have hki:i≠k:=fun e=>by rw [e,hk] at hTi;cases hTi
      by_cases ekj:j=k
      ·subst ekj
       have g1:=reach_spec hcl 8 j oj hoj hall (hwt j oj hoj hk);rw [hli] at g1;cases g1
      ·rw [getD_set_ne false ekj,getD_set_ne false hki]
       cases hlk:listed.getD k false with
       | false=>rfl
       | true =>
         have hlt:k<ops.size:=by
          rcases Nat.lt_or_ge k listed.size with h | h
          ·omega
          ·simp [Array.getElem?_eq_none h] at hlk
         have hok:ops[k]? = some ops[k]:=Array.getElem?_eq_getElem hlt;have g1:=reach_spec hcl 8 k _ hok (hcl k _ hok hlk) (hwt k _ hok hk);rw [hli] at g1;cases g1
     exact zz10
 exact main fuel listed a w (Region.free_spec hi hf) hcl0 hz (by simpa using hr) hT hS h
theorem wpAnyT_two {i j:Nat} {oi oj:Oper} {fuel:Nat} {listed:Array Bool} {a:Act} {w:World} (hr:Region.ready md ops listed=[i,j]) (hi:ops[i]? = some oi) (hj:ops[j]? = some oj)
 (h1:∀K':Act→World→Prop,Shut (∀a w,S w→wpAnyT P md ops Q S T fuel (listed.setIfInBounds i true) a w→K' a w)→if Region.wanted oi (yielded ops a.tmps)=true then Oper.wp P oi a w K' Q else K' (a.put oi.dst undef) w)
 (h2:∀K':Act→World→Prop,Shut (∀a w,S w→wpAnyT P md ops Q S T fuel (listed.setIfInBounds j true) a w→K' a w)→if Region.wanted oj (yielded ops a.tmps)=true then Oper.wp P oj a w K' Q else K' (a.put oj.dst undef) w) :
 wpAnyT P md ops Q S T (fuel+1) listed a w:=by
 refine ⟨fun h0=>(by rw [hr] at h0;cases h0),fun k hk=>?_⟩
 rw [hr] at hk;rcases (by simpa using hk:k=i∨k=j) with rfl | rfl
 ·exact wpOp_step hi (fun K' hK=>h1 K' (fun a w hS hW=>hK a w ⟨fun _=>hS,hW⟩))
 ·exact wpOp_step hj (fun K' hK=>h2 K' (fun a w hS hW=>hK a w ⟨fun _=>hS,hW⟩))
theorem step_store_all {o:Oper} {a:Act} {w:World} {K:Act→World→Prop} {E:Prop} (hg:o.guard=none) (ty:TypeId) (x y:Operand) (ho:o.op=.store ty x y) (g:Nat) (new:Array Value) (hx:a.eval x=.pointer (some ⟨g,0,none⟩)) (hy:a.eval y=.agg new)
 (t:TypeId) (cs:Array Value) (hB:Blk w g t cs) (hs:cs.size=new.size) (h1:new.all (·.oneCell')=true) (hsz:(P.info? ty).map (·.size)=some new.size)
 (h:∀w',Blk w' g t new→Upd (· = g) w w'→w'.heap.size=w.heap.size→K (a.put o.dst undef) w'):if Region.wanted o (yielded ops a.tmps)=true then Oper.wp P o a w K Q else E:=by
 have hw:Region.wanted o (yielded ops a.tmps)=true:=by simp [Region.wanted,hg]
 rw [if_pos hw];exact wp_store_all ty x y ho g new hx hy t cs hB hs h1 hsz h
end
section
variable {P:Program} {ops:Array Oper} {Q:Exit→Act→World→Prop} {md:Region.Mode} {S:World→Prop} {T:Nat→Bool}
theorem tk8 (i:Nat) {oi:Oper} {v:Value} {fuel:Nat} {listed:Array Bool} {a:Act} {w:World} (h:wpAnyT P md ops Q S T fuel (listed.setIfInBounds i true) (a.put oi.dst v) w)
 (hi:ops[i]? = some oi:=by rfl) (hv:∀w',S w'→(execOp a.eval oi).run P w'=.ok (.value v) w':=by intro w' hSw;go_split_ands;first | (go_simp;done) | (go_simp;rfl) | rfl) (hS:S w:=by assumption) (hwt:Region.wanted oi (yielded ops a.tmps)=true:=by rfl)
 (hc:(Region.noSelect ops && Region.free md ops listed i && (Region.ready md ops listed).contains i && awaits8 md ops T listed i && ops.size == listed.size)=true:=by kernel_rfl) (hQ:∀c a w,Q (.panic c) (a.put oi.dst v) w→Q (.panic c) a w:=by exact fun _ _ _ h=>h):wpAnyT P md ops Q S T (fuel+1) listed a w:=by
 simp only [Bool.and_eq_true,beq_iff_eq] at hc;exact wpAnyT_take8 hi hc.1.1.1.1 hc.1.1.1.2 hc.1.1.2 hc.1.2 hQ (takes_yield hi (Or.inl ⟨hwt,hv⟩)) hS hc.2 h
end
section
variable {P:Program} {ops:Array Oper} {Q:Exit→Act→World→Prop} {md:Region.Mode} {S:World→Prop} {T:Nat→Bool}
theorem wo1 (i:Nat) {o:Oper} {fuel:Nat} {listed:Array Bool} {a:Act} {w:World}
 (h:∀K':Act→World→Prop,Shut (∀a w,S w→wpAnyT P md ops Q S T fuel (listed.setIfInBounds i true) a w→K' a w)→if Region.wanted o (yielded ops a.tmps)=true then Oper.wp P o a w K' Q else K' (a.put o.dst undef) w)
 (hr:Region.ready md ops listed=[i]:=by kernel_rfl) (ho:ops[i]? = some o:=by rfl):wpAnyT P md ops Q S T (fuel+1) listed a w:=wpAnyT_one hr ho h
theorem woT (i:Nat) {o:Oper} {fuel:Nat} {listed:Array Bool} {a:Act} {w:World}
 (h:∀K':Act→World→Prop,Shut (∀a w,wpAnyT P md ops Q S T fuel (listed.setIfInBounds i true) a w→K' a w)→if Region.wanted o (yielded ops a.tmps)=true then Oper.wp P o a w K' Q else K' (a.put o.dst undef) w)
 (hr:Region.ready md ops listed=[i]:=by kernel_rfl) (ho:ops[i]? = some o:=by rfl) (hd:dirty T (listed.setIfInBounds i true)=true:=by kernel_rfl):wpAnyT P md ops Q S T (fuel+1) listed a w:=wpAnyT_oneT hr ho hd h
theorem wdn {fuel:Nat} {listed:Array Bool} {a:Act} {w:World} (h:Q .normal a w) (hr:Region.ready md ops listed=[]:=by kernel_rfl):wpAnyT P md ops Q S T fuel listed a w:=wpAnyT_done hr h fuel
theorem wt8 (i:Nat) {oi:Oper} (v:Value) {fuel:Nat} {listed:Array Bool} {a:Act} {w:World} (hT:Takes P ops Q S i oi v a) (h:wpAnyT P md ops Q S T fuel (listed.setIfInBounds i true) (a.put oi.dst v) w)
 (hi:ops[i]? = some oi:=by rfl) (hS:S w:=by assumption)
 (hc:(Region.noSelect ops && Region.free md ops listed i && (Region.ready md ops listed).contains i && awaits8 md ops T listed i && ops.size == listed.size)=true:=by kernel_rfl) (hQ:∀c a w,Q (.panic c) (a.put oi.dst v) w→Q (.panic c) a w:=by exact fun _ _ _ h=>h):wpAnyT P md ops Q S T (fuel+1) listed a w:=by
 simp only [Bool.and_eq_true,beq_iff_eq] at hc;exact wpAnyT_take8 hi hc.1.1.1.1 hc.1.1.1.2 hc.1.1.2 hc.1.2 hQ hT hS hc.2 h
theorem tkW (i:Nat) {oi:Oper} (v:Value) {fuel:Nat} {listed:Array Bool} {a:Act} {w:World} (h:wpAnyT P md ops Q S T fuel (listed.setIfInBounds i true) (a.put oi.dst v) w)
 (hi:ops[i]? = some oi:=by rfl) (hv:∀w':World,True→(execOp a.eval oi).run P w'=.ok (.value v) w':=by intro w' hSw;go_simp) (hI:dirty T listed=true∨S w:=by first | exact Or.inr aS | exact Or.inl kR) (hwt:Region.wanted oi (yielded ops a.tmps)=true:=by rfl)
 (hc:(Region.noSelect ops && Region.free md ops listed i && (Region.ready md ops listed).contains i && T i == false)=true:=by kernel_rfl) (hQ:∀c a w,Q (.panic c) (a.put oi.dst v) w→Q (.panic c) a w:=by exact fun _ _ _ h=>h):wpAnyT P md ops Q S T (fuel+1) listed a w:=by
 simp only [Bool.and_eq_true,beq_iff_eq] at hc;exact wpAnyT_takeW hi hc.1.1.1 hc.1.1.2 hc.1.2 hc.2 hQ (takes_yield hi (Or.inl ⟨hwt,hv⟩)) hI h
theorem tkH (i:Nat) {oi:Oper} (v:Value) {fuel:Nat} {listed:Array Bool} {a:Act} {w:World} (h:wpAnyH P md ops Q S fuel (listed.setIfInBounds i true) (a.put oi.dst v) w)
 (hi:ops[i]? = some oi:=by rfl) (hv:∀w',S w'→(execOp a.eval oi).run P w'=.ok (.value v) w':=by intro w' hSw;go_split_ands;go_simp) (hS:S w:=by assumption) (hwt:Region.wanted oi (yielded ops a.tmps)=true:=by rfl)
 (hc:(Region.noSelect ops && Region.free md ops listed i && (Region.ready md ops listed).contains i)=true:=by kernel_rfl) (hQ:∀c a w,Q (.panic c) (a.put oi.dst v) w→Q (.panic c) a w:=by exact fun _ _ _ h=>h):wpAnyH P md ops Q S (fuel+1) listed a w:=by
 simp only [Bool.and_eq_true] at hc;exact wpAnyH_take hi hc.1.1 hc.1.2 hc.2 hQ (Or.inl ⟨hwt,hv⟩) hS h
theorem tkHu (i:Nat) {oi:Oper} {fuel:Nat} {listed:Array Bool} {a:Act} {w:World} (h:wpAnyH P md ops Q S fuel (listed.setIfInBounds i true) (a.put oi.dst undef) w)
 (hi:ops[i]? = some oi:=by rfl) (hS:S w:=by assumption) (hwt:Region.wanted oi (yielded ops a.tmps)=false:=by rfl)
 (hc:(Region.noSelect ops && Region.free md ops listed i && (Region.ready md ops listed).contains i)=true:=by kernel_rfl) (hQ:∀c a w,Q (.panic c) (a.put oi.dst undef) w→Q (.panic c) a w:=by exact fun _ _ _ h=>h):wpAnyH P md ops Q S (fuel+1) listed a w:=by
 simp only [Bool.and_eq_true] at hc;exact wpAnyH_take hi hc.1.1 hc.1.2 hc.2 hQ (Or.inr ⟨hwt,rfl⟩) hS h
theorem tK (i:Nat) {oi:Oper} {v:Value} {fuel:Nat} {listed l':Array Bool} {a a':Act} {w:World} (h:wpAnyT P md ops Q S T fuel l' a' w)
 (hi:ops[i]? = some oi:=by rfl) (hv:∀w',S w'→(execOp a.eval oi).run P w'=.ok (.value v) w':=by intro w' hSw;go_split_ands;first | (go_simp;done) | (go_simp;rfl) | rfl) (hS:S w:=by assumption) (hwt:Region.wanted oi (yielded ops a.tmps)=true:=by rfl) (hc:(Region.noSelect ops && Region.free md ops listed i && (Region.ready md ops listed).contains i && awaits md ops T listed i && ops.size == listed.size)=true:=by kernel_rfl) (hQ:∀c a w,Q (.panic c) (a.put oi.dst v) w→Q (.panic c) a w:=by exact fun _ _ _ h=>h)
 (hl:listed.setIfInBounds i true=l':=by first | (simp only [tkS];done) | (simp only [tkS];rfl) | rfl) (ha:a.put oi.dst v=a':=by first | (simp only [tkS];done) | (simp only [tkS];rfl) | rfl):wpAnyT P md ops Q S T (fuel+1) listed a w:=by
 subst hl ha;exact tk i h hi hv hS hwt hc hQ
theorem tK8 (i:Nat) {oi:Oper} {v:Value} {fuel:Nat} {listed l':Array Bool} {a a':Act} {w:World} (h:wpAnyT P md ops Q S T fuel l' a' w)
 (hi:ops[i]? = some oi:=by rfl) (hv:∀w',S w'→(execOp a.eval oi).run P w'=.ok (.value v) w':=by intro w' hSw;go_split_ands;first | (go_simp;done) | (go_simp;rfl) | rfl) (hS:S w:=by assumption) (hwt:Region.wanted oi (yielded ops a.tmps)=true:=by rfl) (hc:(Region.noSelect ops && Region.free md ops listed i && (Region.ready md ops listed).contains i && awaits8 md ops T listed i && ops.size == listed.size)=true:=by kernel_rfl) (hQ:∀c a w,Q (.panic c) (a.put oi.dst v) w→Q (.panic c) a w:=by exact fun _ _ _ h=>h)
 (hl:listed.setIfInBounds i true=l':=by first | (simp only [tkS];done) | (simp only [tkS];rfl) | rfl) (ha:a.put oi.dst v=a':=by first | (simp only [tkS];done) | (simp only [tkS];rfl) | rfl):wpAnyT P md ops Q S T (fuel+1) listed a w:=by
 subst hl ha;exact tk8 i h hi hv hS hwt hc hQ
theorem tT8 (i:Nat) {oi:Oper} (v:Value) {fuel:Nat} {listed l':Array Bool} {a a':Act} {w:World} (hT:Takes P ops Q S i oi v a) (h:wpAnyT P md ops Q S T fuel l' a' w)
 (hi:ops[i]? = some oi:=by rfl) (hS:S w:=by assumption) (hc:(Region.noSelect ops && Region.free md ops listed i && (Region.ready md ops listed).contains i && awaits8 md ops T listed i && ops.size == listed.size)=true:=by kernel_rfl) (hQ:∀c a w,Q (.panic c) (a.put oi.dst v) w→Q (.panic c) a w:=by exact fun _ _ _ h=>h)
 (hl:listed.setIfInBounds i true=l':=by first | (simp only [tkS];done) | (simp only [tkS];rfl) | rfl) (ha:a.put oi.dst v=a':=by first | (simp only [tkS];done) | (simp only [tkS];rfl) | rfl):wpAnyT P md ops Q S T (fuel+1) listed a w:=by
 subst hl ha;exact wt8 i v hT h hi hS hc hQ
theorem tKW (i:Nat) {oi:Oper} (v:Value) {fuel:Nat} {listed l':Array Bool} {a a':Act} {w:World} (h:wpAnyT P md ops Q S T fuel l' a' w)
 (hi:ops[i]? = some oi:=by rfl) (hv:∀w':World,True→(execOp a.eval oi).run P w'=.ok (.value v) w':=by intro w' hSw;go_simp) (hI:dirty T listed=true∨S w:=by first | exact Or.inr aS | exact Or.inl kR) (hwt:Region.wanted oi (yielded ops a.tmps)=true:=by rfl) (hc:(Region.noSelect ops && Region.free md ops listed i && (Region.ready md ops listed).contains i && T i == false)=true:=by kernel_rfl) (hQ:∀c a w,Q (.panic c) (a.put oi.dst v) w→Q (.panic c) a w:=by exact fun _ _ _ h=>h)
 (hl:listed.setIfInBounds i true=l':=by first | (simp only [tkS];done) | (simp only [tkS];rfl) | rfl) (ha:a.put oi.dst v=a':=by first | (simp only [tkS];done) | (simp only [tkS];rfl) | rfl):wpAnyT P md ops Q S T (fuel+1) listed a w:=by
 subst hl ha;exact tkW i v h hi hv hI hwt hc hQ
theorem tKH (i:Nat) {oi:Oper} (v:Value) {fuel:Nat} {listed l':Array Bool} {a a':Act} {w:World} (h:wpAnyH P md ops Q S fuel l' a' w)
 (hi:ops[i]? = some oi:=by rfl) (hv:∀w',S w'→(execOp a.eval oi).run P w'=.ok (.value v) w':=by intro w' hSw;go_split_ands;go_simp) (hS:S w:=by assumption) (hwt:Region.wanted oi (yielded ops a.tmps)=true:=by rfl) (hc:(Region.noSelect ops && Region.free md ops listed i && (Region.ready md ops listed).contains i)=true:=by kernel_rfl) (hQ:∀c a w,Q (.panic c) (a.put oi.dst v) w→Q (.panic c) a w:=by exact fun _ _ _ h=>h)
 (hl:listed.setIfInBounds i true=l':=by first | (simp only [tkS];done) | (simp only [tkS];rfl) | rfl) (ha:a.put oi.dst v=a':=by first | (simp only [tkS];done) | (simp only [tkS];rfl) | rfl):wpAnyH P md ops Q S (fuel+1) listed a w:=by
 subst hl ha;exact tkH i v h hi hv hS hwt hc hQ
theorem tKHu (i:Nat) {oi:Oper} {fuel:Nat} {listed l':Array Bool} {a a':Act} {w:World} (h:wpAnyH P md ops Q S fuel l' a' w)
 (hi:ops[i]? = some oi:=by rfl) (hS:S w:=by assumption) (hwt:Region.wanted oi (yielded ops a.tmps)=false:=by rfl) (hc:(Region.noSelect ops && Region.free md ops listed i && (Region.ready md ops listed).contains i)=true:=by kernel_rfl) (hQ:∀c a w,Q (.panic c) (a.put oi.dst undef) w→Q (.panic c) a w:=by exact fun _ _ _ h=>h)
 (hl:listed.setIfInBounds i true=l':=by first | (simp only [tkS];done) | (simp only [tkS];rfl) | rfl) (ha:a.put oi.dst undef=a':=by first | (simp only [tkS];done) | (simp only [tkS];rfl) | rfl):wpAnyH P md ops Q S (fuel+1) listed a w:=by
 subst hl ha;exact tkHu i h hi hS hwt hc hQ
theorem tQ (i:Nat) {oi:Oper} {v:Value} {fuel:Nat} {listed l':Array Bool} {a a':Act} {w:World} {F:World→Prop} (hf:∀w',S w'→F w') (h:wpAnyT P md ops Q S T fuel l' a' w)
 (hi:ops[i]? = some oi:=by rfl) (hv:∀w',S w'→F w'→(execOp a.eval oi).run P w'=.ok (.value v) w':=by intro w' hSw hFF;go_split_ands;first | (go_simp;done) | (go_simp;rfl) | rfl) (hS:S w:=by assumption) (hwt:Region.wanted oi (yielded ops a.tmps)=true:=by rfl) (hc:(Region.noSelect ops && Region.free md ops listed i && (Region.ready md ops listed).contains i && awaits md ops T listed i && ops.size == listed.size)=true:=by kernel_rfl) (hQ:∀c a w,Q (.panic c) (a.put oi.dst v) w→Q (.panic c) a w:=by exact fun _ _ _ h=>h)
 (hl:listed.setIfInBounds i true=l':=by first | (simp only [tkS];done) | (simp only [tkS];rfl) | rfl) (ha:a.put oi.dst v=a':=by first | (simp only [tkS];done) | (simp only [tkS];rfl) | rfl):wpAnyT P md ops Q S T (fuel+1) listed a w:=by
 subst hl ha;exact tk i h hi (fun w' s=>hv w' s (hf w' s)) hS hwt hc hQ
theorem tQ8 (i:Nat) {oi:Oper} {v:Value} {fuel:Nat} {listed l':Array Bool} {a a':Act} {w:World} {F:World→Prop} (hf:∀w',S w'→F w') (h:wpAnyT P md ops Q S T fuel l' a' w)
 (hi:ops[i]? = some oi:=by rfl) (hv:∀w',S w'→F w'→(execOp a.eval oi).run P w'=.ok (.value v) w':=by intro w' hSw hFF;go_split_ands;first | (go_simp;done) | (go_simp;rfl) | rfl) (hS:S w:=by assumption) (hwt:Region.wanted oi (yielded ops a.tmps)=true:=by rfl) (hc:(Region.noSelect ops && Region.free md ops listed i && (Region.ready md ops listed).contains i && awaits8 md ops T listed i && ops.size == listed.size)=true:=by kernel_rfl) (hQ:∀c a w,Q (.panic c) (a.put oi.dst v) w→Q (.panic c) a w:=by exact fun _ _ _ h=>h)
 (hl:listed.setIfInBounds i true=l':=by first | (simp only [tkS];done) | (simp only [tkS];rfl) | rfl) (ha:a.put oi.dst v=a':=by first | (simp only [tkS];done) | (simp only [tkS];rfl) | rfl):wpAnyT P md ops Q S T (fuel+1) listed a w:=by
 subst hl ha;exact tk8 i h hi (fun w' s=>hv w' s (hf w' s)) hS hwt hc hQ
end
section
variable {P:Program} {ops:Array Oper} {Q:Exit→Act→World→Prop} {o:Oper} {rest:List Oper} {a:Act} {w:World}
theorem wll (ty:TypeId) {x:Operand} (g:Nat) {t:TypeId} {cs:Array Value} {d:TypeDesc} (hB:Blk w g t cs) (hu:P.underlying ty=some d) (h:wpList P ops Q rest (a.put o.dst (.agg cs)) w)
 (hg:o.guard=none:=by rfl) (ho:o.op=.load ty x:=by rfl) (hx:a.eval x=.pointer (some ⟨g,0,none⟩):=by rfl) (hd:(match d with | .struct _ | .array _ _=>true | _=>false)=true:=by rfl) (hi:(P.info? ty).map (·.size)=some cs.size:=by kernel_rfl):wpList P ops Q (o::rest) a w:=wpList_load_all hg ty x ho g hx t cs d hB hu hd hi h
theorem wlx (ty:TypeId) {x:Operand} (g:Nat) {t:TypeId} {cs:Array Value} {d:TypeDesc} (hB:Blk w g t cs) (hu:P.underlying ty=some d) (hi:(P.info? ty).map (·.size)=some cs.size) (h:wpList P ops Q rest (a.put o.dst (.agg cs)) w)
 (hg:o.guard=none:=by rfl) (ho:o.op=.load ty x:=by rfl) (hx:a.eval x=.pointer (some ⟨g,0,none⟩):=by rfl) (hd:(match d with | .struct _ | .array _ _=>true | _=>false)=true:=by rfl):wpList P ops Q (o::rest) a w:=wpList_load_all hg ty x ho g hx t cs d hB hu hd hi h
theorem wsl (ty:TypeId) {x y:Operand} (g:Nat) (new:Array Value) {t:TypeId} {cs:Array Value} (hB:Blk w g t cs) (h1:new.all (·.oneCell')=true)
 (h:∀w',Blk w' g t new→Upd (· = g) w w'→w'.heap.size=w.heap.size→wpList P ops Q rest (a.put o.dst undef) w')
 (hg:o.guard=none:=by rfl) (ho:o.op=.store ty x y:=by rfl) (hx:a.eval x=.pointer (some ⟨g,0,none⟩):=by rfl) (hy:a.eval y=.agg new:=by rfl) (hs:cs.size=new.size:=by rfl) (hsz:(P.info? ty).map (·.size)=some new.size:=by kernel_rfl):wpList P ops Q (o::rest) a w:=wpList_store_all hg ty x y ho g new hx hy t cs hB hs h1 hsz h
end
theorem xorB (a b:UInt8):bits .xor .u8 (a.toNat:Int) (b.toNat:Int)=((a ^^^ b).toNat:Int):=by rw [u8_xor_nat _ _ a.toNat_lt b.toNat_lt,UInt8.toNat_xor]
theorem arrB_get (l:List UInt8) (i:Nat) (h:i<l.length):(arrB l)[i]? = some (.int .u8 ((l.getD i 0).toNat:Int)):=by simp [arrB,bytesV,h]
theorem arrB_set (l:List UInt8) (i:Nat) (b:UInt8):(arrB l).setIfInBounds i (.int .u8 (b.toNat:Int))=arrB (l.set i b):=by simp [arrB,bytesV,List.map_set]
theorem Blk.cellB {w:World} {g:Nat} {t:TypeId} {l:List UInt8} (h:Blk w g t (arrB l)) (i:Nat) (hi:i<l.length):w.cell? ⟨g,i,none⟩=some (.int .u8 ((l.getD i 0).toNat:Int)):=(h.cell i).trans (arrB_get l i hi)
theorem Blk.setB {w:World} {g:Nat} {t:TypeId} {l:List UInt8} (h:Blk w g t (arrB l)) (i:Nat) (b:UInt8):Blk (w.setCell ⟨g,i,none⟩ (.int .u8 (b.toNat:Int))) g t (arrB (l.set i b)):=by
 rw [← arrB_set];exact h.set_ i _
theorem conv_arr {w:World} {g:Nat} {t:TypeId} {l:List UInt8} (h:Blk w g t (arrB l)) (n cap:Nat) (hn:l.length=n):(convert 89 9 (.slice (some ⟨g,0,none⟩) n cap)).run Tryz.prog w=.ok (.string (str l)) w :=
 conv_at w g 0 n cap l hn (fun i hi=>by rw [Nat.zero_add];exact h.cellB i oM)
theorem copy_text {w:World} {g off n cap:Nat} {T:TypeId} {l0:List UInt8} {s:ByteArray} (hB:Blk w g T (arrB l0)) (hn:s.size≤n) (hf:off+s.size≤l0.length) :
 ∃W r,(Builtin.copy_ #[89,9] 3 #[.slice (some ⟨g,off,none⟩) n cap,.string s]).run Tryz.prog w=.ok r W∧Blk W g T (arrB (l0.take off++s.data.toList++l0.drop (off+s.size)))∧Upd (· = g) w W∧W.heap.size=w.heap.size:=by
 have hlen:(bytesV s.data.toList).length=s.size:=by rw [bytesV_len];rfl
 have hst:=run_storeCells_at Tryz.prog g off T (bytesV s.data.toList) 0 (arrB l0) w hB (by rw [hlen,arrB_size];omega) (bytesV_one _);rw [hlen] at hst;simp only [Nat.add_zero] at hst;have hsize:(Tryz.prog.info? 5).map (·.size)=some 1:=kR;have hmin:Nat.min s.size n=s.size:=Nat.min_eq_left hn;refine ⟨w.setRow g ((arrB l0).toList.take off++bytesV s.data.toList++(arrB l0).toList.drop (off+s.size)).toArray,goInt s.size,?_,?_,Upd.setRow_ _ _ _,by simp [World.setRow]⟩
 ·cases hi:Tryz.prog.info? 5 with
  | none=>rw [hi] at hsize;simp at hsize
  | some i =>
    have htk:List.take s.size (List.map (fun b:UInt8=>Value.int IntKind.u8 (b.toNat:Int)) s.data.toList)=bytesV s.data.toList:=by
     rw [List.take_of_length_le (by rw [List.length_map];exact Nat.le_refl _)];rfl
    simp [Builtin.copy_,run_underlying Tryz.underlying89,Builtin.lenOf,Builtin.firstCells,sizeOf,typeInfo,hi,hmin]
    rw [htk,hst];simp [Result.andThen]
 ·have e:((arrB l0).toList.take off++bytesV s.data.toList++(arrB l0).toList.drop (off+s.size)).toArray=arrB (l0.take off++s.data.toList++l0.drop (off+s.size)):=by
   simp [arrB,bytesV,List.map_take,List.map_drop]
  rw [e];exact hB.setRow _
def mapAt (f:UInt8→UInt8) (l:List UInt8) (k:Nat):List UInt8:=(l.take k).map f++l.drop k
theorem mapAt_len (f:UInt8→UInt8) (l:List UInt8) (k:Nat):(mapAt f l k).length=l.length:=by
 unfold mapAt;rw [List.length_append,List.length_map,List.length_take,List.length_drop];omega
theorem mapAt_get (f:UInt8→UInt8) (l:List UInt8) (k:Nat) (hk:k<l.length):(mapAt f l k).getD k 0=l.getD k 0:=by
 unfold mapAt;have h1:((l.take k).map f).length=k:=by rw [List.length_map,List.length_take];omega
 rw [List.getD_eq_getElem?_getD,List.getElem?_append_right oM,h1,Nat.sub_self,List.getElem?_drop,List.getD_eq_getElem?_getD];rfl
theorem mapAt_step (f:UInt8→UInt8) (l:List UInt8) (k:Nat) (hk:k<l.length):(mapAt f l k).set k (f (l.getD k 0))=mapAt f l (k+1):=by
 unfold mapAt;have h1:((l.take k).map f).length=k:=by rw [List.length_map,List.length_take];omega
 rw [List.set_append_right _ _ oM,h1,Nat.sub_self,List.take_succ_eq_append_getElem hk,List.map_append,List.append_assoc,List.drop_eq_getElem_cons hk,List.getD_eq_getElem?_getD,List.getElem?_eq_getElem hk];rfl
theorem mapAt_all (f:UInt8→UInt8) (l:List UInt8):mapAt f l l.length=l.map f:=by
 unfold mapAt;rw [List.take_length,List.drop_length,List.append_nil]
theorem pad_c (key:ByteArray) (by_:UInt8) (w:World) (hk:key.size≤64) :
 Calls Tryz.prog 249 #[.string key,.int .u8 (by_.toNat:Int)] w fun e w'=>e=.returned (.string (str (padK key.data.toList by_)))∧Upd (fun _=>False) w w':=by
 have hk2:((key.size:Nat):Int)≤64:=oM;obtain ⟨X,hX⟩:=eqx (key.data.toList++List.replicate (64 - key.data.toList.length) 0);have hXl:X.length=64:=by rw [← hX,List.length_append,List.length_replicate];show key.size+(64 - key.size)=64;omega
 have HX:=h2k hX hXl;clear hX hXl;go_enter Tryz.func249,Tryz.ntmps249
 go_wp2_with fail
 generalize hw1:w.alloc (Obj.cells _ _)=w1;have hU1:Upd (fun _=>False) w w1:=by rw [← hw1];exact (Upd.refl _ w).alloc _
 have hO1:Blk w1 w.heap.size 367 (arrB (List.replicate 64 0)):=by rw [← hw1];exact Blk.new w _ _
 obtain ⟨g,hg⟩:=eqx w.heap.size;have HG:=Lib.hid hg;rw [hg] at hO1;obtain ⟨W,r,hcp,hB2,hU2,hz2⟩:=copy_text (s:=key) (off:=0) (n:=64) (cap:=64) hO1 hk (by rw [List.length_replicate];omega);have hE:(List.replicate 64 0).take 0++key.data.toList++(List.replicate 64 (0:UInt8)).drop (0+key.size)=X:=by
  rw [← HX.out.1,List.take_zero,List.nil_append,Nat.zero_add,List.drop_replicate];rfl
 rw [hE] at hB2;have HW:=h3k hU1 hB2 hU2;rw [hg,hcp];clear hU1 hO1 hE hB2 hU2 hz2 hg hw1 hcp;go_wp2_with fail
 go_loopw [18] (fun u wr=>∃k:Nat,k≤64∧u=.int .i64 (k:Int)∧Upd (fun q=>q=g) w wr∧Blk wr g 367 (arrB (mapAt (· ^^^ by_) X k))) (fun u _=>64 - (intOf u).toNat)
 case atStart=>exact ⟨0,oM,rfl,HW.out.1.trans HW.out.2.2 wz0 (fun _ e=>.inl e),HW.out.2.1⟩
 case round =>
  obtain ⟨k,hk64,rfl,hu,hB⟩:=hrel;clear HW;have HB:=h2k hu hB;have hXl:=HX.out.2;by_cases hlt:k<64
  ·have hc:=hB.cellB k (by rw [mapAt_len];omega)
   have hf:=hB.frozen k;rw [mapAt_get _ _ _ oM] at hc;have hst:=mapAt_step (· ^^^ by_) X k oM;obtain ⟨b,hb⟩:=eqx (X.getD k 0);rw [hb] at hc hst;have hx:=xorB b by_;have HST:=Lib.hid hst;have hk1:(k:Int)<64:=oM;clear hu hB hb hst hXl;go_wp2_with fail
   go_roundw
   case rel =>
    refine ⟨k+1,oM,by go_num,HB.out.1.setCell (.inl rfl) _,?_⟩;rw [← HST.out];have h:=HB.out.2.setB k (b ^^^ by_);rw [UInt8.toNat_xor] at h;exact h
   case measure=>simp [intOf]<;>omega
  ·obtain rfl:k=64:=oM
   have e64:((64:Nat):Int)=64:=rfl;rw [e64];have hfin:mapAt (· ^^^ by_) X 64=padK key.data.toList by_:=by
    rw [← hXl,mapAt_all,← HX.out.1];rfl
   rw [hfin] at hB;have hcv:=conv_arr hB 64 64 (padK_len (by show key.size≤64;exact hk));clear hB hfin hXl hlt e64 hk64;go_wp2_with fail
   go_ret
   exact ⟨rfl,hu.mono (fun q hq=>.inr (oN HG.out))⟩
theorem tag_c (key text:ByteArray) (w:World) (hk:key.size≤64) (ht:text.size≤900000) :
 Calls Tryz.prog 212 #[.string key,.string text] w fun e w'=>e=.returned (.agg (arrB (tagL key.data.toList text.data.toList)))∧Upd (fun _=>False) w w':=by
 obtain ⟨P1,hP1⟩:∃P,padK key.data.toList 54=P:=⟨_,rfl⟩;obtain ⟨P2,hP2⟩:∃P,padK key.data.toList 92=P:=⟨_,rfl⟩;have hl1:P1.length=64:=by rw [← hP1];exact padK_len (by show key.size≤64;exact hk)
 have hl2:P2.length=64:=by rw [← hP2];exact padK_len (by show key.size≤64;exact hk)
 have h1:∀W,key.size≤64→Calls Tryz.prog 249 #[.string key,.int .u8 54] W fun e w'=>e=.returned (.string (str (padK key.data.toList 54)))∧Upd (fun _=>False) W w':=pad_c key 54
 have h2:∀W,key.size≤64→Calls Tryz.prog 249 #[.string key,.int .u8 92] W fun e w'=>e=.returned (.string (str (padK key.data.toList 92)))∧Upd (fun _=>False) W w':=pad_c key 92
 rw [hP1] at h1;rw [hP2] at h2;have H1:=Lib.hid (fun W=>h1 W hk);have H2:=Lib.hid (fun W=>h2 W hk);obtain ⟨T1,hT1⟩:=eqx (str P1++text);have hT1l:T1.data.toList=P1++text.data.toList:=by rw [← hT1,ByteArray.data_append,Array.toList_append,str_list]
 have hT1s:T1.size=64+text.size:=by rw [← hT1,ByteArray.size_append,str_size,hl1]
 obtain ⟨I,hI⟩:=eqx (shaL T1.data.toList);have hIl:I.length=32:=by rw [← hI];exact shaL_len _
 obtain ⟨T2,hT2⟩:=eqx (str P2++str I);have hT2l:T2.data.toList=P2++I:=by rw [← hT2,ByteArray.data_append,Array.toList_append,str_list,str_list]
 have hT2s:T2.size=96:=by rw [← hT2,ByteArray.size_append,str_size,str_size,hl2,hIl]
 obtain ⟨O,hO⟩:=eqx (tagL key.data.toList text.data.toList);have hO2:shaL T2.data.toList=O:=by rw [← hO,hT2l];unfold tagL;rw [hP1,hP2,← hT1l,hI]
 have hOl:O.length=32:=by rw [← hO];exact tagL_len _ _
 rw [hO];have hs1:(9223372036854775807<(str P1).size+text.size)=False:=by rw [str_size,hl1];simp;omega
 have hs2:(9223372036854775807<(str P2).size+(str I).size)=False:=by rw [str_size,str_size,hl2,hIl];simp
 have HT1:=h3k hT1 hT1s hI;have HT2:=h3k hT2 hT2s hO2;have HL:=h2k hIl hOl;have HS2:=Lib.hid hs2;clear hP1 hP2 hl1 hl2 h1 h2 hT1 hT1l hT1s hI hIl hT2 hT2l hT2s hO hO2 hOl hs2;go_enter Tryz.func212,Tryz.ntmps212
 go_wp2_with fail
 generalize hw1:w.alloc (Obj.cells _ _)=w1;have hU1:Upd (fun _=>False) w w1:=by rw [← hw1];exact (Upd.refl _ w).alloc _
 have hO1:Blk w1 w.heap.size 189 (arrB (List.replicate 32 0)):=by rw [← hw1];exact Blk.new w _ _
 have HW1:=h2k hU1 hO1;clear hw1 hU1 hO1;refine (H1.out _).mono ?_;rintro e w2 ⟨rfl,hU2⟩;have HU2:=Lib.hid hU2;clear hU2;go_wp2_with fail
 rw [HT1.out.1];refine (hash_c T1 (by rw [HT1.out.2.1];omega) w2).mono ?_;rintro e w3 ⟨rfl,hU3⟩;rw [HT1.out.2.2];have HU3:=Lib.hid (HU2.out.then hU3 wz0);clear hU3 hs1;obtain ⟨g,hg⟩:=eqx w.heap.size;have HG:=Lib.hid hg;rw [hg];clear hg;go_wp2_with (first
  | (show wpList _ _ _ (⟨none,_,_,_,_,_⟩::_) _ _
     refine wpList_store_all rfl 189 _ _ rfl w3.heap.size (arrB I) rfl rfl 189 _ (Blk.new w3 _ _) (by rw [arrB_size,HL.out.1];rfl) (arrB_one _) (by rw [arrB_size,HL.out.1];kernel_rfl) ?_
     intro w4 hB4 hU4 hz4))
 obtain ⟨g5,hg5⟩:=eqx w3.heap.size;have hu4:Upd (fun _=>False) w3 w4:=((Upd.refl (fun _=>False) w3).alloc _).then hU4 (fun q hq=>.inr oM);rw [hg5] at hB4 ⊢;have hO4:Blk w4 g 189 (arrB (List.replicate 32 0)):=by rw [← HG.out];exact HW1.out.2.upd (HU3.out.then hu4 wz0) (fun e=>e)
 have HW4:=h3k ((HW1.out.1.then HU3.out wz0).then hu4 wz0) hB4 hO4;have hs2:=HS2.out;clear hU4 hz4 hu4 hO4 hg5 hB4;refine wp_region_noPanic ?_;refine wp_region_T (S:=fun w'=>Upd (fun _=>False) w4 w') (T:=fun k=>k == 6) kR ?_;have hS0:=(Upd.refl (fun _=>False) w4).drew;refine tQ 0 (fun w' hSw=>conv_arr (HW4.out.2.1.upd hSw (fun e=>e)) 32 32 HL.out.1) ?_;refine tQ 2 (fun w' hSw=>conv_arr (HW4.out.2.1.upd hSw (fun e=>e)) 32 32 HL.out.1) ?_;refine tQ 3 (fun w' hSw=>conv_arr (HW4.out.2.1.upd hSw (fun e=>e)) 32 32 HL.out.1) ?_;refine wo1 1 (fun K hK=>?_);go_simp
 refine (H2.out _).mono ?_;rintro e w5 ⟨rfl,hU5⟩;have hS5:=hS0.then hU5 wz0;refine hK.out _ _ hS5 ?_;clear hK hU5;refine tK 4 ?_;refine wo1 5 (fun K hK=>?_);go_simp
 rw [HT2.out.1];refine (hash_c T2 (by rw [HT2.out.2.1];omega) w5).mono ?_;rintro e w6 ⟨rfl,hU6⟩;rw [HT2.out.2.2];have hS6:=hS5.then hU6 wz0;refine hK.out _ _ hS6 ?_;clear hK hU6;refine woT 6 (fun K hK=>?_);refine step_store_all (by rfl) 189 _ _ (by rfl) g (arrB O) (by rfl) (by rfl) _ _ (HW4.out.2.2.upd hS6 (fun e=>e)) (by rw [arrB_size,arrB_size,HL.out.2];rfl) (arrB_one _) (by rw [arrB_size,HL.out.2];kernel_rfl) ?_
 intro w7 hB7 hU7 hz7;refine hK.out _ _ ?_;refine wdn ?_;refine NoPanic.normal ?_;have hfin:=(HW4.out.1.then hS6 wz0).then hU7 (fun q hq=>.inr (oN HG.out));have HF:=h2k hfin hB7;clear hfin hB7 hU7 hz7 hK hS0 hS5 hS6 hs2;go_wp2_with fail
 refine bodyPost_ret (results_cell_row rfl _ _ g _ _ _ _ rfl HF.out.2 Tryz.underlying189 rfl (by rw [arrB_size,HL.out.2];kernel_rfl)) rfl ⟨rfl,HF.out.1⟩
theorem mkey_c (key:List UInt8) (label:ByteArray) (w:World) (hk:key.length=32) (hl:label.size≤900000) :
 Calls Tryz.prog 211 #[.agg (arrB key),.string label] w fun e w'=>e=.returned (.agg (arrB (tagL key label.data.toList)))∧Upd (fun _=>False) w w':=by
 obtain ⟨O,hO⟩:=eqx (tagL key label.data.toList);have hOl:O.length=32:=by rw [← hO];exact tagL_len _ _
 have ht:=fun W=>tag_c (str key) label W (by rw [str_size];omega) hl
 rw [str_list,hO] at ht;rw [hO];have HT:=Lib.hid ht;have HL:=h2k hk hOl;clear hO hOl ht hk;obtain ⟨g,hg⟩:=eqx w.heap.size;have HG:=Lib.hid hg;go_enter Tryz.func211,Tryz.ntmps211
 go_wp2_with fail
 generalize hw2:World.alloc _ _=w2;have hB2:Blk w2 g 194 (arrB key):=by rw [← hw2,← hg];exact (Blk.new w _ _).alloc _
 have hO2:Blk w2 (g+1) 194 (arrB (List.replicate 32 0)):=by
  have h:=Blk.new (w.alloc (.cells (arrB key) 194)) 194 (arrB (List.replicate 32 0));rw [World.size_alloc,hg] at h;rw [← hw2];exact h
 have hU2:Upd (fun _=>False) w w2:=by rw [← hw2];exact ((Upd.refl _ w).alloc _).alloc _
 have hcv:=conv_arr hB2 32 32 HL.out.1;have HW2:=h2k hO2 hU2;rw [hcv];clear hB2 hO2 hU2 hcv hw2 hg;go_wp2_with fail
 refine (HT.out _).mono ?_;rintro e w3 ⟨rfl,hU3⟩;have HU3:=Lib.hid hU3;clear hU3;go_wp2_with (first
  | (show wpList _ _ _ (⟨none,_,_,_,_,_⟩::_) _ _
     refine wpList_store_all rfl 194 _ _ rfl (g+1) (arrB O) rfl rfl 194 _ (HW2.out.1.upd HU3.out (fun e=>e)) (by rw [arrB_size,arrB_size,HL.out.2];rfl) (arrB_one _) (by rw [arrB_size,HL.out.2];kernel_rfl) ?_
     intro w4 hB4 hU4 hz4))
 refine bodyPost_ret (results_cell_row rfl _ _ (g+1) _ _ _ _ rfl hB4 Tryz.underlying194 rfl (by rw [arrB_size,HL.out.2];kernel_rfl)) rfl ⟨rfl,(HW2.out.2.then HU3.out wz0).then hU4 (fun q hq=>.inr (oN HG.out))⟩
theorem or_zero8 (a b:UInt8):a ||| b=0↔a=0∧b=0:=by
 constructor
 ·intro h
  have h1:=congrArg UInt8.toNat h;rw [UInt8.toNat_or] at h1;have h2:a.toNat=0∧b.toNat=0:=by
   have e:=Nat.or_eq_zero_iff.1 h1;exact e
  exact ⟨UInt8.toNat.inj h2.1,UInt8.toNat.inj h2.2⟩
 ·rintro ⟨rfl,rfl⟩
  rfl
theorem xor_zero8 (a b:UInt8):a ^^^ b=0↔a=b:=by
 constructor
 ·intro h
  have:a ^^^ b ^^^ b=0 ^^^ b:=by rw [h]
  rw [UInt8.xor_assoc,UInt8.xor_self,UInt8.xor_zero,UInt8.zero_xor] at this;exact this
 ·rintro rfl
  exact UInt8.xor_self
theorem orB (a b:UInt8):bits .or .u8 (a.toNat:Int) (b.toNat:Int)=((a ||| b).toNat:Int):=by rw [u8_or_nat _ _ a.toNat_lt b.toNat_lt,UInt8.toNat_or]
theorem equal_c (x y : List UInt8) (w : World) (hx:x.length=32) (hy:y.length=32) :
 Calls Tryz.prog 222 #[.agg (arrB x),.agg (arrB y)] w fun e w'=>e=.returned (.bool (decide (x=y)))∧Upd (fun _=>False) w w':=by
 have HL:=h2k hx hy;obtain ⟨g,hg⟩:=eqx w.heap.size;clear hx hy;go_enter Tryz.func222,Tryz.ntmps222
 go_wp2_with fail
 generalize hw2:World.alloc _ _=w2;have hB2:Blk w2 g 189 (arrB x):=by rw [← hw2,← hg];exact (Blk.new w _ _).alloc _
 have hC2:Blk w2 (g+1) 189 (arrB y):=by
  have h:=Blk.new (w.alloc (.cells (arrB x) 189)) 189 (arrB y);rw [World.size_alloc,hg] at h;rw [← hw2];exact h
 have hU2:Upd (fun _=>False) w w2:=by rw [← hw2];exact ((Upd.refl _ w).alloc _).alloc _
 have HW2:=h3k hB2 hC2 hU2;clear hB2 hC2 hU2 hw2 hg;go_loopw [5,7] (fun d u wr=>∃(k:Nat) (z:UInt8),k≤32∧u=.int .i64 (k:Int)∧d=.int .u8 (z.toNat:Int)∧(z=0↔x.take k=y.take k)∧Upd (fun _=>False) w2 wr) (fun _ u _=>32 - (intOf u).toNat)
 case atStart=>exact ⟨0,0,oM,rfl,rfl,sM,Upd.refl _ _⟩
 case round =>
  obtain ⟨k,z,hk,rfl,rfl,hz,hu⟩:=hrel;have HZ:=Lib.hid hz;by_cases hlt:k<32
  ·have c1:=(HW2.out.1.upd hu (fun e=>e)).cellB k (by rw [HL.out.1];exact hlt)
   have c2:=(HW2.out.2.1.upd hu (fun e=>e)).cellB k (by rw [HL.out.2];exact hlt);obtain ⟨a,ha⟩:=eqx (x.getD k 0);obtain ⟨b,hb⟩:=eqx (y.getD k 0);rw [ha] at c1;rw [hb] at c2;have HAB:=h2k ha hb;have HU:=Lib.hid hu;have hk1:(k:Int)<32:=oM;have e1:=xorB a b;have e2:=orB z (a ^^^ b);obtain ⟨ab,hab⟩:=eqx (a ^^^ b);rw [hab] at e1 e2;obtain ⟨z2,hz2⟩:=eqx (z ||| ab)
   rw [hz2] at e2;have HH:=h2k hab hz2;clear ha hb hu hz hab hz2;go_wp2_with fail
   go_quiet (fail)
   go_wp2_with fail
   go_roundw
   case rel =>
    refine ⟨k+1,z2,oM,by go_num,?_,?_,HU.out.drewN _⟩
    ·first | rfl | rw [e1,e2]
    ·rw [← HH.out.2,or_zero8,HZ.out,← HH.out.1,xor_zero8,List.take_succ_eq_append_getElem (by rw [HL.out.1];exact hlt),List.take_succ_eq_append_getElem (by rw [HL.out.2];exact hlt)]
     have ea:x[k]'(by rw [HL.out.1];exact hlt)=a:=by rw [← HAB.out.1,List.getD_eq_getElem?_getD,List.getElem?_eq_getElem];rfl
     have eb:y[k]'(by rw [HL.out.2];exact hlt)=b:=by rw [← HAB.out.2,List.getD_eq_getElem?_getD,List.getElem?_eq_getElem];rfl
     rw [ea,eb];constructor
     ·rintro ⟨h1,h2⟩;rw [h1,h2]
     ·intro h
      have:=List.append_inj' h rfl;exact ⟨this.1,by simpa using this.2⟩
   case measure=>simp [intOf]<;>omega
  ·obtain rfl : k = 32 := oM
   have e32:((32:Nat):Int)=32:=rfl;rw [e32];have HU:=Lib.hid (HW2.out.2.2.then hu wz0);have hd:decide (x=y)=decide (z=0):=by
    have h:=HZ.out;rw [List.take_of_length_le (Nat.le_of_eq HL.out.1),List.take_of_length_le (Nat.le_of_eq HL.out.2)] at h;rw [Bool.eq_iff_iff];simp [h]
   have hd2 : ((z.toNat : Int) == 0) = decide (z=0):=by
    rw [Bool.eq_iff_iff];simp only [beq_iff_eq,decide_eq_true_eq];constructor
    ·intro h; exact UInt8.toNat.inj (by have:z.toNat=0:=oM
                                        rw [this];rfl)
    ·rintro rfl;rfl
   have HD:=h2k hd hd2;clear hu hz hd hd2 e32 hlt hk;go_wp2_with fail
   go_ret
   refine ⟨?_,HU.out⟩;rw [HD.out.1,← HD.out.2];first | rfl | (congr 1;done)
end
end Go.Proofs.YtbhjgfibhegddaaGreat
