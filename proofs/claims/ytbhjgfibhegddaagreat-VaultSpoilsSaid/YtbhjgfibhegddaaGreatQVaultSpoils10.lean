/-
  Parts of the proof of VaultSpoils: LogFirst, KeptPut, LogAdd.
-/
import Derived.Test.YtbhjgfibhegddaaGreatQVaultSpoils09
import Derived.Deep.RegionHeld3
import Derived.Outline
import Derived.WalkSpells
set_option maxRecDepth 100000
set_option maxHeartbeats 16000000
namespace Go.Proofs.YtbhjgfibhegddaaGreat
section
open Go Go.RowKit
theorem sector_g (p:Lp) (w:World) (hg:p.epoch<18446744073709551616∧p.salt<18446744073709551616∧p.ahead<18446744073709551616) (ht:p.text.length≤32) (hn:p.number<256) (ha:p.all<256) :
 Calls Tryz.prog 116 #[p.val] w fun e w'=>e=.returned (.string (str (closeL p.body)))∧Below w.heap.size w w':=by
 obtain ⟨i0,hi0,hz0,hz1,hz2⟩:=info_parts infoU8;have HB:Hid (p.body=leB p.epoch 8++leB p.salt 8++leB p.ahead 8++[UInt8.ofNat p.number,UInt8.ofNat p.all,UInt8.ofNat p.text.length,0]++p.text++List.replicate (32 - p.text.length) 0):=rfl;obtain ⟨ep,sa,ah,nu,al,tx⟩:=p;generalize (⟨ep,sa,ah,nu,al,tx⟩:Lp).body=bd at *;simp only [Lp.val] at *;have hsz:(str tx).size=tx.length:=str_size tx;go_enter Tryz.func116,Tryz.ntmps116
 go_wp2_with fail
 have hB0:Blk ((w.alloc (.cells #[.int .u64 (ep:Int),.int .u64 (sa:Int),.int .u64 (ah:Int),.int .i64 (nu:Int),.int .i64 (al:Int),.string (str tx)] 204)).alloc (.cells #[.int .u64 (ep:Int),.int .u64 (sa:Int),.int .u64 (ah:Int)] 112)) w.heap.size 204 #[.int .u64 (ep:Int),.int .u64 (sa:Int),.int .u64 (ah:Int),.int .i64 (nu:Int),.int .i64 (al:Int),.string (str tx)]:=(Blk.new w _ _).alloc _;have hB1:Blk ((w.alloc (.cells #[.int .u64 (ep:Int),.int .u64 (sa:Int),.int .u64 (ah:Int),.int .i64 (nu:Int),.int .i64 (al:Int),.string (str tx)] 204)).alloc (.cells #[.int .u64 (ep:Int),.int .u64 (sa:Int),.int .u64 (ah:Int)] 112)) (w.heap.size+1) 112 #[.int .u64 (ep:Int),.int .u64 (sa:Int),.int .u64 (ah:Int)]:=by
  have h:=Blk.new (w.alloc (.cells #[.int .u64 (ep:Int),.int .u64 (sa:Int),.int .u64 (ah:Int),.int .i64 (nu:Int),.int .i64 (al:Int),.string (str tx)] 204)) 112 #[.int .u64 (ep:Int),.int .u64 (sa:Int),.int .u64 (ah:Int)];simpa using h
 have hU0:Upd (fun _=>False) w ((w.alloc (.cells #[.int .u64 (ep:Int),.int .u64 (sa:Int),.int .u64 (ah:Int),.int .i64 (nu:Int),.int .i64 (al:Int),.string (str tx)] 204)).alloc (.cells #[.int .u64 (ep:Int),.int .u64 (sa:Int),.int .u64 (ah:Int)] 112)):=((Upd.refl _ w).alloc _).alloc _;have hsW:((w.alloc (.cells #[.int .u64 (ep:Int),.int .u64 (sa:Int),.int .u64 (ah:Int),.int .i64 (nu:Int),.int .i64 (al:Int),.string (str tx)] 204)).alloc (.cells #[.int .u64 (ep:Int),.int .u64 (sa:Int),.int .u64 (ah:Int)] 112)).heap.size=w.heap.size+2:=by simp
 have HW:=h4k hB0 hB1 hU0 hsW;clear hB0 hB1 hU0 hsW;generalize ((w.alloc (.cells #[.int .u64 (ep:Int),.int .u64 (sa:Int),.int .u64 (ah:Int),.int .i64 (nu:Int),.int .i64 (al:Int),.string (str tx)] 204)).alloc (.cells #[.int .u64 (ep:Int),.int .u64 (sa:Int),.int .u64 (ah:Int)] 112))=W at *;go_loopw [3,16] (fun v i wr=>∃k:Nat,k≤3∧i=.int .i64 k∧Own wr 5 1 v (8*k) (bytesV (([ep,sa,ah].take k).flatMap fun n=>leB n 8))∧Upd (fun _=>False) W wr∧(∀q,v.ownBlock=some q→W.heap.size≤q)) (fun _ i _=>3 - (intOf i).toNat)
 case atStart=>exact ⟨0,oM,rfl,Own.nil _ _ _,Upd.refl _ _,by simp [Value.ownBlock]⟩
 case round =>
  obtain ⟨k,hk,rfl,hO,hU,hl⟩:=hrel;by_cases hlt:k<3
  ·have hc:wr.cell? ⟨w.heap.size+1,k,none⟩=some (.int .u64 (([ep,sa,ah][k]'(by simpa using hlt):Nat):Int)):=by
    rw [(HW.out.2.1.upd hU (fun e=>e)).cell k];match k,hlt with
    | 0,_=>rfl
    | 1,_=>rfl
    | 2,_=>rfl
   have hstep:([ep,sa,ah].take (k+1)).flatMap (fun n=>leB n 8)=([ep,sa,ah].take k).flatMap (fun n=>leB n 8)++leB ([ep,sa,ah][k]'(by simpa using hlt)) 8:=by
    rw [List.take_succ_eq_append_getElem (by simpa using hlt),List.flatMap_append];simp
   have HX:=h3k hstep hU hl;clear hstep hU hl;generalize [ep,sa,ah][k]'(by simpa using hlt)=y at *;go_wp2_with fail
   refine (putLittle_log u3 (8*k) _ y 8 wr hO oM oM).mono ?_;rintro e w1 ⟨v1,rfl,hO1,hU1,hl1⟩;have H1:=h3k hO1 hU1 hl1;clear hO1 hU1 hl1 hc hO;go_wp2_with fail
   go_roundw
   case rel =>
    obtain ⟨hO1,hU1,hl1⟩:=H1.out;obtain ⟨hstep,hU,hl⟩:=HX.out;refine ⟨k+1,oM,by go_num,?_,hU.then hU1 (fun b e=>.inr (hl b e)),fun q hq=>?_⟩
    ·rw [hstep,bytesV_app,show 8*(k+1)=8*k+8 by omega]
     exact hO1
    ·rcases hl1 with h | ⟨q',h,hq'⟩
     ·exact hl q (by rw [← h];exact hq)
     ·rw [h] at hq
      have h5:=Option.some.inj hq;have:=hU.size;omega
   case measure=>simp [intOf];omega
  ·obtain rfl:k=3:=oM
   have hB1:=HW.out.1.upd hU (fun e=>e);have hc1:=hB1.cells6;have H1:=h4k ((HW.out.2.2.1).then hU wz0) hl hB1 hU.size;have h4:=Lib.hid (head4 nu al tx.length hn ha oM);have h24:(([ep,sa,ah].take 3).flatMap fun n=>leB n 8)=leB ep 8++leB sa 8++leB ah 8:=by simp
   rw [h24] at hO;have HR:Hid (∀W,Calls Tryz.prog 20 #[.string ⟨#[0]⟩,.int .i64 (32 - (tx.length:Int))] W fun e w'=>e=.returned (.string (str (List.replicate (32 - tx.length) 0)))∧Below W.heap.size W w'):=by
    intro W;have h:=Tryz.strings_Repeat ⟨#[0]⟩ (32 - tx.length) W oM (by show 1*_≤_;omega);rw [repeat_zero] at h;rw [show (32 - (tx.length:Int))=((32 - tx.length:Nat):Int) from by omega];exact h
   clear hU hl h24 hB1;go_wp2_with (first
    | (at_builtin
       refine wpList_append_src rfl _ _ _ _ rfl 5 i0 _ 1 1 Tryz.underlying89 hi0 hz0 hz1 hz2 rfl u3 24 _ rfl (hO.alloc _) _ 4 [.int .u8 (nu:Int),.int .u8 (al:Int),.int .u8 (tx.length:Int),.int .u8 0] rfl (Src.of_news Tryz.underlying89 _ rfl) (by simp [Value.oneCell']) (by unfold maxLen;omega) oM ?_;intro v2 w2 hO2 hU2 hl2 hs2;obtain ⟨hU1,hl1,hB1,hS1⟩:=H1.out;have hnb:=hB1.lt;have hB2:=(hB1.alloc _).upd hU2 (fun e=>by have:=hl1 _ e;have:=HW.out.2.2.2;omega);have hc2:=hB2.cells6;have hU2':Upd (fun _=>False) w w2:=(hU1.alloc _).then hU2 (fun b h=>.inr (oO (hl1 b h) HW.out.2.2.2));rw [← h4.out,← bytesV_app] at hO2;have H2:=h2k hU2' hB2;clear hU1 hl1 hB1 hU2 hl2 hs2 hB2 hU2' hO hc1 hnb hS1))
   generalize hL:leB ep 8++leB sa 8++leB ah 8++[UInt8.ofNat nu,UInt8.ofNat al,UInt8.ofNat tx.length,0]=L at hO2 HB;have hLl:L.length=28:=by rw [← hL];simp [leB_len]
   have hrun1:(convert 89 9 v2).run Tryz.prog w2.drew=.ok (.string (str L)) w2.drew:=run_to_string hO2.drew;have hls:(str L).size=28:=by rw [str_size,hLl]
   have hcat:=Lib.hid (str_app L tx);have hcat2:=Lib.hid (str_app (L++tx) (List.replicate (32 - tx.length) 0));have hsz2:(str (List.replicate (32 - tx.length) 0)).size=32 - tx.length:=by rw [str_size];simp
   have HO:=Lib.hid hO2;have hHL:=Lib.hid hL;have hw48:IntKind.i64.wrap (32 - (tx.length:Int))=32 - (tx.length:Int):=IntWalk.i64_in _ oM;have hle1:(9223372036854775807<28+tx.length)=False:=by simp;omega
   have hle2:(9223372036854775807<28+tx.length+(32 - tx.length))=False:=by simp;omega
   have hle3:(9223372036854775807<(str L).size+(str tx).size)=False:=by rw [hls,hsz];exact hle1
   have hle4:(9223372036854775807<(str L++str tx).size+(str (List.replicate (32 - tx.length) 0)).size)=False:=by rw [ByteArray.size_append,hls,hsz,hsz2];exact hle2
   clear hL hO2;go_region_held3 (fun w'=>w'.cell? ⟨w.heap.size,5,none⟩=some (.string (str tx))∧(convert 89 9 v2).run Tryz.prog w'=.ok (.string (str L)) w') (first | go_keep | (exact ⟨hc2.2.2.2.2.2,hrun1⟩))
    (first
    | (go_at_call 20
       refine (HR.out _).mono ?_;rintro e w4 ⟨rfl,hb4⟩;have hrun4:(convert 89 9 v2).run Tryz.prog w4=.ok (.string (str L)) w4:=run_to_string (HO.out.eqb fun q hq=>hb4.block q (HO.out.lt hq));have hc4:w4.cell? ⟨w.heap.size,5,none⟩=some (.string (str tx)):=(hb4.cell (p:=⟨w.heap.size,5,none⟩) H2.out.2.lt).trans hc2.2.2.2.2.2)
    | (go_at_call 157
       refine (Close_c _ _ (by rw [ByteArray.size_append,ByteArray.size_append,hls,hsz,hsz2];omega)).mono ?_;rintro e w5 ⟨rfl,hb5⟩;have hb45:Below w2.heap.size w2 w5:=(below_of_drew hb4).trans (hb5.mono (below_of_drew hb4).size);have hrun5:(convert 89 9 v2).run Tryz.prog w5=.ok (.string (str L)) w5:=run_to_string (HO.out.eqb fun q hq=>hb45.block q (HO.out.lt hq));have hc5:w5.cell? ⟨w.heap.size,5,none⟩=some (.string (str tx)):=(hb45.cell (p:=⟨w.heap.size,5,none⟩) H2.out.2.lt).trans hc2.2.2.2.2.2))
   all_goals go_wp2
   all_goals
    go_ret
    refine ⟨?_,?_⟩
    ·rw [HB.out,List.append_assoc]
     rfl
    ·have hb3:Below w.heap.size w w2:=H2.out.1.below (fun _ h=>h.elim)
     have hb4':Below w2.heap.size w2 w4:=below_of_drew hb4;exact hb3.trans ((hb4'.mono hb3.size).trans (hb5.mono (Nat.le_trans hb3.size hb4'.size)))
theorem fields_lp:(Tryz.prog.fieldsOf 204).toList.map (fun f=>(f.name == "_",f.type,f.offset))=[(false,112,0),(false,112,1),(false,112,2),(false,3,3),(false,3,4),(false,9,5)]:=kR
theorem lp_neq (p q:Lp) (W:World):(binOp .neq 204 p.val q.val).run Tryz.prog W=.ok (.bool (!decide (p=q))) W:=by
 rw [Lp.val,Lp.val,run_neq_struct,run_equalIn_agg _ _ _ _ _ kR kR];have hf:=fields_lp;generalize (Tryz.prog.fieldsOf 204).toList=fs at hf;obtain ⟨f0,f1,f2,f3,f4,f5,rfl⟩:∃f0 f1 f2 f3 f4 f5,fs=[f0,f1,f2,f3,f4,f5]:=by
  have hl:=congrArg List.length hf;match fs,hl with
  | [a,b,c,d,e,f],_=>exact ⟨a,b,c,d,e,f,rfl⟩
 simp only [List.map_cons,List.map_nil,List.cons.injEq,Prod.mk.injEq,beq_eq_false_iff_ne,and_true] at hf;obtain ⟨⟨a0,b0,c0⟩,⟨a1,b1,c1⟩,⟨a2,b2,c2⟩,⟨a3,b3,c3⟩,⟨a4,b4,c4⟩,⟨a5,b5,c5⟩⟩:=hf;obtain ⟨x0,x1,x2,x3,x4,t1⟩:=p;obtain ⟨y0,y1,y2,y3,y4,t2⟩:=q;have hq (n m:Nat):((n:Int) == (m:Int))=decide (n=m):=by
  by_cases h:n=m
  ·simp [h]
  ·rw [decide_eq_false h,beq_eq_false_iff_ne];omega
 have e1 (x y:Int) (W:World):(Op.equalIn 9999 112 (.int .u64 x) (.int .u64 y)).run Tryz.prog W=.ok (x == y) W:=run_equalIn_int W 9998 112 .u64 .u64 x y Tryz.underlying112;have e2 (x y:Int) (W:World):(Op.equalIn 9999 3 (.int .i64 x) (.int .i64 y)).run Tryz.prog W=.ok (x == y) W:=run_equalIn_int W 9998 3 .i64 .i64 x y Tryz.underlying3;have e3 (x y:ByteArray) (W:World):(Op.equalIn 9999 9 (.string x) (.string y)).run Tryz.prog W=.ok (x.toList == y.toList) W:=run_equalIn_string W 9998 9 x y Tryz.underlying9;have q1 (k:Nat) (xs:Array Value) (v:Value) (W:World) (h:xs[k]? = some v):(part 112 xs k).run Tryz.prog W=.ok v W:=run_part_plain (w:=W) kR h;have q2 (k:Nat) (xs:Array Value) (v:Value) (W:World) (h:xs[k]? = some v):(part 3 xs k).run Tryz.prog W=.ok v W:=run_part_plain (w:=W) kR h;have q3 (k:Nat) (xs:Array Value) (v:Value) (W:World) (h:xs[k]? = some v):(part 9 xs k).run Tryz.prog W=.ok v W:=run_part_plain (w:=W) kR h;simp only [Op.eqFields,a0,a1,a2,a3,a4,a5,b0,b1,b2,b3,b4,b5,c0,c1,c2,c3,c4,c5,Sem.run_bind,ne_eq,not_false_eq_true,if_true];rw [q1 0 _ (.int .u64 x0) _ rfl,Result.andThen_ok,q1 0 _ (.int .u64 y0) _ rfl,Result.andThen_ok,e1,Result.andThen_ok,hq]
 by_cases h0:x0=y0
 ·rw [decide_eq_true h0]
  simp only [Bool.not_true,Bool.false_eq_true,if_false,Sem.run_bind];rw [q1 1 _ (.int .u64 x1) _ rfl,Result.andThen_ok,q1 1 _ (.int .u64 y1) _ rfl,Result.andThen_ok,e1,Result.andThen_ok,hq];by_cases h1:x1=y1
  ·rw [decide_eq_true h1]
   simp only [Bool.not_true,Bool.false_eq_true,if_false,Sem.run_bind];rw [q1 2 _ (.int .u64 x2) _ rfl,Result.andThen_ok,q1 2 _ (.int .u64 y2) _ rfl,Result.andThen_ok,e1,Result.andThen_ok,hq];by_cases h2:x2=y2
   ·rw [decide_eq_true h2]
    simp only [Bool.not_true,Bool.false_eq_true,if_false,Sem.run_bind];rw [q2 3 _ (.int .i64 x3) _ rfl,Result.andThen_ok,q2 3 _ (.int .i64 y3) _ rfl,Result.andThen_ok,e2,Result.andThen_ok,hq];by_cases h3:x3=y3
    ·rw [decide_eq_true h3]
     simp only [Bool.not_true,Bool.false_eq_true,if_false,Sem.run_bind];rw [q2 4 _ (.int .i64 x4) _ rfl,Result.andThen_ok,q2 4 _ (.int .i64 y4) _ rfl,Result.andThen_ok,e2,Result.andThen_ok,hq];by_cases h4:x4=y4
     ·rw [decide_eq_true h4]
      simp only [Bool.not_true,Bool.false_eq_true,if_false,Sem.run_bind];rw [q3 5 _ (.string (str t1)) _ rfl,Result.andThen_ok,q3 5 _ (.string (str t2)) _ rfl,Result.andThen_ok,e3,Result.andThen_ok,str_beq];by_cases h5:t1=t2<;>simp [h0,h1,h2,h3,h4,h5]
     ·simp [h4]
    ·simp [h3]
   ·simp [h2]
  ·simp [h1]
 ·simp [h0]
theorem partsG_get (l:List Lp) (i:Nat) (hi:i<l.length) (j:Nat) (hj:j<6):(partsG l)[i*6+j]? = (Lp.cells l[i])[j]? := by
 induction l generalizing i with
 | nil=>simp at hi
 | cons p l ih =>
   have hp:(Lp.cells p).length=6:=rfl;have e:partsG (p::l)=Lp.cells p++partsG l:=rfl;rw [e];cases i with
   | zero=>rw [List.getElem?_append_left oM];simp
   | succ i =>
     rw [List.getElem?_append_right oM,hp,show (i+1)*6+j - 6=i*6+j by omega,ih i (by simpa using hi)];rfl
structure PartsAt (w:World) (v:Value) (l:List Lp):Prop where
 ex:∃A cap b off,v=.slice A l.length cap∧l.length≤cap∧cap≤maxLen∧(0<l.length→A=some ⟨b,off,none⟩∧b<w.heap.size)∧∀i (_:i<l.length) (j:Nat),j<6→w.cell? ⟨b,off+i*6+j,none⟩=(Lp.cells l[i])[j]?
theorem PartsAt.of_own {w:World} {v:Value} {l:List Lp} (h:Own w 204 6 v l.length (partsG l)):PartsAt w v l:=by
 by_cases h0:l.length=0
 ·obtain ⟨A,cap,e,h1,h2⟩:=h.shape
  exact ⟨A,cap,0,0,e,h1,h2,fun h=>by omega,fun i hi=>by omega⟩
 ·obtain ⟨g,cap,rfl,h1,h2⟩:=h.head oM
  refine ⟨_,cap,g,0,rfl,h1,h2,fun _=>⟨rfl,h.lt rfl⟩,fun i hi j hj=>?_⟩;rw [Nat.zero_add,h.cellAt (i*6+j) oM,partsG_get l i hi j hj]
theorem PartsAt.still {w w':World} {v:Value} {l:List Lp} (h:PartsAt w v l) (hu:Upd (fun _=>False) w w'):PartsAt w' v l:=by
 obtain ⟨A,cap,b,off,e,h1,h2,h3,h4⟩:=h.ex;refine ⟨A,cap,b,off,e,h1,h2,fun h0=>⟨(h3 h0).1,Nat.lt_of_lt_of_le (h3 h0).2 hu.size⟩,fun i hi j hj=>?_⟩;have h5:=(h3 oM).2;rw [World.cell?_of_block (w:=w) (a:=⟨b,off+i*6+j,none⟩) (hu.block b h5 (fun e=>e))];exact h4 i hi j hj
theorem equal_parts {v1 v2:Value} {l1 l2:List Lp} (w:World) (h1:PartsAt w v1 l1) (h2:PartsAt w v2 l2) :
 Calls Tryz.prog 208 #[v1,v2] w fun e w'=>e=.returned (.bool (decide (l1=l2)))∧Upd (fun _=>False) w w':=by
 have H1:=Lib.hid h1;have H2:=Lib.hid h2;obtain ⟨A1,cap1,b1,o1,rfl,m1,m2,a1,-⟩:=h1.ex;obtain ⟨A2,cap2,b2,o2,rfl,n1,n2,a2,-⟩:=h2.ex;have hm1:l1.length≤9223372036854775807:=by unfold maxLen at m2;omega
 have hm2:l2.length≤9223372036854775807:=by unfold maxLen at n2;omega
 clear h1 h2 a1 a2 m1 m2 n1 n2;by_cases hl:l1.length=l2.length
 ·have hl':((l1.length:Int) != (l2.length:Int))=false:=by rw [hl];simp
  have HL:=Lib.hid hl;clear hl;go_enter Tryz.func208,Tryz.ntmps208
  go_wp2_with fail
  go_loopw [13] (fun i wr=>∃k:Nat,k≤l1.length∧i=.int .i64 k∧l1.take k=l2.take k∧Upd (fun _=>False) w wr) (fun i _=>l1.length - (intOf i).toNat)
  case atStart=>exact ⟨0,oM,rfl,rfl,Upd.refl _ _⟩
  case round =>
   obtain ⟨k,hk,rfl,heq,hu⟩:=hrel;by_cases hlt:k<l1.length
   ·have hlt2:k<l2.length:=by rw [← HL.out];exact hlt
    obtain ⟨A1',cap1',b1',o1',e1,-,-,g1,c1⟩:=(H1.out.still hu).ex;obtain ⟨A2',cap2',b2',o2',e2,-,-,g2,c2⟩:=(H2.out.still hu).ex;injection e1 with e1a e1b e1c;injection e2 with e2a e2b e2c;subst e1a e2a e1c e2c;obtain ⟨rfl,-⟩:=g1 oM;obtain ⟨rfl,-⟩:=g2 oM;have x0:=c1 k hlt 0 oM;have x1:=c1 k hlt 1 oM;have x2:=c1 k hlt 2 oM;have x3:=c1 k hlt 3 oM;have x4:=c1 k hlt 4 oM;have x5:=c1 k hlt 5 oM;have y0:=c2 k hlt2 0 oM;have y1:=c2 k hlt2 1 oM;have y2:=c2 k hlt2 2 oM;have y3:=c2 k hlt2 3 oM;have y4:=c2 k hlt2 4 oM;have y5:=c2 k hlt2 5 oM;simp only [Nat.add_zero,Lp.cells,List.getElem?_cons_zero,List.getElem?_cons_succ] at x0 x1 x2 x3 x4 x5 y0 y1 y2 y3 y4 y5;have hne:=lp_neq l1[k] l2[k];simp only [Lp.val] at hne;have HX:=h3k heq hu hlt2;have hlt2':(k:Int)<(l2.length:Int):=oM;clear c1 c2 g1 g2 e1b e2b heq hu;by_cases hpq:l1[k]=l2[k]
    ·rw [decide_eq_true hpq] at hne
     simp only [Bool.not_true] at hne;have HP:=Lib.hid hpq;clear hpq;go_wp2_with fail
     go_region
     all_goals
      go_wp2_with fail
      go_roundw
      case rel =>
       refine ⟨k+1,oM,by go_num,?_,HX.out.2.1.drew⟩;have z1:=HX.out.1;have z2:=HP.out;rw [List.take_succ_eq_append_getElem hlt,List.take_succ_eq_append_getElem hlt2,z1,z2]
      case measure=>simp [intOf];omega
    ·rw [decide_eq_false hpq] at hne
     simp only [Bool.not_false] at hne;have hd:decide (l1=l2)=false:=by
      rw [decide_eq_false_iff_not];intro e;subst e;exact hpq rfl
     have Hd:=Lib.hid hd;clear hpq hd;go_wp2_with fail
     go_region
     all_goals
      go_wp2_with fail
      go_ret
      rw [Hd.out];exact ⟨rfl,HX.out.2.1.drew⟩
   ·obtain rfl:k=l1.length:=oM
    have hd:decide (l1=l2)=true:=by
     rw [decide_eq_true_eq];rw [List.take_of_length_le (Nat.le_refl _),List.take_of_length_le (by rw [HL.out];exact Nat.le_refl _)] at heq;exact heq
    have Hd:=Lib.hid hd;have HU:=Lib.hid hu;clear hd heq hu;go_wp2_with fail
    go_ret
    rw [Hd.out];exact ⟨rfl,HU.out⟩
 ·have hl':((l1.length:Int) != (l2.length:Int))=true:=by rw [bne_iff_ne];omega
  have hd:decide (l1=l2)=false:=by
   rw [decide_eq_false_iff_not];intro e;subst e;exact hl rfl
  rw [hd];clear hl hd;go_enter Tryz.func208,Tryz.ntmps208
  go_wp2_with fail
  go_ret
  exact ⟨rfl,Upd.refl _ _⟩
def textG (l:List Lp):List UInt8:=l.flatMap Lp.text
theorem textG_len (l:List Lp) (ht:∀p ∈ l,p.text.length≤32):(textG l).length≤32*l.length:=by
 induction l with
 | nil=>simp [textG]
 | cons p l ih =>
   have h1:=ht p sM;have h2:=ih (fun q hq=>ht q (by simp [hq]));simp only [textG,List.flatMap_cons,List.length_append,List.length_cons] at h2 ⊢;omega
theorem textG_take_succ (l:List Lp) (k:Nat) (hk:k<l.length):textG (l.take (k+1))=textG (l.take k)++l[k].text:=by
 rw [List.take_succ_eq_append_getElem hk,textG,List.flatMap_append];simp [textG]
def firstG (epoch last:Nat) (row:List Lp):List UInt8 × Bool :=
 match row with
 | []=>([],false)
 | p::r =>
   if (p::r).length<p.all then ([],false) else
   if 1024<(textG ((p::r).take p.all)).length then ([],false) else
   (textG ((p::r).take p.all),decide (partsOf (textG ((p::r).take p.all)).length≤(p::r).length∧cutG (textG ((p::r).take p.all)) epoch p.salt last=(p::r).take (partsOf (textG ((p::r).take p.all)).length)))
structure Lg where
 from_:Nat
 sectors:Nat
 epoch:Nat
 l:List ByteArray
 used:Nat
 last:Nat
 salt:Nat
 broken:Bool
def Lg.cells (p:Nat) (v:Value) (g:Lg):Array Value :=
 #[.pointer (some ⟨p,0,none⟩),.int .i64 g.from_,.int .i64 g.sectors,.int .u64 g.epoch,v,.int .i64 g.used,.int .u64 g.last,.int .u64 g.salt,.bool g.broken]
theorem PartsAt.take {w:World} {A:Option Addr} {n cap:Nat} {l:List Lp} (h:PartsAt w (.slice A n cap) l) (k:Nat) (hk:k≤l.length):PartsAt w (.slice A k cap) (l.take k):=by
 obtain ⟨A',cap',b,off,e,h1,h2,h3,h4⟩:=h.ex;injection e with e1 e2 e3;subst e1 e3;have hl:(l.take k).length=k:=by rw [List.length_take];omega
 refine ⟨A,cap,b,off,by rw [hl],oM,h2,fun h0=>h3 oM,fun i hi j hj=>?_⟩;rw [List.getElem_take];exact h4 i oM j hj
theorem first_g {w:World} {b p:Nat} {v0 v:Value} {g:Lg} {row:List Lp} (hB:Blk w b 199 (g.cells p v0)) (hR:PartsAt w v row) (hl:row.length≤5000) (ht:∀q ∈ row,q.text.length≤32) (ha:∀q ∈ row,q.all<256) :
 Calls Tryz.prog 160 #[.pointer (some ⟨b,0,none⟩),v] w fun e w'=>e=.returned (.tuple #[.string (str (firstG g.epoch g.last row).1),.bool (firstG g.epoch g.last row).2])∧Upd (fun _=>False) w w':=by
 have HR:=Lib.hid hR;have HB:=Lib.hid hB;obtain ⟨A,cap,b1,o1,rfl,m1,m2,a1,c1⟩:=hR.ex;have hcb:=hB.cells9;clear hR hB m1 m2;by_cases hn:row.length=0
 ·have hl0:row=[]:=List.length_eq_zero_iff.1 hn
  subst hl0;have hr:firstG g.epoch g.last []=([],false):=rfl;rw [hr];simp only [List.length_nil];clear a1 c1 hn ht ha hl;go_enter Tryz.func160,Tryz.ntmps160
  go_wp2_with fail
  go_ret2
  exact ⟨rfl,Upd.refl _ _⟩
 ·obtain ⟨rfl, -⟩ := a1 oM
  have h0:0<row.length:=oM;have hne:((row.length:Int) == 0)=false:=by rw [beq_eq_false_iff_ne];omega
  have hlt0:(0:Int)<(row.length:Int):=oM;have hc0:∀j,j<6→w.cell? ⟨b1,o1+j,none⟩=(Lp.cells row[0])[j]? := fun j hj=>by have:=c1 0 h0 j hj;simpa using this
  have x1:=hc0 1 oM;have x4:=hc0 4 oM;simp only [Lp.cells,List.getElem?_cons_zero,List.getElem?_cons_succ] at x1 x4;have hall:=ha row[0] (List.getElem_mem _);have HC:=Lib.hid c1;clear c1 hc0 a1;have hF:firstG g.epoch g.last row=if row.length<row[0].all then ([],false) else if 1024<(textG (row.take row[0].all)).length then ([],false) else
   (textG (row.take row[0].all),decide (partsOf (textG (row.take row[0].all)).length≤row.length∧cutG (textG (row.take row[0].all)) g.epoch row[0].salt g.last=row.take (partsOf (textG (row.take row[0].all)).length))):=by
   cases row with
   | nil=>simp at h0
   | cons q r=>rfl
  by_cases hbig:row.length<row[0].all
  ·have hbig':(row.length:Int)<(row[0].all:Int):=oM
   rw [if_pos hbig] at hF;have HF:=Lib.hid hF;clear hF hbig;go_enter Tryz.func160,Tryz.ntmps160
   go_wp2_with fail
   go_ret2
   rw [HF.out];exact ⟨rfl,Upd.refl _ _⟩
  ·have hbig' : ¬ (row.length:Int)<(row[0].all:Int):=oM
   rw [if_neg hbig] at hF;have HF:=Lib.hid hF;have HT:Hid (∀k,k≤row.length→(textG (row.take k)).length≤32*k):=by
    intro k hk;have h:=textG_len (row.take k) fun q hq=>ht q (List.mem_of_mem_take hq)
    rw [List.length_take,Nat.min_eq_left hk] at h;exact h
   have Ht:=Lib.hid ht;clear hF ht ha;go_enter Tryz.func160,Tryz.ntmps160
   go_wp2_with fail
   go_loopw [6,25] (fun t i wr=>∃k:Nat,k≤row[0].all∧i=.int .i64 k∧t=.string (str (textG (row.take k)))∧wr=w) (fun _ i _=>row[0].all - (intOf i).toNat)
   case atStart=>exact ⟨0,oM,rfl,rfl,rfl⟩
   case round =>
    obtain ⟨k,hk,rfl,rfl,rfl⟩:=hrel;by_cases hlt:k<row[0].all
    ·have hkl:k<row.length:=oM
     have hc:=HC.out k hkl 5 oM;simp only [Lp.cells,List.getElem?_cons_zero,List.getElem?_cons_succ] at hc;have hz1:(str (textG (row.take k))).size≤32*k:=by rw [str_size];exact HT.out k oM
     have hz2:(str row[k].text).size≤32:=by rw [str_size];exact Ht.out _ (List.getElem_mem _)
     have hcat:=str_app (textG (row.take k)) row[k].text;have hts:=Lib.hid (textG_take_succ row k hkl);go_wp2_with fail
     go_roundw
     case rel=>exact ⟨k+1,oM,by go_num,by rw [hts.out],trivial⟩
     case measure=>simp [intOf];omega
    ·obtain rfl : k=row[0].all:=oM
     have hTl:(textG (row.take row[0].all)).length≤32*256:=by have:=HT.out row[0].all oM;omega
     generalize textG (row.take row[0].all)=T at HF hTl ⊢;have hTs:(str T).size=T.length:=str_size T;by_cases h4:1024<T.length
     ·have h4':(1024:Int)<(str T).size:=oM
      go_wp2_with fail
      go_ret2
      rw [HF.out,if_pos h4];exact ⟨rfl,Upd.refl _ _⟩
     ·have h4' : ¬(1024:Int)<(str T).size:=oM
      rw [if_neg h4] at HF;have HCut:Hid (∀W,Calls Tryz.prog 114 #[.string (str T),.int .u64 (g.epoch:Int),.int .u64 (row[0].salt:Int),.int .u64 (g.last:Int)] W fun e w'=>∃v,e=.returned v∧Own w' 204 6 v (partsOf T.length) (partsG (cutG T g.epoch row[0].salt g.last))∧Below W.heap.size W w'∧(∀q,v.ownBlock=some q→W.heap.size≤q)):=by
       intro W;have h:=cutG_c (str T) g.epoch row[0].salt g.last W oM;rw [hTs] at h;exact h
      go_wp2_with fail
      go_region_held3 (fun w'=>w'.cell? ⟨b,3,none⟩=some (.int .u64 (g.epoch:Int))∧w'.cell? ⟨b,6,none⟩=some (.int .u64 (g.last:Int))∧w'.cell? ⟨b1,o1+1,none⟩=some (.int .u64 (row[0].salt:Int))) (first | go_keep)
       (first | (go_at_call 114
                 refine (HCut.out _).mono ?_;rintro e w2 ⟨v2,rfl,hO2,hb2,hl2⟩;obtain ⟨g2,cap2,rfl,hx1,hx2⟩:=hO2.head (by unfold partsOf;omega);have hUx:Upd (fun _=>False) wr w2:=Upd.of_below (below_of_drew hb2) _;have hcb2:=(HB.out.upd hUx (fun e=>e)).cells9;have hr2:w2.cell? ⟨b1,o1+1,none⟩=some (.int .u64 (row[0].salt:Int)):=(World.cell?_of_block (w:=wr) (a:=⟨b1,o1+1,none⟩) (hUx.block b1 (World.block_lt_of_cell? _ _ x1) (fun e=>e))).trans x1))
      all_goals
       have HO2:=h2k hO2 hUx;clear hO2 hUx hb2 hl2 hcb2 hr2;by_cases h5:partsOf T.length≤row.length
       ·have h5':((partsOf T.length:Nat):Int)≤(row.length:Int):=oM
        have hcl:=cutG_len T g.epoch row[0].salt g.last;have hP1:PartsAt w2 (.slice (some ⟨g2,0,none⟩) (partsOf T.length) cap2) (cutG T g.epoch row[0].salt g.last):=PartsAt.of_own (by rw [hcl];exact HO2.out.1);have hP2:=(HR.out.still HO2.out.2).take (partsOf T.length) h5;have HP:=h2k hP1 hP2;have hpc:(partsOf T.length:Int)≤(cap:Int):=by
         obtain ⟨_,_,_,_,e,q1,_⟩:=HR.out.ex;injection e with e1 e2 e3;omega
        have hd:(firstG g.epoch g.last row).2=decide (cutG T g.epoch row[0].salt g.last=row.take (partsOf T.length)):=by
         rw [HF.out];by_cases hq:cutG T g.epoch row[0].salt g.last=row.take (partsOf T.length)
         ·rw [decide_eq_true hq,decide_eq_true ⟨h5,hq⟩]
         ·rw [decide_eq_false hq,decide_eq_false (fun h=>hq h.2)]
        have Hd:=Lib.hid hd;clear hP1 hP2 hcl hd;go_wp2_with fail
        refine (equal_parts _ HP.out.1 HP.out.2).mono ?_;rintro e w3 ⟨rfl,hU3⟩;have HU3:=Lib.hid hU3;clear hU3;go_wp2_with fail
        go_ret2
        rw [Hd.out,HF.out];exact ⟨rfl,HO2.out.2.then HU3.out wz0⟩
       ·have h5':¬((partsOf T.length:Nat):Int)≤(row.length:Int):=oM
        have hd:(firstG g.epoch g.last row).2=false:=by
         rw [HF.out];exact decide_eq_false (fun h=>h5 h.1)
        have Hd:=Lib.hid hd;clear hd;go_wp2_with fail
        go_ret2
        rw [Hd.out,HF.out];exact ⟨rfl,HO2.out.2⟩
theorem Get_c {w:World} {p b:Nat} {k:Kp} (hK:Blk w b 209 (k.cells p)) :
 Calls Tryz.prog 120 #[.pointer (some ⟨b,0,none⟩)] w fun e w'=>e=.returned (.tuple #[.string (str k.text),.bool (decide (0<k.gen))])∧Below w.heap.size w w':=by
 have hc:=hK.cells7;have HB:=Lib.hid hK;clear hK;have hd:decide ((0:Int)<(k.gen:Int))=decide (0<k.gen):=by
  by_cases h:0<k.gen
  ·rw [decide_eq_true h,decide_eq_true oM]
  ·rw [decide_eq_false h,decide_eq_false oM]
 go_enter Tryz.func120,Tryz.ntmps120
 go_wp2_with fail
 go_region_held3 (fun w'=>w'.cell? ⟨b,2,none⟩=some (.string (str k.text))∧w'.cell? ⟨b,3,none⟩=some (.int .u64 (k.gen:Int))) (go_keep) (first | fail)
 all_goals go_wp2
 all_goals
  go_ret2
  exact ⟨rfl,(Below.refl _ _).drew⟩
def Pt.sec (p:Pt):ByteArray:=str (closeL p.body)
def writeN (d:Dk) (a:Nat) (l:List Pt):Nat→Dk × Int
 | 0=>(d,0)
 | j+1=>if (writeN d a l j).2≠0 then writeN d a l j else (writeN d a l j).1.write ((a+j:Nat):Int) (l.getD j ⟨0,0,0,[]⟩).sec
theorem writeN_stop {d:Dk} {a:Nat} {l:List Pt} {j m:Nat} (h:(writeN d a l j).2≠0) (hm:j≤m):writeN d a l m=writeN d a l j:=by
 induction m with
 | zero => obtain rfl:j=0:=oM
           rfl
 | succ m ih =>
   by_cases e:j=m+1
   ·rw [e]
   ·rw [writeN,ih oM,if_pos h]
theorem push_pend (d:Dk) (i:Nat) (b:ByteArray) (hi:i<d.waits.length):(d.push i b).pend=d.pend+1:=by
 unfold Dk.push Dk.pend Dk.at_;simp only
 generalize d.waits=l at *;induction l generalizing i with
 | nil=>simp at hi
 | cons x l ih =>
   cases i with
   | zero=>simp;omega
   | succ i =>
     have h:=ih i (by simpa using hi);simp only [List.getD_cons_succ] at h ⊢;simp only [List.set_cons_succ,List.map_cons,List.sum_cons];omega
theorem write_pend (d:Dk) (i:Int) (b:ByteArray) (hl:d.waits.length=d.lasts.length):(d.write i b).1.pend≤d.pend+1:=by
 unfold Dk.write;split
 ·simp
 ·split
  ·rename_i h
   split
   ·have hi:i.toNat<d.burn.1.waits.length:=by
     rw [Dk.burn_waits,hl];simp only [Dk.there,Bool.and_eq_true,decide_eq_true_eq] at h;omega
    rw [push_pend _ _ _ hi,Dk.burn_pend];omega
   ·rw [Dk.burn_pend];omega
  ·simp
theorem write_lasts (d:Dk) (i:Int) (b:ByteArray):(d.write i b).1.lasts=d.lasts:=by
 unfold Dk.write;split
 ·rfl
 ·split
  ·split
   ·exact Dk.burn_lasts d
   ·exact Dk.burn_lasts d
  ·rfl
theorem write_waits (d:Dk) (i:Int) (b:ByteArray):(d.write i b).1.waits.length=d.waits.length:=by
 unfold Dk.write;split
 ·rfl
 ·split
  ·split
   ·simp [Dk.push,Dk.burn_waits]
   ·rw [Dk.burn_waits]
  ·rfl
theorem writeN_same (d:Dk) (a:Nat) (l:List Pt) (hl:d.waits.length=d.lasts.length) (j:Nat) :
 (writeN d a l j).1.lasts=d.lasts∧(writeN d a l j).1.waits.length=d.waits.length∧(writeN d a l j).1.pend≤d.pend+j:=by
 induction j with
 | zero=>exact ⟨rfl,rfl,by simp [writeN]⟩
 | succ j ih =>
   rw [writeN];split
   ·exact ⟨ih.1,ih.2.1,oM⟩
   ·refine ⟨(write_lasts _ _ _).trans ih.1,(write_waits _ _ _).trans ih.2.1,?_⟩
    have h:=write_pend (writeN d a l j).1 ((a+j:Nat):Int) (l.getD j ⟨0,0,0,[]⟩).sec (by rw [ih.2.1,ih.1,hl]);omega
def putK (d:Dk) (k:Kp) (text:List UInt8):Dk × Kp × Int :=
 if k.broken then (d,k,11) else if 400<text.length then (d,k,3) else if k.seen=18446744073709551615 then (d,k,6) else
 if (writeN d (k.from_+(1 - k.at_)*10) (cutL text (k.seen+1)) (allOf text.length)).2≠0 then
  ((writeN d (k.from_+(1 - k.at_)*10) (cutL text (k.seen+1)) (allOf text.length)).1,{ k with broken:=true },(writeN d (k.from_+(1 - k.at_)*10) (cutL text (k.seen+1)) (allOf text.length)).2) else
 if (writeN d (k.from_+(1 - k.at_)*10) (cutL text (k.seen+1)) (allOf text.length)).1.sync.2≠0 then
  ((writeN d (k.from_+(1 - k.at_)*10) (cutL text (k.seen+1)) (allOf text.length)).1.sync.1,{ k with broken:=true },(writeN d (k.from_+(1 - k.at_)*10) (cutL text (k.seen+1)) (allOf text.length)).1.sync.2) else
 ((writeN d (k.from_+(1 - k.at_)*10) (cutL text (k.seen+1)) (allOf text.length)).1.sync.1,{ k with seen:=k.seen+1,text:=text,gen:=k.seen+1,at_:=1 - k.at_,broken:=false },0)
structure PutLeft (w w':World) (p b:Nat) (d:Dk) (k:Kp) (F:List Nat):Prop where
 disk:∃F',DiskAt w' p d F'∧∀q ∈ F',q ∈ F∨w.heap.size≤q
 kept:Blk w' b 209 (k.cells p)
 upd:Upd (fun q=>q=b∨q ∈ F) w w'
theorem Put_refused {w:World} {p b:Nat} {k:Kp} (hK:Blk w b 209 (k.cells p)) (s:ByteArray) (h:k.broken=true∨400<s.size∨k.seen=18446744073709551615) :
 Calls Tryz.prog 127 #[.pointer (some ⟨b,0,none⟩),.string s] w fun e w'=>e=.returned (.int .i64 (if k.broken then 11 else if 400<s.size then 3 else 6))∧w=w':=by
 have hc:=hK.cells7;clear hK;cases hb:k.broken
 ·rw [hb] at hc
  by_cases h4:400<s.size
  ·rw [if_neg sM,if_pos h4]
   have h4':(400:Int)<(s.size:Int):=oM;clear h hb;go_enter Tryz.func127,Tryz.ntmps127
   go_wp2
   go_ret
   exact ⟨rfl,rfl⟩
  ·rw [if_neg sM,if_neg h4]
   have h5:k.seen=18446744073709551615:=by
    rcases h with h | h | h
    ·rw [hb] at h;simp at h
    ·omega
    ·exact h
   rw [h5] at hc;have h4':¬(400:Int)<(s.size:Int):=oM;clear h hb h5;go_enter Tryz.func127,Tryz.ntmps127
   go_wp2
   go_ret
   exact ⟨rfl,rfl⟩
 ·rw [hb] at hc
  rw [if_pos rfl];clear h hb;go_enter Tryz.func127,Tryz.ntmps127
  go_wp2
  go_ret
  exact ⟨rfl,rfl⟩
theorem DiskAt.not_own {w:World} {p n size:Nat} {d:Dk} {F:List Nat} {e:TypeId} {v:Value} {xs:List Value} (h:DiskAt w p d F) (hO:Own w e size v n xs) (h1:e≠151) (h2:e≠9):∀q,v.ownBlock=some q→q ∉ F:=by
 obtain ⟨bl,cap,bm,m,g1,g2,g3,g4,g5,rfl,g7⟩:=h;intro q hq hb;rcases hO.2 with ⟨rfl,_⟩ | ⟨g,cp,cur,fr,rfl,hg,_⟩
 ·simp [Value.ownBlock] at hq
 ·obtain rfl:g=q:=by simpa [Value.ownBlock] using hq
  have own2:∀ {v2:Value} {n2:Nat} {xs2:List Value},Own w 9 1 v2 n2 xs2→v2.ownBlock=some g→False:=by
   intro v2 n2 xs2 h hv;rcases h.2 with ⟨rfl,_⟩ | ⟨g',cp',cur',fr',rfl,hg',_⟩
   ·simp [Value.ownBlock] at hv
   ·obtain rfl:g'=g:=by simpa [Value.ownBlock] using hv
    rw [hg] at hg';have h3:=Option.some.inj hg';injection h3 with _ h4;exact h2 h4
  simp only [List.mem_cons,List.mem_filterMap] at hb;rcases hb with rfl | rfl | rfl | ⟨x,hx,hk⟩
  ·exact hO.ne_blk g1 h1 (by simp [Value.ownBlock])
  ·exact own2 g2 (by simp [Value.ownBlock])
  ·exact hO.ne_map g3 (by simp [Value.ownBlock])
  ·obtain ⟨i,_,_,_,h8⟩:=g4.each x hx
   exact own2 h8 hk
structure Putting (w wr:World) (p b:Nat) (d:Dk) (k:Kp) (F F':List Nat) (v:Value) (l:List Pt):Prop where
 disk:DiskAt wr p d F'
 sub:∀q ∈ F',q ∈ F∨w.heap.size≤q
 kept:Blk wr b 209 (k.cells p)
 upd:Upd (fun q=>q=b∨q ∈ F) w wr
 list:Own wr 277 4 v l.length (partsV l)
theorem Putting.below {w w1 w2:World} {p b:Nat} {d:Dk} {k:Kp} {F F':List Nat} {v:Value} {l:List Pt} (h:Putting w w1 p b d k F F' v l) (hb:Below w1.heap.size w1 w2):Putting w w2 p b d k F F' v l :=
 ⟨h.disk.below hb,h.sub,h.kept.eqb (hb.block _ h.kept.lt),h.upd.then (Upd.of_below hb (fun _=>False)) wz0,h.list.eqb fun q hq=>hb.block q (h.list.lt hq)⟩
theorem Putting.wrote {w w1 w2:World} {p b:Nat} {d d2:Dk} {k:Kp} {F F' F2:List Nat} {v:Value} {l:List Pt} (h:Putting w w1 p b d k F F' v l) (hL:Left w1 w2 p d2 F' F2):Putting w w2 p b d2 k F F2 v l:=by
 have hs:=h.upd.size;refine ⟨hL.disk,fun q hq=>?_,h.kept.upd hL.upd (h.disk.not_mem h.kept dC dC),h.upd.then hL.upd (fun q e=>(h.sub q e).imp .inr id),h.list.upd hL.upd fun q hq=>h.disk.not_own h.list dC dC q hq⟩;rcases hL.sub q hq with e | e
 ·exact h.sub q e
 ·exact .inr oM
theorem cutL_get (t:List UInt8) (g j:Nat) (hj:j<(cutL t g).length):(cutL t g)[j].gen=g∧(cutL t g)[j].number=j∧(cutL t g)[j].all=allOf t.length∧(cutL t g)[j].text.length≤48:=by
 simp [cutL]
 omega
theorem Put_goes {w:World} {p b:Nat} {d:Dk} {F:List Nat} {k:Kp} (hD:DiskAt w p d F) (hK:Blk w b 209 (k.cells p)) (s:ByteArray)
 (hb:k.broken=false) (hs:s.size≤400) (hseen:k.seen<18446744073709551615) (hat:k.at_≤1) (hf:k.from_≤4096) (hp:d.pend+20<1000000) :
 Calls Tryz.prog 127 #[.pointer (some ⟨b,0,none⟩),.string s] w fun e w'=>e=.returned (.int .i64 (putK d k s.data.toList).2.2)∧PutLeft w w' p b (putK d k s.data.toList).1 (putK d k s.data.toList).2.1 F:=by
 have hc:=hK.cells7;have hz6:=hK.frozen 6;have hbF:=hD.not_mem hK dC dC;have hseen':((k.seen:Int) == 18446744073709551615)=false:=by rw [beq_eq_false_iff_ne];omega
 have hs':¬(400:Int)<(s.size:Int):=oM;have hsub:IntKind.i64.wrap (1 - (k.at_:Int))=((1 - k.at_:Nat):Int):=by rw [IntWalk.i64_in _ oM];omega
 have hsub':(1 - (k.at_:Int))=((1 - k.at_:Nat):Int):=oM;have HCut:Hid (∀W,Calls Tryz.prog 173 #[.string s,.int .u64 ((k.seen:Int)+1)] W fun e w'=>∃v,e=.returned v∧Own w' 277 4 v (allOf s.size) (partsV (cutL s.data.toList (k.seen+1)))∧Below W.heap.size W w'∧(∀q,v.ownBlock=some q→W.heap.size≤q)):=by
  intro W;have h:=cut_c s (k.seen+1) W oM;rw [show ((k.seen+1:Nat):Int)=(k.seen:Int)+1 from by omega] at h;exact h
 have hKb:Blk (w.setCell ⟨b,6,none⟩ (.bool true)) b 209 ({ k with broken:=true }.cells p):=by
  have h:=hK.set_ 6 (.bool true);simpa [Kp.cells] using h
 have hDb:DiskAt (w.setCell ⟨b,6,none⟩ (.bool true)) p d F:=hD.eqb fun q hq=>Below.heap_setCell w _ _ q (fun e=>hbF (by have e':q=b:=e;rw [← e'];exact hq))
 have hUb:Upd (fun q=>q=b∨q ∈ F) w (w.setCell ⟨b,6,none⟩ (.bool true)):=(Upd.refl _ w).setCell (p:=⟨b,6,none⟩) (.inl (.inl rfl)) _;have hcb:=hKb.cells7;have hsz:(w.setCell ⟨b,6,none⟩ (.bool true)).heap.size=w.heap.size:=by simp
 have HB:=h5k hKb hDb hUb hsz hbF;have hlt:=hK.lt;rw [hb] at hc;have HP:=h5k hb hs hseen hp hlt;clear hD hK hbF hKb hDb hUb hsz hb hp hlt;go_enter Tryz.func127,Tryz.ntmps127
 go_wp2_with (go_at_call 173;refine (HCut.out _).mono ?_;rintro e w1 ⟨v1,rfl,hO1,hb1,hl1⟩;obtain ⟨g1,cap1,rfl,hx1,hx2⟩:=hO1.head (by unfold allOf;omega));have hCs:s.data.toList.length=s.size:=by simp
 have hCl:(cutL s.data.toList (k.seen+1)).length=allOf s.size:=by rw [cutL_len,hCs]
 have hPut:Putting w w1 p b d { k with broken:=true } F F (.slice (some ⟨g1,0,none⟩) (allOf s.size) cap1) (cutL s.data.toList (k.seen+1)):=by
  obtain ⟨hKb,hDb,hUb,hsz,hbF⟩:=HB.out;refine ⟨hDb.below hb1,fun q hq=>.inl hq,hKb.eqb (hb1.block _ hKb.lt),hUb.then (Upd.of_below hb1 (fun _=>False)) wz0,?_⟩;rw [hCl];exact hO1
 have HPt:=Lib.hid hPut;have hA:allOf s.size≤9:=by unfold allOf;omega
 clear hO1 hb1 hl1 hPut hc hcb hz6;go_loopw [51] (fun i wr=>∃(j:Nat) (F':List Nat),j≤allOf s.size∧i=.int .i64 j∧(writeN d (k.from_+(1 - k.at_)*10) (cutL s.data.toList (k.seen+1)) j).2=0∧Putting w wr p b (writeN d (k.from_+(1 - k.at_)*10) (cutL s.data.toList (k.seen+1)) j).1 { k with broken:=true } F F' (.slice (some ⟨g1,0,none⟩) (allOf s.size) cap1) (cutL s.data.toList (k.seen+1))) (fun i _=>allOf s.size - (intOf i).toNat)
 case atStart=>exact ⟨0,F,oM,rfl,rfl,HPt.out⟩
 case round =>
  obtain ⟨j,F',hj,rfl,he,hL⟩:=hrel;by_cases hlt:j<allOf s.size
  ·have hjC:j<(cutL s.data.toList (k.seen+1)).length:=oM
   obtain ⟨c1,c2,c3,c4⟩:=cutL_get s.data.toList (k.seen+1) j hjC;have hsec:=Lib.hid (sector_c (cutL s.data.toList (k.seen+1))[j] (hg:=by rw [c1];have:=HP.out.2.2.1;omega) (ht:=c4) (hn:=by rw [c2];omega) (ha:=by rw [c3,hCs];omega));have hLl:=hL.list;rw [hCl] at hLl;have hp0:∀i,i<4→wr.cell? ⟨g1,j*4+i,none⟩=(Pt.cells (cutL s.data.toList (k.seen+1))[j])[i]? := by
    intro i hi;rw [hLl.cellAt (j*4+i) oM,partsV_get _ j hjC i hi]
   have hd0:=hp0 0 oM;have hd1:=hp0 1 oM;have hd2:=hp0 2 oM;have hd3:=hp0 3 oM;simp only [Nat.add_zero,Pt.cells,List.getElem?_cons_zero,List.getElem?_cons_succ] at hd0 hd1 hd2 hd3;have hws:=writeN_same d (k.from_+(1 - k.at_)*10) (cutL s.data.toList (k.seen+1)) HB.out.2.1.wf.len j;have hst:writeN d (k.from_+(1 - k.at_)*10) (cutL s.data.toList (k.seen+1)) (j+1)=(writeN d (k.from_+(1 - k.at_)*10) (cutL s.data.toList (k.seen+1)) j).1.write ((k.from_+(1 - k.at_)*10+j:Nat):Int) (cutL s.data.toList (k.seen+1))[j].sec:=by
    rw [writeN,if_neg (by rw [he];simp),List.getD_eq_getElem?_getD,List.getElem?_eq_getElem hjC]
    rfl
   have HW:=h4k hws hst he hL;have hto:(1 - k.at_:Nat)≤1:=oM;clear hp0 hLl hws hst he hL c1 c2 c3 c4;generalize (cutL s.data.toList (k.seen+1))[j]=pt at *;generalize hto2:(1 - k.at_:Nat)=to_ at *;have HTO:=Lib.hid hto2;clear hto2;have hs1:IntKind.i64.wrap ((to_:Int)*10)=(to_:Int)*10:=IntWalk.i64_in _ oM;have hs2:IntKind.i64.wrap ((k.from_:Int)+(to_:Int)*10)=(k.from_:Int)+(to_:Int)*10:=IntWalk.i64_in _ oM;have hs3:IntKind.i64.wrap ((k.from_:Int)+(to_:Int)*10+(j:Int))=(k.from_:Int)+(to_:Int)*10+(j:Int):=IntWalk.i64_in _ oM;go_wp2_with (first
    | (refine wsl 277 wr.heap.size #[.int .u64 pt.gen,.int .i64 pt.number,.int .i64 pt.all,.string (str pt.text)] (Blk.new wr 277 #[.int .u64 0,.int .i64 0,.int .i64 0,.string ⟨#[]⟩]) (part_one pt) ?_
       intro w4 hB4 hU4 hs4;have hb4:Below wr.heap.size wr w4:=⟨hU4.os,hU4.tape,hU4.output,by simp at hs4;omega,fun q hq=>(hU4.block q (by simp;omega) oM).trans (Below.heap_alloc wr _ q hq)⟩;have HP4:=h3k (HW.out.2.2.2.below hb4) hB4 hb4;have hc4:=hB4.cells4;have hk4:=HP4.out.1.kept.cells7;clear hB4 hU4 hs4 hb4 hd0 hd1 hd2 hd3))
   have hpw:=HP.out.2.2.2.1;have HSP:=Lib.hid (show ((k.from_:Int)+(to_:Int)*10+(j:Int))=((k.from_+to_*10+j:Nat):Int) by omega);go_region_held3 (fun w'=>w'.cell? ⟨b,0,none⟩=some (.pointer (some ⟨p,0,none⟩))∧w'.cell? ⟨b,1,none⟩=some (.int .i64 (k.from_:Int))∧w'.cell? ⟨wr.heap.size,0,none⟩=some (.int .u64 pt.gen)∧w'.cell? ⟨wr.heap.size,1,none⟩=some (.int .i64 pt.number)∧w'.cell? ⟨wr.heap.size,2,none⟩=some (.int .i64 pt.all)∧w'.cell? ⟨wr.heap.size,3,none⟩=some (.string (str pt.text)))
    (first | go_keep | (refine ⟨?_,?_,?_,?_,?_,?_⟩<;>simp [*]))
    (first
      | (go_at_call 186
         refine (hsec.out _).mono ?_;rintro e w5 ⟨rfl,hb5⟩;have hb5':Below w4.heap.size w4 w5:=below_of_drew hb5;have HP5:=h3k (HP4.out.1.below hb5') (HP4.out.2.1.eqb (hb5'.block _ HP4.out.2.1.lt)) (HP4.out.2.2.trans (hb5'.mono HP4.out.2.2.size));have hk5:=HP5.out.1.kept.cells7;have hc5:=HP5.out.2.1.cells4;clear hb5 hb5')
      | (go_at_call 115
         rw [HSP.out];refine (write_c HP5.out.1.disk _ _ (oN HW.out.1.2.2)).mono ?_;rintro e w6 ⟨rfl,F2,hW6⟩;have HP6:=h2k (HP5.out.1.wrote hW6) hW6;have hk6:=HP6.out.1.kept.cells7;have hc6:=(HP5.out.2.1.upd hW6.upd (fun e=>by have h1:=HW.out.2.2.2.disk.lt _ e;omega)).cells4;clear hW6))
   all_goals
    have hst':(writeN d (k.from_+to_*10) (cutL s.data.toList (k.seen+1)) j).1.write ((k.from_+to_*10+j:Nat):Int) (str (closeL pt.body))=writeN d (k.from_+to_*10) (cutL s.data.toList (k.seen+1)) (j+1):=HW.out.2.1.symm;have hst2:=hst';rw [← HSP.out] at hst2;rw [hst'] at HP6;rw [hst2];generalize hre:writeN d (k.from_+to_*10) (cutL s.data.toList (k.seen+1)) (j+1)=r at HP6 ⊢;have HRE:=Lib.hid hre;clear hst' hst2 hre hk6 hc6 hk5 hc5 hc4 hk4;by_cases hr:r.2=0
    ·rw [hr]
     go_wp2
     go_roundw
     case rel=>exact ⟨j+1,F2,oM,by go_num,by rw [HRE.out];exact hr,by rw [HRE.out];exact HP6.out.1⟩
     case measure=>simp [intOf];omega
    ·have hr':(r.2 != 0)=true:=by rw [bne_iff_ne];exact hr
     have HR:=Lib.hid hr;clear hr;have hk:putK d k s.data.toList=(r.1,{ k with broken:=true },r.2):=by
      have hns:writeN d (k.from_+(1 - k.at_)*10) (cutL s.data.toList (k.seen+1)) (allOf s.data.toList.length)=r:=by
       rw [hCs,HTO.out,writeN_stop (j:=j+1) (by rw [HRE.out];exact HR.out) oM,HRE.out]
      unfold putK;rw [HP.out.1,if_neg sM,if_neg oM,if_neg (oN HP.out.2.2.1),hns,if_pos HR.out]
     have HK:=Lib.hid hk;clear hk;go_wp2
     go_ret
     rw [HK.out];exact ⟨rfl,⟨F2,HP6.out.1.disk,HP6.out.1.sub⟩,HP6.out.1.kept,HP6.out.1.upd⟩
  ·obtain rfl:j=allOf s.size:=oM
   have hSy:=sync_c hL.disk;generalize hd1:writeN d (k.from_+(1 - k.at_)*10) (cutL s.data.toList (k.seen+1)) (allOf s.size)=r at *;have hput:putK d k s.data.toList=if r.1.sync.2≠0 then (r.1.sync.1,{ k with broken:=true },r.1.sync.2) else (r.1.sync.1,{ k with seen:=k.seen+1,text:=s.data.toList,gen:=k.seen+1,at_:=1 - k.at_,broken:=false },0):=by
    unfold putK;rw [HP.out.1,if_neg sM,if_neg oM,if_neg (oN HP.out.2.2.1),hCs,hd1,if_neg (by rw [he];simp)]
   have HL:=h2k hL he;have hk0:=hL.kept.cells7;clear hL he hd1 hCl hCs HPt;by_cases hr:r.1.sync.2=0
   ·rw [if_neg (by rw [hr];simp)] at hput
    rw [hr] at hSy;have HSy:=Lib.hid hSy;have HPu:=Lib.hid hput;clear hSy hput hr;go_wp2_with (go_at_call 117;refine HSy.out.mono ?_;rintro e w7 ⟨rfl,F3,hS⟩;have HP7:=Lib.hid (HL.out.1.wrote hS);have hk7:=HP7.out.kept.cells7;have hf2:=HP7.out.kept.frozen 2;have hf3:=HP7.out.kept.frozen 3;have hf4:=HP7.out.kept.frozen 4;have hf5:=HP7.out.kept.frozen 5;have hf6:=HP7.out.kept.frozen 6;clear hS);go_ret
    rw [HPu.out];have hnb:=HP7.out.disk.not_mem HP7.out.kept dC dC;have h:=((((HP7.out.kept.set_ 5 (.int .u64 ((k.seen:Int)+1))).set_ 2 (.string s)).set_ 3 (.int .u64 ((k.seen:Int)+1))).set_ 4 (.int .i64 ((1 - k.at_:Nat):Int))).set_ 6 (.bool false);refine ⟨rfl,⟨F3,HP7.out.disk.eqb fun q hq=>?_,HP7.out.sub⟩,?_,((((HP7.out.upd.setCell (p:=⟨b,5,none⟩) (.inl (.inl rfl)) _).setCell (p:=⟨b,2,none⟩) (.inl (.inl rfl)) _).setCell (p:=⟨b,3,none⟩) (.inl (.inl rfl)) _).setCell (p:=⟨b,4,none⟩) (.inl (.inl rfl)) _).setCell (p:=⟨b,6,none⟩) (.inl (.inl rfl)) _⟩
    ·have hne:q≠b:=fun e=>hnb (e ▸ hq)
     rw [Below.heap_setCell _ _ _ q hne,Below.heap_setCell _ _ _ q hne,Below.heap_setCell _ _ _ q hne,Below.heap_setCell _ _ _ q hne,Below.heap_setCell _ _ _ q hne]
    ·have he:(str s.data.toList)=s:=str_eta s
     simp only [Kp.cells,List.setIfInBounds_toArray,List.set_cons_zero,List.set_cons_succ] at h;simp only [Kp.cells,he];exact h
   ·rw [if_pos hr] at hput
    have hr':(r.1.sync.2 != 0)=true:=by rw [bne_iff_ne];exact hr
    have HSy:=Lib.hid hSy;have HPu:=Lib.hid hput;clear hSy hput hr;go_wp2_with (go_at_call 117;refine HSy.out.mono ?_;rintro e w7 ⟨rfl,F3,hS⟩;have HP7:=Lib.hid (HL.out.1.wrote hS);clear hS);go_ret
    rw [HPu.out];exact ⟨rfl,⟨F3,HP7.out.disk,HP7.out.sub⟩,HP7.out.kept,HP7.out.upd⟩
structure LogAt (w:World) (p b:Nat) (g:Lg):Prop where
 ex:∃v,Blk w b 199 (g.cells p v)∧Own w 9 1 v g.l.length (strs g.l)
section
variable {w w':World} {p b:Nat} {g:Lg}
end
theorem slice_some (A:Option Addr) (n c:Nat) (w:World) (T:TypeId) (t:TypeId) (hT:Tryz.prog.underlying T=some (.slice t)):(binOp .eql T (.slice A n c) (.slice none 0 0)).run Tryz.prog w=.ok (.bool A.isNone) w :=
 Lib.run_eql_slice_nil w T t A n c 0 0 hT
theorem lnone_c {w:World} {p b:Nat} {g:Lg} (h:LogAt w p b g) :
 Calls Tryz.prog 111 #[.pointer (some ⟨b,0,none⟩)] w fun e w'=>e=.returned (.bool false)∧w=w':=by
 obtain ⟨v,h1,-⟩:=h.ex;have hc:=h1.cells9;clear h h1;go_enter Tryz.func111,Tryz.ntmps111
 go_wp2
 go_ret
 exact ⟨rfl,rfl⟩
theorem room_c {w:World} {p b:Nat} {g:Lg} (h:LogAt w p b g) (hu:g.used≤g.sectors) (hs:g.sectors≤5000) :
 Calls Tryz.prog 113 #[.pointer (some ⟨b,0,none⟩)] w fun e w'=>e=.returned (.int .i64 ((g.sectors - g.used:Nat):Int))∧w.drew=w':=by
 have HN:=Lib.hid (lnone_c h);obtain ⟨v,h1,-⟩:=h.ex;have hc:=h1.cells9;have hsub:(g.sectors:Int) - (g.used:Int)=((g.sectors - g.used:Nat):Int):=oM;have HS:=Lib.hid hsub;have hw:IntKind.i64.wrap ((g.sectors:Int) - (g.used:Int))=(g.sectors:Int) - (g.used:Int):=IntWalk.i64_in _ oM;clear h h1 hsub;go_enter Tryz.func113,Tryz.ntmps113
 go_wp2_with (go_at_call 111;refine HN.out.mono ?_;rintro e w' ⟨rfl,rfl⟩);go_region_held3 (fun w'=>w'.cell? ⟨b,2,none⟩=some (.int .i64 (g.sectors:Int))∧w'.cell? ⟨b,5,none⟩=some (.int .i64 (g.used:Int))) (go_keep) (first | fail)
 all_goals go_wp2_with fail
 all_goals
  go_ret
  exact ⟨by rw [← HS.out];rfl,rfl⟩
theorem clone_o {w:World} {v:Value} {l:List ByteArray} (h:Own w 9 1 v l.length (strs l)) (hl:l.length≤5000) :
 Calls Tryz.prog 184 #[v] w fun e w'=>∃v',e=.returned v'∧Own w' 9 1 v' l.length (strs l)∧Upd (fun _=>False) w w'∧(∀q,v'.ownBlock=some q→w.heap.size≤q):=by
 obtain ⟨i0,hi0,hz0,hz1,hz2⟩:=info_parts infoStr;have H:=Lib.hid h;obtain ⟨A,cap,e,h1,h2⟩:=h.shape;subst e;clear h;cases A with
 | none =>
   have hnil:=fun W=>slice_some none l.length cap W 147 _ Tryz.underlying147
   simp only [Option.isNone_none] at hnil;go_enter Tryz.func184,Tryz.ntmps184
   go_wp2_with fail
   go_ret
   refine ⟨_,rfl,?_,Upd.refl _ _,by simp [Value.ownBlock]⟩;rcases H.out.2 with ⟨e,h0⟩ | ⟨g,c,cur,fr,e,_⟩
   ·have hl0:l=[]:=List.eq_nil_of_length_eq_zero h0
    subst hl0;exact Own.nil _ _ _
   ·simp at e
 | some a =>
   have hnil:=fun W=>slice_some (some a) l.length cap W 147 _ Tryz.underlying147
   simp only [Option.isNone_some] at hnil;go_enter Tryz.func184,Tryz.ntmps184
   have hO0:Own (w.alloc (.cells #[] 9)) 9 1 (.slice (some ⟨w.heap.size,0,none⟩) 0 0) 0 []:=⟨sM,.inr ⟨w.heap.size,0,#[],(0,0),rfl,heap_alloc_new w _,.inl rfl,Nat.le_refl _,sM,rfl,rfl⟩⟩;have HO0:=Lib.hid hO0;clear hO0
   go_wp2_with (at_builtin
                refine wpList_append_src rfl _ _ _ _ rfl 9 i0 _ 1 16 Tryz.underlying147 hi0 hz0 hz1 hz2 rfl _ 0 _ rfl HO0.out _ l.length (strs l) rfl (Src.of_own Tryz.underlying147 (H.out.alloc _)) (strs_one l) (by unfold maxLen;omega) oM ?_;intro v' w2 hO2 hU2 hl2 hs2;have H2:=h3k hO2 hU2 hl2;clear hO2 hU2 hl2 hs2)
   go_ret
   obtain ⟨hO2,hU2,hl2⟩:=H2.out;refine ⟨v',rfl,by simpa using hO2,((Upd.refl _ w).alloc _).then hU2 (fun b e=>.inr (by have e2:=Option.some.inj (show some w.heap.size=some b from e);omega)),fun q hq=>?_⟩;rcases hl2 with e | e
   ·rw [e] at hq
    have:=Option.some.inj (show some w.heap.size=some q from hq);omega
   ·rw [e] at hq
    have:=Option.some.inj hq;simp at this
    omega
theorem records_c {w:World} {p b:Nat} {g:Lg} (h:LogAt w p b g) (hl:g.l.length≤5000) :
 Calls Tryz.prog 125 #[.pointer (some ⟨b,0,none⟩)] w fun e w'=>∃v',e=.returned v'∧Own w' 9 1 v' g.l.length (strs g.l)∧Upd (fun _=>False) w w'∧(∀q,v'.ownBlock=some q→w.heap.size≤q):=by
 have HN:=Lib.hid (lnone_c h);obtain ⟨v,h1,h2⟩:=h.ex;have hc:=h1.cells9;have HC:=Lib.hid (clone_o h2 hl);clear h h1 h2;go_enter Tryz.func125,Tryz.ntmps125
 go_wp2_with (first
  | (go_at_call 111;refine HN.out.mono ?_;rintro e w' ⟨rfl,rfl⟩)
  | (go_at_call 184;refine HC.out.mono ?_;rintro e w' ⟨v',rfl,h3,h4,h5⟩;have H3:=h3k h3 h4 h5;clear h3 h4 h5))
 go_ret
 exact ⟨_,rfl,H3.out.1,H3.out.2.1,H3.out.2.2⟩
def Lp.sec (p:Lp):ByteArray:=str (closeL p.body)
def writeB (d:Dk) (a:Nat) (l:List ByteArray):Nat→Dk × Int
 | 0=>(d,0)
 | j+1=>if (writeB d a l j).2≠0 then writeB d a l j else (writeB d a l j).1.write ((a+j:Nat):Int) (l.getD j ByteArray.empty)
theorem writeB_stop {d:Dk} {a:Nat} {l:List ByteArray} {j m:Nat} (h:(writeB d a l j).2≠0) (hm:j≤m):writeB d a l m=writeB d a l j:=by
 induction m with
 | zero => obtain rfl:j=0:=oM
           rfl
 | succ m ih =>
   by_cases e:j=m+1
   ·rw [e]
   ·rw [writeB,ih oM,if_pos h]
theorem writeB_same (d:Dk) (a:Nat) (l:List ByteArray) (hl:d.waits.length=d.lasts.length) (j:Nat) :
 (writeB d a l j).1.lasts=d.lasts∧(writeB d a l j).1.waits.length=d.waits.length∧(writeB d a l j).1.pend≤d.pend+j:=by
 induction j with
 | zero=>exact ⟨rfl,rfl,by simp [writeB]⟩
 | succ j ih =>
   rw [writeB];split
   ·exact ⟨ih.1,ih.2.1,oM⟩
   ·refine ⟨(write_lasts _ _ _).trans ih.1,(write_waits _ _ _).trans ih.2.1,?_⟩
    have h:=write_pend (writeB d a l j).1 ((a+j:Nat):Int) (l.getD j ByteArray.empty) (by rw [ih.2.1,ih.1,hl]);omega
def secsG (g:Lg) (text:List UInt8):List ByteArray:=(cutG text g.epoch (g.salt+1) g.last).map Lp.sec
theorem secsG_len (g:Lg) (text:List UInt8):(secsG g text).length=partsOf text.length:=by rw [secsG,List.length_map,cutG_len]
def wroteG (d:Dk) (g:Lg) (text:List UInt8):Dk × Int:=writeB d (g.from_+g.used) (secsG g text) (partsOf text.length)
def addG (d:Dk) (g:Lg) (s:ByteArray):Dk × Lg × Int :=
 if g.broken then (d,g,11) else if 1024<s.size then (d,g,3) else if g.sectors - g.used<partsOf s.size∨g.salt=18446744073709551615 then (d,g,6) else
 if (wroteG d g s.data.toList).2≠0 then ((wroteG d g s.data.toList).1,{ g with broken:=true },(wroteG d g s.data.toList).2) else
 if (wroteG d g s.data.toList).1.sync.2≠0 then ((wroteG d g s.data.toList).1.sync.1,{ g with broken:=true },(wroteG d g s.data.toList).1.sync.2) else
 ((wroteG d g s.data.toList).1.sync.1,{ g with salt:=g.salt+1,last:=g.salt+1,broken:=false,l:=g.l++[s],used:=g.used+partsOf s.size },0)
structure AddLeft (w w':World) (p b:Nat) (d:Dk) (g:Lg) (F:List Nat) (v:Value):Prop where
 ex:∃F' v',DiskAt w' p d F'∧(∀q ∈ F',q ∈ F∨w.heap.size≤q)∧Blk w' b 199 (g.cells p v')∧Own w' 9 1 v' g.l.length (strs g.l) ∧
  (∀q,v'.ownBlock=some q→v.ownBlock=some q∨w.heap.size≤q)∧(∀q,v'.ownBlock=some q→q ∉ F')
 upd:Upd (fun q=>q=b∨q ∈ F∨v.ownBlock=some q) w w'
structure Adding (w wr:World) (p b:Nat) (d:Dk) (g:Lg) (F F':List Nat) (v pv:Value) (l:List Lp):Prop where
 disk:DiskAt wr p d F'
 sub:∀q ∈ F',q ∈ F∨w.heap.size≤q
 log:Blk wr b 199 (g.cells p v)
 own:Own wr 9 1 v g.l.length (strs g.l)
 old:∀q,v.ownBlock=some q→q<w.heap.size
 sep:∀q,v.ownBlock=some q→q ∉ F'
 upd:Upd (fun q=>q=b∨q ∈ F) w wr
 list:Own wr 204 6 pv l.length (partsG l)
theorem Adding.below {w w1 w2:World} {p b:Nat} {d:Dk} {g:Lg} {F F':List Nat} {v pv:Value} {l:List Lp} (h:Adding w w1 p b d g F F' v pv l) (hb:Below w1.heap.size w1 w2):Adding w w2 p b d g F F' v pv l :=
 ⟨h.disk.below hb,h.sub,h.log.eqb (hb.block _ h.log.lt),h.own.eqb fun q hq=>hb.block q (h.own.lt hq),h.old,h.sep,h.upd.then (Upd.of_below hb (fun _=>False)) wz0,h.list.eqb fun q hq=>hb.block q (h.list.lt hq)⟩
theorem Adding.wrote {w w1 w2:World} {p b:Nat} {d d2:Dk} {g:Lg} {F F' F2:List Nat} {v pv:Value} {l:List Lp} (h:Adding w w1 p b d g F F' v pv l) (hL:Left w1 w2 p d2 F' F2):Adding w w2 p b d2 g F F2 v pv l:=by
 have hs:=h.upd.size;refine ⟨hL.disk,fun q hq=>?_,h.log.upd hL.upd (h.disk.not_mem h.log dC dC),h.own.upd hL.upd h.sep,h.old,fun q hq hq2=>?_,h.upd.then hL.upd (fun q e=>(h.sub q e).imp .inr id),h.list.upd hL.upd fun q hq=>h.disk.not_own h.list dC dC q hq⟩
 ·rcases hL.sub q hq with e | e
  ·exact h.sub q e
  ·exact .inr oM
 ·rcases hL.sub q hq2 with e | e
  ·exact h.sep q hq e
  ·have:=h.old q hq
   omega
theorem Adding.left {w wr:World} {p b:Nat} {d:Dk} {g:Lg} {F F':List Nat} {v pv:Value} {l:List Lp} (h:Adding w wr p b d g F F' v pv l):AddLeft w wr p b d g F v :=
 ⟨⟨F',v,h.disk,h.sub,h.log,h.own,fun _ hq=>.inl hq,h.sep⟩,h.upd.mono (fun _ e=>.inl (e.imp id .inl))⟩
theorem Add_goes {w:World} {p b:Nat} {d:Dk} {F:List Nat} {g:Lg} {v:Value} (hD:DiskAt w p d F) (hB:Blk w b 199 (g.cells p v)) (hO:Own w 9 1 v g.l.length (strs g.l)) (hsep:∀q,v.ownBlock=some q→q ∉ F) (s:ByteArray)
 (hb:g.broken=false) (hs:s.size≤1024) (hr:partsOf s.size≤g.sectors - g.used) (hsalt:g.salt<18446744073709551615) (hf:g.from_≤5000) (hse:g.sectors≤5000) (hu:g.used≤g.sectors) (hgl:g.l.length≤5000) (hep:g.epoch<18446744073709551616) (hla:g.last<18446744073709551616) (hp:d.pend+40<1000000) :
 Calls Tryz.prog 58 #[.pointer (some ⟨b,0,none⟩),.string s] w fun e w'=>e=.returned (.int .i64 (addG d g s).2.2)∧AddLeft w w' p b (addG d g s).1 (addG d g s).2.1 F v:=by
 obtain ⟨i0,hi0,hz0,hz1,hz2⟩:=info_parts infoStr;have hLA:LogAt w p b g:=⟨v,hB,hO⟩;have HNo:=Lib.hid (lnone_c hLA);have HRo:=Lib.hid (room_c hLA hu hse);have hbF:=hD.not_mem hB dC dC;have hvb:v.ownBlock≠some b:=hO.ne_blk hB dC;have hc:=hB.cells9;have hz8:=hB.frozen 8;have hA:partsOf s.size≤33:=by unfold partsOf;omega
 have hA1:1≤partsOf s.size:=by unfold partsOf;omega
 have hs':¬(1024:Int)<(s.size:Int):=oM;have hr':¬((g.sectors - g.used:Nat):Int)<((partsOf s.size:Nat):Int):=oM;have hsalt':((g.salt:Int) == 18446744073709551615)=false:=by rw [beq_eq_false_iff_ne];omega
 have HCut:Hid (∀W,Calls Tryz.prog 114 #[.string s,.int .u64 (g.epoch:Int),.int .u64 ((g.salt:Int)+1),.int .u64 (g.last:Int)] W fun e w'=>∃v,e=.returned v∧Own w' 204 6 v (partsOf s.size) (partsG (cutG s.data.toList g.epoch (g.salt+1) g.last))∧Below W.heap.size W w'∧(∀q,v.ownBlock=some q→W.heap.size≤q)):=by
  intro W;have h:=cutG_c s g.epoch (g.salt+1) g.last W oM;rw [show ((g.salt+1:Nat):Int)=(g.salt:Int)+1 from by omega] at h;exact h
 have hBb:Blk ((w.setCell ⟨b,8,none⟩ (.bool true)).drew) b 199 ({ g with broken:=true }.cells p v):=by
  have h:=(hB.set_ 8 (.bool true)).drew;simpa [Lg.cells] using h
 have hDb:DiskAt ((w.setCell ⟨b,8,none⟩ (.bool true)).drew) p d F:=(hD.eqb (w':=w.setCell ⟨b,8,none⟩ (.bool true)) fun q hq=>Below.heap_setCell w _ _ q (fun e=>hbF (by have e':q=b:=e;rw [← e'];exact hq))).drew;have hUb:Upd (fun q=>q=b∨q ∈ F) w ((w.setCell ⟨b,8,none⟩ (.bool true)).drew):=((Upd.refl _ w).setCell (p:=⟨b,8,none⟩) (.inl (.inl rfl)) _).drew;have hOb:Own ((w.setCell ⟨b,8,none⟩ (.bool true)).drew) 9 1 v g.l.length (strs g.l):=(hO.far (p:=⟨b,8,none⟩) hvb _).drew;have HB:=h7k hBb hDb hUb hOb hbF hvb hsep;have HV:=Lib.hid (fun q (hq:v.ownBlock=some q)=>hO.lt hq);rw [hb] at hc;have HP:=h8k hb hs hr hsalt hp hB.lt hep hla;clear hD hB hO hsep hLA hbF hvb hBb hDb hUb hOb hb hp;go_enter Tryz.func58,Tryz.ntmps58
 go_wp2_with fail
 refine HNo.out.mono ?_;rintro e w' ⟨rfl,rfl⟩;go_wp2_with fail
 refine (parts_c s _ oM).mono ?_;rintro e w' ⟨rfl,rfl⟩;go_wp2_with fail
 refine HRo.out.mono ?_;rintro e w' ⟨rfl,rfl⟩;go_wp2_with fail
 have hcb:=HB.out.1.cells9;have hsw:IntKind.u64.wrap ((g.salt:Int)+1)=(g.salt:Int)+1:=by
  simp only [IntKind.wrap,IntKind.bits,IntKind.signed];simp
  omega
 have HC0 := Lib.hid hc;clear hc hz8;generalize (w.setCell ⟨b,8,none⟩ (.bool true)).drew=W at *;go_region_held3 (fun w'=>w'.cell? ⟨b,3,none⟩=some (.int .u64 (g.epoch:Int))∧w'.cell? ⟨b,6,none⟩=some (.int .u64 (g.last:Int))∧w'.cell? ⟨b,7,none⟩=some (.int .u64 (g.salt:Int))) (first | go_keep)
  (first | (go_at_call 114
            refine (HCut.out _).mono ?_;rintro e w1 ⟨v1,rfl,hO1,hb1,hl1⟩;obtain ⟨g1,cap1,rfl,hx1,hx2⟩:=hO1.head oM;have hb1':Below W.heap.size W w1:=below_of_drew hb1;have hk1:=(HB.out.1.eqb (hb1'.block _ HB.out.1.lt)).cells9;have H1:=h2k hO1 hb1';clear hO1 hb1 hl1 hb1'))
 all_goals
  have hCs:s.data.toList.length=s.size:=by simp
  have hCl:(cutG s.data.toList g.epoch (g.salt+1) g.last).length=partsOf s.size:=by rw [cutG_len,hCs]
  have hAd:Adding w w1 p b d { g with broken:=true } F F v (.slice (some ⟨g1,0,none⟩) (partsOf s.size) cap1) (cutG s.data.toList g.epoch (g.salt+1) g.last):=by
   obtain ⟨hBb,hDb,hUb,hOb,hbF,hvb,hsep⟩:=HB.out;obtain ⟨hO1,hb1⟩:=H1.out;refine ⟨hDb.below hb1,fun q hq=>.inl hq,hBb.eqb (hb1.block _ hBb.lt),hOb.eqb fun q hq=>hb1.block q (hOb.lt hq),HV.out,hsep,hUb.then (Upd.of_below hb1 (fun _=>False)) wz0,?_⟩;rw [hCl];exact hO1
  have HAd:=Lib.hid hAd;clear hAd hcb hk1;go_wp2_with fail
  go_loopw [53] (fun i wr=>∃(j:Nat) (F':List Nat),j≤partsOf s.size∧i=.int .i64 j∧(writeB d (g.from_+g.used) (secsG g s.data.toList) j).2=0∧Adding w wr p b (writeB d (g.from_+g.used) (secsG g s.data.toList) j).1 { g with broken:=true } F F' v (.slice (some ⟨g1,0,none⟩) (partsOf s.size) cap1) (cutG s.data.toList g.epoch (g.salt+1) g.last)) (fun i _=>partsOf s.size - (intOf i).toNat)
  case atStart=>exact ⟨0,F,oM,rfl,rfl,HAd.out⟩
  case round =>
   obtain ⟨j,F',hj,rfl,he,hL⟩:=hrel;by_cases hlt:j<partsOf s.size
   ·have hjC:j<(cutG s.data.toList g.epoch (g.salt+1) g.last).length:=oM
    obtain ⟨c0,c1,c2,c3,c4,c5⟩:=cutG_get s.data.toList g.epoch (g.salt+1) g.last j hjC;have hsec:=Lib.hid (fun W=>sector_g (cutG s.data.toList g.epoch (g.salt+1) g.last)[j] W (by rw [c0,c1,c2];have:=HP.out.2.2.2.2.2.2;omega) c5 (by rw [c3];omega) (by rw [c4,hCs];omega));have hLl:=hL.list;rw [hCl] at hLl;have hp0:∀i,i<6→wr.cell? ⟨g1,j*6+i,none⟩=(Lp.cells (cutG s.data.toList g.epoch (g.salt+1) g.last)[j])[i]? := by
     intro i hi;rw [hLl.cellAt (j*6+i) oM,partsG_get _ j hjC i hi]
    have hd0:=hp0 0 oM;have hd1:=hp0 1 oM;have hd2:=hp0 2 oM;have hd3:=hp0 3 oM;have hd4:=hp0 4 oM;have hd5:=hp0 5 oM;simp only [Nat.add_zero,Lp.cells,List.getElem?_cons_zero,List.getElem?_cons_succ] at hd0 hd1 hd2 hd3 hd4 hd5;have hws:=writeB_same d (g.from_+g.used) (secsG g s.data.toList) HB.out.2.1.wf.len j;have hst:writeB d (g.from_+g.used) (secsG g s.data.toList) (j+1)=(writeB d (g.from_+g.used) (secsG g s.data.toList) j).1.write ((g.from_+g.used+j:Nat):Int) (cutG s.data.toList g.epoch (g.salt+1) g.last)[j].sec:=by
     rw [writeB,if_neg (by rw [he];simp),List.getD_eq_getElem?_getD,secsG,List.getElem?_map,List.getElem?_eq_getElem hjC]
     rfl
    have HW:=h4k hws hst he hL;clear hp0 hLl hws hst he hL c0 c1 c2 c3 c4 c5;generalize (cutG s.data.toList g.epoch (g.salt+1) g.last)[j]=pt at *;have hs1:IntKind.i64.wrap ((g.from_:Int)+(g.used:Int))=(g.from_:Int)+(g.used:Int):=IntWalk.i64_in _ oM;have hs2:IntKind.i64.wrap ((g.from_:Int)+(g.used:Int)+(j:Int))=(g.from_:Int)+(g.used:Int)+(j:Int):=IntWalk.i64_in _ oM;go_wp2_with (first
     | (refine wsl 204 wr.heap.size #[.int .u64 pt.epoch,.int .u64 pt.salt,.int .u64 pt.ahead,.int .i64 pt.number,.int .i64 pt.all,.string (str pt.text)] (Blk.new wr 204 #[.int .u64 0,.int .u64 0,.int .u64 0,.int .i64 0,.int .i64 0,.string ⟨#[]⟩]) (by simp [Value.oneCell']) ?_
        intro w4 hB4 hU4 hs4;have hb4:Below wr.heap.size wr w4:=⟨hU4.os,hU4.tape,hU4.output,by simp at hs4;omega,fun q hq=>(hU4.block q (by simp;omega) oM).trans (Below.heap_alloc wr _ q hq)⟩;have HP4:=h3k (HW.out.2.2.2.below hb4) hB4 hb4;have hc4:=hB4.cells6;have hk4:=HP4.out.1.log.cells9;clear hB4 hU4 hs4 hb4 hd0 hd1 hd2 hd3 hd4 hd5))
    have HSP:=Lib.hid (show ((g.from_:Int)+(g.used:Int)+(j:Int))=((g.from_+g.used+j:Nat):Int) by omega);go_region_held3 (fun w'=>w'.cell? ⟨b,0,none⟩=some (.pointer (some ⟨p,0,none⟩))∧w'.cell? ⟨b,1,none⟩=some (.int .i64 (g.from_:Int))∧w'.cell? ⟨b,5,none⟩=some (.int .i64 (g.used:Int))∧w'.cell? ⟨wr.heap.size,0,none⟩=some (.int .u64 pt.epoch)∧w'.cell? ⟨wr.heap.size,1,none⟩=some (.int .u64 pt.salt)∧w'.cell? ⟨wr.heap.size,2,none⟩=some (.int .u64 pt.ahead)∧w'.cell? ⟨wr.heap.size,3,none⟩=some (.int .i64 pt.number)∧w'.cell? ⟨wr.heap.size,4,none⟩=some (.int .i64 pt.all)∧w'.cell? ⟨wr.heap.size,5,none⟩=some (.string (str pt.text)))
     (first | go_keep | (refine ⟨?_,?_,?_,?_,?_,?_,?_,?_,?_⟩<;>simp [*]))
     (first
       | (go_at_call 116
          refine (hsec.out _).mono ?_;rintro e w5 ⟨rfl,hb5⟩;have hb5':Below w4.heap.size w4 w5:=below_of_drew hb5;have HP5:=h3k (HP4.out.1.below hb5') (HP4.out.2.1.eqb (hb5'.block _ HP4.out.2.1.lt)) (HP4.out.2.2.trans (hb5'.mono HP4.out.2.2.size));have hk5:=HP5.out.1.log.cells9;have hc5:=HP5.out.2.1.cells6;clear hb5 hb5')
       | (go_at_call 115
          rw [HSP.out];refine (write_c HP5.out.1.disk _ _ (oO HW.out.1.2.2 HP.out.2.2.2.2.1)).mono ?_;rintro e w6 ⟨rfl,F2,hW6⟩;have HP6:=h2k (HP5.out.1.wrote hW6) hW6;have hk6:=HP6.out.1.log.cells9;have hc6:=(HP5.out.2.1.upd hW6.upd (fun e=>by have h1:=HW.out.2.2.2.disk.lt _ e;omega)).cells6;clear hW6))
    all_goals
     have hst':(writeB d (g.from_+g.used) (secsG g s.data.toList) j).1.write ((g.from_+g.used+j:Nat):Int) (str (closeL pt.body))=writeB d (g.from_+g.used) (secsG g s.data.toList) (j+1):=HW.out.2.1.symm;have hst2:=hst';rw [← HSP.out] at hst2;rw [hst'] at HP6;rw [hst2];generalize hre:writeB d (g.from_+g.used) (secsG g s.data.toList) (j+1)=r at HP6 ⊢;have HRE:=Lib.hid hre;clear hst' hst2 hre hk6 hc6 hk5 hc5 hc4 hk4;by_cases hr:r.2=0
     ·rw [hr]
      go_wp2
      go_roundw
      case rel=>exact ⟨j+1,F2,oM,by go_num,by rw [HRE.out];exact hr,by rw [HRE.out];exact HP6.out.1⟩
      case measure=>simp [intOf];omega
     ·have hr':(r.2 != 0)=true:=by rw [bne_iff_ne];exact hr
      have HR:=Lib.hid hr;clear hr;have hk:addG d g s=(r.1,{ g with broken:=true },r.2):=by
       have hns:wroteG d g s.data.toList=r:=by
        rw [wroteG,hCs,writeB_stop (j:=j+1) (by rw [HRE.out];exact HR.out) oM,HRE.out]
       unfold addG;rw [HP.out.1,if_neg sM,if_neg oM,if_neg (oN HP.out.2.2),hns,if_pos HR.out]
      have HK:=Lib.hid hk;clear hk;go_wp2
      go_ret
      rw [HK.out];exact ⟨rfl,HP6.out.1.left⟩
   ·obtain rfl:j=partsOf s.size:=oM
    have hSy:=sync_c hL.disk;generalize hd1:writeB d (g.from_+g.used) (secsG g s.data.toList) (partsOf s.size)=r at *;have hput:addG d g s=if r.1.sync.2≠0 then (r.1.sync.1,{ g with broken:=true },r.1.sync.2) else (r.1.sync.1,{ g with salt:=g.salt+1,last:=g.salt+1,broken:=false,l:=g.l++[s],used:=g.used+partsOf s.size },0):=by
     have hns:wroteG d g s.data.toList=r:=by rw [wroteG,hCs,hd1]
     unfold addG;rw [HP.out.1,if_neg sM,if_neg oM,if_neg (oN HP.out.2.2),hns,if_neg (by rw [he];simp)]
    have HL:=h2k hL he;have hk0:=hL.log.cells9;clear hL he hd1 hCl hCs HAd;by_cases hr:r.1.sync.2=0
    ·rw [if_neg (by rw [hr];simp)] at hput
     rw [hr] at hSy;have HSy:=Lib.hid hSy;have HPu:=Lib.hid hput;clear hSy hput hr;go_wp2_with (go_at_call 117;refine HSy.out.mono ?_;rintro e w7 ⟨rfl,F3,hS⟩;have HP7:=Lib.hid (HL.out.1.wrote hS);have hk7:=HP7.out.log.cells9;have hf6:=HP7.out.log.frozen 6;have hf7:=HP7.out.log.frozen 7;have hf8:=HP7.out.log.frozen 8;clear hS);have hnb:=HP7.out.disk.not_mem HP7.out.log dC dC;have hvb:=HP7.out.own.ne_blk HP7.out.log dC;have hB8:Blk (((w7.setCell ⟨b,7,none⟩ (.int .u64 ((g.salt:Int)+1))).setCell ⟨b,6,none⟩ (.int .u64 ((g.salt:Int)+1))).setCell ⟨b,8,none⟩ (.bool false)) b 199 ({ g with salt:=g.salt+1,last:=g.salt+1,broken:=false }.cells p v):=by
      have h:=((HP7.out.log.set_ 7 (.int .u64 ((g.salt:Int)+1))).set_ 6 (.int .u64 ((g.salt:Int)+1))).set_ 8 (.bool false);simp only [Lg.cells,List.setIfInBounds_toArray,List.set_cons_zero,List.set_cons_succ] at h;exact h
     have hD8:DiskAt (((w7.setCell ⟨b,7,none⟩ (.int .u64 ((g.salt:Int)+1))).setCell ⟨b,6,none⟩ (.int .u64 ((g.salt:Int)+1))).setCell ⟨b,8,none⟩ (.bool false)) p r.1.sync.1 F3:=HP7.out.disk.eqb fun q hq=>by
      have hne:q≠b:=fun e=>hnb (e ▸ hq)
      rw [Below.heap_setCell _ _ _ q hne,Below.heap_setCell _ _ _ q hne,Below.heap_setCell _ _ _ q hne]
     have hO8:Own (((w7.setCell ⟨b,7,none⟩ (.int .u64 ((g.salt:Int)+1))).setCell ⟨b,6,none⟩ (.int .u64 ((g.salt:Int)+1))).setCell ⟨b,8,none⟩ (.bool false)) 9 1 v g.l.length (strs g.l):=((HP7.out.own.far (p:=⟨b,7,none⟩) hvb _).far (p:=⟨b,6,none⟩) hvb _).far (p:=⟨b,8,none⟩) hvb _;have hU8:Upd (fun q=>q=b∨q ∈ F) w (((w7.setCell ⟨b,7,none⟩ (.int .u64 ((g.salt:Int)+1))).setCell ⟨b,6,none⟩ (.int .u64 ((g.salt:Int)+1))).setCell ⟨b,8,none⟩ (.bool false)):=((HP7.out.upd.setCell (p:=⟨b,7,none⟩) (.inl (.inl rfl)) _).setCell (p:=⟨b,6,none⟩) (.inl (.inl rfl)) _).setCell (p:=⟨b,8,none⟩) (.inl (.inl rfl)) _;have H8:=h7k hB8 hD8 hO8 hU8 hvb HP7.out.sub HP7.out.sep;clear hnb hvb hD8 hO8 hU8 hk7 hf6 hf7 hf8 hk0;generalize (((w7.setCell ⟨b,7,none⟩ (.int .u64 ((g.salt:Int)+1))).setCell ⟨b,6,none⟩ (.int .u64 ((g.salt:Int)+1))).setCell ⟨b,8,none⟩ (.bool false))=W8 at *;have hsu:IntKind.i64.wrap ((g.used:Int)+((partsOf s.size:Nat):Int))=(g.used:Int)+((partsOf s.size:Nat):Int):=IntWalk.i64_in _ oM;have hS:∀w',Upd (fun q=>v.ownBlock=some q) W8 w'→w'.cell? ⟨b,4,none⟩=some v∧w'.cell? ⟨b,5,none⟩=some (.int .i64 (g.used:Int)):=fun w' hu=>by
      have h:=H8.out.1.upd hu H8.out.2.2.2.2.1;exact ⟨h.cell 4,h.cell 5⟩
     have HSS:=Lib.hid hS;clear hS hB8;refine wp_region_noPanic ?_;refine wp_region_T (S:=fun w'=>w'.cell? ⟨b,4,none⟩=some v∧w'.cell? ⟨b,5,none⟩=some (.int .i64 (g.used:Int))) (T:=fun i=>Nat.beq 18 i || Nat.beq i 21) kR ?_;have hS0:=HSS.out _ (Upd.refl _ W8).drew;refine tKW 0 (.pointer (some ⟨b,0,none⟩)) ?_;refine tKW 1 (.pointer (some ⟨b,0,none⟩)) ?_;refine tKW 2 (.pointer (some ⟨b,0,none⟩)) ?_;refine tKW 3 (.pointer (some ⟨b,0,none⟩)) ?_;refine tKW 4 (.pointer (some ⟨b,4,none⟩)) ?_;refine wpAnyT_take (i:=5) (v:=v) rfl kR kR kR kR (fun _ _ _ h=>h) (takes_yield rfl (Or.inl ⟨by rfl,?_⟩)) aS kR ?_
     ·intro w' hSw;go_split_ands;go_simp
     simp only [tkS];refine tKW 6 (.string s) ?_;refine tKW 9 (.pointer (some ⟨b,0,none⟩)) ?_;refine tKW 10 (.pointer (some ⟨b,0,none⟩)) ?_;refine tKW 11 (.pointer (some ⟨b,5,none⟩)) ?_;refine wpAnyT_take (i:=12) (v:=.int .i64 (g.used:Int)) rfl kR kR kR kR (fun _ _ _ h=>h) (takes_yield rfl (Or.inl ⟨by rfl,?_⟩)) aS kR ?_
     ·intro w' hSw;go_split_ands;go_simp
     simp only [tkS];refine tKW 13 (.string s) ?_;refine wo1 7 (fun K hK=>?_);go_simp
     refine hK.out _ _ ?_ ?_
     ·exact HSS.out _ ((Upd.refl _ W8).alloc _).drew
     refine wo1 8 (fun K hK=>?_);refine step_append_src (by rfl) _ _ _ _ (by rfl) 9 i0 _ 1 16 Tryz.underlying147 hi0 hz0 hz1 hz2 rfl v _ _ (by rfl) ((H8.out.2.2.1.alloc _).drew) _ 1 [.string s] (by rfl) (Src.of_new_drew Tryz.underlying147 (.string s)) (by simp [Value.oneCell']) (by unfold maxLen;omega) oM ?_;intro v' w2 hown2 hU2 hloc2 hs2;obtain ⟨gq,cq,rfl,-,-⟩:=hown2.head oM;have hU3:Upd (fun q=>v.ownBlock=some q) W8 w2:=((Upd.refl _ W8).alloc _).drew.then hU2 (fun _ e=>.inl e);have hB3:=H8.out.1.upd hU3 H8.out.2.2.2.2.1;have hk2:=hB3.cells9;have hf4:=hB3.frozen 4;have hf5:=hB3.frozen 5;have HX:=h5k hown2 hU3 hloc2 hs2 hB3;clear hown2 hU2 hloc2 hs2 hU3 hB3;refine hK.out _ _ (HSS.out _ HX.out.2.1) ?_;clear hK;have hS2:=HSS.out _ HX.out.2.1;refine wpAnyT_take (i:=14) (v:=.int .i64 ((partsOf s.size:Nat):Int)) rfl kR kR kR kR (fun _ _ _ h=>h) (takes_call rfl 112 #[.string s] (by rfl) (fun w' _=>?_) (fun w' hS=>parts_c s w' oM)) aS kR ?_
     ·go_simp
     simp only [tkS];refine tKW 15 (.int .i64 ((g.used:Int)+((partsOf s.size:Nat):Int))) ?_;refine tKW 16 (.pointer (some ⟨b,0,none⟩)) ?_;refine tKW 17 (.pointer (some ⟨b,4,none⟩)) ?_;refine woT 18 (fun K hK=>?_);go_simp
     refine hK.out _ _ ?_;clear hK hS2;refine tKW 19 (.pointer (some ⟨b,0,none⟩)) ?_;refine tKW 20 (.pointer (some ⟨b,5,none⟩)) ?_;refine woT 21 (fun K hK=>?_);go_simp
     refine hK.out _ _ ?_;clear hK;refine wdn ?_;refine NoPanic.normal ?_;go_wp2_with fail
     go_ret
     rw [HPu.out];refine ⟨rfl,?_⟩;obtain ⟨hB8,hD8,hO8,hU8,hv8,hsub8,hsep8⟩:=H8.out;obtain ⟨hown2,hU3,hloc2,hs2,hB3⟩:=HX.out;have hD2:DiskAt w2 p r.1.sync.1 F3:=hD8.upd hU3 fun k hk e=>hsep8 k e hk
     have hnb2:=hD2.not_mem hB3 dC dC;have hvb2:=hown2.ne_blk hB3 dC;have hz8:=hU8.size;have hloc:∀q,(Value.slice (some ⟨gq,0,none⟩) (g.l.length+1) cq).ownBlock=some q→v.ownBlock=some q∨W8.heap.size≤q:=fun q hq=>by
      rcases hloc2 with e | e
      ·rw [e] at hq;exact .inl hq
      ·rw [e] at hq
       cases hq
       exact .inr ((((Upd.refl (fun _=>False) W8).alloc _).drew).size)
     clear H8 HX HSS HPu HSy HL hk2 hf4 hf5;refine ⟨⟨F3,.slice (some ⟨gq,0,none⟩) (g.l.length+1) cq,?_,hsub8,?_,?_,fun q hq=>?_,fun q hq hF=>?_⟩,?_⟩
     ·exact hD2.eqb fun q hq=>by
       have hne:q≠b:=fun e=>hnb2 (e ▸ hq)
       rw [Below.heap_setCell _ _ _ q hne,Below.heap_setCell _ _ _ q hne]
     ·have h:=(hB3.set_ 4 (.slice (some ⟨gq,0,none⟩) (g.l.length+1) cq)).set_ 5 (.int .i64 ((g.used:Int)+((partsOf s.size:Nat):Int)))
      simp only [Lg.cells,List.setIfInBounds_toArray,List.set_cons_zero,List.set_cons_succ] at h;simp only [Lg.cells,Int.natCast_add];exact h
     ·have h:=(hown2.far (p:=⟨b,4,none⟩) hvb2 (.slice (some ⟨gq,0,none⟩) (g.l.length+1) cq)).far (p:=⟨b,5,none⟩) hvb2 (.int .i64 ((g.used:Int)+((partsOf s.size:Nat):Int)))
      simp only [List.length_append,List.length_cons,List.length_nil,strs,List.map_append,List.map_cons,List.map_nil] at h ⊢;exact h
     ·exact (hloc q hq).imp id (fun h=>by omega)
     ·rcases hloc q hq with h | h
      ·exact hsep8 q h hF
      ·have:=hD8.lt q hF
       omega
     ·exact ((((hU8.mono (G:=fun q=>q=b∨q ∈ F∨v.ownBlock=some q) (fun _ e=>.inl (e.imp id .inl))).then hU3 (fun q e=>.inl (.inr (.inr e)))).setCell (p:=⟨b,4,none⟩) (.inl (.inl rfl)) _).setCell (p:=⟨b,5,none⟩) (.inl (.inl rfl)) _)
    ·rw [if_pos hr] at hput
     have hr':(r.1.sync.2 != 0)=true:=by rw [bne_iff_ne];exact hr
     have HSy:=Lib.hid hSy;have HPu:=Lib.hid hput;clear hSy hput hr;go_wp2_with (go_at_call 117;refine HSy.out.mono ?_;rintro e w7 ⟨rfl,F3,hS⟩;have HP7:=Lib.hid (HL.out.1.wrote hS);clear hS);go_ret
     rw [HPu.out];exact ⟨rfl,HP7.out.left⟩
theorem zz19 {P:Prop} (h:P:=by
 go_enter Tryz.func58,Tryz.ntmps58
 go_wp2_with fail
 refine HNo.out.mono ?_;rintro e w' ⟨rfl,rfl⟩;go_wp2_with fail
 refine (parts_c s _ oM).mono ?_;rintro e w' ⟨rfl,rfl⟩;go_wp2_with fail
 refine HRo.out.mono ?_;rintro e w' ⟨rfl,rfl⟩;go_wp2
 go_ret
 exact ⟨rfl,(Upd.refl _ _).drew⟩):P:=h
theorem Add_refused {w:World} {p b:Nat} {g:Lg} (hL:LogAt w p b g) (s:ByteArray) (hu:g.used≤g.sectors) (hse:g.sectors≤5000)
 (h:g.broken=true∨1024<s.size∨g.sectors - g.used<partsOf s.size∨g.salt=18446744073709551615) :
 Calls Tryz.prog 58 #[.pointer (some ⟨b,0,none⟩),.string s] w fun e w'=>e=.returned (.int .i64 (if g.broken then 11 else if 1024<s.size then 3 else 6))∧Upd (fun _=>False) w w':=by
 have HNo:=Lib.hid (lnone_c hL);have HRo:=Lib.hid (room_c hL hu hse);obtain ⟨v,hB,hO⟩:=hL.ex;have hc:=hB.cells9;clear hB hO hL;cases hb:g.broken
 ·rw [hb] at hc
  by_cases h4:1024<s.size
  ·rw [if_neg sM,if_pos h4]
   have h4':(1024:Int)<(s.size:Int):=oM;clear h hb;go_enter Tryz.func58,Tryz.ntmps58
   go_wp2_with fail
   refine HNo.out.mono ?_;rintro e w' ⟨rfl,rfl⟩;go_wp2
   go_ret
   exact ⟨rfl,Upd.refl _ _⟩
  ·rw [if_neg sM,if_neg h4]
   have h5:g.sectors - g.used<partsOf s.size∨g.salt=18446744073709551615:=by
    rcases h with h | h | h
    ·rw [hb] at h;simp at h
    ·omega
    ·exact h
   have h4':¬(1024:Int)<(s.size:Int):=oM;have HC0:=Lib.hid hc;have H5:=Lib.hid h5;clear h hb h5;by_cases h6:g.sectors - g.used<partsOf s.size
   ·have h6':((g.sectors - g.used:Nat):Int)<((partsOf s.size:Nat):Int):=oM
    exact zz19
   ·have h6':¬((g.sectors - g.used:Nat):Int)<((partsOf s.size:Nat):Int):=oM
    have h7:g.salt=18446744073709551615:=H5.out.resolve_left h6;rw [h7] at hc;clear HC0 H5 h7;exact zz19
 ·rw [hb] at hc
  rw [if_pos rfl];clear h hb;go_enter Tryz.func58,Tryz.ntmps58
  go_wp2_with fail
  refine HNo.out.mono ?_;rintro e w' ⟨rfl,rfl⟩;go_wp2
  go_ret
  exact ⟨rfl,Upd.refl _ _⟩
end
end Go.Proofs.YtbhjgfibhegddaaGreat
