/-
  Parts of the proof of VaultSpoils: LogE, LogOpen, LawA.
-/
import Derived.Test.YtbhjgfibhegddaaGreatQVaultSpoils10
import Derived.Deep.Light
import Derived.Outline
set_option maxRecDepth 100000
set_option maxHeartbeats 16000000
namespace Go.Proofs.YtbhjgfibhegddaaGreat
section
open Go Go.RowKit
def byteAt (s:ByteArray) (i:Nat):Nat:=(s.data.toList.getD i 0).toNat
def numAt (s:ByteArray) (i:Int):Int:=(leN ((s.data.toList.drop (8*i.toNat)).take 8):Int)
theorem readAt_any (s:ByteArray) (i:Int) (q:Nat) (w:World) (hs:s.size=60) (h0:0≤i) (hi:i<3) (hc:w.cell? ⟨q,0,none⟩=some (.string s)) :
 Calls Tryz.prog 206 #[.int .i64 i,.pointer (some ⟨q,0,none⟩)] w fun e w'=>e=.returned (.int .u64 (numAt s i))∧w=w':=by
 obtain ⟨i,rfl⟩:=Int.eq_ofNat_of_zero_le h0;exact readAt_c s i q w hs oM hc
theorem read_test32 (l:List UInt8) (m n:Nat) (hm:m=60) (hl:l.length=60) (hn:n≤32):((Lib.countByte (List.take (m - (28+n)) (List.drop (28+n) l)) 0:Int) == 32 - (n:Int))=decide (List.drop (28+n) l=List.replicate (32 - n) 0):=by
 have hd:(List.drop (28+n) l).length=32 - n:=by simp [hl];omega
 rw [List.take_of_length_le oM];have h:=count_zero (List.drop (28+n) l);rw [hd] at h;by_cases hz:List.drop (28+n) l=List.replicate (32 - n) 0
 ·rw [decide_eq_true hz,h.2 hz,beq_iff_eq];omega
 ·rw [decide_eq_false hz,beq_eq_false_iff_ne]
  intro hh;exact hz (h.1 oM)
theorem zz6 {P:Prop} (h:P:=by
 have hb:=HBe.out;have hq:=HQ.out;have hu:=HB.out.2.2.2;have hu3:=H3.out.2.2;have h1:=(hb.trans ((hu.below wz0).mono hb.size)).trans (⟨hu3.os,hu3.tape,hu3.output,hu3.size,fun b hbl=>hu3.block b (Nat.lt_of_lt_of_le hbl (Nat.le_trans hb.size hu.size)) oM⟩:Below w.heap.size _ w3);exact ((((((h1.setCell (p:=⟨q0+1,0,none⟩) (by show w.heap.size≤q0+1;omega) _).setCell (p:=⟨q0+1,1,none⟩) (by show w.heap.size≤q0+1;omega) _).setCell (p:=⟨q0+1,2,none⟩) (by show w.heap.size≤q0+1;omega) _).setCell (p:=⟨q0+1,3,none⟩) (by show w.heap.size≤q0+1;omega) _).setCell (p:=⟨q0+1,4,none⟩) (by show w.heap.size≤q0+1;omega) _).setCell (p:=⟨q0+1,5,none⟩) (by show w.heap.size≤q0+1;omega) _).drew):P:=h
theorem read_g (s:ByteArray) (w:World) (hs:s.size=60) :
 Calls Tryz.prog 159 #[.string s] w fun e w'=>e=.returned (.tuple #[(readG s.data.toList).1.val,.bool (readG s.data.toList).2])∧Below w.heap.size w w':=by
 have h24:(24:Int)<s.size:=oM;have h25:(25:Int)<s.size:=oM;have h26:(26:Int)<s.size:=oM;have h27:(27:Int)<s.size:=oM;have g24:24<s.size:=oM;have g25:25<s.size:=oM;have g26:26<s.size:=oM;have g27:27<s.size:=oM;have e24:=Lib.hid (getD_c s 24 g24);have e25:=Lib.hid (getD_c s 25 g25);have e26:=Lib.hid (getD_c s 26 g26);have e27:=Lib.hid (getD_c s 27 g27);have HS60:=Lib.hid hs;clear hs;go_enter Tryz.func159,Tryz.ntmps159
 go_upto_region 2 with fail
 have hB0:Blk ((w.alloc (.cells #[.string s] 9)).alloc (.cells #[.int .u64 0,.int .u64 0,.int .u64 0,.int .i64 0,.int .i64 0,.string ⟨#[]⟩] 204)) w.heap.size 9 #[.string s]:=(Blk.new w _ _).alloc _;have hB1:Blk ((w.alloc (.cells #[.string s] 9)).alloc (.cells #[.int .u64 0,.int .u64 0,.int .u64 0,.int .i64 0,.int .i64 0,.string ⟨#[]⟩] 204)) (w.heap.size+1) 204 #[.int .u64 0,.int .u64 0,.int .u64 0,.int .i64 0,.int .i64 0,.string ⟨#[]⟩]:=by
  have h:=Blk.new (w.alloc (.cells #[.string s] 9)) 204 #[.int .u64 0,.int .u64 0,.int .u64 0,.int .i64 0,.int .i64 0,.string ⟨#[]⟩];simpa using h
 have hbw:Below w.heap.size w ((w.alloc (.cells #[.string s] 9)).alloc (.cells #[.int .u64 0,.int .u64 0,.int .u64 0,.int .i64 0,.int .i64 0,.string ⟨#[]⟩] 204)):=((Below.refl _ w).alloc (Nat.le_refl _) _).alloc sM _;have hsz:((w.alloc (.cells #[.string s] 9)).alloc (.cells #[.int .u64 0,.int .u64 0,.int .u64 0,.int .i64 0,.int .i64 0,.string ⟨#[]⟩] 204)).heap.size=w.heap.size+2:=by simp
 generalize ((w.alloc (.cells #[.string s] 9)).alloc (.cells #[.int .u64 0,.int .u64 0,.int .u64 0,.int .i64 0,.int .i64 0,.string ⟨#[]⟩] 204))=W at *;have hc0:=hB0.cells1;have hne:=World.new_ne W ⟨w.heap.size,0,none⟩ hc0;have HCA:=Lib.hid (fun W' (hu:Upd (fun _=>False) W W')=>(hB0.upd hu (fun e=>e)).cells1);have HW:=h4k hB0 hB1 hbw hsz;clear hB0 hB1 hbw hsz;generalize hq0:w.heap.size=q0 at *;have HQ:=Lib.hid hq0;clear hq0;go_cut [5] (fun s5 wx=>s5=.pointer (some ⟨W.heap.size,0,none⟩)∧Upd (fun _=>False) W wx∧Blk wx W.heap.size 204 #[.int .u64 (numAt s 0),.int .u64 (numAt s 1),.int .u64 (numAt s 2),.int .i64 (byteAt s 24:Int),.int .i64 (byteAt s 25:Int),.string ⟨#[]⟩])
 case first =>
  refine wp_region_noPanic ?_;refine wp_region_held_drew (S:=fun w'=>w'.cell? ⟨q0,0,none⟩=some (.string s)) kR (HCA.out _ (Upd.refl _ _).drew) (fun hHeld=>?_);refine tKH 0 (.func (.func 206) #[] #[.pointer (some ⟨q0,0,none⟩)]) ?_;refine tKH 2 (.func (.func 206) #[] #[.pointer (some ⟨q0,0,none⟩)]) ?_;refine tKH 4 (.func (.func 206) #[] #[.pointer (some ⟨q0,0,none⟩)]) ?_;refine tKH 6 (.string s) ?_;refine tKH 9 (.string s) ?_;refine tKH 7 (.int .u8 (s[24].toNat:Int)) ?_;refine tKH 10 (.int .u8 (s[25].toNat:Int)) ?_;refine tKH 8 (.int .i64 (IntKind.i64.wrap (s[24].toNat:Int))) ?_;refine tKH 11 (.int .i64 (IntKind.i64.wrap (s[25].toNat:Int))) ?_;refine wpAnyH_takeC (i:=1) (v:=.int .u64 (numAt s 0)) rfl kR kR kR (fun _ _ _ h=>h) (takes_call rfl 206 #[.int .i64 0,.pointer (some ⟨q0,0,none⟩)] (by rfl) (fun w' _=>?_) (fun w' hS=>readAt_any s 0 q0 w' HS60.out dC dC hS)) aS ?_
  ·go_simp
  simp only [tkS];refine wpAnyH_takeC (i:=3) (v:=.int .u64 (numAt s 1)) rfl kR kR kR (fun _ _ _ h=>h) (takes_call rfl 206 #[.int .i64 1,.pointer (some ⟨q0,0,none⟩)] (by rfl) (fun w' _=>?_) (fun w' hS=>readAt_any s 1 q0 w' HS60.out dC dC hS)) aS ?_
  ·go_simp
  simp only [tkS];refine wpAnyH_takeC (i:=5) (v:=.int .u64 (numAt s 2)) rfl kR kR kR (fun _ _ _ h=>h) (takes_call rfl 206 #[.int .i64 2,.pointer (some ⟨q0,0,none⟩)] (by rfl) (fun w' _=>?_) (fun w' hS=>readAt_any s 2 q0 w' HS60.out dC dC hS)) aS ?_
  ·go_simp
  simp only [tkS];refine tKH 12 (.agg #[.int .u64 (numAt s 0),.int .u64 (numAt s 1),.int .u64 (numAt s 2),.int .i64 (IntKind.i64.wrap (s[24].toNat:Int)),.int .i64 (IntKind.i64.wrap (s[25].toNat:Int)),.string ⟨#[]⟩]) ?_;refine wpAnyH_ready (rs:=[13]) kR sM ?_;refine AllReadyH.cons rfl (fun K hK=>?_) AllReadyH.nil;go_simp
  refine hK.out _ _ (HCA.out _ ((Upd.refl _ _).alloc _).drew) (fun hHeld2=>?_);clear hK K;refine wpAnyH_ready (rs:=[14]) kR sM ?_;refine AllReadyH.cons rfl (fun K hK=>?_) AllReadyH.nil;go_simp
  refine hK.out _ _ ?_ (fun hHeld3=>?_)
  ·exact HCA.out _ ((Upd.refl _ _).alloc _).drew
  clear hK K;refine wpAnyH_done kR ?_ _;refine NoPanic.normal ?_;go_wp2_with fail
  go_meet
  rw [u8_i64,u8_i64,← e24.out,← e25.out];exact ⟨rfl,((Upd.refl _ _).alloc _).drew,(Blk.new W _ _).drew⟩
 case rest =>
  obtain ⟨rfl,hUw,hBp⟩:=hcut;have hBs:=HW.out.1.upd hUw (fun e=>e);have hBr:=HW.out.2.1.upd hUw (fun e=>e);have hcs:=hBs.cells1;have HB:=h4k hBs hBr hBp hUw;have hqW:q0<W.heap.size:=by have:=HW.out.2.2.2;omega
  have hqW1:q0+1<W.heap.size:=by have:=HW.out.2.2.2;omega
  have hbelow:Below w.heap.size w W:=by rw [HQ.out];exact HW.out.2.2.1
  have HBe:=Lib.hid hbelow;clear hBs hBr hBp hUw hc0 hne HW HCA hbelow;have HPb:Hid (∃pb,W.heap.size=pb):=⟨_,rfl⟩;by_cases h32:32<(s.data.toList.getD 26 0).toNat
  ·have h32':(32:Int)<(s[26].toNat:Int):=by rw [← e26.out];omega
   have hwr:IntKind.i64.wrap (s[26].toNat:Int)=(s[26].toNat:Int):=u8_i64 _;have hr:readG s.data.toList=(⟨leN (s.data.toList.take 8),leN ((s.data.toList.drop 8).take 8),leN ((s.data.toList.drop 16).take 8),(s.data.toList.getD 24 0).toNat,(s.data.toList.getD 25 0).toNat,[]⟩,false):=by unfold readG;rw [if_pos h32]
   have HR:=Lib.hid hr;clear hr;go_wp2_with (first
    | (refine wpList_load_all rfl _ _ rfl W.heap.size rfl _ _ _ HB.out.2.2.1 Tryz.underlying204 rfl rfl ?_)
    | (refine wsl 204 (q0+1) #[.int .u64 (numAt s 0),.int .u64 (numAt s 1),.int .u64 (numAt s 2),.int .i64 (byteAt s 24:Int),.int .i64 (byteAt s 25:Int),.string ⟨#[]⟩] HB.out.2.1 (by simp [Value.oneCell']) ?_
       intro w6 hB6 hU6 hs6))
   have hHR:=HR.out;generalize readG s.data.toList=rr at hHR;subst hHR;refine bodyPost_ret (results_cell_slot rfl _ _ (q0+1) _ _ _ _ rfl hB6 Tryz.underlying204 rfl rfl (.bool false) rfl) rfl ⟨rfl,?_⟩;have hb:=HBe.out;have hq:=HQ.out;have hu:=HB.out.2.2.2;exact (hb.trans ((hu.below wz0).mono hb.size)).trans ⟨hU6.os,hU6.tape,hU6.output,hU6.size,fun b hbl=>hU6.block b (Nat.lt_of_lt_of_le hbl (Nat.le_trans hb.size hu.size)) oM⟩
  ·have h32':¬(32:Int)<(s[26].toNat:Int):=by rw [← e26.out];omega
   have hwr:IntKind.i64.wrap (s[26].toNat:Int)=(s[26].toNat:Int):=u8_i64 _;have hr:readG s.data.toList=(⟨leN (s.data.toList.take 8),leN ((s.data.toList.drop 8).take 8),leN ((s.data.toList.drop 16).take 8),(s.data.toList.getD 24 0).toNat,(s.data.toList.getD 25 0).toNat,(s.data.toList.drop 28).take (s.data.toList.getD 26 0).toNat⟩,decide (s.data.toList.getD 27 0=0∧s.data.toList.drop (28+(s.data.toList.getD 26 0).toNat)=List.replicate (32 - (s.data.toList.getD 26 0).toNat) 0)):=by unfold readG;rw [if_neg h32]
   have HR:=Lib.hid hr;clear hr;have e26':=e26.out;have hbn:s[26].toNat≤32:=oM;obtain ⟨n,hn⟩:=eqx (s[26].toNat);have HN:=h2k hn e26';have hle:(28:Int)+(n:Int)≤(s.size:Int):=by have:=HS60.out;omega
   have hsub:IntKind.i64.wrap (32 - (n:Int))=32 - (n:Int):=IntWalk.i64_in _ oM;have hadd:IntKind.i64.wrap (28+(n:Int))=28+(n:Int):=IntWalk.i64_in _ oM;have hnn:(0:Int)≤28+(n:Int):=oM;have htn:((28:Int)+(n:Int)).toNat=28+n:=oM;have hn32:n≤32:=oM;rw [hn] at hwr h32';obtain ⟨cnt,hcnt,hK⟩:∃cnt:Int,(cnt == 32 - (n:Int))=decide (List.drop (28+n) s.data.toList=List.replicate (32 - n) 0) ∧
    ∀W,Calls Tryz.prog 90 #[.string (s.extract (28+n) s.size),.string ⟨#[0]⟩] W fun e w'=>e=.returned (.int .i64 cnt)∧W=w':=by
    refine ⟨_,?_,fun W=>(Tryz.strings_Count_one (s.extract (28+n) s.size) 0 W).mono fun _ _ h=>⟨h.1,h.2.symm⟩⟩;rw [← read_test32 s.data.toList s.size n HS60.out (by simpa using HS60.out) hn32];congr 3
    rw [extract_str_from];rfl
   have HC:=Lib.hid hcnt;have HK:=Lib.hid hK;clear hcnt hK e26' e26;go_wp2_with (first
    | (refine wpList_store_one rfl 9 _ _ rfl W.heap.size 5 (.string (s.extract 28 (28+n))) rfl rfl _ _ HB.out.2.2.1 sM rfl kR ?_
       intro w3 hB3 hU3 hs3))
   simp only [List.setIfInBounds_toArray,List.set_cons_succ,List.set_cons_zero] at hB3;have hqne:q0≠W.heap.size:=oM;have hqne1:q0+1≠W.heap.size:=oM;have hBs3:Blk w3 q0 9 #[.string s]:=HB.out.1.upd hU3 hqne;have hBr3:Blk w3 (q0+1) 204 #[.int .u64 0,.int .u64 0,.int .u64 0,.int .i64 0,.int .i64 0,.string ⟨#[]⟩]:=HB.out.2.1.upd hU3 hqne1;have hS:∀w',Upd (fun b=>b=q0+1) w3 w'→(w'.cell? ⟨q0,0,none⟩=some (.string s)∧w'.cell? ⟨W.heap.size,0,none⟩=some (.int .u64 (numAt s 0))∧w'.cell? ⟨W.heap.size,1,none⟩=some (.int .u64 (numAt s 1))∧w'.cell? ⟨W.heap.size,2,none⟩=some (.int .u64 (numAt s 2))∧w'.cell? ⟨W.heap.size,3,none⟩=some (.int .i64 (byteAt s 24:Int))∧w'.cell? ⟨W.heap.size,4,none⟩=some (.int .i64 (byteAt s 25:Int))∧w'.cell? ⟨W.heap.size,5,none⟩=some (.string (s.extract 28 (28+n)))):=by
    intro w' hu;obtain ⟨c0,c1,c2,c3,c4,c5⟩:=(hB3.upd hu (fun e=>hqne1 e.symm)).cells6;exact ⟨(hBs3.upd hu oM).cells1,c0,c1,c2,c3,c4,c5⟩
   have HSS:=Lib.hid hS;have H3:=h3k hB3 hBr3 hU3;have hca:=hBr3.cells6;have hz0:=hBr3.frozen 0;have hz1:=hBr3.frozen 1;have hz2:=hBr3.frozen 2;have hz3:=hBr3.frozen 3;have hz4:=hBr3.frozen 4;have hz5:=hBr3.frozen 5;clear hB3 hBr3 hU3 hs3 hS hBs3 hcs;by_cases h0:s[27]=0
   ·have h0':((s[27].toNat:Int) == 0)=true:=by rw [h0];rfl
    refine wp_region_noPanic ?_;refine wp_region_held_drew (S:=fun w'=>w'.cell? ⟨q0,0,none⟩=some (.string s)∧w'.cell? ⟨W.heap.size,0,none⟩=some (.int .u64 (numAt s 0))∧w'.cell? ⟨W.heap.size,1,none⟩=some (.int .u64 (numAt s 1))∧w'.cell? ⟨W.heap.size,2,none⟩=some (.int .u64 (numAt s 2))∧w'.cell? ⟨W.heap.size,3,none⟩=some (.int .i64 (byteAt s 24:Int))∧w'.cell? ⟨W.heap.size,4,none⟩=some (.int .i64 (byteAt s 25:Int))∧w'.cell? ⟨W.heap.size,5,none⟩=some (.string (s.extract 28 (28+n)))) kR (HSS.out _ (Upd.refl _ _).drew) (fun hHeld=>?_);refine tKH 0 (.agg #[.int .u64 (numAt s 0),.int .u64 (numAt s 1),.int .u64 (numAt s 2),.int .i64 (byteAt s 24:Int),.int .i64 (byteAt s 25:Int),.string (s.extract 28 (28+n))]) ?_;refine tKH 1 (.string s) ?_;refine tKH 2 (.int .u8 (s[27].toNat:Int)) ?_;refine tKH 3 (.bool true) ?_;refine tKH 4 (.bool true) ?_;refine tKH 5 (.string s) ?_;refine tKH 6 (.int .i64 (n:Int)) ?_;refine tKH 7 (.int .i64 (28+(n:Int))) ?_;refine tKH 8 (.string (s.extract (28+n) s.size)) ?_;refine wpAnyH_takeC (i:=9) (v:=.int .i64 cnt) rfl kR kR kR (fun _ _ _ h=>h) (takes_call rfl 90 #[.string (s.extract (28+n) s.size),.string ⟨#[0]⟩] (by rfl) (fun w' _=>?_) (fun w' hS=>HK.out w')) aS ?_
    ·go_simp
    simp only [tkS];refine tKH 10 (.int .i64 (n:Int)) ?_;refine tKH 11 (.int .i64 (32 - (n:Int))) ?_;refine tKH 12 (.bool (cnt == 32 - (n:Int))) ?_;refine tKH 13 (.bool (cnt == 32 - (n:Int))) ?_;refine wpAnyH_ready (rs:=[14]) kR sM ?_;refine AllReadyH.cons rfl (fun K hK=>?_) AllReadyH.nil;go_simp
    refine hK.out _ _ (HSS.out _ (((((((Upd.refl (fun b=>b=q0+1) w3).setCell (p:=⟨q0+1,0,none⟩) (.inl rfl) _).setCell (p:=⟨q0+1,1,none⟩) (.inl rfl) _).setCell (p:=⟨q0+1,2,none⟩) (.inl rfl) _).setCell (p:=⟨q0+1,3,none⟩) (.inl rfl) _).setCell (p:=⟨q0+1,4,none⟩) (.inl rfl) _).setCell (p:=⟨q0+1,5,none⟩) (.inl rfl) _).drew) (fun hHeld2=>?_);clear hK K;refine tKH 15 (.bool (cnt == 32 - (n:Int))) ?_;refine wpAnyH_done kR ?_ _;refine NoPanic.normal ?_;go_wp2
    have hBz:=((((((H3.out.2.1.set_ 0 (.int .u64 (numAt s 0))).set_ 1 (.int .u64 (numAt s 1))).set_ 2 (.int .u64 (numAt s 2))).set_ 3 (.int .i64 (byteAt s 24:Int))).set_ 4 (.int .i64 (byteAt s 25:Int))).set_ 5 (.string (s.extract 28 (28+n)))).drew;simp only [List.setIfInBounds_toArray,List.set_cons_succ,List.set_cons_zero] at hBz;refine bodyPost_ret (results_cell_slot rfl _ _ (q0+1) _ _ _ _ rfl hBz Tryz.underlying204 rfl rfl (.bool (cnt == 32 - (n:Int))) rfl) rfl ⟨?_,?_⟩
    ·rw [HR.out,HN.out.2,hn]
     simp only [Lp.val];rw [extract_str_from,Nat.add_sub_cancel_left];rw [HC.out,e27.out,h0];simp [byteAt,numAt]
    ·exact zz6
   ·have h0':((s[27].toNat:Int) == 0)=false:=by
     rw [beq_eq_false_iff_ne];intro h;exact h0 (UInt8.toNat_inj.1 (by have:(0:UInt8).toNat=0:=rfl;omega))
    refine wp_region_noPanic ?_;refine wp_region_held_drew (S:=fun w'=>w'.cell? ⟨q0,0,none⟩=some (.string s)∧w'.cell? ⟨W.heap.size,0,none⟩=some (.int .u64 (numAt s 0))∧w'.cell? ⟨W.heap.size,1,none⟩=some (.int .u64 (numAt s 1))∧w'.cell? ⟨W.heap.size,2,none⟩=some (.int .u64 (numAt s 2))∧w'.cell? ⟨W.heap.size,3,none⟩=some (.int .i64 (byteAt s 24:Int))∧w'.cell? ⟨W.heap.size,4,none⟩=some (.int .i64 (byteAt s 25:Int))∧w'.cell? ⟨W.heap.size,5,none⟩=some (.string (s.extract 28 (28+n)))) kR (HSS.out _ (Upd.refl _ _).drew) (fun hHeld=>?_);refine tKH 0 (.agg #[.int .u64 (numAt s 0),.int .u64 (numAt s 1),.int .u64 (numAt s 2),.int .i64 (byteAt s 24:Int),.int .i64 (byteAt s 25:Int),.string (s.extract 28 (28+n))]) ?_;refine tKH 1 (.string s) ?_;refine tKH 2 (.int .u8 (s[27].toNat:Int)) ?_;refine tKH 3 (.bool false) ?_;refine tKH 4 (.bool false) ?_;refine tKHu 5 ?_;refine tKHu 6 ?_;refine tKHu 7 ?_;refine tKHu 8 ?_;refine tKHu 9 ?_;refine tKHu 10 ?_;refine tKHu 11 ?_;refine tKHu 12 ?_;refine tKH 13 (.bool false) ?_;refine wpAnyH_ready (rs:=[14]) kR sM ?_;refine AllReadyH.cons rfl (fun K hK=>?_) AllReadyH.nil;go_simp
    refine hK.out _ _ (HSS.out _ (((((((Upd.refl (fun b=>b=q0+1) w3).setCell (p:=⟨q0+1,0,none⟩) (.inl rfl) _).setCell (p:=⟨q0+1,1,none⟩) (.inl rfl) _).setCell (p:=⟨q0+1,2,none⟩) (.inl rfl) _).setCell (p:=⟨q0+1,3,none⟩) (.inl rfl) _).setCell (p:=⟨q0+1,4,none⟩) (.inl rfl) _).setCell (p:=⟨q0+1,5,none⟩) (.inl rfl) _).drew) (fun hHeld2=>?_);clear hK K;refine tKH 15 (.bool false) ?_;refine wpAnyH_done kR ?_ _;refine NoPanic.normal ?_;go_wp2
    have hBz:=((((((H3.out.2.1.set_ 0 (.int .u64 (numAt s 0))).set_ 1 (.int .u64 (numAt s 1))).set_ 2 (.int .u64 (numAt s 2))).set_ 3 (.int .i64 (byteAt s 24:Int))).set_ 4 (.int .i64 (byteAt s 25:Int))).set_ 5 (.string (s.extract 28 (28+n)))).drew;simp only [List.setIfInBounds_toArray,List.set_cons_succ,List.set_cons_zero] at hBz;refine bodyPost_ret (results_cell_slot rfl _ _ (q0+1) _ _ _ _ rfl hBz Tryz.underlying204 rfl rfl (.bool false) rfl) rfl ⟨?_,?_⟩
    ·rw [HR.out,HN.out.2,hn]
     simp only [Lp.val];rw [extract_str_from,Nat.add_sub_cancel_left];rw [e27.out];simp [byteAt,numAt,h0]
    ·exact zz6
structure ScanSt where
 l:List Lp
 row:Bool
 salt:Nat
 bad:Bool
def scanStep (st:ScanSt) (s:List UInt8):ScanSt :=
 if st.bad then st else
 if (lookL s).2=2 then { st with bad:=true } else
 if (lookL s).2=1 then
  { l:=if st.row && (readG (lookL s).1).2 then st.l++[(readG (lookL s).1).1] else st.l,row:=st.row && (readG (lookL s).1).2,salt:=max st.salt (readG (lookL s).1).1.salt,bad:=false }
 else { st with row:=false }
def scanAt (d:Dk) (a:Nat) (k:Nat):ScanSt:=((List.range k).map fun i=>(d.now (a+i)).data.toList).foldl scanStep ⟨[],true,0,false⟩
theorem scanAt_succ (d:Dk) (a k:Nat):scanAt d a (k+1)=scanStep (scanAt d a k) (d.now (a+k)).data.toList:=by
 simp [scanAt,List.range_succ]
theorem scanAt_bad (d:Dk) (a k m:Nat) (h:k≤m) (hb:(scanAt d a k).bad=true):scanAt d a m=scanAt d a k:=by
 induction m with
 | zero => obtain rfl:k=0:=oM
           rfl
 | succ m ih =>
   by_cases hk:k=m+1
   ·rw [hk]
   ·rw [scanAt_succ,ih oM,scanStep,if_pos hb]
theorem scanAt_len (d:Dk) (a k:Nat):(scanAt d a k).l.length≤k:=by
 induction k with
 | zero=>simp [scanAt]
 | succ k ih =>
   rw [scanAt_succ,scanStep];split
   ·omega
   ·split
    ·simp only;omega
    ·split
     ·simp only
      split
      ·simp;omega
      ·omega
     ·simp only;omega
theorem leN_lt8 (l:List UInt8):leN (l.take 8)<18446744073709551616:=by
 have h:=leN_lt (l.take 8);have h8:(l.take 8).length≤8:=by rw [List.length_take];omega
 have h2:2 ^ (8*(l.take 8).length)≤2 ^ 64:=Nat.pow_le_pow_right dC oM;have h3:(2:Nat) ^ 64=18446744073709551616:=dC;omega
theorem readG_ok (b:List UInt8):(readG b).1.text.length≤32∧(readG b).1.all<256∧(readG b).1.salt<18446744073709551616:=by
 have h8:=leN_lt8 (b.drop 8);have h25:=(b.getD 25 0).toNat_lt;unfold readG;split
 ·exact ⟨sM,h25,h8⟩
 ·refine ⟨?_,h25,h8⟩
  simp only [List.length_take];omega
theorem scanAt_ok (d:Dk) (a k:Nat):(∀q ∈ (scanAt d a k).l,q.text.length≤32∧q.all<256∧q.salt<18446744073709551616)∧(scanAt d a k).salt<18446744073709551616:=by
 induction k with
 | zero=>simp [scanAt]
 | succ k ih =>
   rw [scanAt_succ,scanStep];split
   ·exact ih
   ·split
    ·exact ih
    ·split
     ·have h:=readG_ok (lookL (d.now (a+k)).data.toList).1
      refine ⟨?_,?_⟩
      ·simp only
       split
       ·intro q hq
        rcases List.mem_append.1 hq with hq | hq
        ·exact ih.1 q hq
        ·rw [List.mem_singleton.1 hq];exact h
       ·exact ih.1
      ·simp only
       have:=h.2.2;have:=ih.2;omega
     ·exact ih
def loopG:Nat→Lg→List Lp→Lg
 | 0,g,_=>g
 | n + 1,g,row =>
   if (firstG g.epoch g.last row).2 then
    loopG n { g with l:=g.l++[str (firstG g.epoch g.last row).1],last:=(row.headD ⟨0,0,0,0,0,[]⟩).salt,used:=g.used+partsOf (firstG g.epoch g.last row).1.length } (row.drop (partsOf (firstG g.epoch g.last row).1.length))
   else g
def openG (d:Dk) (f n e:Nat):Option Lg :=
 if (scanAt d f n).bad then none else
 some (loopG ((scanAt d f n).l.length+1) ⟨f,n,e,[],0,0,(scanAt d f n).salt,false⟩ (scanAt d f n).l)
structure ScanLeft (w w':World) (p b f n e:Nat) (v:Value) (st:ScanSt):Prop where
 list:Own w' 204 6 v st.l.length (partsG st.l)
 new:∀q,v.ownBlock=some q→w.heap.size≤q
 log:Blk w' b 199 (Lg.cells p (.slice none 0 0) ⟨f,n,e,[],0,0,st.salt,false⟩)
 upd:Upd (fun _=>False) w w'
 nb:w.heap.size≤b
section
variable {w w1 w2:World} {p b f n e:Nat} {v v2:Value} {st:ScanSt}
theorem ScanLeft.below (h:ScanLeft w w1 p b f n e v st) (hb:Below w1.heap.size w1 w2):ScanLeft w w2 p b f n e v st :=
 ⟨h.list.eqb fun q hq=>hb.block q (h.list.lt hq),h.new,h.log.eqb (hb.block _ h.log.lt),h.upd.then (Upd.of_below hb (fun _=>False)) wz0,h.nb⟩
theorem ScanLeft.drew (h:ScanLeft w w1 p b f n e v st):ScanLeft w w1.drew p b f n e v st:=h.below (Below.refl _ _).drew
theorem ScanLeft.saw (h:ScanLeft w w1 p b f n e v st) (m:Nat):ScanLeft w (w1.setCell ⟨b,7,none⟩ (.int .u64 (m:Int))) p b f n e v { st with salt:=m } := by
 refine ⟨h.list.far (h.list.ne_blk h.log dC) _,h.new,?_,h.upd.setCell (p:=⟨b,7,none⟩) (.inr h.nb) _,h.nb⟩;have:=h.log.set_ 7 (.int .u64 (m:Int));simpa [Lg.cells] using this
theorem ScanLeft.app {pt:Lp} (h:ScanLeft w w1 p b f n e v st) (o:Obj) (hO2:Own w2 204 6 v2 (st.l.length+1) (partsG st.l++Lp.cells pt)) (hU2:Upd (fun q=>v.ownBlock=some q) (w1.alloc o) w2)
 (hl2:v2.ownBlock=v.ownBlock∨v2.ownBlock=some (w1.alloc o).heap.size):ScanLeft w w2 p b f n e v2 { st with l:=st.l++[pt] } := by
 refine ⟨?_,fun q hq=>?_,(h.log.alloc o).upd hU2 (fun e=>h.list.ne_blk h.log dC e),(h.upd.alloc o).then hU2 (fun q e=>.inr (h.new q e)),h.nb⟩
 ·simpa [partsG] using hO2
 ·rcases hl2 with e | e
  ·exact h.new q (by rw [← e];exact hq)
  ·rw [e] at hq
   have h5:=Option.some.inj hq;have:=h.upd.size;simp at h5
   omega
end
structure OpenedG (w w':World) (p:Nat) (o:Option Lg) (v:Value):Prop where
 upd:Upd (fun _=>False) w w'
 bad:o=none→v=.pointer none
 ok:∀g,o=some g→∃b v1,v=.pointer (some ⟨b,0,none⟩)∧Blk w' b 199 (g.cells p v1)∧Own w' 9 1 v1 g.l.length (strs g.l)∧w.heap.size≤b∧∀q,v1.ownBlock=some q→w.heap.size≤q
def openErrG (o:Option Lg):Int:=if o.isSome then 0 else 9
theorem PartsAt.drop {w:World} {A:Option Addr} {n cap:Nat} {l:List Lp} (h:PartsAt w (.slice A n cap) l) (k:Nat) (hk:k≤l.length):PartsAt w (.slice (if cap=k then A else A.map (·.add (k*6))) (n - k) (cap - k)) (l.drop k):=by
 obtain ⟨A',cap',b,off,e,h1,h2,h3,h4⟩:=h.ex;injection e with e1 e2 e3;subst e1 e2 e3;refine ⟨_,cap - k,b,off+k*6,by rw [List.length_drop],by rw [List.length_drop];omega,oM,fun h0=>?_,fun i hi j hj=>?_⟩
 ·rw [List.length_drop] at h0
  obtain ⟨rfl,hb⟩:=h3 oM;rw [if_neg oM];exact ⟨by simp [Addr.add],hb⟩
 ·rw [List.length_drop] at hi
  have h5:=h4 (k+i) oM j hj;rw [List.getElem_drop,← h5,show off+k*6+i*6+j=off+(k+i)*6+j by omega]
theorem part_add (b o k:Nat):Option.map (fun x:Addr=>x.add (k*6)) (some ⟨b,o,none⟩)=some ⟨b,o+k*6,none⟩:=by simp [Addr.add]
structure RecLeft (w0 w':World) (p b:Nat) (pv:Value) (l:List Lp) (v:Value) (row:List Lp) (g:Lg) (v1:Value):Prop where
 list:Own w' 204 6 pv l.length (partsG l)
 parts:∀W,Own W 204 6 pv l.length (partsG l)→PartsAt W v row
 log:Blk w' b 199 (g.cells p v1)
 own:Own w' 9 1 v1 g.l.length (strs g.l)
 new:∀q,v1.ownBlock=some q→w0.heap.size≤q
 old:∀q,pv.ownBlock=some q→q<w0.heap.size
 upd:Upd (· = b) w0 w'
section
variable {w0 w1 w2:World} {p b:Nat} {pv v v1 v2:Value} {l row:List Lp} {g:Lg}
theorem RecLeft.still (h:RecLeft w0 w1 p b pv l v row g v1) (hu:Upd (fun _=>False) w1 w2):RecLeft w0 w2 p b pv l v row g v1 :=
 ⟨h.list.upd hu (fun _ _ e=>e),h.parts,h.log.upd hu (fun e=>e),h.own.upd hu (fun _ _ e=>e),h.new,h.old,h.upd.then hu wz0⟩
theorem RecLeft.drew (h:RecLeft w0 w1 p b pv l v row g v1):RecLeft w0 w1.drew p b pv l v row g v1:=h.still (Upd.refl _ _).drew
theorem RecLeft.used (h:RecLeft w0 w1 p b pv l v row g v1) (m:Nat):RecLeft w0 (w1.setCell ⟨b,5,none⟩ (.int .i64 (m:Int))) p b pv l v row { g with used:=m } v1:=by
 refine ⟨h.list.far (h.list.ne_blk h.log dC) _,h.parts,?_,h.own.far (h.own.ne_blk h.log dC) _,h.new,h.old,h.upd.setCell (p:=⟨b,5,none⟩) (.inl rfl) _⟩;have:=h.log.set_ 5 (.int .i64 (m:Int));simpa [Lg.cells] using this
theorem RecLeft.app (h:RecLeft w0 w1 p b pv l v row g v1) (s:ByteArray) (m:Nat) (hO2:Own w2 9 1 v2 (g.l.length+1) (strs g.l++[.string s])) (hU2:Upd (fun q=>v1.ownBlock=some q) w1 w2)
 (hl2:∀q,v2.ownBlock=some q→v1.ownBlock=some q∨w1.heap.size≤q) :
 RecLeft w0 ((w2.setCell ⟨b,4,none⟩ v2).setCell ⟨b,6,none⟩ (.int .u64 (m:Int))) p b pv l v row { g with l:=g.l++[s],last:=m } v2:=by
 have hB2:=h.log.upd hU2 (fun e=>h.own.ne_blk h.log dC e);have hL2:=h.list.upd hU2 (fun q hq e=>by have h1:=h.new q e;have h2:=h.old q hq;omega);have hn1:=hO2.ne_blk hB2 dC;have hn2:=hL2.ne_blk hB2 dC;have hs:=h.upd.size;refine ⟨(hL2.far (p:=⟨b,4,none⟩) hn2 _).far (p:=⟨b,6,none⟩) hn2 _,h.parts,?_,?_,fun q hq=>?_,h.old,?_⟩
 ·have h3:=(hB2.set_ 4 v2).set_ 6 (.int .u64 (m:Int))
  simp only [Lg.cells,List.setIfInBounds_toArray,List.set_cons_zero,List.set_cons_succ] at h3;simp only [Lg.cells];exact h3
 ·have h3:=(hO2.far (p:=⟨b,4,none⟩) hn1 v2).far (p:=⟨b,6,none⟩) hn1 (.int .u64 (m:Int))
  simp only [List.length_append,List.length_cons,List.length_nil,strs,List.map_append,List.map_cons,List.map_nil] at h3 ⊢;exact h3
 ·rcases hl2 q hq with e | e
  ·exact h.new q e
  ·omega
 ·exact ((h.upd.then hU2 (fun q e=>.inr (h.new q e))).setCell (p:=⟨b,4,none⟩) (.inl rfl) _).setCell (p:=⟨b,6,none⟩) (.inl rfl) _
end
theorem RecLeft.drop {w0 w1:World} {p b n cap:Nat} {A:Option Addr} {pv v1:Value} {l row:List Lp} {g:Lg} (h:RecLeft w0 w1 p b pv l (.slice A n cap) row g v1) (k:Nat) (hk:k≤row.length) :
 RecLeft w0 w1 p b pv l (.slice (if cap=k then A else A.map (·.add (k*6))) (n - k) (cap - k)) (row.drop k) g v1 :=
 ⟨h.list,fun W hW=>(h.parts W hW).drop k hk,h.log,h.own,h.new,h.old,h.upd⟩
theorem RecLeft.begin {w0:World} {p b:Nat} {v:Value} {l:List Lp} {g:Lg} (hL:Own w0 204 6 v l.length (partsG l)) (hB:Blk w0 b 199 (g.cells p (.slice none 0 0))) (hg:g.l=[]):RecLeft w0 w0 p b v l v l g (.slice none 0 0) :=
 ⟨hL,fun _ h=>PartsAt.of_own h,hB,by rw [hg];exact Own.nil _ _ _,by simp [Value.ownBlock],fun _ hq=>hL.lt hq,Upd.refl _ _⟩
def lenOf:Value→Nat
 | .slice _ n _=>n
 | _=>0
theorem RecLeft.sees {w0 w1 w2:World} {p b b1 o1 n cap:Nat} {pv v1:Value} {l r:List Lp} {q0:Lp} {g:Lg} (h:RecLeft w0 w1 p b pv l (.slice (some ⟨b1,o1,none⟩) n cap) (q0::r) g v1) (hU:Upd (fun q=>v1.ownBlock=some q) w1 w2) :
 w2.cell? ⟨b,4,none⟩=some v1∧w2.cell? ⟨b1,o1+1,none⟩=some (.int .u64 (q0.salt:Int)):=by
 have hB2:=h.log.upd hU (fun e=>h.own.ne_blk h.log dC e);have hL2:=h.list.upd hU (fun q hq e=>by have h1:=h.new q e;have h2:=h.old q hq;omega);obtain ⟨A,c,b',o',e,-,-,h3,h4⟩:=(h.parts _ hL2).ex;injection e with e1 e2 e3;obtain ⟨hA,-⟩:=h3 sM;subst hA;injection e1 with e1;injection e1 with e4 e5;subst e4 e5;refine ⟨hB2.cell 4,?_⟩;have h5:=h4 0 sM 1 oM;simpa [Lp.cells] using h5
theorem firstG_parts {epoch last:Nat} {row:List Lp} (h:(firstG epoch last row).2=true):0<row.length∧1≤partsOf (firstG epoch last row).1.length∧partsOf (firstG epoch last row).1.length≤row.length∧(firstG epoch last row).1.length≤1024:=by
 unfold firstG at h ⊢;split at h
 ·simp at h
 ·split at h
  ·simp at h
  ·split at h
   ·simp at h
   ·rename_i p r h1 h2
    simp only [decide_eq_true_eq] at h;rw [if_neg h1,if_neg h2];exact ⟨sM,by unfold partsOf;omega,h.1,by show (textG _).length≤1024;omega⟩
theorem loopG_fuel (n m:Nat) (g:Lg) (row:List Lp) (hn:row.length<n) (hm:row.length<m):loopG n g row=loopG m g row:=by
 induction n generalizing m g row with
 | zero=>omega
 | succ n ih =>
   cases m with
   | zero=>omega
   | succ m =>
     rw [loopG,loopG];split
     ·rename_i h
      have hp:=firstG_parts h;exact ih m _ _ (by rw [List.length_drop];omega) (by rw [List.length_drop];omega)
     ·rfl
theorem ScanLeft.stored {w w2 w3 w4:World} {p b f n e:Nat} {v:Value} {st:ScanSt} (h2:ScanLeft w w2 p b f n e v st) (h3:ScanLeft w w3 p b f n e v st) (hU:Upd (· = w2.heap.size) w3 w4):ScanLeft w w4 p b f n e v st:=by
 refine ⟨h3.list.upd hU (fun k hk e=>?_),h3.new,h3.log.upd hU (fun e=>?_),h3.upd.then hU (fun q e=>.inr ?_),h3.nb⟩
 ·have:=h2.list.lt hk
  omega
 ·have:=h2.log.lt
  omega
 ·have:=h2.upd.size
  omega
theorem zz27 {P:Prop} (h:P:=by
 have HS:=Lib.hid HSs;clear HSs hc5;go_wp2
 go_roundw
 case rel =>
  refine ⟨j+1,oM,by go_num,?_,?_,?_⟩;all_goals rw [HS.out]
  have h:=HL7.out;exact ⟨h.list,h.new,h.log,h.upd,h.nb⟩
 case measure=>simp [intOf];omega):P:=h
theorem openG_on {w:World} {p:Nat} {d:Dk} {F:List Nat} (hD:DiskAt w p d F) (f n e:Nat) (hn:1≤n) (hf:f+n≤d.lasts.length) (he:1≤e) (he2:e<18446744073709551616) (hoff:d.off=false) :
 Calls Tryz.prog 104 #[.pointer (some ⟨p,0,none⟩),.int .i64 f,.int .i64 n,.int .u64 e] w fun en w'=>∃v,en=.returned (.tuple #[v,.int .i64 (openErrG (openG d f n e))])∧OpenedG w w' p (openG d f n e) v:=by
 have hm:=hD.wf.most;obtain ⟨i0,hi0,hz0,hz1,hz2⟩:=info_parts infoLp;obtain ⟨s0,hs0,hx0,hx1,hx2⟩:=info_parts infoStr;have hne:((d.lasts.length:Int) == 0)=false:=by rw [beq_eq_false_iff_ne];omega
 have hf0:¬(f:Int)<0:=oM;have hn0:¬(n:Int)<1:=oM;have hn1:¬d.lasts.length<n:=oM;have hf1:¬(d.lasts.length:Int) - (n:Int)<(f:Int):=oM;have he1:¬(e:Int)<1:=oM;have hsw:IntKind.i64.wrap ((d.lasts.length:Int) - (n:Int))=(d.lasts.length:Int) - (n:Int):=IntWalk.i64_in _ oM;have HS:=Lib.hid (sectors_c hD);have hF:f≤4096∧n≤4096:=oM;have HD:=h6k hD hf hoff hm he he2;clear hD hoff hm he he2 hf;go_enter Tryz.func104,Tryz.ntmps104
 go_wp2_with (go_at_call 61;refine HS.out.mono ?_;rintro e w' ⟨rfl,rfl⟩);have hz0':scanAt d f 0=⟨[],true,0,false⟩:=rfl;have HZ:=Lib.hid hz0';clear hz0' hne hf0 hn0 hn1 hf1 he1 hsw;go_loopw [11,12,58] (fun v r i wr=>∃j:Nat,j≤n∧i=.int .i64 j∧(scanAt d f j).bad=false∧r=.bool (scanAt d f j).row∧ScanLeft w wr p w.heap.size f n e v (scanAt d f j)) (fun _ _ i _=>n - (intOf i).toNat)
 case atStart =>
  refine ⟨0,oM,rfl,rfl,rfl,?_⟩;rw [HZ.out];exact ⟨Own.nil _ _ _,by simp [Value.ownBlock],Blk.new w _ _,(Upd.refl _ w).alloc _,Nat.le_refl _⟩
 case round =>
  obtain ⟨j,hj,rfl,hbad,rfl,hL⟩:=hrel;by_cases hlt:j<n
  ·have hD2:DiskAt wr p d F:=HD.out.1.upd hL.upd fun q hq e=>e
   have hrd:=Dk.read_there HD.out.2.2.1 (i:=f+j) (oN HD.out.2.1);have hread:(d.read ((f:Int)+(j:Int)))=(d.now (f+j),0):=by
    rw [← hrd];congr 1
   have hs3:IntKind.i64.wrap ((f:Int)+(j:Int))=(f:Int)+(j:Int):=IntWalk.i64_in _ oM;have hlt':(j:Int)<(n:Int):=oM;have HR2:=Lib.hid hread;have hst:=scanAt_succ d f j;have hsz:=HD.out.1.wf.now_size (i:=f+j) (oN HD.out.2.1);have hbd:=fun h=>scanAt_bad d f (j+1) n oM h
   have HLk:=Lib.hid (fun W=>Look_c (d.now (f+j)) W oM);have HW:=h4k hst hsz hbd hL;have HB:=Lib.hid hbad;have HRe:=Lib.hid (show Calls Tryz.prog 46 #[.pointer (some ⟨p,0,none⟩),.int .i64 ((f:Int)+(j:Int))] wr (fun e w'=>e=.returned (.tuple #[.string (d.now (f+j)),.int .i64 0])∧wr=w') from by
    have h:=read_c hD2 ((f:Int)+(j:Int));rw [hread] at h;exact h)
   clear hL hbad hD2 hrd hread hst hsz hbd HR2;generalize d.now (f+j)=sec at *;rcases lookL_cases sec.data.toList with hc | hc | hc
   ·rw [hc] at HLk
    have hmx:max ((scanAt d f j).salt:Int) 0=((scanAt d f j).salt:Int):=oM;have hS:scanAt d f (j+1) = { scanAt d f j with row:=false } := by
     rw [HW.out.1,scanStep,if_neg (by rw [HB.out];simp),if_neg (by rw [hc];decide),if_neg (by rw [hc];decide)]
    have HS2:=h2k hS HB.out;have HLL:=Lib.hid HW.out.2.2.2;clear hS HW HB hc;generalize scanAt d f j=st at *;go_wp2_with (first
     | (go_at_call 46;refine HRe.out.mono ?_;rintro e w' ⟨rfl,rfl⟩)
     | (go_at_call 47
        refine (HLk.out _).mono ?_;rintro e w2 ⟨rfl,hb2⟩;have hB4:=Blk.new w2 204 #[.int .u64 0,.int .u64 0,.int .u64 0,.int .i64 0,.int .i64 0,.string ⟨#[]⟩];have HL4:=h2k ((HLL.out.below hb2).below ((Below.refl _ w2).alloc (Nat.le_refl _) (.cells #[.int .u64 0,.int .u64 0,.int .u64 0,.int .i64 0,.int .i64 0,.string ⟨#[]⟩] 204))) hB4;have hc4:=hB4.cells6;have hk4:=HL4.out.1.log.cells9;have hz4:=HL4.out.1.log.frozen 7;clear hB4))
    all_goals
     go_roundw
     case rel =>
      refine ⟨j+1,oM,by go_num,?_,?_,?_⟩;all_goals rw [HS2.out.1]
      ·exact HS2.out.2
      ·have h:=HL4.out.1
       exact ⟨h.list,h.new,h.log,h.upd,h.nb⟩
     case measure=>simp [intOf];omega
   ·obtain ⟨hbody,hlen⟩:=lookL_body hc
    have HRd:=Lib.hid (fun W=>read_g (str (lookL sec.data.toList).1) W (by rw [str_size,hbody];simp [hlen]))
    rw [hc] at HLk;have hdt:(str (lookL sec.data.toList).1).data.toList=(lookL sec.data.toList).1:=by simp [str]
    rw [hdt] at HRd;have hS:scanAt d f (j+1) = { l:=if (scanAt d f j).row && (readG (lookL sec.data.toList).1).2 then (scanAt d f j).l++[(readG (lookL sec.data.toList).1).1] else (scanAt d f j).l,row:=(scanAt d f j).row && (readG (lookL sec.data.toList).1).2,salt:=max (scanAt d f j).salt (readG (lookL sec.data.toList).1).1.salt,bad:=false } := by
     rw [HW.out.1,scanStep,if_neg (by rw [HB.out];simp),if_neg (by rw [hc];decide),if_pos hc]
    have HLL:=Lib.hid HW.out.2.2.2;have stl:(scanAt d f j).l.length≤j:=scanAt_len _ _ _;clear hdt hbody hlen hc HW HB;have HSs:=Lib.hid hS;clear hS;generalize scanAt d f j=st at *;generalize readG (lookL sec.data.toList).1=pr at *;obtain ⟨pt,is⟩:=pr;simp only at *
    have hmx:max (st.salt:Int) (pt.salt:Int)=((max st.salt pt.salt:Nat):Int):=oM;go_wp2_with (first
     | (go_at_call 46;refine HRe.out.mono ?_;rintro e w' ⟨rfl,rfl⟩)
     | (go_at_call 47
        refine (HLk.out _).mono ?_;rintro e w2 ⟨rfl,hb2⟩;have HL2:=Lib.hid (HLL.out.below hb2);have HL4:=h2k ((HLL.out.below hb2).below ((Below.refl _ w2).alloc (Nat.le_refl _) (.cells #[.int .u64 0,.int .u64 0,.int .u64 0,.int .i64 0,.int .i64 0,.string ⟨#[]⟩] 204))) (Blk.new w2 204 #[.int .u64 0,.int .u64 0,.int .u64 0,.int .i64 0,.int .i64 0,.string ⟨#[]⟩]))
     | (go_at_call 159
        refine (HRd.out _).mono ?_;rintro e w3 ⟨he3,hb3⟩;rw [Lp.val] at he3;subst he3;have HL5:=h2k (HL4.out.1.below hb3) (HL4.out.2.eqb (hb3.block _ HL4.out.2.lt));clear hb3)
     | (refine wsl 204 w2.heap.size #[.int .u64 pt.epoch,.int .u64 pt.salt,.int .u64 pt.ahead,.int .i64 pt.number,.int .i64 pt.all,.string (str pt.text)] HL5.out.2 (by simp [Value.oneCell']) ?_
        intro w4 hB4 hU4 hs4;have HL6:=h2k (ScanLeft.stored HL2.out HL5.out.1 hU4) hB4;have hc4:=hB4.cells6;have hk4:=HL6.out.1.log.cells9;have hz4:=HL6.out.1.log.frozen 7;clear hB4 hU4 hs4))
    go_region
    all_goals
     try simp only [hmx]
     have HL7:=Lib.hid ((HL6.out.1.saw (max st.salt pt.salt)).drew);have hB5:Blk (w4.setCell ⟨w.heap.size,7,none⟩ (.int .u64 ((max st.salt pt.salt:Nat):Int))).drew w2.heap.size 204 #[.int .u64 pt.epoch,.int .u64 pt.salt,.int .u64 pt.ahead,.int .i64 pt.number,.int .i64 pt.all,.string (str pt.text)] :=
      (HL6.out.2.far (p:=⟨w.heap.size,7,none⟩) (fun e=>HL6.out.2.ne_ HL6.out.1.log dC e) _).drew
     have hc5:=hB5.cells6;have HSs:=HSs.out;clear hc4 hk4 hz4 hB5 hmx;generalize (w4.setCell ⟨w.heap.size,7,none⟩ (.int .u64 ((max st.salt pt.salt:Nat):Int))).drew=w5 at *;cases hr:st.row
     ·simp only [hr,Bool.false_and,Bool.false_eq_true,if_false] at HSs
      exact zz27
     ·cases his:is
      ·simp only [hr,his,Bool.true_and,Bool.false_eq_true,if_false] at HSs
       exact zz27
      ·simp only [hr,his,Bool.true_and,if_true] at HSs
       have HS:=Lib.hid HSs;clear HSs;go_wp2_with (at_builtin;refine wpList_append_src rfl _ _ _ _ rfl 204 i0 _ 6 56 Tryz.underlying201 hi0 hz0 hz1 hz2 rfl u11 st.l.length _ rfl (HL7.out.list.alloc _) _ 1 [_,_,_,_,_,_] rfl (Src.of_news Tryz.underlying201 _ rfl) (by simp [Value.oneCell']) (by have:=stl;unfold maxLen;omega) (oN stl) ?_;intro v2 w6 hO2 hU2 hl2 hs2);go_roundw
       case rel =>
        refine ⟨j+1,oM,by go_num,?_,?_,?_⟩;all_goals rw [HS.out]
        have h:=HL7.out.app _ hO2 hU2 hl2;exact ⟨h.list,h.new,h.log,h.upd,h.nb⟩
       case measure=>simp [intOf];omega
   ·rw [hc] at HLk
    have hS:scanAt d f (j+1) = { scanAt d f j with bad:=true } := by
     rw [HW.out.1,scanStep,if_neg (by rw [HB.out];simp),if_pos hc]
    have h10:=HW.out.2.2.1 (by rw [hS]);rw [hS] at h10;have H10:=Lib.hid h10;have HLL:=Lib.hid HW.out.2.2.2;clear h10 hS HW HB hc;go_wp2_with (first
     | (go_at_call 46;refine HRe.out.mono ?_;rintro e w' ⟨rfl,rfl⟩)
     | (go_at_call 47;refine (HLk.out _).mono ?_;rintro e w2 ⟨rfl,hb2⟩))
    go_ret2
    have ho:openG d f n e=none:=by rw [openG,H10.out];rfl
    rw [ho];exact ⟨_,rfl,⟨(HLL.out.below hb2).upd,fun _=>rfl,fun g h=>by cases h⟩⟩
  ·obtain rfl:j=n:=oM
   have HL:=h2k hL hbad;clear hL hbad;go_wp2_with fail
   have hok:=(scanAt_ok d f j).1;have hln:=scanAt_len d f j;have hG:openG d f j e=some (loopG ((scanAt d f j).l.length+1) ⟨f,j,e,[],0,0,(scanAt d f j).salt,false⟩ (scanAt d f j).l):=by rw [openG,HL.out.2];rfl
   have HG:=h3k hG hok hln;clear hG hok hln;go_loopw [11] (fun v w'=>∃(row:List Lp) (g:Lg) (v1:Value) (k:Nat),RecLeft wr w' p w.heap.size u11 (scanAt d f j).l v row g v1∧openG d f j e=some (loopG (row.length+1) g row)∧row=(scanAt d f j).l.drop k∧k≤(scanAt d f j).l.length∧g.epoch=e∧g.used=k∧g.l.length≤k) (fun v _=>lenOf v)
   case atStart =>
    exact ⟨(scanAt d f j).l,⟨f,j,e,[],0,0,(scanAt d f j).salt,false⟩,.slice none 0 0,0,RecLeft.begin HL.out.1.list HL.out.1.log rfl,HG.out.1,rfl,oM,rfl,rfl,sM⟩
   case round =>
    obtain ⟨row,g,v1,k,hR,hg,hrow,hk,hep,hus,hgl⟩:=hrel;have hrl:row.length≤5000:=by rw [hrow,List.length_drop];have:=HG.out.2.2;omega
    have hmem:∀q ∈ row,q ∈ (scanAt d f j).l:=fun q hq=>by rw [hrow] at hq;exact List.mem_of_mem_drop hq
    have hFi:=first_g hR.log (hR.parts _ hR.list) hrl (fun q hq=>(HG.out.2.1 q (hmem q hq)).1) (fun q hq=>(HG.out.2.1 q (hmem q hq)).2.1);rw [loopG] at hg;cases hf:(firstG g.epoch g.last row).2
    ·rw [hf] at hFi hg
     rw [if_neg sM] at hg;have HFi:=Lib.hid hFi;have HR:=h2k hR hg;clear hFi hR hg hrow hmem hf;go_wp2_with (go_at_call 160;refine HFi.out.mono ?_;rintro e w1 ⟨rfl,hu1⟩);go_ret2
     rw [HR.out.2];have hR1:=HR.out.1.still hu1;have hz:=HL.out.1.upd.size;exact ⟨_,rfl,HL.out.1.upd.then hR1.upd (fun q e=>.inr (by rw [e];exact Nat.le_refl _)),fun h=>(by cases h),fun g2 h=>by cases h;exact ⟨w.heap.size,v1,rfl,hR1.log,hR1.own,Nat.le_refl _,fun q hq=>by have:=hR1.new q hq;omega⟩⟩
    ·obtain ⟨h0,hp1,hp2,ht2⟩:=firstG_parts hf
     rw [hf] at hFi hg;rw [if_pos rfl] at hg;generalize (firstG g.epoch g.last row).1=text at *;obtain ⟨q0,r,rfl⟩:∃q0 r,row=q0::r:=by
      cases row with
      | nil=>simp at h0
      | cons a b=>exact ⟨a,b,rfl⟩
     obtain ⟨A,cap,b1,o1,hv,m1,m2,a1,c1⟩:=(hR.parts _ hR.list).ex;obtain ⟨rfl,-⟩:=a1 sM;subst hv;have hgl5:g.l.length≤5000:=by have:=HG.out.2.2;omega
     have hus5:g.used≤5000:=by have:=HG.out.2.2;omega
     have hsw:IntKind.i64.wrap ((g.used:Int)+((partsOf text.length:Nat):Int))=(g.used:Int)+((partsOf text.length:Nat):Int):=IntWalk.i64_in _ oM;have HPa:Hid (∀W,Calls Tryz.prog 112 #[.string (str text)] W fun e w'=>e=.returned (.int .i64 ((partsOf text.length:Nat):Int))∧W=w'):=fun W=>by
      have h:=parts_c (str text) W (by rw [str_size];omega);rw [str_size] at h;exact h
     have HFi:=Lib.hid hFi;have HR:=Lib.hid hR;have HGG:=h6k hg hrow hk hep hus hgl;clear hFi hR hg hrow hmem hf a1 c1 hk hep hus hgl;go_wp2_with (first | (go_at_call 160;refine HFi.out.mono ?_;rintro e w1 ⟨rfl,hu1⟩;have HR1:=Lib.hid (HR.out.still hu1);clear hu1) | fail);have hlen0:(0:Int)<((q0::r).length:Int):=by simp only [List.length_cons];omega
     refine wp_region_noPanic ?_;refine wp_region_T (S:=fun w'=>w'.cell? ⟨w.heap.size,4,none⟩=some v1∧w'.cell? ⟨b1,o1+1,none⟩=some (.int .u64 (q0.salt:Int))) (T:=fun i=>Nat.beq 15 i || Nat.beq i 18) kR ?_;have HSS:=Lib.hid (fun (w':World) hu=>HR1.out.sees (w2:=w') hu);have hS0:=HSS.out _ (Upd.refl _ w1).drew;refine tKW 0 (.pointer (some ⟨w.heap.size,0,none⟩)) ?_;refine tKW 1 (.pointer (some ⟨w.heap.size,0,none⟩)) ?_;refine tKW 2 (.pointer (some ⟨w.heap.size,0,none⟩)) ?_;refine tKW 3 (.pointer (some ⟨w.heap.size,0,none⟩)) ?_;refine tKW 4 (.pointer (some ⟨w.heap.size,4,none⟩)) ?_;refine wpAnyT_take (i:=5) (v:=v1) rfl kR kR kR kR (fun _ _ _ h=>h) (takes_yield rfl (Or.inl ⟨by rfl,?_⟩)) aS kR ?_
     ·intro w' hSw;go_split_ands;go_simp
     simp only [tkS];refine tKW 6 (.string (str text)) ?_;refine tKW 9 (.slice (some ⟨b1,o1,none⟩) (q0::r).length cap) ?_;refine tKW 10 (.pointer (some ⟨b1,o1,none⟩)) ?_;refine tKW 11 (.pointer (some ⟨b1,o1+1,none⟩)) ?_;refine wpAnyT_take (i:=12) (v:=.int .u64 (q0.salt:Int)) rfl kR kR kR kR (fun _ _ _ h=>h) (takes_yield rfl (Or.inl ⟨by rfl,?_⟩)) aS kR ?_
     ·intro w' hSw;go_split_ands;go_simp
     simp only [tkS];refine wo1 7 (fun K hK=>?_);go_simp
     refine hK.out _ _ ?_ ?_
     ·exact HSS.out _ ((Upd.refl _ w1).alloc _).drew
     refine wo1 8 (fun K hK=>?_);refine step_append_src (by rfl) _ _ _ _ (by rfl) 9 s0 _ 1 16 Tryz.underlying147 hs0 hx0 hx1 hx2 rfl v1 _ _ (by rfl) ((HR1.out.own.alloc _).drew) _ 1 [.string (str text)] (by rfl) (Src.of_new_drew Tryz.underlying147 (.string (str text))) (by simp [Value.oneCell']) (by unfold maxLen;omega) oM ?_;intro v2 w2 hown2 hU2 hloc2 hs2;obtain ⟨gq,cq,rfl,-,-⟩:=hown2.head oM;have hU3:Upd (fun q=>v1.ownBlock=some q) w1 w2:=((Upd.refl _ w1).alloc _).drew.then hU2 (fun _ e=>.inl e);have hl3:∀q,(Value.slice (some ⟨gq,0,none⟩) (g.l.length+1) cq).ownBlock=some q→v1.ownBlock=some q∨w1.heap.size≤q:=fun q hq=>by
      rcases hloc2 with e | e
      ·rw [e] at hq;exact .inl hq
      ·rw [e] at hq
       cases hq
       exact .inr ((((Upd.refl (fun _=>False) w1).alloc _).drew).size)
     have hB3:=HR1.out.log.upd hU3 (fun e=>HR1.out.own.ne_blk HR1.out.log dC e);have hk2:=hB3.cells9;have hf4:=hB3.frozen 4;have hf6:=hB3.frozen 6;have HX:=Lib.hid (HR1.out.app (str text) q0.salt hown2 hU3 hl3);have hS2:=HSS.out _ hU3;clear hown2 hU2 hloc2 hs2 hU3 hl3 hB3;refine hK.out _ _ hS2 ?_;clear hK;refine tKW 13 (.pointer (some ⟨w.heap.size,0,none⟩)) ?_;refine tKW 14 (.pointer (some ⟨w.heap.size,4,none⟩)) ?_;refine woT 15 (fun K hK=>?_);go_simp
     refine hK.out _ _ ?_;clear hK hS2;refine tKW 16 (.pointer (some ⟨w.heap.size,0,none⟩)) ?_;refine tKW 17 (.pointer (some ⟨w.heap.size,6,none⟩)) ?_;refine woT 18 (fun K hK=>?_);go_simp
     refine hK.out _ _ ?_;clear hK;refine wdn ?_;refine NoPanic.normal ?_;clear hk2 hf4 hf6;generalize ((w2.setCell ⟨w.heap.size,4,none⟩ (.slice (some ⟨gq,0,none⟩) (g.l.length+1) cq)).setCell ⟨w.heap.size,6,none⟩ (.int .u64 (q0.salt:Int)))=w3 at *;clear HSS hS0;go_wp2_with fail
     refine wp_region_noPanic ?_;refine wp_region_T (S:=fun w'=>w'.cell? ⟨w.heap.size,5,none⟩=some (.int .i64 (g.used:Int))) (T:=fun i=>Nat.beq 9 i) kR ?_;have hS0:w3.drew.cell? ⟨w.heap.size,5,none⟩=some (.int .i64 (g.used:Int)):=HX.out.log.drew.cell 5;have hf5:=HX.out.log.drew.frozen 5;refine tKW 0 (.pointer (some ⟨w.heap.size,0,none⟩)) ?_;refine tKW 1 (.pointer (some ⟨w.heap.size,0,none⟩)) ?_;refine tKW 2 (.pointer (some ⟨w.heap.size,5,none⟩)) ?_;refine wpAnyT_take (i:=3) (v:=.int .i64 (g.used:Int)) rfl kR kR kR kR (fun _ _ _ h=>h) (takes_yield rfl (Or.inl ⟨by rfl,?_⟩)) aS kR ?_
     ·intro w' hSw;go_split_ands;go_simp
     simp only [tkS];refine tKW 4 (.string (str text)) ?_;refine wpAnyT_take (i:=5) (v:=.int .i64 ((partsOf text.length:Nat):Int)) rfl kR kR kR kR (fun _ _ _ h=>h) (takes_call rfl 112 #[.string (str text)] (by rfl) (fun w' _=>?_) (fun w' hS=>HPa.out w')) aS kR ?_
     ·go_simp
     simp only [tkS];refine tKW 6 (.int .i64 ((g.used:Int)+((partsOf text.length:Nat):Int))) ?_;refine tKW 7 (.pointer (some ⟨w.heap.size,0,none⟩)) ?_;refine tKW 8 (.pointer (some ⟨w.heap.size,5,none⟩)) ?_;refine woT 9 (fun K hK=>?_);go_simp
     refine hK.out _ _ ?_;clear hK;refine wdn ?_;refine NoPanic.normal ?_;have HY:=Lib.hid ((HX.out.used (g.used+partsOf text.length)).drew.drop (partsOf text.length) hp2);clear hS0 hf5;have hpl:((partsOf text.length:Nat):Int)≤((q0::r).length:Int):=oM;have hp0:(0:Int)≤((partsOf text.length:Nat):Int):=oM;go_wp2_with (go_at_call 112;refine (HPa.out _).mono ?_;rintro e w4 ⟨rfl,rfl⟩);go_roundw
     case rel =>
      refine ⟨(q0::r).drop (partsOf text.length),{ g with l:=g.l++[str text],last:=q0.salt,used:=g.used+partsOf text.length },.slice (some ⟨gq,0,none⟩) (g.l.length+1) cq,k+partsOf text.length,?_,?_,?_,?_,HGG.out.2.2.2.1,?_,?_⟩
      ·have h:=HY.out
       rw [Int.natCast_add g.used (partsOf text.length)] at h;have ha:Option.map (fun x:Addr=>x.add (partsOf text.length*6)) (some ⟨b1,o1,none⟩)=some ⟨b1,o1+partsOf text.length*6,none⟩:=part_add _ _ _;rw [ha] at h;exact h
      ·rw [HGG.out.1]
       exact congrArg some (loopG_fuel _ _ _ _ (by rw [List.length_drop];simp only [List.length_cons] at hp2 ⊢;omega) oM)
      ·rw [HGG.out.2.1,List.drop_drop]
      ·have h:=congrArg List.length HGG.out.2.1
       rw [List.length_drop] at h;have:=HGG.out.2.2.1;omega
      ·show g.used+_=_
       rw [HGG.out.2.2.2.2.1]
      ·simp only [List.length_append,List.length_cons,List.length_nil]
       have:=HGG.out.2.2.2.2.2;omega
     case measure =>
      simp [lenOf]
      omega
theorem lookL_closeL (b:List UInt8) (hb:b.length=60) (hz:b≠List.replicate 60 0) (hs:sumN b<2 ^ (8*4)):lookL (closeL b)=(b,1):=by
 have hl:(leB (sumN b) 4).length=4:=leB_len _ _;have h1:(closeL b).length=64:=by simp [closeL,hb,hl]
 have h2:(closeL b).take 60=b:=by rw [closeL,List.take_append_of_le_length oM,List.take_of_length_le oM]
 have h3:(closeL b).drop 60=leB (sumN b) 4:=by rw [closeL,List.drop_append_of_le_length oM,List.drop_of_length_le oM];rfl
 have h4:closeL b≠List.replicate 64 0:=by
  intro e;apply hz
  rw [← h2,e];rfl
 rw [lookL,if_neg oM,if_neg h4,h2,h3,leN_leB _ _ hs,if_neg sM]
theorem readL_body (p:Pt) (hg:p.gen<2 ^ (8*8)) (hn:p.number<256) (ha:p.all<256) (ht:p.text.length≤48):readL p.body=(p,true):=by
 obtain ⟨g,n,a,t⟩:=p;simp only at hg hn ha ht
 have hl:(leB g 8).length=8:=leB_len _ _;have hb:(⟨g,n,a,t⟩:Pt).body=leB g 8++([UInt8.ofNat n,UInt8.ofNat a,UInt8.ofNat t.length,0]++(t++List.replicate (48 - t.length) 0)):=by simp [Pt.body]
 have h1:(Pt.body ⟨g,n,a,t⟩).take 8=leB g 8:=by rw [hb,List.take_append_of_le_length oM,List.take_of_length_le oM]
 have hd:∀i,(Pt.body ⟨g,n,a,t⟩).getD (8+i) 0=([UInt8.ofNat n,UInt8.ofNat a,UInt8.ofNat t.length,0]++(t++List.replicate (48 - t.length) 0)).getD i 0:=by
  intro i;rw [hb,List.getD_eq_getElem?_getD,List.getD_eq_getElem?_getD,List.getElem?_append_right oM,hl,Nat.add_sub_cancel_left]
 have h8:(Pt.body ⟨g,n,a,t⟩).getD 8 0=UInt8.ofNat n:=hd 0;have h9:(Pt.body ⟨g,n,a,t⟩).getD 9 0=UInt8.ofNat a:=hd 1;have h10:(Pt.body ⟨g,n,a,t⟩).getD 10 0=UInt8.ofNat t.length:=hd 2;have h11:(Pt.body ⟨g,n,a,t⟩).getD 11 0=0:=hd 3;have hdr:∀i,(Pt.body ⟨g,n,a,t⟩).drop (12+i)=(t++List.replicate (48 - t.length) 0).drop i:=by
  intro i;rw [hb,← List.append_assoc,← List.drop_drop,List.drop_left' (by simp [hl])]
 have hu:∀x,x<256→(UInt8.ofNat x).toNat=x:=fun x hx=>by simp;omega
 rw [readL,h8,h9,h10,h11,h1,hu n hn,hu a ha,hu t.length oM,if_neg oM,leN_leB _ _ hg];have e0:=hdr 0;rw [Nat.add_zero] at e0;rw [e0,hdr t.length];simp
theorem chunks (t:List UInt8) (n:Nat):((List.range n).flatMap fun i=>(t.drop (48*i)).take 48)=t.take (48*n):=by
 induction n with
 | zero=>simp
 | succ n ih=>rw [List.range_succ,List.flatMap_append,ih];simp [List.take_add,Nat.mul_add]
theorem textL_cut (t:List UInt8) (g:Nat):textL (cutL t g)=t:=by
 have h:=chunks t (allOf t.length);rw [textL,cutL,List.flatMap_map];rw [h,List.take_of_length_le];unfold allOf;omega
theorem holdL_cut (t:List UInt8) (g:Nat) (rest:List Pt) (hg:g≠0) (ht:t.length≤400):holdL (cutL t g++rest)=(t,g):=by
 have hn:0<(cutL t g).length:=by rw [cutL_len];unfold allOf;omega
 have h0:=cutL_get t g 0 hn;obtain ⟨p,l,e⟩:∃p l,cutL t g=p::l:=by
  cases h:cutL t g with
  | nil=>rw [h] at hn;simp at hn
  | cons p l=>exact ⟨p,l,rfl⟩
 have hp:p.gen=g∧p.all=allOf t.length:=by
  have h1:(cutL t g)[0]=p:=by simp [e]
  rw [h1] at h0;exact ⟨h0.1,h0.2.2.1⟩
 have hfg:firstGen (cutL t g++rest)=g:=by rw [e];exact hp.1
 have hfa:firstAll (cutL t g++rest)=allOf t.length:=by rw [e];exact hp.2
 have htk:(cutL t g++rest).take (allOf t.length)=cutL t g:=by rw [List.take_append_of_le_length (by rw [cutL_len];omega),List.take_of_length_le (by rw [cutL_len];omega)]
 rw [holdL,hfg,hfa,htk,textL_cut,htk,if_neg hg,if_neg oM,if_pos rfl]
theorem Dk.burn_free {d:Dk} (h:d.fuse=-1):d.burn=(d,true):=by
 unfold Dk.burn;rw [if_neg oM,if_neg oM]
theorem Dk.write_free {d:Dk} (h:d.fuse=-1) (ho:d.off=false) {i:Nat} (hi:i<d.lasts.length) {b:ByteArray} (hb:b.size=64):d.write (i:Int) b=(d.push i b,0):=by
 have ht:d.there (i:Int)=true:=by simp [Dk.there];omega
 unfold Dk.write;rw [ho,ht,Dk.burn_free h];simp [hb]
theorem Dk.push_now (d:Dk) (i j:Nat) (b:ByteArray) (hi:i<d.waits.length):(d.push i b).now j=if i=j then b else d.now j:=by
 unfold Dk.now Dk.push Dk.at_ Dk.last;simp only [List.getD_eq_getElem?_getD,List.getElem?_set];by_cases h:i=j
 ·subst h
  simp [hi]
 ·simp [h]
theorem Dk.sync_free {d:Dk} (h:d.fuse=-1) (ho:d.off=false):d.sync=(d.flush,0):=by
 unfold Dk.sync;rw [ho,Dk.burn_free h];simp
theorem Dk.flush_now (d:Dk) (i:Nat) (hi:i<d.lasts.length):d.flush.now i=d.now i:=by
 have hw:(d.waits.map fun _=>([]:List ByteArray)).getD i []=[]:=by
  rw [List.getD_eq_getElem?_getD,List.getElem?_map];cases d.waits[i]?<;>rfl
 show ((d.waits.map fun _=>([]:List ByteArray)).getD i []).getLast?.getD (((List.range d.lasts.length).map d.now).getD i ByteArray.empty)=d.now i;rw [hw,List.getD_eq_getElem?_getD,List.getElem?_map,List.getElem?_range hi];rfl
theorem Dk.flush_pend (d:Dk):d.flush.pend=0:=by
 show ((d.waits.map fun _=>([]:List ByteArray)).map List.length).sum=0;rw [List.map_map];generalize d.waits=l;induction l with
 | nil=>rfl
 | cons x l ih=>simp only [List.map_cons,List.sum_cons,ih];rfl
structure Pt.ok (p:Pt):Prop where
 gen:0<p.gen
 gen':p.gen<2 ^ (8*8)
 number:p.number<256
 all:p.all<256
 text:p.text.length≤48
 all0:0<p.all
theorem body_ne (p:Pt) (h:p.ok):p.body≠List.replicate 60 0:=by
 intro e;have h1:=(readL_body p h.gen' h.number h.all h.text);rw [e] at h1;have h2:(readL (List.replicate 60 0)).1.gen=p.gen:=by rw [h1]
 have h3:(readL (List.replicate 60 0)).1.gen=0:=dC;have:=h.gen;omega
theorem look_sec (p : Pt) (h : p.ok) : lookL p.sec.data.toList=(p.body,1):=by
 have e:p.sec.data.toList=closeL p.body:=by simp [Pt.sec,str]
 rw [e]
 exact lookL_closeL _ (p.body_len h.text) (body_ne p h) (by have:=sumN_lt p.body;have e2:(2:Nat) ^ (8*4)=4294967296:=dC
                                                            omega)
theorem cutL_ok (t:List UInt8) (g:Nat) (hg:0<g) (hg2:g<2 ^ (8*8)) (ht:t.length≤400):∀p ∈ cutL t g,p.ok:=by
 intro p hp;obtain ⟨i,hi,rfl⟩:=List.mem_iff_getElem.1 hp;obtain ⟨c1,c2,c3,c4⟩:=cutL_get t g i hi;have hn:(cutL t g).length≤9:=by rw [cutL_len];unfold allOf;omega
 rw [cutL_len] at hn;exact ⟨oM,oM,by rw [cutL_len] at hi;omega,oM,c4,by rw [c3];unfold allOf;omega⟩
theorem sec_size (p:Pt) (h:p.ok):p.sec.size=64:=by
 rw [Pt.sec,str_size,closeL,List.length_append,p.body_len h.text,leB_len]
theorem holdL_le {l:List Pt} {m:Nat} (h:∀p ∈ l,p.gen≤m):(holdL l).2≤m:=by
 have hf:firstGen l≤m:=by
  cases l with
  | nil=>simp [firstGen]
  | cons p l=>exact h p sM
 unfold holdL;split
 ·exact Nat.zero_le _
 ·split
  ·exact Nat.zero_le _
  ·split
   ·exact hf
   ·exact Nat.zero_le _
def Kp.put (k:Kp) (t:List UInt8):Kp := { k with seen:=k.seen+1,text:=t,gen:=k.seen+1,at_:=1 - k.at_,broken:=false }
end
end Go.Proofs.YtbhjgfibhegddaaGreat
