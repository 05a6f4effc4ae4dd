/-
  The part that a log's sector is: the walk of read.
-/
import Derived.Test.YtpfbgmfkeofefaaGreatLogPart
import Derived.Deep.Light
import Derived.Test.YtpfbgmfkeofefaaGreatTakeT
namespace Go.Proofs.YtpfbgmfkeofefaaGreat
open Go Go.RowKit

/-- The byte at a place. -/
def byteAt (s : ByteArray) (i : Nat) : Nat := (s.data.toList.getD i 0).toNat
/-- The number at the i-th eight bytes. -/
def numAt (s : ByteArray) (i : Int) : Int := (leN ((s.data.toList.drop (8 * i.toNat)).take 8) : Int)
theorem readAt_any (s : ByteArray) (i : Int) (q : Nat) (w : World) (hs : s.size = 60) (h0 : 0 ≤ i) (hi : i < 3) (hc : w.cell? ⟨q, 0, none⟩ = some (.string s)) :
    Calls Tryz.prog 109 #[.int .i64 i, .pointer (some ⟨q, 0, none⟩)] w fun e w' => e = .returned (.int .u64 (numAt s i)) ∧ w = w' := by
  obtain ⟨i, rfl⟩ := Int.eq_ofNat_of_zero_le h0
  exact readAt_c s i q w hs (by omega) hc
theorem read_test32 (l : List UInt8) (m n : Nat) (hm : m = 60) (hl : l.length = 60) (hn : n ≤ 32) : ((Lib.countByte (List.take (m - (28 + n)) (List.drop (28 + n) l)) 0 : Int) == 32 - (n : Int)) = decide (List.drop (28 + n) l = List.replicate (32 - n) 0) := by
  have hd : (List.drop (28 + n) l).length = 32 - n := by simp [hl]; omega
  rw [List.take_of_length_le (by omega)]
  have h := count_zero (List.drop (28 + n) l)
  rw [hd] at h
  by_cases hz : List.drop (28 + n) l = List.replicate (32 - n) 0
  · rw [decide_eq_true hz, h.2 hz, beq_iff_eq]; omega
  · rw [decide_eq_false hz, beq_eq_false_iff_ne]
    intro hh
    exact hz (h.1 (by omega))
set_option maxRecDepth 100000 in
set_option maxHeartbeats 1600000 in
theorem read_g (s : ByteArray) (w : World) (hs : s.size = 60) :
    Calls Tryz.prog 77 #[.string s] w fun e w' => e = .returned (.tuple #[(readG s.data.toList).1.val, .bool (readG s.data.toList).2]) ∧ Below w.heap.size w w' := by
  have h24 : (24 : Int) < s.size := by omega
  have h25 : (25 : Int) < s.size := by omega
  have h26 : (26 : Int) < s.size := by omega
  have h27 : (27 : Int) < s.size := by omega
  have g24 : 24 < s.size := by omega
  have g25 : 25 < s.size := by omega
  have g26 : 26 < s.size := by omega
  have g27 : 27 < s.size := by omega
  have e24 := Lib.hid (getD_c s 24 g24)
  have e25 := Lib.hid (getD_c s 25 g25)
  have e26 := Lib.hid (getD_c s 26 g26)
  have e27 := Lib.hid (getD_c s 27 g27)
  have HS60 := Lib.hid hs
  clear hs
  go_enter Tryz.func77, Tryz.ntmps77
  go_upto_region 2 with fail
  have hB0 : Blk ((w.alloc (.cells #[.string s] 9)).alloc (.cells #[.int .u64 0, .int .u64 0, .int .u64 0, .int .i64 0, .int .i64 0, .string ⟨#[]⟩] 103)) w.heap.size 9 #[.string s] := (Blk.new w _ _).alloc _
  have hB1 : Blk ((w.alloc (.cells #[.string s] 9)).alloc (.cells #[.int .u64 0, .int .u64 0, .int .u64 0, .int .i64 0, .int .i64 0, .string ⟨#[]⟩] 103)) (w.heap.size + 1) 103 #[.int .u64 0, .int .u64 0, .int .u64 0, .int .i64 0, .int .i64 0, .string ⟨#[]⟩] := by
    have h := Blk.new (w.alloc (.cells #[.string s] 9)) 103 #[.int .u64 0, .int .u64 0, .int .u64 0, .int .i64 0, .int .i64 0, .string ⟨#[]⟩]
    simpa using h
  have hbw : Below w.heap.size w ((w.alloc (.cells #[.string s] 9)).alloc (.cells #[.int .u64 0, .int .u64 0, .int .u64 0, .int .i64 0, .int .i64 0, .string ⟨#[]⟩] 103)) := ((Below.refl _ w).alloc (Nat.le_refl _) _).alloc (by simp) _
  have hsz : ((w.alloc (.cells #[.string s] 9)).alloc (.cells #[.int .u64 0, .int .u64 0, .int .u64 0, .int .i64 0, .int .i64 0, .string ⟨#[]⟩] 103)).heap.size = w.heap.size + 2 := by simp
  generalize ((w.alloc (.cells #[.string s] 9)).alloc (.cells #[.int .u64 0, .int .u64 0, .int .u64 0, .int .i64 0, .int .i64 0, .string ⟨#[]⟩] 103)) = W at *
  have hc0 := hB0.cells1
  have hne := World.new_ne W ⟨w.heap.size, 0, none⟩ hc0
  have HCA := Lib.hid (fun W' (hu : Upd (fun _ => False) W W') => (hB0.upd hu (fun e => e)).cells1)
  have HW := Lib.hid (And.intro hB0 (And.intro hB1 (And.intro hbw hsz)))
  clear hB0 hB1 hbw hsz
  generalize hq0 : w.heap.size = q0 at *
  have HQ := Lib.hid hq0
  clear hq0
  go_cut [5] (fun s5 wx => s5 = .pointer (some ⟨W.heap.size, 0, none⟩) ∧ Upd (fun _ => False) W wx ∧ Blk wx W.heap.size 103 #[.int .u64 (numAt s 0), .int .u64 (numAt s 1), .int .u64 (numAt s 2), .int .i64 (byteAt s 24 : Int), .int .i64 (byteAt s 25 : Int), .string ⟨#[]⟩])
  case first =>
    refine wp_region_noPanic ?_
    refine wp_region_held_drew (S := fun w' => w'.cell? ⟨q0, 0, none⟩ = some (.string s)) (by kernel_rfl) (HCA.out _ (Upd.refl _ _).drew) (fun hHeld => ?_)
    refine wpAnyH_take (i := 0) (v := .func (.func 109) #[] #[.pointer (some ⟨q0, 0, none⟩)]) rfl (by kernel_rfl) (by kernel_rfl) (by kernel_rfl) (fun _ _ _ h => h) (Or.inl ⟨by rfl, ?_⟩) (by assumption) ?_
    · intro w' hSw; go_split_ands; go_simp
    simp only [Act.put, List.getElem_toArray, List.getElem_cons_zero, List.setIfInBounds_toArray, List.set_cons_zero, List.set_cons_succ]
    refine wpAnyH_take (i := 2) (v := .func (.func 109) #[] #[.pointer (some ⟨q0, 0, none⟩)]) rfl (by kernel_rfl) (by kernel_rfl) (by kernel_rfl) (fun _ _ _ h => h) (Or.inl ⟨by rfl, ?_⟩) (by assumption) ?_
    · intro w' hSw; go_split_ands; go_simp
    simp only [Act.put, List.getElem_toArray, List.getElem_cons_zero, List.getElem_cons_succ, List.setIfInBounds_toArray, List.set_cons_zero, List.set_cons_succ]
    refine wpAnyH_take (i := 4) (v := .func (.func 109) #[] #[.pointer (some ⟨q0, 0, none⟩)]) rfl (by kernel_rfl) (by kernel_rfl) (by kernel_rfl) (fun _ _ _ h => h) (Or.inl ⟨by rfl, ?_⟩) (by assumption) ?_
    · intro w' hSw; go_split_ands; go_simp
    simp only [Act.put, List.getElem_toArray, List.getElem_cons_zero, List.getElem_cons_succ, List.setIfInBounds_toArray, List.set_cons_zero, List.set_cons_succ]
    refine wpAnyH_take (i := 6) (v := .string s) rfl (by kernel_rfl) (by kernel_rfl) (by kernel_rfl) (fun _ _ _ h => h) (Or.inl ⟨by rfl, ?_⟩) (by assumption) ?_
    · intro w' hSw; go_split_ands; go_simp
    simp only [Act.put, List.getElem_toArray, List.getElem_cons_zero, List.getElem_cons_succ, List.setIfInBounds_toArray, List.set_cons_zero, List.set_cons_succ]
    refine wpAnyH_take (i := 9) (v := .string s) rfl (by kernel_rfl) (by kernel_rfl) (by kernel_rfl) (fun _ _ _ h => h) (Or.inl ⟨by rfl, ?_⟩) (by assumption) ?_
    · intro w' hSw; go_split_ands; go_simp
    simp only [Act.put, List.getElem_toArray, List.getElem_cons_zero, List.getElem_cons_succ, List.setIfInBounds_toArray, List.set_cons_zero, List.set_cons_succ]
    refine wpAnyH_take (i := 7) (v := .int .u8 (s[24].toNat : Int)) rfl (by kernel_rfl) (by kernel_rfl) (by kernel_rfl) (fun _ _ _ h => h) (Or.inl ⟨by rfl, ?_⟩) (by assumption) ?_
    · intro w' hSw; go_split_ands; go_simp
    simp only [Act.put, List.getElem_toArray, List.getElem_cons_zero, List.getElem_cons_succ, List.setIfInBounds_toArray, List.set_cons_zero, List.set_cons_succ]
    refine wpAnyH_take (i := 10) (v := .int .u8 (s[25].toNat : Int)) rfl (by kernel_rfl) (by kernel_rfl) (by kernel_rfl) (fun _ _ _ h => h) (Or.inl ⟨by rfl, ?_⟩) (by assumption) ?_
    · intro w' hSw; go_split_ands; go_simp
    simp only [Act.put, List.getElem_toArray, List.getElem_cons_zero, List.getElem_cons_succ, List.setIfInBounds_toArray, List.set_cons_zero, List.set_cons_succ]
    refine wpAnyH_take (i := 8) (v := .int .i64 (IntKind.i64.wrap (s[24].toNat : Int))) rfl (by kernel_rfl) (by kernel_rfl) (by kernel_rfl) (fun _ _ _ h => h) (Or.inl ⟨by rfl, ?_⟩) (by assumption) ?_
    · intro w' hSw; go_split_ands; go_simp
    simp only [Act.put, List.getElem_toArray, List.getElem_cons_zero, List.getElem_cons_succ, List.setIfInBounds_toArray, List.set_cons_zero, List.set_cons_succ]
    refine wpAnyH_take (i := 11) (v := .int .i64 (IntKind.i64.wrap (s[25].toNat : Int))) rfl (by kernel_rfl) (by kernel_rfl) (by kernel_rfl) (fun _ _ _ h => h) (Or.inl ⟨by rfl, ?_⟩) (by assumption) ?_
    · intro w' hSw; go_split_ands; go_simp
    simp only [Act.put, List.getElem_toArray, List.getElem_cons_zero, List.getElem_cons_succ, List.setIfInBounds_toArray, List.set_cons_zero, List.set_cons_succ]
    refine wpAnyH_takeC (i := 1) (v := .int .u64 (numAt s 0)) rfl (by kernel_rfl) (by kernel_rfl) (by kernel_rfl) (fun _ _ _ h => h) (takes_call rfl 109 #[.int .i64 0, .pointer (some ⟨q0, 0, none⟩)] (by rfl) (fun w' _ => ?_) (fun w' hS => readAt_any s 0 q0 w' HS60.out (by decide) (by decide) hS)) (by assumption) ?_
    · go_simp
    simp only [Act.put, List.getElem_toArray, List.getElem_cons_zero, List.getElem_cons_succ, List.setIfInBounds_toArray, List.set_cons_zero, List.set_cons_succ]
    refine wpAnyH_takeC (i := 3) (v := .int .u64 (numAt s 1)) rfl (by kernel_rfl) (by kernel_rfl) (by kernel_rfl) (fun _ _ _ h => h) (takes_call rfl 109 #[.int .i64 1, .pointer (some ⟨q0, 0, none⟩)] (by rfl) (fun w' _ => ?_) (fun w' hS => readAt_any s 1 q0 w' HS60.out (by decide) (by decide) hS)) (by assumption) ?_
    · go_simp
    simp only [Act.put, List.getElem_toArray, List.getElem_cons_zero, List.getElem_cons_succ, List.setIfInBounds_toArray, List.set_cons_zero, List.set_cons_succ]
    refine wpAnyH_takeC (i := 5) (v := .int .u64 (numAt s 2)) rfl (by kernel_rfl) (by kernel_rfl) (by kernel_rfl) (fun _ _ _ h => h) (takes_call rfl 109 #[.int .i64 2, .pointer (some ⟨q0, 0, none⟩)] (by rfl) (fun w' _ => ?_) (fun w' hS => readAt_any s 2 q0 w' HS60.out (by decide) (by decide) hS)) (by assumption) ?_
    · go_simp
    simp only [Act.put, List.getElem_toArray, List.getElem_cons_zero, List.getElem_cons_succ, List.setIfInBounds_toArray, List.set_cons_zero, List.set_cons_succ]
    refine wpAnyH_take (i := 12) (v := .agg #[.int .u64 (numAt s 0), .int .u64 (numAt s 1), .int .u64 (numAt s 2), .int .i64 (IntKind.i64.wrap (s[24].toNat : Int)), .int .i64 (IntKind.i64.wrap (s[25].toNat : Int)), .string ⟨#[]⟩]) rfl (by kernel_rfl) (by kernel_rfl) (by kernel_rfl) (fun _ _ _ h => h) (Or.inl ⟨by rfl, ?_⟩) (by assumption) ?_
    · intro w' hSw; go_split_ands; go_simp
    simp only [Act.put, List.getElem_toArray, List.getElem_cons_zero, List.getElem_cons_succ, List.setIfInBounds_toArray, List.set_cons_zero, List.set_cons_succ]
    refine wpAnyH_ready (rs := [13]) (by kernel_rfl) (by simp) ?_
    refine AllReadyH.cons rfl (fun K hK => ?_) AllReadyH.nil
    go_simp
    refine hK.out _ _ (HCA.out _ ((Upd.refl _ _).alloc _).drew) (fun hHeld2 => ?_)
    clear hK K
    refine wpAnyH_ready (rs := [14]) (by kernel_rfl) (by simp) ?_
    refine AllReadyH.cons rfl (fun K hK => ?_) AllReadyH.nil
    go_simp
    refine hK.out _ _ ?_ (fun hHeld3 => ?_)
    · exact HCA.out _ ((Upd.refl _ _).alloc _).drew
    clear hK K
    refine wpAnyH_done (by kernel_rfl) ?_ _
    refine NoPanic.normal ?_
    go_wp2_with fail
    go_meet
    rw [u8_i64, u8_i64, ← e24.out, ← e25.out]
    exact ⟨rfl, ((Upd.refl _ _).alloc _).drew, (Blk.new W _ _).drew⟩
  case rest =>
    obtain ⟨rfl, hUw, hBp⟩ := hcut
    have hBs := HW.out.1.upd hUw (fun e => e)
    have hBr := HW.out.2.1.upd hUw (fun e => e)
    have hcs := hBs.cells1
    have HB := Lib.hid (And.intro hBs (And.intro hBr (And.intro hBp hUw)))
    have hqW : q0 < W.heap.size := by have := HW.out.2.2.2; omega
    have hqW1 : q0 + 1 < W.heap.size := by have := HW.out.2.2.2; omega
    have hbelow : Below w.heap.size w W := by rw [HQ.out]; exact HW.out.2.2.1
    have HBe := Lib.hid hbelow
    clear hBs hBr hBp hUw hc0 hne HW HCA hbelow
    have HPb : Hid (∃ pb, W.heap.size = pb) := ⟨_, rfl⟩
    by_cases h32 : 32 < (s.data.toList.getD 26 0).toNat
    · have h32' : (32 : Int) < (s[26].toNat : Int) := by rw [← e26.out]; omega
      have hwr : IntKind.i64.wrap (s[26].toNat : Int) = (s[26].toNat : Int) := u8_i64 _
      have hr : readG s.data.toList = (⟨leN (s.data.toList.take 8), leN ((s.data.toList.drop 8).take 8), leN ((s.data.toList.drop 16).take 8), (s.data.toList.getD 24 0).toNat, (s.data.toList.getD 25 0).toNat, []⟩, false) := by unfold readG; rw [if_pos h32]
      have HR := Lib.hid hr
      clear hr
      go_wp2_with (first
        | (refine wpList_load_all rfl _ _ rfl W.heap.size rfl _ _ _ HB.out.2.2.1 Tryz.underlying103 rfl rfl ?_)
        | (refine wpList_store_all rfl 103 _ _ rfl (q0 + 1) #[.int .u64 (numAt s 0), .int .u64 (numAt s 1), .int .u64 (numAt s 2), .int .i64 (byteAt s 24 : Int), .int .i64 (byteAt s 25 : Int), .string ⟨#[]⟩] rfl rfl _ _ HB.out.2.1 rfl (by simp [Value.oneCell']) (by kernel_rfl) ?_
           intro w6 hB6 hU6 hs6))
      have hHR := HR.out
      generalize readG s.data.toList = rr at hHR
      subst hHR
      refine bodyPost_ret (results_cell_slot rfl _ _ (q0 + 1) _ _ _ _ rfl hB6 Tryz.underlying103 rfl rfl (.bool false) rfl) rfl ⟨rfl, ?_⟩
      have hb := HBe.out
      have hq := HQ.out
      have hu := HB.out.2.2.2
      exact (hb.trans ((hu.below (fun _ e => e.elim)).mono hb.size)).trans ⟨hU6.os, hU6.tape, hU6.output, hU6.size, fun b hbl => hU6.block b (Nat.lt_of_lt_of_le hbl (Nat.le_trans hb.size hu.size)) (by omega)⟩
    · have h32' : ¬ (32 : Int) < (s[26].toNat : Int) := by rw [← e26.out]; omega
      have hwr : IntKind.i64.wrap (s[26].toNat : Int) = (s[26].toNat : Int) := u8_i64 _
      have hr : readG s.data.toList = (⟨leN (s.data.toList.take 8), leN ((s.data.toList.drop 8).take 8), leN ((s.data.toList.drop 16).take 8), (s.data.toList.getD 24 0).toNat, (s.data.toList.getD 25 0).toNat, (s.data.toList.drop 28).take (s.data.toList.getD 26 0).toNat⟩, decide (s.data.toList.getD 27 0 = 0 ∧ s.data.toList.drop (28 + (s.data.toList.getD 26 0).toNat) = List.replicate (32 - (s.data.toList.getD 26 0).toNat) 0)) := by unfold readG; rw [if_neg h32]
      have HR := Lib.hid hr
      clear hr
      have e26' := e26.out
      have hbn : s[26].toNat ≤ 32 := by omega
      obtain ⟨n, hn⟩ : ∃ n, s[26].toNat = n := ⟨_, rfl⟩
      have HN := Lib.hid (And.intro hn e26')
      have hle : (28 : Int) + (n : Int) ≤ (s.size : Int) := by have := HS60.out; omega
      have hsub : IntKind.i64.wrap (32 - (n : Int)) = 32 - (n : Int) := IntWalk.i64_in _ (by omega)
      have hadd : IntKind.i64.wrap (28 + (n : Int)) = 28 + (n : Int) := IntWalk.i64_in _ (by omega)
      have hnn : (0 : Int) ≤ 28 + (n : Int) := by omega
      have htn : ((28 : Int) + (n : Int)).toNat = 28 + n := by omega
      have hn32 : n ≤ 32 := by omega
      rw [hn] at hwr h32'
      obtain ⟨cnt, hcnt, hK⟩ : ∃ cnt : Int, (cnt == 32 - (n : Int)) = decide (List.drop (28 + n) s.data.toList = List.replicate (32 - n) 0) ∧
          ∀ W, Calls Tryz.prog 106 #[.string (s.extract (28 + n) s.size), .string ⟨#[0]⟩] W fun e w' => e = .returned (.int .i64 cnt) ∧ W = w' := by
        refine ⟨_, ?_, fun W => (Tryz.strings_Count_one (s.extract (28 + n) s.size) 0 W).mono fun _ _ h => ⟨h.1, h.2.symm⟩⟩
        rw [← read_test32 s.data.toList s.size n HS60.out (by simpa using HS60.out) hn32]
        congr 3
        rw [extract_str_from]
        rfl
      have HC := Lib.hid hcnt
      have HK := Lib.hid hK
      clear hcnt hK e26' e26
      go_wp2_with (first
        | (refine wpList_store_one rfl 9 _ _ rfl W.heap.size 5 (.string (s.extract 28 (28 + n))) rfl rfl _ _ HB.out.2.2.1 (by simp) rfl (by kernel_rfl) ?_
           intro w3 hB3 hU3 hs3))
      simp only [List.setIfInBounds_toArray, List.set_cons_succ, List.set_cons_zero] at hB3
      have hqne : q0 ≠ W.heap.size := by omega
      have hqne1 : q0 + 1 ≠ W.heap.size := by omega
      have hBs3 : Blk w3 q0 9 #[.string s] := HB.out.1.upd hU3 hqne
      have hBr3 : Blk w3 (q0 + 1) 103 #[.int .u64 0, .int .u64 0, .int .u64 0, .int .i64 0, .int .i64 0, .string ⟨#[]⟩] := HB.out.2.1.upd hU3 hqne1
      have hS : ∀ w', Upd (fun b => b = q0 + 1) w3 w' → (w'.cell? ⟨q0, 0, none⟩ = some (.string s) ∧ w'.cell? ⟨W.heap.size, 0, none⟩ = some (.int .u64 (numAt s 0)) ∧ w'.cell? ⟨W.heap.size, 1, none⟩ = some (.int .u64 (numAt s 1)) ∧ w'.cell? ⟨W.heap.size, 2, none⟩ = some (.int .u64 (numAt s 2)) ∧ w'.cell? ⟨W.heap.size, 3, none⟩ = some (.int .i64 (byteAt s 24 : Int)) ∧ w'.cell? ⟨W.heap.size, 4, none⟩ = some (.int .i64 (byteAt s 25 : Int)) ∧ w'.cell? ⟨W.heap.size, 5, none⟩ = some (.string (s.extract 28 (28 + n)))) := by
        intro w' hu
        obtain ⟨c0, c1, c2, c3, c4, c5⟩ := (hB3.upd hu (fun e => hqne1 e.symm)).cells6
        exact ⟨(hBs3.upd hu (by omega)).cells1, c0, c1, c2, c3, c4, c5⟩
      have HSS := Lib.hid hS
      have H3 := Lib.hid (And.intro hB3 (And.intro hBr3 hU3))
      have hca := hBr3.cells6
      have hz0 := hBr3.frozen 0
      have hz1 := hBr3.frozen 1
      have hz2 := hBr3.frozen 2
      have hz3 := hBr3.frozen 3
      have hz4 := hBr3.frozen 4
      have hz5 := hBr3.frozen 5
      clear hB3 hBr3 hU3 hs3 hS hBs3 hcs
      by_cases h0 : s[27] = 0
      · have h0' : ((s[27].toNat : Int) == 0) = true := by rw [h0]; rfl
        refine wp_region_noPanic ?_
        refine wp_region_held_drew (S := fun w' => w'.cell? ⟨q0, 0, none⟩ = some (.string s) ∧ w'.cell? ⟨W.heap.size, 0, none⟩ = some (.int .u64 (numAt s 0)) ∧ w'.cell? ⟨W.heap.size, 1, none⟩ = some (.int .u64 (numAt s 1)) ∧ w'.cell? ⟨W.heap.size, 2, none⟩ = some (.int .u64 (numAt s 2)) ∧ w'.cell? ⟨W.heap.size, 3, none⟩ = some (.int .i64 (byteAt s 24 : Int)) ∧ w'.cell? ⟨W.heap.size, 4, none⟩ = some (.int .i64 (byteAt s 25 : Int)) ∧ w'.cell? ⟨W.heap.size, 5, none⟩ = some (.string (s.extract 28 (28 + n)))) (by kernel_rfl) (HSS.out _ (Upd.refl _ _).drew) (fun hHeld => ?_)
        refine wpAnyH_take (i := 0) (v := .agg #[.int .u64 (numAt s 0), .int .u64 (numAt s 1), .int .u64 (numAt s 2), .int .i64 (byteAt s 24 : Int), .int .i64 (byteAt s 25 : Int), .string (s.extract 28 (28 + n))]) rfl (by kernel_rfl) (by kernel_rfl) (by kernel_rfl) (fun _ _ _ h => h) (Or.inl ⟨by rfl, ?_⟩) (by assumption) ?_
        · intro w' hSw; go_split_ands; go_simp
        simp only [Act.put, List.getElem_toArray, List.getElem_cons_zero, List.setIfInBounds_toArray, List.set_cons_zero, List.set_cons_succ]
        refine wpAnyH_take (i := 1) (v := .string s) rfl (by kernel_rfl) (by kernel_rfl) (by kernel_rfl) (fun _ _ _ h => h) (Or.inl ⟨by rfl, ?_⟩) (by assumption) ?_
        · intro w' hSw; go_split_ands; go_simp
        simp only [Act.put, List.getElem_toArray, List.getElem_cons_zero, List.getElem_cons_succ, List.setIfInBounds_toArray, List.set_cons_zero, List.set_cons_succ]
        refine wpAnyH_take (i := 2) (v := .int .u8 (s[27].toNat : Int)) rfl (by kernel_rfl) (by kernel_rfl) (by kernel_rfl) (fun _ _ _ h => h) (Or.inl ⟨by rfl, ?_⟩) (by assumption) ?_
        · intro w' hSw; go_split_ands; go_simp
        simp only [Act.put, List.getElem_toArray, List.getElem_cons_zero, List.getElem_cons_succ, List.setIfInBounds_toArray, List.set_cons_zero, List.set_cons_succ]
        refine wpAnyH_take (i := 3) (v := .bool true) rfl (by kernel_rfl) (by kernel_rfl) (by kernel_rfl) (fun _ _ _ h => h) (Or.inl ⟨by rfl, ?_⟩) (by assumption) ?_
        · intro w' hSw; go_split_ands; go_simp
        simp only [Act.put, List.getElem_toArray, List.getElem_cons_zero, List.getElem_cons_succ, List.setIfInBounds_toArray, List.set_cons_zero, List.set_cons_succ]
        refine wpAnyH_take (i := 4) (v := .bool true) rfl (by kernel_rfl) (by kernel_rfl) (by kernel_rfl) (fun _ _ _ h => h) (Or.inl ⟨by rfl, ?_⟩) (by assumption) ?_
        · intro w' hSw; go_split_ands; go_simp
        simp only [Act.put, List.getElem_toArray, List.getElem_cons_zero, List.getElem_cons_succ, List.setIfInBounds_toArray, List.set_cons_zero, List.set_cons_succ]
        refine wpAnyH_take (i := 5) (v := .string s) rfl (by kernel_rfl) (by kernel_rfl) (by kernel_rfl) (fun _ _ _ h => h) (Or.inl ⟨by rfl, ?_⟩) (by assumption) ?_
        · intro w' hSw; go_split_ands; go_simp
        simp only [Act.put, List.getElem_toArray, List.getElem_cons_zero, List.getElem_cons_succ, List.setIfInBounds_toArray, List.set_cons_zero, List.set_cons_succ]
        refine wpAnyH_take (i := 6) (v := .int .i64 (n : Int)) rfl (by kernel_rfl) (by kernel_rfl) (by kernel_rfl) (fun _ _ _ h => h) (Or.inl ⟨by rfl, ?_⟩) (by assumption) ?_
        · intro w' hSw; go_split_ands; go_simp
        simp only [Act.put, List.getElem_toArray, List.getElem_cons_zero, List.getElem_cons_succ, List.setIfInBounds_toArray, List.set_cons_zero, List.set_cons_succ]
        refine wpAnyH_take (i := 7) (v := .int .i64 (28 + (n : Int))) rfl (by kernel_rfl) (by kernel_rfl) (by kernel_rfl) (fun _ _ _ h => h) (Or.inl ⟨by rfl, ?_⟩) (by assumption) ?_
        · intro w' hSw; go_split_ands; go_simp
        simp only [Act.put, List.getElem_toArray, List.getElem_cons_zero, List.getElem_cons_succ, List.setIfInBounds_toArray, List.set_cons_zero, List.set_cons_succ]
        refine wpAnyH_take (i := 8) (v := .string (s.extract (28 + n) s.size)) rfl (by kernel_rfl) (by kernel_rfl) (by kernel_rfl) (fun _ _ _ h => h) (Or.inl ⟨by rfl, ?_⟩) (by assumption) ?_
        · intro w' hSw; go_split_ands; go_simp
        simp only [Act.put, List.getElem_toArray, List.getElem_cons_zero, List.getElem_cons_succ, List.setIfInBounds_toArray, List.set_cons_zero, List.set_cons_succ]
        refine wpAnyH_takeC (i := 9) (v := .int .i64 cnt) rfl (by kernel_rfl) (by kernel_rfl) (by kernel_rfl) (fun _ _ _ h => h) (takes_call rfl 106 #[.string (s.extract (28 + n) s.size), .string ⟨#[0]⟩] (by rfl) (fun w' _ => ?_) (fun w' hS => HK.out w')) (by assumption) ?_
        · go_simp
        simp only [Act.put, List.getElem_toArray, List.getElem_cons_zero, List.getElem_cons_succ, List.setIfInBounds_toArray, List.set_cons_zero, List.set_cons_succ]
        refine wpAnyH_take (i := 10) (v := .int .i64 (n : Int)) rfl (by kernel_rfl) (by kernel_rfl) (by kernel_rfl) (fun _ _ _ h => h) (Or.inl ⟨by rfl, ?_⟩) (by assumption) ?_
        · intro w' hSw; go_split_ands; go_simp
        simp only [Act.put, List.getElem_toArray, List.getElem_cons_zero, List.getElem_cons_succ, List.setIfInBounds_toArray, List.set_cons_zero, List.set_cons_succ]
        refine wpAnyH_take (i := 11) (v := .int .i64 (32 - (n : Int))) rfl (by kernel_rfl) (by kernel_rfl) (by kernel_rfl) (fun _ _ _ h => h) (Or.inl ⟨by rfl, ?_⟩) (by assumption) ?_
        · intro w' hSw; go_split_ands; go_simp
        simp only [Act.put, List.getElem_toArray, List.getElem_cons_zero, List.getElem_cons_succ, List.setIfInBounds_toArray, List.set_cons_zero, List.set_cons_succ]
        refine wpAnyH_take (i := 12) (v := .bool (cnt == 32 - (n : Int))) rfl (by kernel_rfl) (by kernel_rfl) (by kernel_rfl) (fun _ _ _ h => h) (Or.inl ⟨by rfl, ?_⟩) (by assumption) ?_
        · intro w' hSw; go_split_ands; go_simp
        simp only [Act.put, List.getElem_toArray, List.getElem_cons_zero, List.getElem_cons_succ, List.setIfInBounds_toArray, List.set_cons_zero, List.set_cons_succ]
        refine wpAnyH_take (i := 13) (v := .bool (cnt == 32 - (n : Int))) rfl (by kernel_rfl) (by kernel_rfl) (by kernel_rfl) (fun _ _ _ h => h) (Or.inl ⟨by rfl, ?_⟩) (by assumption) ?_
        · intro w' hSw; go_split_ands; go_simp
        simp only [Act.put, List.getElem_toArray, List.getElem_cons_zero, List.getElem_cons_succ, List.setIfInBounds_toArray, List.set_cons_zero, List.set_cons_succ]
        refine wpAnyH_ready (rs := [14]) (by kernel_rfl) (by simp) ?_
        refine AllReadyH.cons rfl (fun K hK => ?_) AllReadyH.nil
        go_simp
        refine hK.out _ _ (HSS.out _ (((((((Upd.refl (fun b => b = q0 + 1) w3).setCell (p := ⟨q0 + 1, 0, none⟩) (.inl rfl) _).setCell (p := ⟨q0 + 1, 1, none⟩) (.inl rfl) _).setCell (p := ⟨q0 + 1, 2, none⟩) (.inl rfl) _).setCell (p := ⟨q0 + 1, 3, none⟩) (.inl rfl) _).setCell (p := ⟨q0 + 1, 4, none⟩) (.inl rfl) _).setCell (p := ⟨q0 + 1, 5, none⟩) (.inl rfl) _).drew) (fun hHeld2 => ?_)
        clear hK K
        refine wpAnyH_take (i := 15) (v := .bool (cnt == 32 - (n : Int))) rfl (by kernel_rfl) (by kernel_rfl) (by kernel_rfl) (fun _ _ _ h => h) (Or.inl ⟨by rfl, ?_⟩) (by assumption) ?_
        · intro w' hSw; go_split_ands; go_simp
        simp only [Act.put, List.getElem_toArray, List.getElem_cons_zero, List.getElem_cons_succ, List.setIfInBounds_toArray, List.set_cons_zero, List.set_cons_succ]
        refine wpAnyH_done (by kernel_rfl) ?_ _
        refine NoPanic.normal ?_
        go_wp2
        have hBz := ((((((H3.out.2.1.set_ 0 (.int .u64 (numAt s 0))).set_ 1 (.int .u64 (numAt s 1))).set_ 2 (.int .u64 (numAt s 2))).set_ 3 (.int .i64 (byteAt s 24 : Int))).set_ 4 (.int .i64 (byteAt s 25 : Int))).set_ 5 (.string (s.extract 28 (28 + n)))).drew
        simp only [List.setIfInBounds_toArray, List.set_cons_succ, List.set_cons_zero] at hBz
        refine bodyPost_ret (results_cell_slot rfl _ _ (q0 + 1) _ _ _ _ rfl hBz Tryz.underlying103 rfl rfl (.bool (cnt == 32 - (n : Int))) rfl) rfl ⟨?_, ?_⟩
        · rw [HR.out, HN.out.2, hn]
          simp only [Lp.val]
          rw [extract_str_from, Nat.add_sub_cancel_left]
          rw [HC.out, e27.out, h0]
          simp [byteAt, numAt]
        · have hb := HBe.out
          have hq := HQ.out
          have hu := HB.out.2.2.2
          have hu3 := H3.out.2.2
          have h1 := (hb.trans ((hu.below (fun _ e => e.elim)).mono hb.size)).trans (⟨hu3.os, hu3.tape, hu3.output, hu3.size, fun b hbl => hu3.block b (Nat.lt_of_lt_of_le hbl (Nat.le_trans hb.size hu.size)) (by omega)⟩ : Below w.heap.size _ w3)
          exact ((((((h1.setCell (p := ⟨q0 + 1, 0, none⟩) (by show w.heap.size ≤ q0 + 1; omega) _).setCell (p := ⟨q0 + 1, 1, none⟩) (by show w.heap.size ≤ q0 + 1; omega) _).setCell (p := ⟨q0 + 1, 2, none⟩) (by show w.heap.size ≤ q0 + 1; omega) _).setCell (p := ⟨q0 + 1, 3, none⟩) (by show w.heap.size ≤ q0 + 1; omega) _).setCell (p := ⟨q0 + 1, 4, none⟩) (by show w.heap.size ≤ q0 + 1; omega) _).setCell (p := ⟨q0 + 1, 5, none⟩) (by show w.heap.size ≤ q0 + 1; omega) _).drew
      · have h0' : ((s[27].toNat : Int) == 0) = false := by
          rw [beq_eq_false_iff_ne]
          intro h
          exact h0 (UInt8.toNat_inj.1 (by have : (0 : UInt8).toNat = 0 := rfl; omega))
        refine wp_region_noPanic ?_
        refine wp_region_held_drew (S := fun w' => w'.cell? ⟨q0, 0, none⟩ = some (.string s) ∧ w'.cell? ⟨W.heap.size, 0, none⟩ = some (.int .u64 (numAt s 0)) ∧ w'.cell? ⟨W.heap.size, 1, none⟩ = some (.int .u64 (numAt s 1)) ∧ w'.cell? ⟨W.heap.size, 2, none⟩ = some (.int .u64 (numAt s 2)) ∧ w'.cell? ⟨W.heap.size, 3, none⟩ = some (.int .i64 (byteAt s 24 : Int)) ∧ w'.cell? ⟨W.heap.size, 4, none⟩ = some (.int .i64 (byteAt s 25 : Int)) ∧ w'.cell? ⟨W.heap.size, 5, none⟩ = some (.string (s.extract 28 (28 + n)))) (by kernel_rfl) (HSS.out _ (Upd.refl _ _).drew) (fun hHeld => ?_)
        refine wpAnyH_take (i := 0) (v := .agg #[.int .u64 (numAt s 0), .int .u64 (numAt s 1), .int .u64 (numAt s 2), .int .i64 (byteAt s 24 : Int), .int .i64 (byteAt s 25 : Int), .string (s.extract 28 (28 + n))]) rfl (by kernel_rfl) (by kernel_rfl) (by kernel_rfl) (fun _ _ _ h => h) (Or.inl ⟨by rfl, ?_⟩) (by assumption) ?_
        · intro w' hSw; go_split_ands; go_simp
        simp only [Act.put, List.getElem_toArray, List.getElem_cons_zero, List.setIfInBounds_toArray, List.set_cons_zero, List.set_cons_succ]
        refine wpAnyH_take (i := 1) (v := .string s) rfl (by kernel_rfl) (by kernel_rfl) (by kernel_rfl) (fun _ _ _ h => h) (Or.inl ⟨by rfl, ?_⟩) (by assumption) ?_
        · intro w' hSw; go_split_ands; go_simp
        simp only [Act.put, List.getElem_toArray, List.getElem_cons_zero, List.getElem_cons_succ, List.setIfInBounds_toArray, List.set_cons_zero, List.set_cons_succ]
        refine wpAnyH_take (i := 2) (v := .int .u8 (s[27].toNat : Int)) rfl (by kernel_rfl) (by kernel_rfl) (by kernel_rfl) (fun _ _ _ h => h) (Or.inl ⟨by rfl, ?_⟩) (by assumption) ?_
        · intro w' hSw; go_split_ands; go_simp
        simp only [Act.put, List.getElem_toArray, List.getElem_cons_zero, List.getElem_cons_succ, List.setIfInBounds_toArray, List.set_cons_zero, List.set_cons_succ]
        refine wpAnyH_take (i := 3) (v := .bool false) rfl (by kernel_rfl) (by kernel_rfl) (by kernel_rfl) (fun _ _ _ h => h) (Or.inl ⟨by rfl, ?_⟩) (by assumption) ?_
        · intro w' hSw; go_split_ands; go_simp
        simp only [Act.put, List.getElem_toArray, List.getElem_cons_zero, List.getElem_cons_succ, List.setIfInBounds_toArray, List.set_cons_zero, List.set_cons_succ]
        refine wpAnyH_take (i := 4) (v := .bool false) rfl (by kernel_rfl) (by kernel_rfl) (by kernel_rfl) (fun _ _ _ h => h) (Or.inl ⟨by rfl, ?_⟩) (by assumption) ?_
        · intro w' hSw; go_split_ands; go_simp
        simp only [Act.put, List.getElem_toArray, List.getElem_cons_zero, List.getElem_cons_succ, List.setIfInBounds_toArray, List.set_cons_zero, List.set_cons_succ]
        refine wpAnyH_take (i := 5) (v := undef) rfl (by kernel_rfl) (by kernel_rfl) (by kernel_rfl) (fun _ _ _ h => h) (Or.inr ⟨by rfl, rfl⟩) (by assumption) ?_
        simp only [Act.put, List.getElem_toArray, List.getElem_cons_zero, List.getElem_cons_succ, List.setIfInBounds_toArray, List.set_cons_zero, List.set_cons_succ]
        refine wpAnyH_take (i := 6) (v := undef) rfl (by kernel_rfl) (by kernel_rfl) (by kernel_rfl) (fun _ _ _ h => h) (Or.inr ⟨by rfl, rfl⟩) (by assumption) ?_
        simp only [Act.put, List.getElem_toArray, List.getElem_cons_zero, List.getElem_cons_succ, List.setIfInBounds_toArray, List.set_cons_zero, List.set_cons_succ]
        refine wpAnyH_take (i := 7) (v := undef) rfl (by kernel_rfl) (by kernel_rfl) (by kernel_rfl) (fun _ _ _ h => h) (Or.inr ⟨by rfl, rfl⟩) (by assumption) ?_
        simp only [Act.put, List.getElem_toArray, List.getElem_cons_zero, List.getElem_cons_succ, List.setIfInBounds_toArray, List.set_cons_zero, List.set_cons_succ]
        refine wpAnyH_take (i := 8) (v := undef) rfl (by kernel_rfl) (by kernel_rfl) (by kernel_rfl) (fun _ _ _ h => h) (Or.inr ⟨by rfl, rfl⟩) (by assumption) ?_
        simp only [Act.put, List.getElem_toArray, List.getElem_cons_zero, List.getElem_cons_succ, List.setIfInBounds_toArray, List.set_cons_zero, List.set_cons_succ]
        refine wpAnyH_take (i := 9) (v := undef) rfl (by kernel_rfl) (by kernel_rfl) (by kernel_rfl) (fun _ _ _ h => h) (Or.inr ⟨by rfl, rfl⟩) (by assumption) ?_
        simp only [Act.put, List.getElem_toArray, List.getElem_cons_zero, List.getElem_cons_succ, List.setIfInBounds_toArray, List.set_cons_zero, List.set_cons_succ]
        refine wpAnyH_take (i := 10) (v := undef) rfl (by kernel_rfl) (by kernel_rfl) (by kernel_rfl) (fun _ _ _ h => h) (Or.inr ⟨by rfl, rfl⟩) (by assumption) ?_
        simp only [Act.put, List.getElem_toArray, List.getElem_cons_zero, List.getElem_cons_succ, List.setIfInBounds_toArray, List.set_cons_zero, List.set_cons_succ]
        refine wpAnyH_take (i := 11) (v := undef) rfl (by kernel_rfl) (by kernel_rfl) (by kernel_rfl) (fun _ _ _ h => h) (Or.inr ⟨by rfl, rfl⟩) (by assumption) ?_
        simp only [Act.put, List.getElem_toArray, List.getElem_cons_zero, List.getElem_cons_succ, List.setIfInBounds_toArray, List.set_cons_zero, List.set_cons_succ]
        refine wpAnyH_take (i := 12) (v := undef) rfl (by kernel_rfl) (by kernel_rfl) (by kernel_rfl) (fun _ _ _ h => h) (Or.inr ⟨by rfl, rfl⟩) (by assumption) ?_
        simp only [Act.put, List.getElem_toArray, List.getElem_cons_zero, List.getElem_cons_succ, List.setIfInBounds_toArray, List.set_cons_zero, List.set_cons_succ]
        refine wpAnyH_take (i := 13) (v := .bool false) rfl (by kernel_rfl) (by kernel_rfl) (by kernel_rfl) (fun _ _ _ h => h) (Or.inl ⟨by rfl, ?_⟩) (by assumption) ?_
        · intro w' hSw; go_split_ands; go_simp
        simp only [Act.put, List.getElem_toArray, List.getElem_cons_zero, List.getElem_cons_succ, List.setIfInBounds_toArray, List.set_cons_zero, List.set_cons_succ]
        refine wpAnyH_ready (rs := [14]) (by kernel_rfl) (by simp) ?_
        refine AllReadyH.cons rfl (fun K hK => ?_) AllReadyH.nil
        go_simp
        refine hK.out _ _ (HSS.out _ (((((((Upd.refl (fun b => b = q0 + 1) w3).setCell (p := ⟨q0 + 1, 0, none⟩) (.inl rfl) _).setCell (p := ⟨q0 + 1, 1, none⟩) (.inl rfl) _).setCell (p := ⟨q0 + 1, 2, none⟩) (.inl rfl) _).setCell (p := ⟨q0 + 1, 3, none⟩) (.inl rfl) _).setCell (p := ⟨q0 + 1, 4, none⟩) (.inl rfl) _).setCell (p := ⟨q0 + 1, 5, none⟩) (.inl rfl) _).drew) (fun hHeld2 => ?_)
        clear hK K
        refine wpAnyH_take (i := 15) (v := .bool false) rfl (by kernel_rfl) (by kernel_rfl) (by kernel_rfl) (fun _ _ _ h => h) (Or.inl ⟨by rfl, ?_⟩) (by assumption) ?_
        · intro w' hSw; go_split_ands; go_simp
        simp only [Act.put, List.getElem_toArray, List.getElem_cons_zero, List.getElem_cons_succ, List.setIfInBounds_toArray, List.set_cons_zero, List.set_cons_succ]
        refine wpAnyH_done (by kernel_rfl) ?_ _
        refine NoPanic.normal ?_
        go_wp2
        have hBz := ((((((H3.out.2.1.set_ 0 (.int .u64 (numAt s 0))).set_ 1 (.int .u64 (numAt s 1))).set_ 2 (.int .u64 (numAt s 2))).set_ 3 (.int .i64 (byteAt s 24 : Int))).set_ 4 (.int .i64 (byteAt s 25 : Int))).set_ 5 (.string (s.extract 28 (28 + n)))).drew
        simp only [List.setIfInBounds_toArray, List.set_cons_succ, List.set_cons_zero] at hBz
        refine bodyPost_ret (results_cell_slot rfl _ _ (q0 + 1) _ _ _ _ rfl hBz Tryz.underlying103 rfl rfl (.bool false) rfl) rfl ⟨?_, ?_⟩
        · rw [HR.out, HN.out.2, hn]
          simp only [Lp.val]
          rw [extract_str_from, Nat.add_sub_cancel_left]
          rw [e27.out]
          simp [byteAt, numAt, h0]
        · have hb := HBe.out
          have hq := HQ.out
          have hu := HB.out.2.2.2
          have hu3 := H3.out.2.2
          have h1 := (hb.trans ((hu.below (fun _ e => e.elim)).mono hb.size)).trans (⟨hu3.os, hu3.tape, hu3.output, hu3.size, fun b hbl => hu3.block b (Nat.lt_of_lt_of_le hbl (Nat.le_trans hb.size hu.size)) (by omega)⟩ : Below w.heap.size _ w3)
          exact ((((((h1.setCell (p := ⟨q0 + 1, 0, none⟩) (by show w.heap.size ≤ q0 + 1; omega) _).setCell (p := ⟨q0 + 1, 1, none⟩) (by show w.heap.size ≤ q0 + 1; omega) _).setCell (p := ⟨q0 + 1, 2, none⟩) (by show w.heap.size ≤ q0 + 1; omega) _).setCell (p := ⟨q0 + 1, 3, none⟩) (by show w.heap.size ≤ q0 + 1; omega) _).setCell (p := ⟨q0 + 1, 4, none⟩) (by show w.heap.size ≤ q0 + 1; omega) _).setCell (p := ⟨q0 + 1, 5, none⟩) (by show w.heap.size ≤ q0 + 1; omega) _).drew
end Go.Proofs.YtpfbgmfkeofefaaGreat
