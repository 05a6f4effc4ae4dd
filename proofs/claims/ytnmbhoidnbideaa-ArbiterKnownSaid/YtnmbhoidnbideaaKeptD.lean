/-
  The part that a sector's bytes are.
-/
import Derived.Test.YtnmbhoidnbideaaKeptC
import Derived.Deep.RegionHeld3
import Derived.StillTailTactics
import Derived.Deep.DeepCutAuto
namespace Go.Proofs.Ytnmbhoidnbideaa
open Go Go.RowKit

/-- The part of sixty bytes, and whether it is one. -/
def readL (b : List UInt8) : Pt × Bool :=
  if 48 < (b.getD 10 0).toNat then (⟨leN (b.take 8), (b.getD 8 0).toNat, (b.getD 9 0).toNat, []⟩, false) else
  (⟨leN (b.take 8), (b.getD 8 0).toNat, (b.getD 9 0).toNat, (b.drop 12).take (b.getD 10 0).toNat⟩,
    decide (b.getD 11 0 = 0 ∧ b.drop (12 + (b.getD 10 0).toNat) = List.replicate (48 - (b.getD 10 0).toNat) 0))

theorem getD_c (s : ByteArray) (k : Nat) (hk : k < s.size) : s.data.toList.getD k 0 = s[k] := by
  simp [List.getD, hk, ByteArray.getElem_eq_getElem_data]
theorem u8_i64 (b : UInt8) : IntKind.i64.wrap (b.toNat : Int) = (b.toNat : Int) := IntWalk.i64_in _ (by have := b.toNat_lt; omega)

theorem read_test (l : List UInt8) (m n : Nat) (hm : m = 60) (hl : l.length = 60) (hn : n ≤ 48) : ((Lib.countByte (List.take (m - (12 + n)) (List.drop (12 + n) l)) 0 : Int) == 48 - (n : Int)) = decide (List.drop (12 + n) l = List.replicate (48 - n) 0) := by
  have hd : (List.drop (12 + n) l).length = 48 - n := by simp [hl]; omega
  rw [List.take_of_length_le (by omega)]
  have h := count_zero (List.drop (12 + n) l)
  rw [hd] at h
  by_cases hz : List.drop (12 + n) l = List.replicate (48 - n) 0
  · rw [decide_eq_true hz, h.2 hz, beq_iff_eq]; omega
  · rw [decide_eq_false hz, beq_eq_false_iff_ne]
    intro hh
    exact hz (h.1 (by omega))
theorem results_cell_slot {P : Program} {fn : Func} {p q : Tmp} {ty : TypeId} (h : fn.results = #[.cell p ty, .tmp q]) (tmps : Array Value) (w : World) (g : Nat) (t : TypeId) (cs : Array Value) (fr : Nat × Nat) (d : TypeDesc)
    (hp : tmps.getD p undef = .pointer (some ⟨g, 0, none⟩)) (hg : w.heap[g]? = some (.cells cs t fr))
    (hu : P.underlying ty = some d) (hd : (match d with | .struct _ | .array _ _ => true | _ => false) = true) (hi : (P.info? ty).map (·.size) = some cs.size) (v : Value) (hv : tmps.getD q undef = v) :
    (results fn tmps).run P w = .ok (.tuple #[.agg cs, v]) w := by
  subst hv
  have hp' : tmps[p]?.getD undef = .pointer (some ⟨g, 0, none⟩) := by simpa using hp
  simp [results, h, hp', asAddr, run_loadVar_row w g t ty cs fr d hg hu hd hi]
set_option maxRecDepth 100000 in
set_option maxHeartbeats 800000 in
theorem read_k (s : ByteArray) (w : World) (hs : s.size = 60) :
    Calls Try.prog 52 #[.string s] w fun e w' => e = .returned (.tuple #[(readL s.data.toList).1.val, .bool (readL s.data.toList).2]) ∧ Below w.heap.size w w' := by
  have h8 : (8 : Int) < s.size := by omega
  have h9 : (9 : Int) < s.size := by omega
  have h10 : (10 : Int) < s.size := by omega
  have h11 : (11 : Int) < s.size := by omega
  have g8 : 8 < s.size := by omega
  have g9 : 9 < s.size := by omega
  have g10 : 10 < s.size := by omega
  have g11 : 11 < s.size := by omega
  have e8 := Lib.hid (getD_c s 8 g8)
  have e9 := Lib.hid (getD_c s 9 g9)
  have e10 := Lib.hid (getD_c s 10 g10)
  have e11 := Lib.hid (getD_c s 11 g11)
  have hg := Lib.hid (fun W => getLittle_kept s 8 W (by omega) (by omega))
  go_enter Try.func52, Try.ntmps52
  go_upto_region 1 with fail
  go_cut [4] (fun s4 wx => s4 = .pointer (some ⟨w.heap.size + 1, 0, none⟩) ∧ Blk wx w.heap.size 81 #[.int .u64 0, .int .i64 0, .int .i64 0, .string ⟨#[]⟩] ∧ Blk wx (w.heap.size + 1) 81 #[.int .u64 (leN (s.data.toList.take 8) : Int), .int .i64 ((s.data.toList.getD 8 0).toNat : Int), .int .i64 ((s.data.toList.getD 9 0).toNat : Int), .string ⟨#[]⟩] ∧ Below w.heap.size w wx ∧ wx.heap.size = w.heap.size + 2)
  case first =>
    go_region_held3 (fun _ => True) (trivial) (first | (go_at_call 69; refine (hg.out _).mono ?_; rintro e w2 ⟨rfl, rfl⟩))
    all_goals
      go_wp2_with fail
      go_meet
      rw [u8_i64, u8_i64, ← e8.out, ← e9.out]
      refine ⟨rfl, ?_, ?_, ?_, ?_⟩
      · exact (Blk.new w _ _).alloc _
      · have h := Blk.new (w.alloc (.cells #[.int .u64 0, .int .i64 0, .int .i64 0, .string ⟨#[]⟩] 81)) 81 #[.int .u64 (leN (s.data.toList.take 8) : Int), .int .i64 ((s.data.toList.getD 8 0).toNat : Int), .int .i64 ((s.data.toList.getD 9 0).toNat : Int), .string ⟨#[]⟩]
        have h2 := h.drew
        simpa using h2
      · exact (((Below.refl _ w).alloc (Nat.le_refl _) _).alloc (by simp) _).drew
      · simp
  case rest =>
    obtain ⟨rfl, hBa, hBb, hbw, hsz⟩ := hcut
    have hcb := hBb.cells4
    have HB := Lib.hid (And.intro hBa (And.intro hBb (And.intro hbw hsz)))
    clear hBa hBb hbw hsz
    by_cases h48 : 48 < (s.data.toList.getD 10 0).toNat
    · have h48' : (48 : Int) < (s[10].toNat : Int) := by rw [← e10.out]; omega
      have hwr : IntKind.i64.wrap (s[10].toNat : Int) = (s[10].toNat : Int) := u8_i64 _
      have hr : readL s.data.toList = (⟨leN (s.data.toList.take 8), (s.data.toList.getD 8 0).toNat, (s.data.toList.getD 9 0).toNat, []⟩, false) := by unfold readL; rw [if_pos h48]
      have HR := Lib.hid hr
      clear hcb hr
      go_wp2_with (first
        | (refine wpList_load_all rfl _ _ rfl (w.heap.size + 1) rfl _ _ _ HB.out.2.1 Try.underlying81 rfl rfl ?_)
        | (refine wpList_store_all rfl 81 _ _ rfl w.heap.size #[.int .u64 (leN (s.data.toList.take 8) : Int), .int .i64 ((s.data.toList.getD 8 0).toNat : Int), .int .i64 ((s.data.toList.getD 9 0).toNat : Int), .string ⟨#[]⟩] rfl rfl _ _ HB.out.1 rfl (by simp [Value.oneCell']) (by kernel_rfl) ?_
           intro w6 hB6 hU6 hs6))
      have hHR := HR.out
      generalize readL s.data.toList = rr at hHR
      subst hHR
      refine bodyPost_ret (results_cell_slot rfl _ _ w.heap.size _ _ _ _ rfl hB6 Try.underlying81 rfl rfl (.bool false) rfl) rfl ⟨rfl, ?_⟩
      have hb := HB.out.2.2.1
      exact hb.trans ⟨hU6.os, hU6.tape, hU6.output, hU6.size, fun b hbl => hU6.block b (Nat.lt_of_lt_of_le hbl hb.size) (by omega)⟩
    · have h48' : ¬ (48 : Int) < (s[10].toNat : Int) := by rw [← e10.out]; omega
      have hwr : IntKind.i64.wrap (s[10].toNat : Int) = (s[10].toNat : Int) := u8_i64 _
      have hr : readL s.data.toList = (⟨leN (s.data.toList.take 8), (s.data.toList.getD 8 0).toNat, (s.data.toList.getD 9 0).toNat, (s.data.toList.drop 12).take (s.data.toList.getD 10 0).toNat⟩, decide (s.data.toList.getD 11 0 = 0 ∧ s.data.toList.drop (12 + (s.data.toList.getD 10 0).toNat) = List.replicate (48 - (s.data.toList.getD 10 0).toNat) 0)) := by unfold readL; rw [if_neg h48]
      have HR := Lib.hid hr
      clear hcb hr
      by_cases h0 : s[11] = 0
      · have h0' : ((s[11].toNat : Int) == 0) = true := by rw [h0]; rfl
        go_wp2_with (first
          | (refine wpList_store_one rfl 9 _ _ rfl (w.heap.size + 1) 3 (.string (s.extract 12 (12 + s[10].toNat))) rfl rfl _ _ HB.out.2.1 (by simp) rfl (by kernel_rfl) ?_
             intro w3 hB3 hU3 hs3))
        simp only [List.setIfInBounds_toArray, List.set_cons_succ, List.set_cons_zero] at hB3
        have hc3 := hB3.cells4
        have hBa : Blk w3 w.heap.size 81 #[.int .u64 0, .int .i64 0, .int .i64 0, .string ⟨#[]⟩] := HB.out.1.upd hU3 (by omega)
        have H3 := Lib.hid (And.intro hB3 (And.intro hBa hU3))
        have HK := Lib.hid (fun W => Try.strings_Count_one (s.extract (12 + s[10].toNat) s.size) 0 W)
        have e10' := e10.out
        generalize s[10] = b10 at *
        have hbn : b10.toNat ≤ 48 := by omega
        generalize hn : b10.toNat = n at *
        have hle : (12 : Int) + (n : Int) ≤ (s.size : Int) := by omega
        have hsub : IntKind.i64.wrap (48 - (n : Int)) = 48 - (n : Int) := IntWalk.i64_in _ (by omega)
        have hadd : IntKind.i64.wrap (12 + (n : Int)) = 12 + (n : Int) := IntWalk.i64_in _ (by omega)
        have hnn : (0 : Int) ≤ 12 + (n : Int) := by omega
        have Hs := Lib.hid (And.intro hs (And.intro hn e10'))
        clear hs hn e10' e10
        have hca := hBa.cells4
        have hz0 := hBa.frozen 0
        have hz1 := hBa.frozen 1
        have hz2 := hBa.frozen 2
        have hz3 := hBa.frozen 3
        clear hB3 hBa hU3 hs3
        go_region_held3 (fun w' => w'.cell? ⟨w.heap.size + 1, 0, none⟩ = some (.int .u64 (leN (s.data.toList.take 8) : Int)) ∧ w'.cell? ⟨w.heap.size + 1, 1, none⟩ = some (.int .i64 ((s.data.toList.getD 8 0).toNat : Int)) ∧ w'.cell? ⟨w.heap.size + 1, 2, none⟩ = some (.int .i64 ((s.data.toList.getD 9 0).toNat : Int)) ∧ w'.cell? ⟨w.heap.size + 1, 3, none⟩ = some (.string (s.extract 12 (12 + n)))) (go_keep) (first | (go_at_call 66; refine (HK.out _).mono ?_; rintro e w' ⟨rfl, rfl⟩))
        all_goals
          go_wp2
          have hBz := ((((H3.out.2.1.set_ 0 (.int .u64 (leN (s.data.toList.take 8) : Int))).set_ 1 (.int .i64 (s[8].toNat : Int))).set_ 2 (.int .i64 (s[9].toNat : Int))).set_ 3 (.string (s.extract 12 (12 + n)))).drew
          simp only [List.setIfInBounds_toArray, List.set_cons_succ, List.set_cons_zero] at hBz
          refine bodyPost_ret (results_cell_slot rfl _ _ w.heap.size _ _ _ _ rfl hBz Try.underlying81 rfl rfl (.bool ((Lib.countByte (List.take (s.size - (12 + n)) (List.drop (12 + n) s.data.toList)) 0 : Int) == 48 - (n : Int))) rfl) rfl ⟨?_, ?_⟩
          · rw [HR.out, Hs.out.2.2, Hs.out.2.1]
            simp only [Pt.val]
            rw [e8.out, e9.out, e11.out, extract_str_from, Nat.add_sub_cancel_left]
            rw [read_test _ _ _ Hs.out.1 (by simp [Hs.out.1]) hbn]
            simp [h0]
          · have hb := HB.out.2.2.1
            have hU3 := H3.out.2.2
            have h1 := hb.trans (⟨hU3.os, hU3.tape, hU3.output, hU3.size, fun b hbl => hU3.block b (Nat.lt_of_lt_of_le hbl hb.size) (by omega)⟩ : Below w.heap.size _ w3)
            exact ((((h1.setCell (p := ⟨w.heap.size, 0, none⟩) (Nat.le_refl _) _).setCell (p := ⟨w.heap.size, 1, none⟩) (Nat.le_refl _) _).setCell (p := ⟨w.heap.size, 2, none⟩) (Nat.le_refl _) _).setCell (p := ⟨w.heap.size, 3, none⟩) (Nat.le_refl _) _).drew
      · have h0' : ((s[11].toNat : Int) == 0) = false := by
          rw [beq_eq_false_iff_ne]
          intro h
          exact h0 (UInt8.toNat_inj.1 (by have : (0 : UInt8).toNat = 0 := rfl; omega))
        go_wp2_with (first
          | (refine wpList_store_one rfl 9 _ _ rfl (w.heap.size + 1) 3 (.string (s.extract 12 (12 + s[10].toNat))) rfl rfl _ _ HB.out.2.1 (by simp) rfl (by kernel_rfl) ?_
             intro w3 hB3 hU3 hs3))
        simp only [List.setIfInBounds_toArray, List.set_cons_succ, List.set_cons_zero] at hB3
        have hc3 := hB3.cells4
        have hBa : Blk w3 w.heap.size 81 #[.int .u64 0, .int .i64 0, .int .i64 0, .string ⟨#[]⟩] := HB.out.1.upd hU3 (by omega)
        have H3 := Lib.hid (And.intro hB3 (And.intro hBa hU3))
        have HK := Lib.hid (fun W => Try.strings_Count_one (s.extract (12 + s[10].toNat) s.size) 0 W)
        have e10' := e10.out
        generalize s[10] = b10 at *
        have hbn : b10.toNat ≤ 48 := by omega
        generalize hn : b10.toNat = n at *
        have hle : (12 : Int) + (n : Int) ≤ (s.size : Int) := by omega
        have hsub : IntKind.i64.wrap (48 - (n : Int)) = 48 - (n : Int) := IntWalk.i64_in _ (by omega)
        have hadd : IntKind.i64.wrap (12 + (n : Int)) = 12 + (n : Int) := IntWalk.i64_in _ (by omega)
        have hnn : (0 : Int) ≤ 12 + (n : Int) := by omega
        have Hs := Lib.hid (And.intro hs (And.intro hn e10'))
        clear hs hn e10' e10
        have hca := hBa.cells4
        have hz0 := hBa.frozen 0
        have hz1 := hBa.frozen 1
        have hz2 := hBa.frozen 2
        have hz3 := hBa.frozen 3
        clear hB3 hBa hU3 hs3
        refine wp_region_noPanic ?_
        refine wp_region_held_drew (S := (fun w' => w'.cell? ⟨w.heap.size + 1, 0, none⟩ = some (.int .u64 (leN (s.data.toList.take 8) : Int)) ∧ w'.cell? ⟨w.heap.size + 1, 1, none⟩ = some (.int .i64 ((s.data.toList.getD 8 0).toNat : Int)) ∧ w'.cell? ⟨w.heap.size + 1, 2, none⟩ = some (.int .i64 ((s.data.toList.getD 9 0).toNat : Int)) ∧ w'.cell? ⟨w.heap.size + 1, 3, none⟩ = some (.string (s.extract 12 (12 + n))))) (by kernel_rfl) ?_ (fun hHeld => ?_)
        · go_keep
        refine wpAnyH_take (i := 0) (v := .agg #[.int .u64 (leN (s.data.toList.take 8) : Int), .int .i64 ((s.data.toList.getD 8 0).toNat : Int), .int .i64 ((s.data.toList.getD 9 0).toNat : Int), .string (s.extract 12 (12 + n))]) rfl (by kernel_rfl) (by kernel_rfl) (by kernel_rfl) (fun _ _ _ h => h) (Or.inl ⟨by rfl, ?_⟩) (by assumption) ?_
        · intro w' hSw; go_split_ands; go_simp
        simp only [Act.put, List.getElem_toArray, List.getElem_cons_zero, List.setIfInBounds_toArray, List.set_cons_zero, List.set_cons_succ]
        refine wpAnyH_take (i := 1) (v := .string s) rfl (by kernel_rfl) (by kernel_rfl) (by kernel_rfl) (fun _ _ _ h => h) (Or.inl ⟨by rfl, ?_⟩) (by assumption) ?_
        · intro w' hSw; go_split_ands; go_simp
        simp only [Act.put, List.getElem_toArray, List.getElem_cons_zero, List.getElem_cons_succ, List.setIfInBounds_toArray, List.set_cons_zero, List.set_cons_succ]
        refine wpAnyH_take (i := 2) (v := .int .u8 (s[11].toNat : Int)) rfl (by kernel_rfl) (by kernel_rfl) (by kernel_rfl) (fun _ _ _ h => h) (Or.inl ⟨by rfl, ?_⟩) (by assumption) ?_
        · intro w' hSw; go_split_ands; go_simp
        simp only [Act.put, List.getElem_toArray, List.getElem_cons_zero, List.getElem_cons_succ, List.setIfInBounds_toArray, List.set_cons_zero, List.set_cons_succ]
        refine wpAnyH_take (i := 3) (v := .bool false) rfl (by kernel_rfl) (by kernel_rfl) (by kernel_rfl) (fun _ _ _ h => h) (Or.inl ⟨by rfl, ?_⟩) (by assumption) ?_
        · intro w' hSw; go_split_ands; go_simp
        simp only [Act.put, List.getElem_toArray, List.getElem_cons_zero, List.getElem_cons_succ, List.setIfInBounds_toArray, List.set_cons_zero, List.set_cons_succ]
        refine wpAnyH_take (i := 4) (v := .bool false) rfl (by kernel_rfl) (by kernel_rfl) (by kernel_rfl) (fun _ _ _ h => h) (Or.inl ⟨by rfl, ?_⟩) (by assumption) ?_
        · intro w' hSw; go_split_ands; go_simp
        simp only [Act.put, List.getElem_toArray, List.getElem_cons_zero, List.getElem_cons_succ, List.setIfInBounds_toArray, List.set_cons_zero, List.set_cons_succ]
        refine wpAnyH_take (i := 5) (v := undef) rfl (by kernel_rfl) (by kernel_rfl) (by kernel_rfl) (fun _ _ _ h => h) (Or.inr ⟨by rfl, rfl⟩) (by assumption) ?_
        simp only [Act.put, List.getElem_toArray, List.getElem_cons_zero, List.getElem_cons_succ, List.setIfInBounds_toArray, List.set_cons_zero, List.set_cons_succ]
        refine wpAnyH_take (i := 6) (v := undef) rfl (by kernel_rfl) (by kernel_rfl) (by kernel_rfl) (fun _ _ _ h => h) (Or.inr ⟨by rfl, rfl⟩) (by assumption) ?_
        simp only [Act.put, List.getElem_toArray, List.getElem_cons_zero, List.getElem_cons_succ, List.setIfInBounds_toArray, List.set_cons_zero, List.set_cons_succ]
        refine wpAnyH_take (i := 7) (v := undef) rfl (by kernel_rfl) (by kernel_rfl) (by kernel_rfl) (fun _ _ _ h => h) (Or.inr ⟨by rfl, rfl⟩) (by assumption) ?_
        simp only [Act.put, List.getElem_toArray, List.getElem_cons_zero, List.getElem_cons_succ, List.setIfInBounds_toArray, List.set_cons_zero, List.set_cons_succ]
        refine wpAnyH_take (i := 8) (v := undef) rfl (by kernel_rfl) (by kernel_rfl) (by kernel_rfl) (fun _ _ _ h => h) (Or.inr ⟨by rfl, rfl⟩) (by assumption) ?_
        simp only [Act.put, List.getElem_toArray, List.getElem_cons_zero, List.getElem_cons_succ, List.setIfInBounds_toArray, List.set_cons_zero, List.set_cons_succ]
        refine wpAnyH_take (i := 9) (v := undef) rfl (by kernel_rfl) (by kernel_rfl) (by kernel_rfl) (fun _ _ _ h => h) (Or.inr ⟨by rfl, rfl⟩) (by assumption) ?_
        simp only [Act.put, List.getElem_toArray, List.getElem_cons_zero, List.getElem_cons_succ, List.setIfInBounds_toArray, List.set_cons_zero, List.set_cons_succ]
        refine wpAnyH_take (i := 10) (v := undef) rfl (by kernel_rfl) (by kernel_rfl) (by kernel_rfl) (fun _ _ _ h => h) (Or.inr ⟨by rfl, rfl⟩) (by assumption) ?_
        simp only [Act.put, List.getElem_toArray, List.getElem_cons_zero, List.getElem_cons_succ, List.setIfInBounds_toArray, List.set_cons_zero, List.set_cons_succ]
        refine wpAnyH_take (i := 11) (v := undef) rfl (by kernel_rfl) (by kernel_rfl) (by kernel_rfl) (fun _ _ _ h => h) (Or.inr ⟨by rfl, rfl⟩) (by assumption) ?_
        simp only [Act.put, List.getElem_toArray, List.getElem_cons_zero, List.getElem_cons_succ, List.setIfInBounds_toArray, List.set_cons_zero, List.set_cons_succ]
        refine wpAnyH_take (i := 12) (v := undef) rfl (by kernel_rfl) (by kernel_rfl) (by kernel_rfl) (fun _ _ _ h => h) (Or.inr ⟨by rfl, rfl⟩) (by assumption) ?_
        simp only [Act.put, List.getElem_toArray, List.getElem_cons_zero, List.getElem_cons_succ, List.setIfInBounds_toArray, List.set_cons_zero, List.set_cons_succ]
        refine wpAnyH_take (i := 13) (v := .bool false) rfl (by kernel_rfl) (by kernel_rfl) (by kernel_rfl) (fun _ _ _ h => h) (Or.inl ⟨by rfl, ?_⟩) (by assumption) ?_
        · intro w' hSw; go_split_ands; go_simp
        simp only [Act.put, List.getElem_toArray, List.getElem_cons_zero, List.getElem_cons_succ, List.setIfInBounds_toArray, List.set_cons_zero, List.set_cons_succ]
        refine wpAnyH_ready (rs := [14]) (by kernel_rfl) (by simp) ?_
        refine AllReadyH.cons rfl (fun K hK => ?_) AllReadyH.nil
        go_simp
        refine hK.out _ _ ?_ (fun hHeld2 => ?_)
        · go_keep
        clear hK K
        refine wpAnyH_take (i := 15) (v := .bool false) rfl (by kernel_rfl) (by kernel_rfl) (by kernel_rfl) (fun _ _ _ h => h) (Or.inl ⟨by rfl, ?_⟩) (by assumption) ?_
        · intro w' hSw; go_split_ands; go_simp
        simp only [Act.put, List.getElem_toArray, List.getElem_cons_zero, List.getElem_cons_succ, List.setIfInBounds_toArray, List.set_cons_zero, List.set_cons_succ]
        refine wpAnyH_done (by kernel_rfl) ?_ _
        refine NoPanic.normal ?_
        all_goals
          go_wp2
          have hBz := ((((H3.out.2.1.set_ 0 (.int .u64 (leN (s.data.toList.take 8) : Int))).set_ 1 (.int .i64 (s[8].toNat : Int))).set_ 2 (.int .i64 (s[9].toNat : Int))).set_ 3 (.string (s.extract 12 (12 + n)))).drew
          simp only [List.setIfInBounds_toArray, List.set_cons_succ, List.set_cons_zero] at hBz
          refine bodyPost_ret (results_cell_slot rfl _ _ w.heap.size _ _ _ _ rfl hBz Try.underlying81 rfl rfl (.bool false) rfl) rfl ⟨?_, ?_⟩
          · rw [HR.out, Hs.out.2.2, Hs.out.2.1]
            simp only [Pt.val]
            rw [e8.out, e9.out, e11.out, extract_str_from, Nat.add_sub_cancel_left]
            simp [h0]
          · have hb := HB.out.2.2.1
            have hU3 := H3.out.2.2
            have h1 := hb.trans (⟨hU3.os, hU3.tape, hU3.output, hU3.size, fun b hbl => hU3.block b (Nat.lt_of_lt_of_le hbl hb.size) (by omega)⟩ : Below w.heap.size _ w3)
            exact ((((h1.setCell (p := ⟨w.heap.size, 0, none⟩) (Nat.le_refl _) _).setCell (p := ⟨w.heap.size, 1, none⟩) (Nat.le_refl _) _).setCell (p := ⟨w.heap.size, 2, none⟩) (Nat.le_refl _) _).setCell (p := ⟨w.heap.size, 3, none⟩) (Nat.le_refl _) _).drew
end Go.Proofs.Ytnmbhoidnbideaa
