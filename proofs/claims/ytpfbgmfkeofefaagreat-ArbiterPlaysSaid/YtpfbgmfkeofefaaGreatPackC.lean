/-
  Package pack: a reader; package arbiter: a register's bytes.
-/
import Derived.Test.YtpfbgmfkeofefaaGreatPackB
namespace Go.Proofs.YtpfbgmfkeofefaaGreat
open Go Go.RowKit

/-- A reader that was made behind the world w0. -/
structure InX (w0 w : World) (x : Nat) (i : InS) : Prop where
  blk : Blk w x 204 #[.string (str i.rest), .int .i64 (i.read : Int), .int .i64 i.fail]
  new : w0.heap.size ≤ x
  upd : Upd (fun _ => False) w0 w
theorem InX.start (w : World) (s : ByteArray) : InX w (w.alloc (.cells #[.string s, .int .i64 0, .int .i64 0] 204)) w.heap.size ⟨s.data.toList, 0, 0⟩ :=
  ⟨Blk.new w _ _, Nat.le_refl _, (Upd.refl _ w).alloc _⟩
section
variable {w0 w : World} {x : Nat} {i : InS}
set_option maxRecDepth 100000 in
theorem reads_c (h : InX w0 w x i) : Calls Tryz.prog 122 #[.pointer (some ⟨x, 0, none⟩)] w fun e w' => e = .returned (.bool (decide (i.fail = 0))) ∧ w = w' := by
  have hc := h.blk.cells3
  clear h
  obtain ⟨r, k, f⟩ := i
  simp only at hc
  go_enter Tryz.func122, Tryz.ntmps122
  go_wp2_with fail
  go_ret
  exact ⟨rfl, rfl⟩
set_option maxRecDepth 100000 in
theorem takes_no (h : InX w0 w x i) (b e : Int) (he : e ≠ 0) : Calls Tryz.prog 124 #[.pointer (some ⟨x, 0, none⟩), .int .i64 b, .int .i64 e] w fun en w' => en = .returned (.bool false) ∧ InX w0 w' x ⟨i.rest, i.read, e⟩ := by
  have hc := h.blk.cells3
  have hf := h.blk.frozen 2
  have HB := Lib.hid h
  clear h
  go_enter Tryz.func124, Tryz.ntmps124
  go_wp2_with fail
  go_ret
  refine ⟨rfl, ?_, HB.out.new, HB.out.upd.setCell (p := ⟨x, 2, none⟩) (.inr HB.out.new) _⟩
  have := HB.out.blk.set_ 2 (.int .i64 e)
  simpa using this
set_option maxRecDepth 100000 in
theorem takes_ok (h : InX w0 w x i) (b : Nat) (hb : b ≤ i.rest.length) (hr : i.read + b ≤ 1000000000000) : Calls Tryz.prog 124 #[.pointer (some ⟨x, 0, none⟩), .int .i64 (b : Int), .int .i64 0] w fun en w' => en = .returned (.bool true) ∧ InX w0 w' x ⟨i.rest.drop b, i.read + b, 0⟩ := by
  have hc := h.blk.cells3
  have hf0 := h.blk.frozen 0
  have hf1 := h.blk.frozen 1
  have hf2 := h.blk.frozen 2
  have hsz : (str i.rest).size = i.rest.length := str_size _
  have HB := Lib.hid h
  have e1 : str (i.rest.drop b) = (str i.rest).extract b i.rest.length := by
    rw [extract_str_from, str_list, List.take_of_length_le (by simp)]
  obtain ⟨s, hs⟩ : ∃ s, str i.rest = s := ⟨_, rfl⟩
  rw [hs] at hc hsz e1
  have hb' : b ≤ s.size := by omega
  clear h
  go_enter Tryz.func124, Tryz.ntmps124
  go_wp2_with fail
  go_ret
  refine ⟨rfl, ?_, HB.out.new, ((HB.out.upd.setCell (p := ⟨x, 2, none⟩) (.inr HB.out.new) _).setCell (p := ⟨x, 0, none⟩) (.inr HB.out.new) _).setCell (p := ⟨x, 1, none⟩) (.inr HB.out.new) _⟩
  have := ((HB.out.blk.set_ 2 (.int .i64 0)).set_ 0 (.string (s.extract b i.rest.length))).set_ 1 (.int .i64 ((i.read : Int) + (b : Int)))
  rw [← e1] at this
  simpa [e1] using this
set_option maxRecDepth 100000 in
theorem most_c (h : InX w0 w x i) (m : Nat) (hm : m ≤ 9223372036854775807) (hr : i.read ≤ 100000000000) :
    Calls Tryz.prog 101 #[.pointer (some ⟨x, 0, none⟩), .int .i64 (m : Int)] w fun en w' => en = .returned (.int .i64 ((i.most m).1 : Int)) ∧ InX w0 w' x (i.most m).2 := by
  have hc := h.blk.cells3
  have hR := reads_c h
  have hB := bounded_c (str i.rest) m hm w
  rw [str_list] at hB
  have hT := takes_ok h
  have hTn := takes_no h
  have hbd := bound_bad i.rest m
  have hfit := num_fits i.rest
  have HB := Lib.hid h
  unfold InS.most
  clear h
  by_cases hf : i.fail = 0
  · rw [decide_eq_true hf] at hR
    rw [if_pos hf]
    obtain ⟨⟨a, b, c⟩, hq⟩ : ∃ q, boundL i.rest m = q := ⟨_, rfl⟩
    rw [hq] at hB hbd ⊢
    simp only at hB hbd ⊢
    by_cases h0 : c = 0
    · subst h0
      have hb1 := (bound_ok hq).2
      rw [hb1] at hfit
      simp only at hfit
      have HT := Lib.hid (hT b hfit.2.2.1 (by omega))
      have HR := Lib.hid hR
      have HBd := Lib.hid hB
      clear hT hTn hR hB hbd hq hb1 hfit
      rw [if_pos rfl]
      go_enter Tryz.func101, Tryz.ntmps101
      go_wp2_with fail
      refine HR.out.mono ?_
      rintro e w' ⟨rfl, rfl⟩
      go_wp2_with fail
      refine HBd.out.mono ?_
      rintro e w' ⟨rfl, rfl⟩
      go_wp2_with fail
      refine HT.out.mono ?_
      rintro e w' ⟨rfl, hX⟩
      have HX := Lib.hid hX
      clear hX
      go_wp2_with fail
      go_ret
      exact ⟨rfl, HX.out⟩
    · have HT := Lib.hid (hTn (b : Int) c h0)
      have HR := Lib.hid hR
      have HBd := Lib.hid hB
      clear hT hTn hR hB hq hfit hbd
      rw [if_neg h0]
      go_enter Tryz.func101, Tryz.ntmps101
      go_wp2_with fail
      refine HR.out.mono ?_
      rintro e w' ⟨rfl, rfl⟩
      go_wp2_with fail
      refine HBd.out.mono ?_
      rintro e w' ⟨rfl, rfl⟩
      go_wp2_with fail
      refine HT.out.mono ?_
      rintro e w' ⟨rfl, hX⟩
      have HX := Lib.hid hX
      clear hX
      go_wp2_with fail
      go_ret
      exact ⟨rfl, HX.out⟩
  · rw [decide_eq_false hf] at hR
    rw [if_neg hf]
    have HR := Lib.hid hR
    clear hT hTn hR hB hbd hfit
    go_enter Tryz.func101, Tryz.ntmps101
    go_wp2_with fail
    refine HR.out.mono ?_
    rintro e w' ⟨rfl, rfl⟩
    go_wp2_with fail
    go_ret
    exact ⟨rfl, HB.out⟩
set_option maxRecDepth 100000 in
theorem fault_c (h : InX w0 w x i) : Calls Tryz.prog 125 #[.pointer (some ⟨x, 0, none⟩)] w fun e w' => ∃ n : Int, e = .returned (.tuple #[.int .i64 i.fail, .int .i64 n]) ∧ Upd (fun _ => False) w w' := by
  have hc := h.blk.cells3
  have HR := Lib.hid (reads_c h)
  clear h
  by_cases hf : i.fail = 0
  · rw [decide_eq_true hf] at HR
    rw [hf]
    go_enter Tryz.func125, Tryz.ntmps125
    go_wp2_with fail
    refine HR.out.mono ?_
    rintro e w' ⟨rfl, rfl⟩
    go_wp2_with fail
    go_ret2
    exact ⟨_, rfl, Upd.refl _ _⟩
  · rw [decide_eq_false hf] at HR
    go_enter Tryz.func125, Tryz.ntmps125
    go_wp2_with fail
    refine HR.out.mono ?_
    rintro e w' ⟨rfl, rfl⟩
    go_wp2_with fail
    go_region
    all_goals go_wp2
    all_goals go_ret2
    all_goals exact ⟨_, rfl, (Upd.refl _ _).drewN _⟩
set_option maxRecDepth 100000 in
theorem left_c (h : InX w0 w x i) : Calls Tryz.prog 126 #[.pointer (some ⟨x, 0, none⟩)] w fun e w' => e = .returned (.int .i64 (i.rest.length : Int)) ∧ w = w' := by
  have hc := h.blk.cells3
  have hsz : (str i.rest).size = i.rest.length := str_size _
  obtain ⟨s, hs⟩ : ∃ s, str i.rest = s := ⟨_, rfl⟩
  rw [hs] at hc hsz
  clear h hs
  go_enter Tryz.func126, Tryz.ntmps126
  go_wp2_with fail
  go_ret
  exact ⟨rfl, rfl⟩
set_option maxRecDepth 100000 in
theorem end_c (h : InX w0 w x i) : Calls Tryz.prog 102 #[.pointer (some ⟨x, 0, none⟩)] w fun e w' => e = .returned (.int .i64 (if i.fail ≠ 0 then i.fail else if i.rest ≠ [] then 8 else 0)) ∧ Upd (fun _ => False) w w' := by
  have HF := Lib.hid (fault_c h)
  have HL : Hid (∀ W, Upd (fun _ => False) w W → Calls Tryz.prog 126 #[.pointer (some ⟨x, 0, none⟩)] W fun e w' => e = .returned (.int .i64 (i.rest.length : Int)) ∧ W = w') :=
    Lib.hid fun W hU => left_c (w0 := w0) ⟨h.blk.upd hU (fun e => e), h.new, h.upd.then hU (fun _ e => e.elim)⟩
  clear h
  by_cases hf : i.fail = 0
  · rw [hf] at HF
    by_cases hr : i.rest = []
    · have hl : (i.rest.length : Int) = 0 := by rw [hr]; rfl
      rw [if_neg (by simp [hf]), if_neg (by simp [hr])]
      rw [hl] at HL
      go_enter Tryz.func102, Tryz.ntmps102
      go_wp2_with fail
      refine HF.out.mono ?_
      rintro e w1 ⟨n, rfl, hU⟩
      have HU := Lib.hid hU
      clear hU
      go_wp2_with fail
      refine (HL.out _ HU.out).mono ?_
      rintro e w2 ⟨rfl, rfl⟩
      go_wp2_with fail
      go_ret
      exact ⟨rfl, HU.out⟩
    · have hl : 0 < i.rest.length := List.length_pos_iff.2 hr
      rw [if_neg (by simp [hf]), if_pos hr]
      go_enter Tryz.func102, Tryz.ntmps102
      go_wp2_with fail
      refine HF.out.mono ?_
      rintro e w1 ⟨n, rfl, hU⟩
      have HU := Lib.hid hU
      clear hU
      go_wp2_with fail
      refine (HL.out _ HU.out).mono ?_
      rintro e w2 ⟨rfl, rfl⟩
      go_wp2_with fail
      go_ret
      exact ⟨rfl, HU.out⟩
  · rw [if_pos hf]
    go_enter Tryz.func102, Tryz.ntmps102
    go_wp2_with fail
    refine HF.out.mono ?_
    rintro e w1 ⟨n, rfl, hU⟩
    have HU := Lib.hid hU
    clear hU
    go_wp2_with fail
    go_ret
    exact ⟨rfl, HU.out⟩
end
end Go.Proofs.YtpfbgmfkeofefaaGreat
