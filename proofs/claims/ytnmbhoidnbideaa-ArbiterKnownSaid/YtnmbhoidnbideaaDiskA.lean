/-
  The disk's calls that only look, and those that write a field: each by its contract.
-/
import Derived.Test.YtnmbhoidnbideaaDiskM
import Derived.Test.YtnmbhoidnbideaaProg
namespace Go.Proofs.Ytnmbhoidnbideaa
open Go Go.RowKit

theorem neqMapNil (w : World) (r : Option Nat) : (binOp .eql 62 (.map r) (.map none)).run Try.prog w = .ok (.bool r.isNone) w :=
  run_eql_map_nil w _ _ _ r Try.underlying62

set_option maxRecDepth 100000 in
theorem none_c {w : World} {p : Nat} {d : Dk} {F : List Nat} (hD : DiskAt w p d F) :
    Calls Try.prog 28 #[.pointer (some ⟨p, 0, none⟩)] w fun e w' => e = .returned (.bool false) ∧ w = w' := by
  obtain ⟨bl, cap, bm, h1⟩ := hD.blk
  clear hD
  have hc := h1.cells4
  have hm := neqMapNil w (some bm)
  clear h1
  go_enter Try.func28, Try.ntmps28
  go_wp2
  go_ret
  exact ⟨rfl, rfl⟩

set_option maxRecDepth 100000 in
theorem out_up {w : World} {p : Nat} {d : Dk} {F : List Nat} (hD : DiskAt w p d F) (hoff : d.off = false) :
    Calls Try.prog 53 #[.pointer (some ⟨p, 0, none⟩)] w fun e w' => e = .returned (.int .i64 0) ∧ w = w' := by
  have hn := none_c hD
  obtain ⟨bl, cap, bm, h1⟩ := hD.blk
  clear hD
  rw [hoff] at h1
  have hc := h1.cells4
  have Hn := Lib.hid hn
  clear h1 hn
  go_enter Try.func53, Try.ntmps53
  go_wp2_with (go_at_call 28; refine Hn.out.mono ?_; rintro e w' ⟨rfl, rfl⟩)
  go_ret
  exact ⟨rfl, rfl⟩

set_option maxRecDepth 100000 in
theorem out_down {w : World} {p : Nat} {d : Dk} {F : List Nat} (hD : DiskAt w p d F) (hoff : d.off = true) :
    Calls Try.prog 53 #[.pointer (some ⟨p, 0, none⟩)] w fun e w' => e = .returned (.int .i64 14) ∧ w = w' := by
  have hn := none_c hD
  obtain ⟨bl, cap, bm, h1⟩ := hD.blk
  clear hD
  rw [hoff] at h1
  have hc := h1.cells4
  have Hn := Lib.hid hn
  clear h1 hn
  go_enter Try.func53, Try.ntmps53
  go_wp2_with (go_at_call 28; refine Hn.out.mono ?_; rintro e w' ⟨rfl, rfl⟩)
  go_ret
  exact ⟨rfl, rfl⟩

set_option maxRecDepth 100000 in
theorem there_c {w : World} {p : Nat} {d : Dk} {F : List Nat} (hD : DiskAt w p d F) (i : Int) :
    Calls Try.prog 54 #[.pointer (some ⟨p, 0, none⟩), .int .i64 i] w fun e w' => e = .returned (.bool (d.there i)) ∧ w = w' := by
  have hmost := hD.wf.most
  obtain ⟨bl, cap, bm, h1⟩ := hD.blk
  clear hD
  have hc := h1.cells4
  clear h1
  have HT : Hid (d.there i = decide (0 ≤ i ∧ i < d.lasts.length)) := rfl
  generalize d.there i = r at HT
  by_cases h0 : 0 ≤ i
  · go_enter Try.func54, Try.ntmps54
    go_wp2
    go_ret
    exact ⟨by rw [HT.out]; simp [h0], rfl⟩
  · go_enter Try.func54, Try.ntmps54
    go_wp2
    go_ret
    exact ⟨by rw [HT.out]; simp; omega, rfl⟩

set_option maxRecDepth 100000 in
theorem sectors_c {w : World} {p : Nat} {d : Dk} {F : List Nat} (hD : DiskAt w p d F) :
    Calls Try.prog 29 #[.pointer (some ⟨p, 0, none⟩)] w fun e w' => e = .returned (.int .i64 d.lasts.length) ∧ w = w' := by
  have hn := none_c hD
  obtain ⟨bl, cap, bm, h1⟩ := hD.blk
  clear hD
  have hc := h1.cells4
  have Hn := Lib.hid hn
  clear h1 hn
  go_enter Try.func29, Try.ntmps29
  go_wp2_with (go_at_call 28; refine Hn.out.mono ?_; rintro e w' ⟨rfl, rfl⟩)
  go_ret
  exact ⟨rfl, rfl⟩

set_option maxRecDepth 100000 in
theorem fuse_c {w : World} {p : Nat} {d : Dk} {F : List Nat} (hD : DiskAt w p d F) (n : Int) (hn2 : n ≤ 9223372036854775807) :
    Calls Try.prog 15 #[.pointer (some ⟨p, 0, none⟩), .int .i64 n] w fun e w' => e = .returned (.tuple #[]) ∧ Left w w' p (d.setFuse n) F F := by
  have Hn := Lib.hid (none_c hD)
  have HF : Hid (Left w (w.setCell ⟨p, 2, none⟩ (.int .i64 (max n (-1)))) p (d.setFuse n) F F) := left_fuse hD _ (by omega) (by omega)
  obtain ⟨bl, cap, bm, h1⟩ := hD.blk
  clear hD
  have hc := h1.cells4
  have hfr := h1.frozen 2
  clear h1
  go_enter Try.func15, Try.ntmps15
  go_wp2_with (go_at_call 28; refine Hn.out.mono ?_; rintro e w' ⟨rfl, rfl⟩)
  · go_end0
    have h := HF.out
    rw [Int.max_eq_right (by omega)] at h
    exact ⟨rfl, h⟩
  · go_end0
    have h := HF.out
    rw [Int.max_eq_left (by assumption)] at h
    exact ⟨rfl, h⟩

set_option maxRecDepth 100000 in
theorem burns_yes {w : World} {p : Nat} {d : Dk} {F : List Nat} (hD : DiskAt w p d F) (hb : d.burn.2 = true) :
    Calls Try.prog 55 #[.pointer (some ⟨p, 0, none⟩)] w fun e w' => e = .returned (.int .i64 0) ∧ Left w w' p d.burn.1 F F := by
  have hw := hD.wf
  have hw6 := hw.fuse
  have hw7 := hw.fuse'
  by_cases h0 : d.fuse = 0
  · simp [Dk.burn, h0] at hb
  · by_cases h1 : 0 < d.fuse
    · have HL : Hid (Left w (w.setCell ⟨p, 2, none⟩ (.int .i64 (d.fuse - 1))) p d.burn.1 F F) :=
        (left_fuse hD (d.fuse - 1) (by omega) (by omega)).eq (by simp [Dk.burn, h0, h1])
      obtain ⟨bl, cap, bm, g1⟩ := hD.blk
      clear hD
      have hc := g1.cells4
      have hfr := g1.frozen 2
      generalize d.fuse = f at *
      have hz : (f == 0) = false := by simp [h0]
      clear g1 hb hw h0
      go_enter Try.func55, Try.ntmps55
      go_wp2
      go_ret
      exact ⟨rfl, HL.out⟩
    · have HL : Hid (Left w w p d.burn.1 F F) := (Left.refl hD).eq (by simp [Dk.burn, h0, h1])
      obtain ⟨bl, cap, bm, g1⟩ := hD.blk
      clear hD
      have hc := g1.cells4
      generalize d.fuse = f at *
      have hz : (f == 0) = false := by simp [h0]
      clear g1 hb hw h0
      go_enter Try.func55, Try.ntmps55
      go_wp2
      go_ret
      exact ⟨rfl, HL.out⟩

set_option maxRecDepth 100000 in
theorem burns_no {w : World} {p : Nat} {d : Dk} {F : List Nat} (hD : DiskAt w p d F) (hb : d.burn.2 = false) :
    Calls Try.prog 55 #[.pointer (some ⟨p, 0, none⟩)] w fun e w' => e = .returned (.int .i64 14) ∧ Left w w' p d.burn.1 F F := by
  have h0 : d.fuse = 0 := by
    unfold Dk.burn at hb
    split at hb
    · assumption
    · split at hb <;> simp at hb
  have HL : Hid (Left w (w.setCell ⟨p, 3, none⟩ (.bool true)) p d.burn.1 F F) := (left_off hD true).eq (by simp [Dk.burn, h0])
  obtain ⟨bl, cap, bm, g1⟩ := hD.blk
  clear hD
  rw [h0] at g1
  have hc := g1.cells4
  have hfr := g1.frozen 3
  clear g1 hb h0
  go_enter Try.func55, Try.ntmps55
  go_wp2
  go_ret
  exact ⟨rfl, HL.out⟩
end Go.Proofs.Ytnmbhoidnbideaa
