/-
  Sync, whatever the disk is.
-/
import Derived.Test.YtnmbhoidnbideaaDiskC
namespace Go.Proofs.Ytnmbhoidnbideaa
open Go Go.RowKit

set_option maxRecDepth 100000 in
theorem sync_off {w : World} {p : Nat} {d : Dk} {F : List Nat} (hD : DiskAt w p d F) (hoff : d.off = true) :
    Calls Try.prog 35 #[.pointer (some ⟨p, 0, none⟩)] w fun e w' => e = .returned (.int .i64 14) ∧ w = w' := by
  have Ho := Lib.hid (out_down hD hoff)
  clear hoff hD
  go_enter Try.func35, Try.ntmps35
  go_wp2_with (go_at_call 53; refine Ho.out.mono ?_; rintro e w' ⟨rfl, rfl⟩)
  go_ret
  exact ⟨rfl, rfl⟩
set_option maxRecDepth 100000 in
theorem sync_no {w : World} {p : Nat} {d : Dk} {F : List Nat} (hD : DiskAt w p d F) (hoff : d.off = false) (hn : d.burn.2 = false) :
    Calls Try.prog 35 #[.pointer (some ⟨p, 0, none⟩)] w fun e w' => e = .returned (.int .i64 14) ∧ Left w w' p d.burn.1 F F := by
  have Ho := Lib.hid (out_up hD hoff)
  have Hb := Lib.hid (burns_no hD hn)
  clear hoff hD hn
  go_enter Try.func35, Try.ntmps35
  go_wp2_with (first
    | (go_at_call 53; refine Ho.out.mono ?_; rintro e w' ⟨rfl, rfl⟩)
    | (go_at_call 55; refine Hb.out.mono ?_; rintro e w2 ⟨rfl, hL⟩))
  go_ret
  exact ⟨rfl, hL⟩
theorem sync_c {w : World} {p : Nat} {d : Dk} {F : List Nat} (hD : DiskAt w p d F) :
    Calls Try.prog 35 #[.pointer (some ⟨p, 0, none⟩)] w fun e w' => e = .returned (.int .i64 d.sync.2) ∧ ∃ F', Left w w' p d.sync.1 F F' := by
  cases hoff : d.off with
  | true =>
    refine (sync_off hD hoff).mono ?_
    rintro e w' ⟨rfl, rfl⟩
    exact ⟨by simp [Dk.sync, hoff], F, (Left.refl hD).eq (by simp [Dk.sync, hoff])⟩
  | false =>
    cases hb : d.burn.2 with
    | true =>
      refine (sync_yes hD hoff hb).mono ?_
      rintro e w' ⟨rfl, F', h⟩
      exact ⟨by simp [Dk.sync, hoff, hb], F', h.eq (by simp [Dk.sync, hoff, hb])⟩
    | false =>
      refine (sync_no hD hoff hb).mono ?_
      rintro e w' ⟨rfl, h⟩
      exact ⟨by simp [Dk.sync, hoff, hb], F, h.eq (by simp [Dk.sync, hoff, hb])⟩
end Go.Proofs.Ytnmbhoidnbideaa
