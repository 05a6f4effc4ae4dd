/-
  A record that is not taken.
-/
import Derived.Test.YtafgohnpnaiomaaLogJ
namespace Go.Proofs.Ytafgohnpnaiomaa
open Go Go.RowKit

set_option maxRecDepth 100000 in
theorem Add_nil (w : World) (s : ByteArray) :
    Calls Try.prog 37 #[.pointer none, .string s] w fun e w' => e = .returned (.int .i64 2) ∧ w = w' := by
  go_enter Try.func37, Try.ntmps37
  go_wp2_with fail
  refine (lnone_nil _).mono ?_
  rintro e w' ⟨rfl, rfl⟩
  go_wp2
  go_ret
  exact ⟨rfl, rfl⟩
set_option maxRecDepth 100000 in
set_option maxHeartbeats 1600000 in
theorem Add_refused {w : World} {p b : Nat} {g : Lg} (hL : LogAt w p b g) (s : ByteArray) (hu : g.used ≤ g.sectors) (hse : g.sectors ≤ 5000)
    (h : g.broken = true ∨ 1024 < s.size ∨ g.sectors - g.used < partsOf s.size ∨ g.salt = 18446744073709551615) :
    Calls Try.prog 37 #[.pointer (some ⟨b, 0, none⟩), .string s] w fun e w' => e = .returned (.int .i64 (if g.broken then 11 else if 1024 < s.size then 3 else 6)) ∧ Upd (fun _ => False) w w' := by
  have HNo := Lib.hid (lnone_c hL)
  have HRo := Lib.hid (room_c hL hu hse)
  obtain ⟨v, hB, hO⟩ := hL.ex
  have hc := hB.cells9
  clear hB hO hL
  cases hb : g.broken
  · rw [hb] at hc
    by_cases h4 : 1024 < s.size
    · rw [if_neg (by simp), if_pos h4]
      have h4' : (1024 : Int) < (s.size : Int) := by omega
      clear h hb
      go_enter Try.func37, Try.ntmps37
      go_wp2_with fail
      refine HNo.out.mono ?_
      rintro e w' ⟨rfl, rfl⟩
      go_wp2
      go_ret
      exact ⟨rfl, Upd.refl _ _⟩
    · rw [if_neg (by simp), if_neg h4]
      have h5 : g.sectors - g.used < partsOf s.size ∨ g.salt = 18446744073709551615 := by
        rcases h with h | h | h
        · rw [hb] at h; simp at h
        · omega
        · exact h
      have h4' : ¬ (1024 : Int) < (s.size : Int) := by omega
      have HC0 := Lib.hid hc
      have H5 := Lib.hid h5
      clear h hb h5
      by_cases h6 : g.sectors - g.used < partsOf s.size
      · have h6' : ((g.sectors - g.used : Nat) : Int) < ((partsOf s.size : Nat) : Int) := by omega
        go_enter Try.func37, Try.ntmps37
        go_wp2_with fail
        refine HNo.out.mono ?_
        rintro e w' ⟨rfl, rfl⟩
        go_wp2_with fail
        refine (parts_c s _ (by omega)).mono ?_
        rintro e w' ⟨rfl, rfl⟩
        go_wp2_with fail
        refine HRo.out.mono ?_
        rintro e w' ⟨rfl, rfl⟩
        go_wp2
        go_ret
        exact ⟨rfl, (Upd.refl _ _).drew⟩
      · have h6' : ¬ ((g.sectors - g.used : Nat) : Int) < ((partsOf s.size : Nat) : Int) := by omega
        have h7 : g.salt = 18446744073709551615 := H5.out.resolve_left h6
        rw [h7] at hc
        clear HC0 H5 h7
        go_enter Try.func37, Try.ntmps37
        go_wp2_with fail
        refine HNo.out.mono ?_
        rintro e w' ⟨rfl, rfl⟩
        go_wp2_with fail
        refine (parts_c s _ (by omega)).mono ?_
        rintro e w' ⟨rfl, rfl⟩
        go_wp2_with fail
        refine HRo.out.mono ?_
        rintro e w' ⟨rfl, rfl⟩
        go_wp2
        go_ret
        exact ⟨rfl, (Upd.refl _ _).drew⟩
  · rw [hb] at hc
    rw [if_pos rfl]
    clear h hb
    go_enter Try.func37, Try.ntmps37
    go_wp2_with fail
    refine HNo.out.mono ?_
    rintro e w' ⟨rfl, rfl⟩
    go_wp2
    go_ret
    exact ⟨rfl, Upd.refl _ _⟩
end Go.Proofs.Ytafgohnpnaiomaa
