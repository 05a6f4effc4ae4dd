/-
  The wake of the laws of chapter 10.
-/
import Derived.Test.YtafgohnpnaiomaaLogR
namespace Go.Proofs.Ytafgohnpnaiomaa
open Go Go.RowKit

theorem rep33 : (repB 98 33).size = 33 := by decide +kernel
/-- The log of n sectors from f on, new. -/
abbrev lg0 (f n e : Nat) : Lg := ⟨f, n, e, [], 0, 0, 0, false⟩
theorem row_two (w : World) (x y : ByteArray) : Row (w.alloc (.cells #[.string x, .string y] 9)) (.slice (some ⟨w.heap.size, 0, none⟩) 2 2) (strs [x, y]) :=
  Row.of_new w (strs [x, y]) 9 (by simp [strs])
theorem row_one (w : World) (x : ByteArray) : Row (w.alloc (.cells #[.string x] 9)) (.slice (some ⟨w.heap.size, 0, none⟩) 1 1) (strs [x]) :=
  Row.of_new w (strs [x]) 9 (by simp [strs])
/-- Add, of what fits. -/
theorem addG_ok {w0 w : World} {p b : Nat} {d : Dk} {g : Lg} {X : Nat → Prop} {rs : List (List UInt8 × Nat)} {R : List (Option Lp)} (hS : LgS w0 w p b d g X) (h : LogIs d g rs R) (s : ByteArray) (hs : s.size ≤ 1024) (hr : partsOf s.size ≤ R.length) (hsalt : g.salt ≤ 1000000) (hp : d.pend ≤ 1000) :
    Calls Try.prog 37 #[.pointer (some ⟨b, 0, none⟩), .string s] w fun e w' => e = .returned (.int .i64 0) ∧ AddS w0 w w' p b (addD d g s) (g.added s) X := by
  refine (addG_l hS h s (by omega) (by omega)).mono ?_
  rintro e w' ⟨rfl, hA⟩
  obtain ⟨q1, -⟩ := add_is h s hs hr (by omega)
  rw [q1] at hA ⊢
  exact ⟨rfl, hA⟩

set_option maxRecDepth 100000 in
set_option maxHeartbeats 1600000 in
theorem awake_10 (w : World) : Calls Try.prog 41 #[] w fun e w' => e = .returned (.bool true) ∧ Upd (fun _ => False) w w' := by
  have HN := Lib.hid (new_s 8 w (by omega) (by omega))
  have h33 := rep33
  have k0 := fresh_log 8 1 4 1 (by omega) (by omega) (by omega) (by omega)
  obtain ⟨-, k1, l1, p1, -⟩ := add_is k0 ⟨#[97]⟩ (by decide) (by decide) (by decide)
  obtain ⟨-, k2, l2, p2, -⟩ := add_is k1 (repB 98 33) (by rw [h33]; omega) (by rw [h33]; decide) (by decide)
  have K0 := Lib.hid k0
  have K1 := Lib.hid (And.intro k1 p1)
  have K2 := Lib.hid (And.intro k2 p2)
  clear k0 k1 k2 l1 l2 p1 p2
  go_enter Try.func41, Try.ntmps41
  go_wp2_with fail
  refine HN.out.mono ?_
  rintro e w1 ⟨p, rfl, hD⟩
  have H1 := Lib.hid hD
  clear hD HN
  go_wp2_with fail
  refine (openG_l H1.out K0.out 1 4 1 rfl rfl rfl).mono ?_
  rintro e w2 ⟨b, rfl, hS, -, -⟩
  have H2 := Lib.hid hS
  clear hS H1
  go_wp2_with fail
  refine (addG_ok H2.out K0.out ⟨#[97]⟩ (by decide) (by decide) (by decide) (by decide)).mono ?_
  rintro e w3 ⟨rfl, hS⟩
  have H3 := Lib.hid hS.log
  clear hS H2
  go_wp2_with fail
  refine (rep_c 98 33 _ (by omega)).mono ?_
  rintro e w4 ⟨rfl, hU⟩
  have H4 := Lib.hid (H3.out.still hU)
  clear hU H3
  go_wp2_with fail
  refine (addG_ok H4.out K1.out.1 (repB 98 33) (by rw [h33]; omega) (by rw [h33]; decide) (by decide) (by rw [K1.out.2]; omega)).mono ?_
  rintro e w5 ⟨rfl, hS⟩
  have H5 := Lib.hid hS.log.disk
  clear hS H4
  go_wp2_with fail
  refine (openG_l H5.out K2.out.1 1 4 1 rfl rfl rfl).mono ?_
  rintro e w6 ⟨b', rfl, hS, -, -⟩
  have H6 := Lib.hid hS
  clear hS H5
  go_wp2_with fail
  refine (recordsG_l H6.out K2.out.1).mono ?_
  rintro e w7 ⟨v, rfl, hO, hU, hv⟩
  have hrow := Row.of_own hO (by decide)
  have H7 := Lib.hid (And.intro (H6.out.still hU) hrow)
  clear hO hU hv hrow H6
  go_wp2_with fail
  refine (rep_c 98 33 _ (by omega)).mono ?_
  rintro e w8 ⟨rfl, hU⟩
  have H8 := Lib.hid (And.intro (H7.out.1.still hU) (H7.out.2.still hU))
  clear hU H7
  go_wp2_with fail
  refine (sameG_c _ (H8.out.2.still ((Upd.refl _ _).alloc _)) (row_two w8 ⟨#[97]⟩ (repB 98 33))).mono ?_
  rintro e w9 ⟨rfl, hU⟩
  have H9 := Lib.hid (H8.out.1.still (((Upd.refl _ _).alloc _).then hU (fun _ e => e.elim)))
  clear hU H8
  go_wp2_with fail
  refine (roomG_l H9.out K2.out.1).mono ?_
  rintro e w10 ⟨rfl, hU⟩
  have H10 := Lib.hid (H9.out.still hU)
  clear hU H9
  go_wp2
  go_ret
  exact ⟨rfl, H10.out.upd⟩
end Go.Proofs.Ytafgohnpnaiomaa
