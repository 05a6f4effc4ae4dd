/-
  Two disks that are the same tell the same: same of chapter 07.
-/
import Derived.Test.YtafgohnpnaiomaaRun7
import Derived.Test.YtafgohnpnaiomaaDone7
namespace Go.Proofs.Ytafgohnpnaiomaa
open Go Go.RowKit

theorem set_two {α : Type} (l : List α) {i j : Nat} (hij : i ≠ j) (a b a' b' : α) : ((((l.set i a).set j b).set i a').set j b') = (l.set i a').set j b' := by
  rw [List.set_comm _ _ (Ne.symm hij), List.set_set, List.set_set]
set_option maxRecDepth 100000 in
set_option maxHeartbeats 1600000 in
theorem same7_c {w0 w : World} {l : List (Nat × Dk)} {p q i j : Nat} {d : Dk} (h : Dks w0 w l) (hi : l[i]? = some (p, d)) (hj : l[j]? = some (q, d)) (hij : i ≠ j) :
    Calls Try.prog 59 #[.pointer (some ⟨p, 0, none⟩), .pointer (some ⟨q, 0, none⟩)] w fun e w' => e = .returned (.bool true) ∧ ∃ d', Dks w0 w' ((l.set i (p, d')).set j (q, d')) := by
  have hil := (List.getElem?_eq_some_iff.1 hi).1
  have hjl := (List.getElem?_eq_some_iff.1 hj).1
  have h0 : (l.set i (p, d)).set j (q, d) = l := by
    have e1 := (List.getElem?_eq_some_iff.1 hi).2
    have e2 := (List.getElem?_eq_some_iff.1 hj).2
    rw [← e1, List.set_getElem_self, ← e2, List.set_getElem_self]
  have H0 : Hid (Dks w0 w ((l.set i (p, d)).set j (q, d))) := by show Dks _ _ _; rw [h0]; exact h
  have HI : Hid (∀ D : Dk, ((l.set i (p, D)).set j (q, D))[i]? = some (p, D) ∧ ((l.set i (p, D)).set j (q, D))[j]? = some (q, D)) := by
    intro D
    refine ⟨?_, ?_⟩
    · rw [List.getElem?_set_ne (Ne.symm hij), List.getElem?_set_self hil]
    · rw [List.getElem?_set_self (by rw [List.length_set]; exact hjl)]
  clear h hi hj h0
  go_enter Try.func59, Try.ntmps59
  go_wp2_with fail
  go_loopw [5, 6, 7, 8, 9, 10] (fun x _ _ _ _ _ wr => ∃ (k : Nat) (D : Dk), k ≤ 2 ∧ x = .int .i64 k ∧ Dks w0 wr ((l.set i (p, D)).set j (q, D))) (fun x _ _ _ _ _ _ => 2 - (intOf x).toNat)
  case atStart => exact ⟨0, d, by omega, rfl, H0.out⟩
  case round =>
    obtain ⟨k, D, hk, rfl, hD⟩ := hrel
    clear H0
    by_cases hlt : k < 2
    · have hlt' : (k : Int) < 2 := by omega
      obtain ⟨hi, hj⟩ := HI.out D
      have HIJ := Lib.hid (And.intro hi hj)
      have hmost := (hD.one i hi).wf.most
      have H1 := Lib.hid hD
      clear hD hi hj
      generalize hL : (l.set i (p, D)).set j (q, D) = L at *
      have HL := Lib.hid hL
      clear hL
      go_wp2_with fail
      refine (sectors_x H1.out HIJ.out.1).mono ?_
      rintro e w1 ⟨rfl, rfl⟩
      go_wp2_with fail
      refine (sectors_x H1.out HIJ.out.2).mono ?_
      rintro e w1 ⟨rfl, rfl⟩
      go_wp2_with fail
      refine (waits_x H1.out HIJ.out.1).mono ?_
      rintro e w2 ⟨rfl, hU⟩
      have H2 := Lib.hid (H1.out.still hU)
      clear hU H1
      go_wp2_with fail
      refine (waits_x H2.out HIJ.out.2).mono ?_
      rintro e w3 ⟨rfl, hU⟩
      have H3 := Lib.hid (H2.out.still hU)
      clear hU H2
      go_wp2_with fail
      refine (down_x H3.out HIJ.out.1).mono ?_
      rintro e w4 ⟨rfl, rfl⟩
      go_wp2_with fail
      refine (down_x H3.out HIJ.out.2).mono ?_
      rintro e w4 ⟨rfl, rfl⟩
      generalize D.off = off
      go_wp2_with fail
      go_loopw [6, 7, 8, 9, 10] (fun y _ _ _ _ wr => ∃ m : Nat, m ≤ D.lasts.length ∧ y = .int .i64 m ∧ Dks w0 wr L) (fun y _ _ _ _ _ => D.lasts.length - (intOf y).toNat)
      case atStart => exact ⟨0, by omega, rfl, H3.out⟩
      case round =>
        obtain ⟨m, hm, rfl, hD⟩ := hrel
        have H4 := Lib.hid hD
        clear hD H3
        go_wp2_with fail
        refine (sectors_x H4.out HIJ.out.1).mono ?_
        rintro e w5 ⟨rfl, rfl⟩
        by_cases hml : m < D.lasts.length
        · go_wp2_with fail
          refine (read_x H4.out HIJ.out.1 (m : Int)).mono ?_
          rintro e w6 ⟨rfl, rfl⟩
          go_wp2_with fail
          refine (read_x H4.out HIJ.out.2 (m : Int)).mono ?_
          rintro e w6 ⟨rfl, rfl⟩
          generalize D.read (m : Int) = r
          obtain ⟨r1, r2⟩ := r
          go_wp2_with fail
          go_roundw
          case rel => exact ⟨m + 1, by omega, by go_num, H4.out⟩
          case measure => simp [intOf] <;> omega
        · go_wp2_with fail
          refine (crash_y (keep := [-1, -1, -1, -1, -1]) (H4.out.still ((Upd.refl _ _).alloc _)) HIJ.out.1 (Blk.new _ _ _) (by decide) (by simp)).mono ?_
          rintro e w7 ⟨rfl, hD⟩
          have H7 := Lib.hid hD
          have hj2 : (L.set i (p, D.crash [-1, -1, -1, -1, -1]))[j]? = some (q, D) := by rw [List.getElem?_set_ne hij]; exact HIJ.out.2
          have Hj2 := Lib.hid hj2
          clear hD H4 hj2
          go_wp2_with fail
          refine (crash_y (keep := [-1, -1, -1, -1, -1]) (H7.out.still ((Upd.refl _ _).alloc _)) Hj2.out (Blk.new _ _ _) (by decide) (by simp)).mono ?_
          rintro e w8 ⟨rfl, hD⟩
          have hD2 : Dks w0 w8 ((l.set i (p, D.crash [-1, -1, -1, -1, -1])).set j (q, D.crash [-1, -1, -1, -1, -1])) := by
            rw [← HL.out, set_two l hij] at hD
            exact hD
          have H8 := Lib.hid hD2
          clear hD hD2 H7
          go_wp2_with fail
          go_roundw
          case rel => exact ⟨k + 1, _, by omega, by go_num, H8.out⟩
          case measure => simp [intOf] <;> omega
    · have H1 := Lib.hid hD
      clear hD
      have hlt' : ¬ (k : Int) < 2 := by omega
      go_wp2_with fail
      go_ret
      exact ⟨rfl, D, H1.out⟩
end Go.Proofs.Ytafgohnpnaiomaa
