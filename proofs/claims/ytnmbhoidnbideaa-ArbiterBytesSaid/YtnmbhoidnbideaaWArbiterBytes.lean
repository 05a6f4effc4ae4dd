/-
  ArbiterBytes: the walk.
-/
import Derived.Test.YtnmbhoidnbideaaArbC
import Derived.Test.YtnmbhoidnbideaaRef23
namespace Go.Proofs.Ytnmbhoidnbideaa
open Go Go.RowKit

theorem bytesE_err (n c : Int) : (bytesE n c).2 = 0 ∨ (bytesE n c).2 = 1 := by
  unfold bytesE
  split
  · exact .inr rfl
  · exact .inl rfl
theorem most_err (x : InS) (m : Nat) (hx : x.fail = 0 ∨ x.fail = 7 ∨ x.fail = 8) : (x.most m).2.fail = 0 ∨ (x.most m).2.fail = 7 ∨ (x.most m).2.fail = 8 := by
  rw [most_num]
  have hn : x.num.2.fail = 0 ∨ x.num.2.fail = 7 ∨ x.num.2.fail = 8 := by
    unfold InS.num
    by_cases h0 : x.fail = 0
    · rw [if_pos h0]
      show (numL x.rest).2.2 = 0 ∨ _
      rcases num_bad x.rest with e | e | e
      · exact .inl e
      · rw [e]; exact .inr (.inl rfl)
      · rw [e]; exact .inr (.inr rfl)
    · rw [if_neg h0]; exact hx
  split
  · exact hn
  · split
    · exact .inr (.inr rfl)
    · exact hn
theorem readA_err (s : List UInt8) : (readA s).2.2 = 0 ∨ (readA s).2.2 = 7 ∨ (readA s).2.2 = 8 := by
  unfold readA
  by_cases h : errA s = 0
  · rw [if_pos h]; exact .inl rfl
  · rw [if_neg h]
    show errA s = 0 ∨ errA s = 7 ∨ errA s = 8
    unfold errA
    have h1 := most_err (((⟨s, 0, 0⟩ : InS).most maxE).2) 1 (most_err _ maxE (.inl rfl))
    split
    · exact h1
    · split
      · exact .inr (.inr rfl)
      · split
        · exact .inr (.inr rfl)
        · exact .inl rfl
theorem readA_no {s : List UInt8} (h : (readA s).2.2 ≠ 0) : (readA s).1 = 0 ∧ (readA s).2.1 = 0 := by
  unfold readA at h ⊢
  by_cases h1 : errA s = 0
  · rw [if_pos h1] at h; exact absurd rfl h
  · rw [if_neg h1]; exact ⟨rfl, rfl⟩
set_option maxRecDepth 100000 in
set_option maxHeartbeats 800000 in
theorem walk_ArbiterBytes {n c : Int} {b : ByteArray} (w : World) (h1 : (Lit.int .i64 n).wf = true) (_h2 : (Lit.int .i64 c).wf = true) (_hb : b.size ≤ maxLen) :
    Calls Try.prog 3 #[.int .i64 n, .int .i64 c, .string b] w fun e w' => e = .returned (.bool true) ∧ Upd (fun _ => False) w w' := by
  have hn : n ≤ 9223372036854775807 := by
    simp only [Lit.wf, Bool.and_eq_true, decide_eq_true_eq] at h1
    have e : IntKind.i64.max = 9223372036854775807 := rfl
    omega
  have HW := Lib.hid (awake_23 w)
  clear h1 _h2
  by_cases h3 : 3000 < b.size
  · have h3' : (3000 : Int) < (b.size : Int) := by omega
    go_enter Try.func3, Try.ntmps3
    go_wp2_with fail
    refine HW.out.mono ?_
    rintro e w1 ⟨rfl, hU⟩
    have H1 := Lib.hid hU
    clear hU
    go_wp2_with fail
    go_ret
    exact ⟨rfl, H1.out⟩
  · have h3' : ¬ (3000 : Int) < (b.size : Int) := by omega
    have HB := Lib.hid (bytes_c n c hn)
    have HB2 := Lib.hid (refBytes_c n c hn)
    have HR := Lib.hid (readA_c b)
    have HR2 := Lib.hid (refRead_c b (by omega))
    have hE1 := bytesE_err n c
    have hE2 := readA_err b.data.toList
    have hHb : Hid (∀ W, Calls Try.prog 6 #[.int .i64 ((readA b.data.toList).1 : Int), .int .i64 ((readA b.data.toList).2.1 : Int)] W fun e w' => ∃ t E, e = .returned (.tuple #[.string t, .int .i64 E]) ∧ ((readA b.data.toList).2.2 = 0 → t = b ∧ E = 0) ∧ Upd (fun _ => False) W w') := Lib.hid fun W => by
      by_cases he : (readA b.data.toList).2.2 = 0
      · obtain ⟨r1, r2, r3, r4⟩ := read_ok he
        generalize (readA b.data.toList).1 = x at *
        generalize (readA b.data.toList).2.1 = y at *
        unfold maxE at r2
        refine (bytes_c (x : Int) (y : Int) (by omega) W).mono ?_
        rintro e w' ⟨rfl, hU⟩
        have hby : bytesE (x : Int) (y : Int) = (bytesA x y, 0) := by
          unfold bytesE
          rw [if_neg (by rcases (show y = 0 ∨ y = 1 by omega) with rfl | rfl <;> simp [placeB] <;> omega)]
          rfl
        refine ⟨_, _, rfl, fun _ => ?_, hU⟩
        rw [hby, ← r4, str_eta]
        exact ⟨rfl, rfl⟩
      · obtain ⟨r1, r2⟩ := readA_no he
        rw [r1, r2]
        refine (bytes_c 0 0 (by omega) W).mono ?_
        rintro e w' ⟨rfl, hU⟩
        exact ⟨_, _, rfl, fun e => absurd e he, hU⟩
    generalize str (bytesE n c).1 = A at *
    generalize (bytesE n c).2 = E1 at *
    generalize (readA b.data.toList).1 = x at *
    generalize (readA b.data.toList).2.1 = y at *
    generalize (readA b.data.toList).2.2 = E2 at *
    rcases hE1 with rfl | rfl <;> rcases hE2 with rfl | rfl | rfl
    all_goals
      go_enter Try.func3, Try.ntmps3
      go_wp2_with fail
      refine HW.out.mono ?_
      rintro e w1 ⟨rfl, hU⟩
      have H1 := Lib.hid hU
      clear hU
      go_wp2_with fail
      refine (HB.out _).mono ?_
      rintro e w2 ⟨rfl, hU⟩
      have H2 := Lib.hid (H1.out.then hU (fun _ e => e.elim))
      clear hU H1
      go_wp2_with fail
      refine (HB2.out _).mono ?_
      rintro e w3 ⟨rfl, hU⟩
      have H3 := Lib.hid (H2.out.then hU (fun _ e => e.elim))
      clear hU H2
      go_wp2_with fail
      refine (HR.out _).mono ?_
      rintro e w4 ⟨rfl, hU⟩
      have H4 := Lib.hid (H3.out.then hU (fun _ e => e.elim))
      clear hU H3
      go_wp2_with fail
      refine (HR2.out _).mono ?_
      rintro e w5 ⟨rfl, hU⟩
      have H5 := Lib.hid (H4.out.then hU (fun _ e => e.elim))
      clear hU H4
      go_wp2_with fail
      refine (hHb.out _).mono ?_
      rintro e w6 ⟨t, E, rfl, hok, hU⟩
      have H6 := Lib.hid (H5.out.then hU (fun _ e => e.elim))
      clear hU H5
      first
        | (refine And.elim ?_ (hok trivial); rintro rfl rfl)
        | (have HT := Lib.hid hok; clear hok)
      go_wp2
      all_goals
        go_ret
        exact ⟨rfl, H6.out⟩
end Go.Proofs.Ytnmbhoidnbideaa
