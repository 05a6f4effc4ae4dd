/-
  Package arbiter: a register's bytes, written and read.
-/
import Derived.Test.YtpfbgmfkeofefaaGreatPackC
namespace Go.Proofs.YtpfbgmfkeofefaaGreat
open Go Go.RowKit

def placeB (c : Int) : Bool := c == 0 || c == 1
theorem place_nat {c : Int} (h : placeB c = true) : ∃ n : Nat, c = n ∧ n ≤ 1 := by
  unfold placeB at h
  simp at h
  rcases h with h | h
  · exact ⟨0, h, by omega⟩
  · exact ⟨1, h, by omega⟩
set_option maxRecDepth 100000 in
theorem place_c (c : Int) (w : World) : Calls Tryz.prog 67 #[.int .i64 c] w fun e w' => e = .returned (.bool (placeB c)) ∧ w = w' := by
  by_cases h0 : c = 0
  · subst h0
    go_enter Tryz.func67, Tryz.ntmps67
    go_wp2_with fail
    go_ret
    exact ⟨rfl, rfl⟩
  · go_enter Tryz.func67, Tryz.ntmps67
    go_wp2_with fail
    go_ret
    exact ⟨rfl, rfl⟩
/-- A register's bytes, and what bars them. -/
def bytesE (n c : Int) : List UInt8 × Int := if n < 1 ∨ placeB c = false then ([], 1) else (bytesA n.toNat c.toNat, 0)
set_option maxRecDepth 100000 in
theorem bytes_c (n c : Int) (hn : n ≤ 9223372036854775807) (w : World) :
    Calls Tryz.prog 28 #[.int .i64 n, .int .i64 c] w fun e w' => e = .returned (.tuple #[.string (str (bytesE n c).1), .int .i64 (bytesE n c).2]) ∧ Upd (fun _ => False) w w' := by
  have HP := Lib.hid (place_c c)
  unfold bytesE
  by_cases h1 : n < 1
  · rw [if_pos (.inl h1)]
    go_enter Tryz.func28, Tryz.ntmps28
    go_wp2_with fail
    go_ret2
    exact ⟨rfl, Upd.refl _ _⟩
  · cases hp : placeB c
    · rw [hp] at HP
      rw [if_pos (.inr rfl)]
      go_enter Tryz.func28, Tryz.ntmps28
      go_wp2_with fail
      refine (HP.out _).mono ?_
      rintro e w' ⟨rfl, rfl⟩
      go_wp2_with fail
      go_ret2
      exact ⟨rfl, Upd.refl _ _⟩
    · rw [hp] at HP
      rw [if_neg (by simp; omega)]
      obtain ⟨m, rfl⟩ : ∃ m : Nat, n = m := ⟨n.toNat, by omega⟩
      obtain ⟨k, rfl, hk⟩ := place_nat hp
      clear hp
      simp only [Int.toNat_natCast]
      have hm1 := sizeN_pos m
      have hm2 := size_u64 (n := m) (by omega)
      have hl := putN_len m
      have HO := Lib.hid (OutS.start w)
      go_enter Tryz.func28, Tryz.ntmps28
      go_wp2_with fail
      refine (HP.out _).mono ?_
      rintro e w' ⟨rfl, rfl⟩
      go_wp2_with fail
      refine (onum_c HO.out m (by omega) (by simp)).mono ?_
      rintro e w1 ⟨rfl, hO1⟩
      have HO1 := Lib.hid hO1
      clear hO1 HO
      go_wp2_with fail
      refine (onum_c HO1.out k (by omega) (by simp; omega)).mono ?_
      rintro e w2 ⟨rfl, hO2⟩
      have HO2 := Lib.hid hO2
      clear hO2 HO1
      go_wp2_with fail
      refine (ostring_c HO2.out).mono ?_
      rintro e w3 ⟨rfl, rfl⟩
      go_wp2_with fail
      go_ret2
      exact ⟨rfl, HO2.out.upd⟩
theorem most_read (x : InS) (m : Nat) : (x.most m).2.read ≤ x.read + 10 := by
  unfold InS.most
  split
  · split
    · rename_i h
      show x.read + _ ≤ _
      have hb : boundL x.rest m = numL x.rest := by
        unfold boundL at h ⊢
        split
        · rename_i h1
          rw [if_pos h1] at h
          split
          · rfl
          · rename_i h2
            rw [if_neg h2] at h
            simp at h
        · rename_i h1
          rw [if_neg h1] at h
          exact absurd h h1
      rw [hb]
      have := (num_fits x.rest).2.1
      omega
    · show x.read ≤ _
      omega
  · show x.read ≤ _
    omega
set_option maxRecDepth 100000 in
theorem readA_c (s : ByteArray) (w : World) :
    Calls Tryz.prog 71 #[.string s] w fun e w' => e = .returned (.tuple #[.int .i64 ((readA s.data.toList).1 : Int), .int .i64 ((readA s.data.toList).2.1 : Int), .int .i64 (readA s.data.toList).2.2]) ∧ Upd (fun _ => False) w w' := by
  have HOf : Hid (Calls Tryz.prog 100 #[.string s] w fun e w' => ∃ x, e = .returned (.pointer (some ⟨x, 0, none⟩)) ∧ InX w w' x ⟨s.data.toList, 0, 0⟩) := by
    apply Lib.hid
    have hX := Lib.hid (InX.start w s)
    go_enter Tryz.func100, Tryz.ntmps100
    go_wp2_with fail
    go_ret
    exact ⟨_, rfl, hX.out⟩
  have hr1 := most_read ⟨s.data.toList, 0, 0⟩ maxE
  simp only at hr1
  unfold readA errA
  obtain ⟨A, hA⟩ : ∃ A, (⟨s.data.toList, 0, 0⟩ : InS).most maxE = A := ⟨_, rfl⟩
  rw [hA] at hr1
  simp only [hA]
  obtain ⟨n, x1⟩ := A
  simp only at hr1 ⊢
  obtain ⟨B, hB⟩ : ∃ B, x1.most 1 = B := ⟨_, rfl⟩
  simp only [hB]
  obtain ⟨k, x2⟩ := B
  simp only
  have HM1 : Hid (∀ {W W' : World} {x : Nat}, InX W W' x ⟨s.data.toList, 0, 0⟩ → Calls Tryz.prog 101 #[.pointer (some ⟨x, 0, none⟩), .int .i64 9223372036854775807] W' fun en w' => en = .returned (.int .i64 (n : Int)) ∧ InX W w' x x1) := by
    apply Lib.hid
    intro W W' x h
    have := most_c h maxE (by unfold maxE; omega) (by simp)
    rw [hA] at this
    exact this
  have HM2 : Hid (∀ {W W' : World} {x : Nat}, InX W W' x x1 → Calls Tryz.prog 101 #[.pointer (some ⟨x, 0, none⟩), .int .i64 1] W' fun en w' => en = .returned (.int .i64 (k : Int)) ∧ InX W w' x x2) := by
    apply Lib.hid
    intro W W' x h
    have := most_c h 1 (by omega) (by omega)
    rw [hB] at this
    exact this
  clear hA hB hr1
  obtain ⟨E, hE⟩ : ∃ E : Int, (if x2.fail ≠ 0 then x2.fail else if x2.rest ≠ [] then 8 else 0) = E := ⟨_, rfl⟩
  have hEE : (if x2.fail ≠ 0 then x2.fail else if x2.rest ≠ [] then 8 else if n = 0 then 8 else 0) = if E = 0 then (if n = 0 then 8 else 0) else E := by
    rw [← hE]
    by_cases c1 : x2.fail = 0
    · by_cases c2 : x2.rest = []
      · simp [c1, c2]
      · simp [c1, c2]
    · simp [c1]
  rw [hEE]
  have HE := Lib.hid hE
  clear hE hEE
  have main : ∀ (a b : Nat) (c : Int), (if (if E = 0 then (if n = 0 then 8 else 0) else E) = 0 then (n, k, (0 : Int)) else (0, 0, if E = 0 then (if n = 0 then 8 else 0) else E)) = (a, b, c) → Calls Tryz.prog 71 #[.string s] w fun e w' => e = .returned (.tuple #[.int .i64 (a : Int), .int .i64 (b : Int), .int .i64 c]) ∧ Upd (fun _ => False) w w' := by
    intro a b c habc
    by_cases hE0 : E = 0
    · by_cases hn0 : n = 0
      · rw [if_pos hE0, if_pos hn0] at habc
        simp at habc
        obtain ⟨rfl, rfl, rfl⟩ := habc
        subst hn0
        rw [hE0] at HE
        go_enter Tryz.func71, Tryz.ntmps71
        go_wp2_with fail
        refine HOf.out.mono ?_
        rintro e w1 ⟨x, rfl, h1⟩
        have H1 := Lib.hid h1
        clear h1
        go_wp2_with fail
        refine (HM1.out H1.out).mono ?_
        rintro e w2 ⟨rfl, h2⟩
        have H2 := Lib.hid h2
        clear h2 H1
        go_wp2_with fail
        refine (HM2.out H2.out).mono ?_
        rintro e w3 ⟨rfl, h3⟩
        have H3 := Lib.hid h3
        clear h3 H2
        go_wp2_with fail
        have hend := end_c H3.out
        rw [HE.out] at hend
        refine hend.mono ?_
        rintro e w4 ⟨rfl, hU⟩
        have H4 := Lib.hid (H3.out.upd.then hU (fun _ e => e.elim))
        clear hU hend H3
        go_wp2_with fail
        go_ret3
        exact ⟨rfl, H4.out⟩
      · rw [if_pos hE0, if_neg hn0] at habc
        simp at habc
        obtain ⟨rfl, rfl, rfl⟩ := habc
        rw [hE0] at HE
        go_enter Tryz.func71, Tryz.ntmps71
        go_wp2_with fail
        refine HOf.out.mono ?_
        rintro e w1 ⟨x, rfl, h1⟩
        have H1 := Lib.hid h1
        clear h1
        go_wp2_with fail
        refine (HM1.out H1.out).mono ?_
        rintro e w2 ⟨rfl, h2⟩
        have H2 := Lib.hid h2
        clear h2 H1
        go_wp2_with fail
        refine (HM2.out H2.out).mono ?_
        rintro e w3 ⟨rfl, h3⟩
        have H3 := Lib.hid h3
        clear h3 H2
        go_wp2_with fail
        have hend := end_c H3.out
        rw [HE.out] at hend
        refine hend.mono ?_
        rintro e w4 ⟨rfl, hU⟩
        have H4 := Lib.hid (H3.out.upd.then hU (fun _ e => e.elim))
        clear hU hend H3
        go_wp2_with fail
        go_ret3
        exact ⟨rfl, H4.out⟩
    · rw [if_neg hE0, if_neg hE0] at habc
      simp at habc
      obtain ⟨rfl, rfl, rfl⟩ := habc
      go_enter Tryz.func71, Tryz.ntmps71
      go_wp2_with fail
      refine HOf.out.mono ?_
      rintro e w1 ⟨x, rfl, h1⟩
      have H1 := Lib.hid h1
      clear h1
      go_wp2_with fail
      refine (HM1.out H1.out).mono ?_
      rintro e w2 ⟨rfl, h2⟩
      have H2 := Lib.hid h2
      clear h2 H1
      go_wp2_with fail
      refine (HM2.out H2.out).mono ?_
      rintro e w3 ⟨rfl, h3⟩
      have H3 := Lib.hid h3
      clear h3 H2
      go_wp2_with fail
      have hend := end_c H3.out
      rw [HE.out] at hend
      refine hend.mono ?_
      rintro e w4 ⟨rfl, hU⟩
      have H4 := Lib.hid (H3.out.upd.then hU (fun _ e => e.elim))
      clear hU hend H3
      go_wp2_with fail
      go_ret3
      exact ⟨rfl, H4.out⟩
  exact main _ _ _ rfl
end Go.Proofs.YtpfbgmfkeofefaaGreat
