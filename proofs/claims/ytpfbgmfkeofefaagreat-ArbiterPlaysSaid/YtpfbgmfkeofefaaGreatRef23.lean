/-
  The document's registers' bytes (ref23): Num, Most, Bytes, Read.
-/
import Derived.Test.YtpfbgmfkeofefaaGreatRef1
namespace Go.Proofs.YtpfbgmfkeofefaaGreat
open Go Go.RowKit

/-- The document's Num. -/
def InS.num (i : InS) : Nat × InS :=
  if i.fail = 0 then ((numL i.rest).1, ⟨i.rest.drop (numL i.rest).2.1, i.read + (numL i.rest).2.1, (numL i.rest).2.2⟩) else (0, i)
theorem num_zero {s : List UInt8} (h : (numL s).2.2 ≠ 0) : (numL s).1 = 0 ∧ (numL s).2.1 = 0 := by
  rcases num_bad s with e | e | e
  · exact absurd e h
  · rw [e]; exact ⟨rfl, rfl⟩
  · rw [e]; exact ⟨rfl, rfl⟩
/-- Most out of Num. -/
theorem most_num (i : InS) (m : Nat) : i.most m = if i.num.2.fail ≠ 0 then (0, i.num.2) else if m < i.num.1 then (0, ⟨i.rest, i.read, 8⟩) else i.num := by
  unfold InS.most InS.num boundL
  by_cases h0 : i.fail = 0
  · rw [if_pos h0, if_pos h0]
    by_cases h1 : (numL i.rest).2.2 = 0
    · rw [if_pos h1]
      by_cases h2 : (numL i.rest).1 ≤ m
      · rw [if_pos h2, if_pos h1, if_neg (by simp [h1]), if_neg (by simp; omega), h1]
      · rw [if_neg h2, if_neg (by simp), if_neg (by simp [h1]), if_pos (by simp; omega)]
    · obtain ⟨e1, e2⟩ := num_zero h1
      rw [if_neg h1, if_neg h1, if_pos (by simpa using h1), e1, e2]
      rfl
  · rw [if_neg h0, if_neg h0, if_pos h0]
section
variable {w0 w : World} {x : Nat} {S : ByteArray} {i : InS}
set_option maxRecDepth 100000 in
theorem rnum_c (h : InR w0 w x S i) (hS : S.size ≤ 1000000000) :
    Calls Tryz.prog 136 #[.pointer (some ⟨x, 0, none⟩)] w fun e w' => e = .returned (.int .u64 (i.num.1 : Int)) ∧ InR w0 w' x S i.num.2 := by
  have hN := next_c h hS
  rw [next_is] at hN
  have hfit := num_fits i.rest
  have hc := h.blk.cells3
  have H := Lib.hid h
  have hro := h.room
  unfold InS.num
  clear h
  by_cases h0 : i.fail = 0
  · rw [if_pos h0]
    obtain ⟨⟨v, n, e⟩, hq⟩ : ∃ q, numL i.rest = q := ⟨_, rfl⟩
    rw [hq] at hN hfit ⊢
    simp only at hN hfit ⊢
    obtain ⟨-, hf2, hf3, -⟩ := hfit
    have hl : i.rest.length = S.size - i.read := by rw [H.out.rest]; simp
    have HN := Lib.hid hN
    clear hN hq
    go_enter Tryz.func136, Tryz.ntmps136
    go_wp2_with fail
    refine HN.out.mono ?_
    rintro en w1 ⟨rfl, hI⟩
    have hc1 := hI.blk.cells3
    have hf1 := hI.blk.frozen 1
    have hf2 := hI.blk.frozen 2
    have HI := Lib.hid hI
    clear hI hc HN
    go_wp2_with fail
    go_ret
    refine ⟨rfl, ?_, ?_, ?_, HI.out.new, (HI.out.upd.setCell (p := ⟨x, 2, none⟩) (.inr HI.out.new) _).setCell (p := ⟨x, 1, none⟩) (.inr HI.out.new) _⟩
    · have := (HI.out.blk.set_ 2 (.int .i64 e)).set_ 1 (.int .i64 ((i.read : Int) + (n : Int)))
      simpa using this
    · show i.rest.drop n = S.data.toList.drop (i.read + n)
      rw [H.out.rest, List.drop_drop]
    · show i.read + n ≤ S.size
      omega
  · rw [if_neg h0]
    go_enter Tryz.func136, Tryz.ntmps136
    go_wp2_with fail
    go_ret
    exact ⟨rfl, H.out⟩
set_option maxRecDepth 100000 in
theorem rmost_c (h : InR w0 w x S i) (hS : S.size ≤ 1000000000) (m : Nat) (hm : m ≤ 9223372036854775807) :
    Calls Tryz.prog 119 #[.pointer (some ⟨x, 0, none⟩), .int .i64 (m : Int)] w fun e w' => e = .returned (.int .i64 ((i.most m).1 : Int)) ∧ InR w0 w' x S (i.most m).2 := by
  have HN := Lib.hid (rnum_c h hS)
  have hc := h.blk.cells3
  have hfit := (num_fits i.rest).1
  have hlt : i.num.1 < 18446744073709551616 := by
    unfold InS.num
    split
    · exact hfit
    · simp
  have hrest := h.rest
  have hroom := h.room
  rw [most_num]
  obtain ⟨⟨v, j⟩, hq⟩ : ∃ q, i.num = q := ⟨_, rfl⟩
  rw [hq] at HN hlt ⊢
  simp only at HN hlt ⊢
  have HH := Lib.hid (And.intro hrest hroom)
  clear h hfit hrest hq
  by_cases h0 : j.fail = 0
  · rw [if_neg (by simp [h0])]
    by_cases hv : m < v
    · rw [if_pos hv]
      go_enter Tryz.func119, Tryz.ntmps119
      go_wp2_with fail
      refine HN.out.mono ?_
      rintro en w1 ⟨rfl, hI⟩
      have hc1 := hI.blk.cells3
      have hf1 := hI.blk.frozen 1
      have hf2 := hI.blk.frozen 2
      have HI := Lib.hid hI
      clear hI hc HN
      go_wp2_with fail
      go_ret
      refine ⟨rfl, ?_, HH.out.1, HH.out.2, HI.out.new, (HI.out.upd.setCell (p := ⟨x, 1, none⟩) (.inr HI.out.new) _).setCell (p := ⟨x, 2, none⟩) (.inr HI.out.new) _⟩
      have := (HI.out.blk.set_ 1 (.int .i64 (i.read : Int))).set_ 2 (.int .i64 8)
      simpa using this
    · rw [if_neg hv]
      go_enter Tryz.func119, Tryz.ntmps119
      go_wp2_with fail
      refine HN.out.mono ?_
      rintro en w1 ⟨rfl, hI⟩
      have hc1 := hI.blk.cells3
      have HI := Lib.hid hI
      clear hI hc HN
      go_wp2_with fail
      go_ret
      exact ⟨rfl, HI.out⟩
  · rw [if_pos h0]
    go_enter Tryz.func119, Tryz.ntmps119
    go_wp2_with fail
    refine HN.out.mono ?_
    rintro en w1 ⟨rfl, hI⟩
    have hc1 := hI.blk.cells3
    have HI := Lib.hid hI
    clear hI hc HN
    go_wp2_with fail
    go_ret
    exact ⟨rfl, HI.out⟩
end
set_option maxRecDepth 100000 in
theorem refBytes_c (n c : Int) (hn : n ≤ 9223372036854775807) (w : World) :
    Calls Tryz.prog 97 #[.int .i64 n, .int .i64 c] w fun e w' => e = .returned (.tuple #[.string (str (bytesE n c).1), .int .i64 (bytesE n c).2]) ∧ Upd (fun _ => False) w w' := by
  unfold bytesE placeB
  by_cases h1 : n < 1
  · rw [if_pos (.inl h1)]
    go_enter Tryz.func97, Tryz.ntmps97
    go_wp2_with fail
    go_ret2
    exact ⟨rfl, Upd.refl _ _⟩
  · by_cases hp : c = 0 ∨ c = 1
    · have hp' : (c == 0 || c == 1) = true := by rcases hp with rfl | rfl <;> rfl
      rw [if_neg (by rw [hp']; simp; omega)]
      obtain ⟨m, rfl⟩ : ∃ m : Nat, n = m := ⟨n.toNat, by omega⟩
      obtain ⟨k, rfl⟩ : ∃ k : Nat, c = k := ⟨c.toNat, by omega⟩
      have hk : k ≤ 1 := by omega
      clear hp hp'
      simp only [Int.toNat_natCast]
      have HA := Lib.hid (fun W => refNum_c m W (by omega))
      have HB := Lib.hid (fun W => refNum_c k W (by omega))
      have hadd : (9223372036854775807 < (str (putN m)).size + (str (putN k)).size) = False := by
        have h1 := size_u64 (n := m) (by omega)
        have h2 := size_u64 (n := k) (by omega)
        rw [str_size, str_size, putN_len, putN_len]
        simp; omega
      have hcat := str_add (putN m) (putN k)
      show Calls _ _ _ _ fun e w' => e = .returned (.tuple #[.string (str (putN m ++ putN k)), .int .i64 0]) ∧ _
      rw [← hcat]
      clear hcat
      generalize str (putN m) = A at *
      generalize str (putN k) = B at *
      rcases (show k = 0 ∨ k = 1 by omega) with rfl | rfl
      all_goals
        go_enter Tryz.func97, Tryz.ntmps97
        go_wp2_with fail
        refine (HA.out _).mono ?_
        rintro e w1 ⟨rfl, hU1⟩
        have H1 := Lib.hid hU1
        clear hU1
        go_wp2_with fail
        refine (HB.out _).mono ?_
        rintro e w2 ⟨rfl, hU2⟩
        have H2 := Lib.hid (H1.out.then hU2 (fun _ e => e.elim))
        clear hU2
        go_wp2_with fail
        go_ret2
        exact ⟨rfl, H2.out⟩
    · have hp' : (c == 0 || c == 1) = false := by
        rw [Bool.or_eq_false_iff, beq_eq_false_iff_ne, beq_eq_false_iff_ne]
        exact ⟨fun e => hp (.inl e), fun e => hp (.inr e)⟩
      rw [if_pos (.inr hp')]
      have h0 : (c != 0) = true := bne_iff_ne.2 fun e => hp (.inl e)
      have h2 : (c != 1) = true := bne_iff_ne.2 fun e => hp (.inr e)
      clear hp hp'
      go_enter Tryz.func97, Tryz.ntmps97
      go_wp2_with fail
      go_ret2
      exact ⟨rfl, Upd.refl _ _⟩
set_option maxRecDepth 100000 in
set_option maxHeartbeats 400000 in
theorem refRead_c (s : ByteArray) (hS : s.size ≤ 1000000) (w : World) :
    Calls Tryz.prog 96 #[.string s] w fun e w' => e = .returned (.tuple #[.int .i64 ((readA s.data.toList).1 : Int), .int .i64 ((readA s.data.toList).2.1 : Int), .int .i64 (readA s.data.toList).2.2]) ∧ Upd (fun _ => False) w w' := by
  have hX0 : InR w (w.alloc (.cells #[.string s, .int .i64 0, .int .i64 0] 202)) w.heap.size s ⟨s.data.toList, 0, 0⟩ :=
    ⟨Blk.new w _ _, by simp, by simp, Nat.le_refl _, (Upd.refl _ w).alloc _⟩
  unfold readA errA
  obtain ⟨A, hA⟩ : ∃ A, (⟨s.data.toList, 0, 0⟩ : InS).most maxE = A := ⟨_, rfl⟩
  simp only [hA]
  obtain ⟨n, x1⟩ := A
  simp only
  obtain ⟨B, hB⟩ : ∃ B, x1.most 1 = B := ⟨_, rfl⟩
  simp only [hB]
  obtain ⟨k, x2⟩ := B
  simp only
  have HM1 : Hid (∀ {W W' : World} {x : Nat}, InR W W' x s ⟨s.data.toList, 0, 0⟩ → Calls Tryz.prog 119 #[.pointer (some ⟨x, 0, none⟩), .int .i64 9223372036854775807] W' fun en w' => en = .returned (.int .i64 (n : Int)) ∧ InR W w' x s x1) := by
    apply Lib.hid
    intro W W' x h
    have := rmost_c h (by omega) maxE (by unfold maxE; omega)
    rw [hA] at this
    exact this
  have HM2 : Hid (∀ {W W' : World} {x : Nat}, InR W W' x s x1 → Calls Tryz.prog 119 #[.pointer (some ⟨x, 0, none⟩), .int .i64 1] W' fun en w' => en = .returned (.int .i64 (k : Int)) ∧ InR W w' x s x2) := by
    apply Lib.hid
    intro W W' x h
    have := rmost_c h (by omega) 1 (by omega)
    rw [hB] at this
    exact this
  have H0 := Lib.hid hX0
  clear hA hB hX0
  by_cases c1 : x2.fail = 0
  · by_cases c2 : x2.rest = []
    · by_cases c3 : n = 0
      · have e : (if x2.fail ≠ 0 then x2.fail else if x2.rest ≠ [] then 8 else if n = 0 then 8 else 0) = 8 := by simp [c1, c2, c3]
        rw [e, if_neg (by omega)]
        clear e
        go_enter Tryz.func96, Tryz.ntmps96
        go_wp2_with fail
        refine (HM1.out H0.out).mono ?_
        rintro e w1 ⟨rfl, h1⟩
        have H1 := Lib.hid h1
        clear h1 H0
        go_wp2_with fail
        refine (HM2.out H1.out).mono ?_
        rintro e w2 ⟨rfl, h2⟩
        have hc := h2.blk.cells3
        have hdrop : ¬ (x2.read : Int) < (s.size : Int) := by
          have h3 := h2.rest
          have h4 := congrArg List.length h3
          rw [c2] at h4
          simp at h4
          omega
        have hn : (n : Int) = 0 := by omega
        have H2 := Lib.hid h2
        clear h2 H1
        rw [c1] at hc
        subst c3
        go_wp2_with fail
        go_ret3
        exact ⟨rfl, H2.out.upd⟩
      · have e : (if x2.fail ≠ 0 then x2.fail else if x2.rest ≠ [] then 8 else if n = 0 then 8 else 0) = 0 := by simp [c1, c2, c3]
        rw [e, if_pos rfl]
        clear e
        go_enter Tryz.func96, Tryz.ntmps96
        go_wp2_with fail
        refine (HM1.out H0.out).mono ?_
        rintro e w1 ⟨rfl, h1⟩
        have H1 := Lib.hid h1
        clear h1 H0
        go_wp2_with fail
        refine (HM2.out H1.out).mono ?_
        rintro e w2 ⟨rfl, h2⟩
        have hc := h2.blk.cells3
        have hdrop : ¬ (x2.read : Int) < (s.size : Int) := by
          have h3 := h2.rest
          have h4 := congrArg List.length h3
          rw [c2] at h4
          simp at h4
          omega
        have hn : ((n : Int) == 0) = false := by rw [beq_eq_false_iff_ne]; omega
        have H2 := Lib.hid h2
        clear h2 H1
        rw [c1] at hc
        go_wp2_with fail
        go_ret3
        exact ⟨rfl, H2.out.upd⟩
    · have e : (if x2.fail ≠ 0 then x2.fail else if x2.rest ≠ [] then 8 else if n = 0 then 8 else 0) = 8 := by simp [c1, c2]
      rw [e, if_neg (by omega)]
      clear e
      go_enter Tryz.func96, Tryz.ntmps96
      go_wp2_with fail
      refine (HM1.out H0.out).mono ?_
      rintro e w1 ⟨rfl, h1⟩
      have H1 := Lib.hid h1
      clear h1 H0
      go_wp2_with fail
      refine (HM2.out H1.out).mono ?_
      rintro e w2 ⟨rfl, h2⟩
      have hc := h2.blk.cells3
      have hdrop : (x2.read : Int) < (s.size : Int) := by
        have h3 := h2.rest
        apply Classical.byContradiction
        intro hcon
        rw [List.drop_of_length_le (by simp; omega)] at h3
        exact c2 h3
      have H2 := Lib.hid h2
      clear h2 H1
      rw [c1] at hc
      go_wp2_with fail
      go_ret3
      exact ⟨rfl, H2.out.upd⟩
  · have e : (if x2.fail ≠ 0 then x2.fail else if x2.rest ≠ [] then 8 else if n = 0 then 8 else 0) = x2.fail := by simp [c1]
    rw [e, if_neg c1]
    clear e
    go_enter Tryz.func96, Tryz.ntmps96
    go_wp2_with fail
    refine (HM1.out H0.out).mono ?_
    rintro e w1 ⟨rfl, h1⟩
    have H1 := Lib.hid h1
    clear h1 H0
    go_wp2_with fail
    refine (HM2.out H1.out).mono ?_
    rintro e w2 ⟨rfl, h2⟩
    have hc := h2.blk.cells3
    have H2 := Lib.hid h2
    clear h2 H1
    go_wp2_with fail
    go_quiet (fail)
    go_wp2_with fail
    go_ret3
    exact ⟨rfl, H2.out.upd.drewN _⟩
end Go.Proofs.YtpfbgmfkeofefaaGreat
