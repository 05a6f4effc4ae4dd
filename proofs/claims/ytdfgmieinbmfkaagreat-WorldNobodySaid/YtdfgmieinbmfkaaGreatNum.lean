/-
  A number's bytes, seven bits a byte, the lowest ones first, and how a number is read off a text: plain, no program in sight.
-/
import Derived.Lib.BitFns
import Derived.Lib.ItoaNum
namespace Go.Proofs.YtdfgmieinbmfkaaGreat
open Go

/-- how many bytes a number has. -/
def sizeN (n : Nat) : Nat := if n < 128 then 1 else 1 + sizeN (n / 128)
/-- these bytes. -/
def putN (n : Nat) : List UInt8 := if n < 128 then [UInt8.ofNat n] else UInt8.ofNat (n % 128 + 128) :: putN (n / 128)
/-- the number that bytes make, whatever their highest bits are. -/
def valN : List UInt8 → Nat
  | [] => 0
  | b :: l => b.toNat % 128 + 128 * valN l

theorem sizeN_lt {n : Nat} (h : n < 128) : sizeN n = 1 := by rw [sizeN, if_pos h]
theorem sizeN_ge {n : Nat} (h : 128 ≤ n) : sizeN n = 1 + sizeN (n / 128) := by rw [sizeN, if_neg (by omega)]
theorem putN_lt {n : Nat} (h : n < 128) : putN n = [UInt8.ofNat n] := by rw [putN, if_pos h]
theorem putN_ge {n : Nat} (h : 128 ≤ n) : putN n = UInt8.ofNat (n % 128 + 128) :: putN (n / 128) := by rw [putN, if_neg (by omega)]
theorem sizeN_pos (n : Nat) : 1 ≤ sizeN n := by
  rw [sizeN]
  split <;> omega
theorem putN_len (n : Nat) : (putN n).length = sizeN n := by
  induction n using Nat.strongRecOn with
  | ind n ih =>
    by_cases h : n < 128
    · rw [putN_lt h, sizeN_lt h]; rfl
    · rw [putN_ge (by omega), sizeN_ge (by omega), List.length_cons, ih (n / 128) (by omega)]; omega
theorem byte_low {x : Nat} (h : x < 256) : (UInt8.ofNat x).toNat = x := by simp; omega
theorem valN_putN (n : Nat) : valN (putN n) = n := by
  induction n using Nat.strongRecOn with
  | ind n ih =>
    by_cases h : n < 128
    · rw [putN_lt h]
      show (UInt8.ofNat n).toNat % 128 + 128 * 0 = n
      rw [byte_low (by omega)]; omega
    · rw [putN_ge (by omega)]
      show (UInt8.ofNat (n % 128 + 128)).toNat % 128 + 128 * valN (putN (n / 128)) = n
      rw [byte_low (by omega), ih (n / 128) (by omega)]; omega
theorem sizeN_le (k : Nat) : ∀ n, sizeN n ≤ k + 1 ↔ n < 128 ^ (k + 1) := by
  induction k with
  | zero =>
    intro n
    by_cases h : n < 128
    · rw [sizeN_lt h]; simp; omega
    · rw [sizeN_ge (by omega)]
      have := sizeN_pos (n / 128)
      simp; omega
  | succ k ih =>
    intro n
    by_cases h : n < 128
    · rw [sizeN_lt h]
      have : 128 ≤ 128 ^ (k + 1 + 1) := by
        have : 128 ^ 1 ≤ 128 ^ (k + 1 + 1) := Nat.pow_le_pow_right (by omega) (by omega)
        omega
      omega
    · rw [sizeN_ge (by omega), Nat.pow_succ]
      have h1 := ih (n / 128)
      rw [Nat.div_lt_iff_lt_mul (by omega)] at h1
      omega
theorem size_u64 {n : Nat} (h : n < 18446744073709551616) : sizeN n ≤ 10 := (sizeN_le 9 n).2 (by
  have : (128 : Nat) ^ (9 + 1) = 1180591620717411303424 := by decide
  omega)
theorem sizeN_bitLen (n : Nat) (h : n < 18446744073709551616) : sizeN n = max 1 ((Lib.bitLen n + 6) / 7) := by
  induction n using Nat.strongRecOn with
  | ind n ih =>
    by_cases h1 : n < 128
    · rw [sizeN_lt h1]
      by_cases h0 : n = 0
      · subst h0; decide
      · have := Lib.bitLenAux_bounds 64 n (by omega) h0
        have h7 : Lib.bitLen n ≤ 7 := by
          apply Classical.byContradiction
          intro hc
          have h2 : 2 ^ 7 ≤ 2 ^ (Lib.bitLen n - 1) := Nat.pow_le_pow_right (by omega) (by omega)
          have h3 : 2 ^ (Lib.bitLen n - 1) ≤ n := this.2.1
          omega
        omega
    · rw [sizeN_ge (by omega), ih (n / 128) (by omega) (by omega), Lib.bitLen_shift 7 n (by omega) h]
      have e : n / 2 ^ 7 = n / 128 := rfl
      rw [e]
      have hp : 1 ≤ Lib.bitLen (n / 128) := (Lib.bitLenAux_bounds 64 (n / 128) (by omega) (by omega)).1
      omega

/-! ### reading -/
/-- how many bytes with which a text begins go on, at most k. -/
def leadN : List UInt8 → Nat → Nat
  | b :: l, k + 1 => if 128 ≤ b.toNat then 1 + leadN l k else 0
  | _, _ => 0
theorem leadN_le (l : List UInt8) (k : Nat) : leadN l k ≤ k ∧ leadN l k ≤ l.length := by
  induction l generalizing k with
  | nil => cases k <;> simp [leadN]
  | cons b l ih =>
    cases k with
    | zero => simp [leadN]
    | succ k =>
      have := ih k
      unfold leadN
      split <;> simp <;> omega
theorem leadN_goes (l : List UInt8) (k i : Nat) (h : i < leadN l k) : 128 ≤ (l.getD i 0).toNat := by
  induction l generalizing k i with
  | nil => cases k <;> simp [leadN] at h
  | cons b l ih =>
    cases k with
    | zero => simp [leadN] at h
    | succ k =>
      unfold leadN at h
      split at h
      · rename_i hb
        cases i with
        | zero => simpa using hb
        | succ i => simpa using ih k i (by omega)
      · omega
theorem leadN_ends (l : List UInt8) (k : Nat) (h : leadN l k < k) (h2 : leadN l k < l.length) : (l.getD (leadN l k) 0).toNat < 128 := by
  induction l generalizing k with
  | nil => simp at h2
  | cons b l ih =>
    cases k with
    | zero => omega
    | succ k =>
      by_cases hb : 128 ≤ b.toNat
      · have e : leadN (b :: l) (k + 1) = 1 + leadN l k := by show (if 128 ≤ b.toNat then _ else _) = _; rw [if_pos hb]
        rw [e] at h h2 ⊢
        have := ih k (by omega) (by simp at h2; omega)
        rw [Nat.add_comm]
        simpa using this
      · have e : leadN (b :: l) (k + 1) = 0 := by show (if 128 ≤ b.toNat then _ else _) = _; rw [if_neg hb]
        rw [e]
        simp; omega
/-- the number of goes-on bytes is told by them. -/
theorem leadN_is (l : List UInt8) (k c : Nat) (hk : c ≤ k) (hl : c ≤ l.length) (hg : ∀ i, i < c → 128 ≤ (l.getD i 0).toNat) (he : c = k ∨ c = l.length ∨ (l.getD c 0).toNat < 128) : leadN l k = c := by
  have h1 := leadN_le l k
  rcases Nat.lt_trichotomy (leadN l k) c with h | h | h
  · have := leadN_ends l k (by omega) (by omega)
    have := hg _ h
    omega
  · exact h
  · have := leadN_goes l k c h
    omega

/-- the number with which a text begins, how many bytes it has, and what bars it. -/
def numL (s : List UInt8) : Nat × Nat × Int :=
  if leadN s 10 = 10 then (0, 0, 8) else if leadN s 10 = s.length then (0, 0, 7) else if leadN s 10 = 9 ∧ 1 < (s.getD 9 0).toNat then (0, 0, 8) else
  if sizeN (valN (s.take (leadN s 10 + 1))) = leadN s 10 + 1 then (valN (s.take (leadN s 10 + 1)), leadN s 10 + 1, 0) else (0, 0, 8)
/-- the same as the document has it. -/
def nextL (s : List UInt8) : Nat × Nat × Int :=
  if leadN s 10 = 10 then (0, 0, 8) else if leadN s 10 = s.length then (0, 0, 7) else
  if putN (valN (s.take (leadN s 10 + 1)) % 18446744073709551616) = s.take (leadN s 10 + 1) then (valN (s.take (leadN s 10 + 1)) % 18446744073709551616, leadN s 10 + 1, 0) else (0, 0, 8)

theorem valN_app (a b : List UInt8) : valN (a ++ b) = valN a + 128 ^ a.length * valN b := by
  induction a with
  | nil => simp [valN]
  | cons x a ih =>
    simp only [List.cons_append, valN, ih, List.length_cons]
    rw [Nat.pow_succ, Nat.mul_add, Nat.mul_comm (128 ^ a.length) 128, Nat.mul_assoc]
    omega
theorem valN_lt (l : List UInt8) : valN l < 128 ^ l.length := by
  induction l with
  | nil => simp [valN]
  | cons x l ih =>
    simp only [valN, List.length_cons]
    rw [Nat.pow_succ]
    omega
theorem valN_drop (l : List UInt8) (i : Nat) : valN (l.drop i) ≤ valN l := by
  induction l generalizing i with
  | nil => simp
  | cons x l ih =>
    cases i with
    | zero => simp
    | succ i =>
      have := ih i
      simp only [List.drop_succ_cons, valN]
      omega
/-- bytes that go on but for the last one are a number's just if they are as many as it has. -/
theorem putN_val (s : List UInt8) (hs : s ≠ []) (hg : ∀ i, i + 1 < s.length → 128 ≤ (s.getD i 0).toNat) (he : (s.getD (s.length - 1) 0).toNat < 128) : putN (valN s) = s ↔ sizeN (valN s) = s.length := by
  constructor
  · intro h
    rw [← putN_len, h]
  · induction s with
    | nil => exact absurd rfl hs
    | cons b l ih =>
      intro hz
      have hb := b.toNat_lt
      cases l with
      | nil =>
        have he' : b.toNat < 128 := by simpa using he
        have : valN [b] = b.toNat := by simp only [valN]; omega
        rw [this, putN_lt he']
        simp
      | cons c l =>
        have hb1 := hg 0 (by simp)
        simp only [List.getD_cons_zero] at hb1
        have hge : 128 ≤ valN (b :: c :: l) := by
          apply Classical.byContradiction
          intro hc
          rw [sizeN_lt (by omega)] at hz
          simp at hz
        have hd : valN (b :: c :: l) / 128 = valN (c :: l) := by
          show (b.toNat % 128 + 128 * valN (c :: l)) / 128 = _
          omega
        have hm : valN (b :: c :: l) % 128 = b.toNat % 128 := by
          show (b.toNat % 128 + 128 * valN (c :: l)) % 128 = _
          omega
        rw [sizeN_ge hge, hd, List.length_cons] at hz
        rw [putN_ge hge, hd, hm, ih (by simp) (fun i hi => by
          have := hg (i + 1) (by simp at hi ⊢; omega)
          simpa using this) (by simpa using he) (by omega)]
        congr 1
        have e : b.toNat % 128 + 128 = b.toNat := by omega
        rw [e]
        simp
/-- all bytes of a number but the last one go on. -/
theorem putN_goes (n i : Nat) (h : i + 1 < sizeN n) : 128 ≤ ((putN n).getD i 0).toNat := by
  induction n using Nat.strongRecOn generalizing i with
  | ind n ih =>
    by_cases h1 : n < 128
    · rw [sizeN_lt h1] at h; omega
    · rw [sizeN_ge (by omega)] at h
      rw [putN_ge (by omega)]
      cases i with
      | zero =>
        rw [List.getD_cons_zero, byte_low (by omega)]
        omega
      | succ i => simpa using ih (n / 128) (by omega) i (by omega)
theorem putN_ends (n : Nat) : ((putN n).getD (sizeN n - 1) 0).toNat < 128 := by
  induction n using Nat.strongRecOn with
  | ind n ih =>
    by_cases h1 : n < 128
    · rw [sizeN_lt h1, putN_lt h1]
      show (UInt8.ofNat n).toNat < 128
      rw [byte_low (by omega)]
      exact h1
    · have hp := sizeN_pos (n / 128)
      rw [sizeN_ge (by omega), putN_ge (by omega)]
      have e : 1 + sizeN (n / 128) - 1 = (sizeN (n / 128) - 1) + 1 := by omega
      rw [e, List.getD_cons_succ]
      exact ih (n / 128) (by omega)
theorem getD_take_ (l : List UInt8) (n i : Nat) (h : i < n) : (l.take n).getD i 0 = l.getD i 0 := by
  rw [List.getD_eq_getElem?_getD, List.getD_eq_getElem?_getD, List.getElem?_take, if_pos h]
theorem pow_128_9 : (128 : Nat) ^ 9 = 9223372036854775808 := by decide
/-- what stands ahead of the test for ten bytes. -/
theorem take_facts {s : List UInt8} (h1 : leadN s 10 ≠ 10) (h2 : leadN s 10 ≠ s.length) :
    (s.take (leadN s 10 + 1)).length = leadN s 10 + 1 ∧ (∀ i, i + 1 < (s.take (leadN s 10 + 1)).length → 128 ≤ ((s.take (leadN s 10 + 1)).getD i 0).toNat) ∧ ((s.take (leadN s 10 + 1)).getD ((s.take (leadN s 10 + 1)).length - 1) 0).toNat < 128 := by
  have hle := leadN_le s 10
  have hl : (s.take (leadN s 10 + 1)).length = leadN s 10 + 1 := by rw [List.length_take]; omega
  refine ⟨hl, fun i hi => ?_, ?_⟩
  · rw [hl] at hi
    rw [getD_take_ _ _ _ (by omega)]
    exact leadN_goes s 10 i (by omega)
  · rw [hl, Nat.add_sub_cancel, getD_take_ _ _ _ (by omega)]
    exact leadN_ends s 10 (by omega) (by omega)
theorem val_ten {s : List UInt8} (h1 : leadN s 10 ≠ 10) (h2 : leadN s 10 ≠ s.length) : valN (s.take (leadN s 10 + 1)) < 18446744073709551616 ↔ ¬ (leadN s 10 = 9 ∧ 1 < (s.getD 9 0).toNat) := by
  obtain ⟨hl, hg, he⟩ := take_facts h1 h2
  have hle := leadN_le s 10
  by_cases h9 : leadN s 10 = 9
  · have e : s.take (leadN s 10 + 1) = s.take 9 ++ [s.getD 9 0] := by
      rw [h9, List.take_succ_eq_append_getElem (by omega), List.getD_eq_getElem?_getD, List.getElem?_eq_getElem (by omega)]
      rfl
    have h128 : (s.getD 9 0).toNat < 128 := by
      have := leadN_ends s 10 (by omega) (by omega)
      rw [h9] at this
      exact this
    have hlt := valN_lt (s.take 9)
    have hl9 : (s.take 9).length = 9 := by rw [List.length_take]; omega
    rw [e, valN_app, hl9, pow_128_9]
    rw [hl9, pow_128_9] at hlt
    have ev : valN [s.getD 9 0] = (s.getD 9 0).toNat := by simp only [valN]; omega
    rw [ev]
    constructor
    · rintro h ⟨-, hc⟩
      omega
    · intro h
      have : (s.getD 9 0).toNat ≤ 1 := by
        apply Classical.byContradiction
        intro hc
        exact h ⟨h9, by omega⟩
      omega
  · have hlt := valN_lt (s.take (leadN s 10 + 1))
    rw [hl] at hlt
    have hp : 128 ^ (leadN s 10 + 1) ≤ 128 ^ 9 := Nat.pow_le_pow_right (by omega) (by omega)
    rw [pow_128_9] at hp
    constructor
    · rintro - ⟨hc, -⟩
      exact h9 hc
    · intro _
      omega
theorem next_is (s : List UInt8) : nextL s = numL s := by
  unfold nextL numL
  by_cases h1 : leadN s 10 = 10
  · rw [if_pos h1, if_pos h1]
  rw [if_neg h1, if_neg h1]
  by_cases h2 : leadN s 10 = s.length
  · rw [if_pos h2, if_pos h2]
  rw [if_neg h2, if_neg h2]
  obtain ⟨hl, hg, he⟩ := take_facts h1 h2
  have hv := val_ten h1 h2
  generalize s.take (leadN s 10 + 1) = t at *
  have hp := putN_val t (fun e => by rw [e] at hl; simp at hl) hg he
  by_cases h3 : leadN s 10 = 9 ∧ 1 < (s.getD 9 0).toNat
  · rw [if_pos h3, if_neg]
    intro hc
    have := congrArg valN hc
    rw [valN_putN] at this
    exact hv.1 (by omega) h3
  · rw [if_neg h3]
    have hlt := hv.2 h3
    rw [Nat.mod_eq_of_lt hlt]
    by_cases h4 : sizeN (valN t) = leadN s 10 + 1
    · rw [if_pos h4, if_pos (hp.2 (by omega))]
    · rw [if_neg h4, if_neg (fun hc => h4 (by have := hp.1 hc; omega))]
/-- What is read is there, byte by byte. -/
theorem num_ok {s : List UInt8} {n k : Nat} (h : numL s = (n, k, 0)) : n < 18446744073709551616 ∧ k = sizeN n ∧ k ≤ s.length ∧ s.take k = putN n := by
  unfold numL at h
  split at h
  · simp at h
  rename_i h1
  split at h
  · simp at h
  rename_i h2
  split at h
  · simp at h
  rename_i h3
  obtain ⟨hl, hg, he⟩ := take_facts h1 h2
  have hv := (val_ten h1 h2).2 h3
  split at h
  · rename_i h4
    simp only [Prod.mk.injEq, and_true] at h
    obtain ⟨h5, h6⟩ := h
    have hp := (putN_val _ (fun e => by rw [e] at hl; simp at hl) hg he).2 (by rw [h4, hl])
    rw [List.length_take] at hl
    rw [h5] at hp h4 hv
    rw [h6] at hp h4
    exact ⟨hv, h4.symm, by omega, hp.symm⟩
  · simp at h
theorem num_bad (s : List UInt8) : ((numL s).2.2 = 0) ∨ numL s = (0, 0, 7) ∨ numL s = (0, 0, 8) := by
  unfold numL
  split
  · simp
  split
  · simp
  split
  · simp
  split <;> simp
theorem num_put (n : Nat) (hn : n < 18446744073709551616) (r : List UInt8) : numL (putN n ++ r) = (n, sizeN n, 0) := by
  have hl := putN_len n
  have hp := sizeN_pos n
  have h10 := size_u64 hn
  have hget : ∀ i, i < sizeN n → (putN n ++ r).getD i 0 = (putN n).getD i 0 := by
    intro i hi
    rw [List.getD_eq_getElem?_getD, List.getD_eq_getElem?_getD, List.getElem?_append_left (by omega)]
  have hc : leadN (putN n ++ r) 10 = sizeN n - 1 := leadN_is _ _ _ (by omega) (by rw [List.length_append]; omega)
    (fun i hi => by rw [hget i (by omega)]; exact putN_goes n i (by omega))
    (.inr (.inr (by rw [hget _ (by omega)]; exact putN_ends n)))
  have h1 : leadN (putN n ++ r) 10 ≠ 10 := by omega
  have h2 : leadN (putN n ++ r) 10 ≠ (putN n ++ r).length := by rw [List.length_append]; omega
  have ht : (putN n ++ r).take (leadN (putN n ++ r) 10 + 1) = putN n := by
    rw [hc, Nat.sub_add_cancel hp, ← hl, List.take_left]
  have hv := (val_ten h1 h2).1 (by rw [ht, valN_putN]; exact hn)
  unfold numL
  rw [if_neg h1, if_neg h2, if_neg hv, ht, valN_putN, if_pos (by omega), hc, Nat.sub_add_cancel hp]

/-! ### a reader, and what it reads of a register's bytes -/
/-- A reader: what it has not read, how many bytes it has, its first failure. -/
structure InS where
  rest : List UInt8
  read : Nat
  fail : Int
/-- A number that is at most another one. -/
def boundL (s : List UInt8) (m : Nat) : Nat × Nat × Int :=
  if (numL s).2.2 = 0 then (if (numL s).1 ≤ m then numL s else (0, 0, 8)) else (0, 0, (numL s).2.2)
theorem bound_ok {s : List UInt8} {m n k : Nat} (h : boundL s m = (n, k, 0)) : n ≤ m ∧ numL s = (n, k, 0) := by
  unfold boundL at h
  split at h
  · split at h
    · rename_i h1 h2
      rw [h] at h2
      exact ⟨h2, h⟩
    · simp at h
  · rename_i h1
    simp only [Prod.mk.injEq] at h
    exact absurd h.2.2 h1
theorem bound_bad (s : List UInt8) (m : Nat) : (boundL s m).2.2 = 0 ∨ boundL s m = (0, 0, 7) ∨ boundL s m = (0, 0, 8) := by
  unfold boundL
  rcases num_bad s with h | h | h
  · rw [if_pos h]
    split
    · exact .inl h
    · exact .inr (.inr rfl)
  · rw [h]; exact .inr (.inl rfl)
  · rw [h]; exact .inr (.inr rfl)
theorem bound_put (n m : Nat) (hn : n < 18446744073709551616) (hm : n ≤ m) (r : List UInt8) : boundL (putN n ++ r) m = (n, sizeN n, 0) := by
  unfold boundL
  rw [num_put n hn r]
  simp [hm]
/-- Most. -/
def InS.most (x : InS) (m : Nat) : Nat × InS :=
  if x.fail = 0 then (if (boundL x.rest m).2.2 = 0 then ((boundL x.rest m).1, ⟨x.rest.drop (boundL x.rest m).2.1, x.read + (boundL x.rest m).2.1, 0⟩) else (0, ⟨x.rest, x.read, (boundL x.rest m).2.2⟩)) else (0, x)
theorem InS.most_le (x : InS) (m : Nat) : (x.most m).1 ≤ m := by
  unfold InS.most
  split
  · split
    · rename_i h
      obtain ⟨⟨a, b, c⟩, hb⟩ : ∃ q, boundL x.rest m = q := ⟨_, rfl⟩
      rw [hb] at h ⊢
      obtain rfl : c = 0 := h
      exact (bound_ok hb).1
    · exact Nat.zero_le _
  · exact Nat.zero_le _
/-- The greatest epoch. -/
def maxE : Nat := 9223372036854775807
/-- The first failure of a register's bytes. -/
def errA (s : List UInt8) : Int :=
  if (((⟨s, 0, 0⟩ : InS).most maxE).2.most 1).2.fail ≠ 0 then (((⟨s, 0, 0⟩ : InS).most maxE).2.most 1).2.fail
  else if (((⟨s, 0, 0⟩ : InS).most maxE).2.most 1).2.rest ≠ [] then 8 else if ((⟨s, 0, 0⟩ : InS).most maxE).1 = 0 then 8 else 0
/-- What a register's bytes are read as. -/
def readA (s : List UInt8) : Nat × Nat × Int :=
  if errA s = 0 then (((⟨s, 0, 0⟩ : InS).most maxE).1, (((⟨s, 0, 0⟩ : InS).most maxE).2.most 1).1, 0) else (0, 0, errA s)
/-- A register's bytes. -/
def bytesA (n h : Nat) : List UInt8 := putN n ++ putN h
theorem most_put (n m k : Nat) (hn : n < 18446744073709551616) (hm : n ≤ m) (r : List UInt8) : (⟨putN n ++ r, k, 0⟩ : InS).most m = (n, ⟨r, k + sizeN n, 0⟩) := by
  unfold InS.most
  simp only [bound_put n m hn hm r, if_pos]
  rw [← putN_len n, List.drop_left]
theorem read_bytes (n h : Nat) (h1 : 1 ≤ n) (h2 : n ≤ maxE) (h3 : h ≤ 1) : readA (bytesA n h) = (n, h, 0) := by
  have hx : maxE = 9223372036854775807 := rfl
  have e1 : (⟨bytesA n h, 0, 0⟩ : InS).most maxE = (n, ⟨putN h, 0 + sizeN n, 0⟩) := most_put n maxE 0 (by omega) h2 (putN h)
  have e2 : (⟨putN h, 0 + sizeN n, 0⟩ : InS).most 1 = (h, ⟨[], 0 + sizeN n + sizeN h, 0⟩) := by
    have := most_put h 1 (0 + sizeN n) (by omega) h3 []
    rwa [List.append_nil] at this
  have e3 : errA (bytesA n h) = 0 := by
    unfold errA
    rw [e1]
    simp only [e2]
    rw [if_neg (by simp), if_neg (by simp), if_neg (by omega)]
  unfold readA
  rw [if_pos e3, e1]
  simp only [e2]
theorem most_ok {x : InS} {m : Nat} (h : (x.most m).2.fail = 0) : x.fail = 0 ∧ (x.most m).1 ≤ m ∧ x.rest = putN (x.most m).1 ++ (x.most m).2.rest := by
  unfold InS.most at h ⊢
  by_cases h1 : x.fail = 0
  · rw [if_pos h1] at h ⊢
    by_cases h2 : (boundL x.rest m).2.2 = 0
    · rw [if_pos h2]
      obtain ⟨⟨a, b, c⟩, hb⟩ : ∃ q, boundL x.rest m = q := ⟨_, rfl⟩
      rw [hb] at h2 ⊢
      obtain rfl : c = 0 := h2
      obtain ⟨h3, h4⟩ := bound_ok hb
      obtain ⟨h5, h6, h7, h8⟩ := num_ok h4
      refine ⟨h1, h3, ?_⟩
      show x.rest = putN a ++ x.rest.drop b
      rw [← h8, List.take_append_drop]
    · rw [if_neg h2] at h
      exact absurd h h2
  · rw [if_neg h1] at h
    exact absurd h h1
theorem read_ok {s : List UInt8} (h : (readA s).2.2 = 0) : 1 ≤ (readA s).1 ∧ (readA s).1 ≤ maxE ∧ (readA s).2.1 ≤ 1 ∧ s = bytesA (readA s).1 (readA s).2.1 := by
  unfold readA at h ⊢
  by_cases h1 : errA s = 0
  · rw [if_pos h1]
    unfold errA at h1
    by_cases c1 : (((⟨s, 0, 0⟩ : InS).most maxE).2.most 1).2.fail = 0
    · rw [if_neg (by simp [c1])] at h1
      by_cases c2 : (((⟨s, 0, 0⟩ : InS).most maxE).2.most 1).2.rest = []
      · rw [if_neg (by simp [c2])] at h1
        by_cases c3 : ((⟨s, 0, 0⟩ : InS).most maxE).1 = 0
        · rw [if_pos c3] at h1; simp at h1
        · obtain ⟨d1, d2, d3⟩ := most_ok c1
          obtain ⟨e1, e2, e3⟩ := most_ok d1
          refine ⟨by show 1 ≤ _; omega, e2, d2, ?_⟩
          show s = putN _ ++ putN _
          rw [c2, List.append_nil] at d3
          rw [← d3]
          exact e3
      · rw [if_pos c2] at h1; simp at h1
    · rw [if_pos c1] at h1
      exact absurd h1 c1
  · rw [if_neg h1] at h
    exact absurd h h1
end Go.Proofs.YtdfgmieinbmfkaaGreat
