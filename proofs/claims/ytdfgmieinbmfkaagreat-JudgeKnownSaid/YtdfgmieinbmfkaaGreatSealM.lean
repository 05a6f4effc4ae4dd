/-
  A number's bytes, seven bits a byte, the lowest ones first, and how a number is read off a text: plain, no program in sight.
-/
import Derived.Lib.BitFns
import Derived.Lib.ItoaNum
import Derived.IntWalk
import Derived.Laws.Bits64b
import Derived.Laws.Closers25b
namespace Go.Proofs.YtdfgmieinbmfkaaGreat
open Go

/-- how many bytes a number has. -/
def sizeN (n : Nat) : Nat := if n < 128 then 1 else 1 + sizeN (n / 128)
/-- these bytes. -/
def putN (n : Nat) : List UInt8 := if n < 128 then [UInt8.ofNat n] else UInt8.ofNat (n % 128 + 128) :: putN (n / 128)
/-- the number that bytes make, whatever their highest bits are. -/
def valN : List UInt8 → Nat
  | [] => 0
  | b :: l => b.toNat % 128 + 128 * valN l

theorem sizeN_lt {n : Nat} (h : n < 128) : sizeN n = 1 := by rw [sizeN, if_pos h]
theorem sizeN_ge {n : Nat} (h : 128 ≤ n) : sizeN n = 1 + sizeN (n / 128) := by rw [sizeN, if_neg (by omega)]
theorem putN_lt {n : Nat} (h : n < 128) : putN n = [UInt8.ofNat n] := by rw [putN, if_pos h]
theorem putN_ge {n : Nat} (h : 128 ≤ n) : putN n = UInt8.ofNat (n % 128 + 128) :: putN (n / 128) := by rw [putN, if_neg (by omega)]
theorem sizeN_pos (n : Nat) : 1 ≤ sizeN n := by
  rw [sizeN]
  split <;> omega
theorem putN_len (n : Nat) : (putN n).length = sizeN n := by
  induction n using Nat.strongRecOn with
  | ind n ih =>
    by_cases h : n < 128
    · rw [putN_lt h, sizeN_lt h]; rfl
    · rw [putN_ge (by omega), sizeN_ge (by omega), List.length_cons, ih (n / 128) (by omega)]; omega
theorem byte_low {x : Nat} (h : x < 256) : (UInt8.ofNat x).toNat = x := by simp; omega
theorem valN_putN (n : Nat) : valN (putN n) = n := by
  induction n using Nat.strongRecOn with
  | ind n ih =>
    by_cases h : n < 128
    · rw [putN_lt h]
      show (UInt8.ofNat n).toNat % 128 + 128 * 0 = n
      rw [byte_low (by omega)]; omega
    · rw [putN_ge (by omega)]
      show (UInt8.ofNat (n % 128 + 128)).toNat % 128 + 128 * valN (putN (n / 128)) = n
      rw [byte_low (by omega), ih (n / 128) (by omega)]; omega
theorem sizeN_le (k : Nat) : ∀ n, sizeN n ≤ k + 1 ↔ n < 128 ^ (k + 1) := by
  induction k with
  | zero =>
    intro n
    by_cases h : n < 128
    · rw [sizeN_lt h]; simp; omega
    · rw [sizeN_ge (by omega)]
      have := sizeN_pos (n / 128)
      simp; omega
  | succ k ih =>
    intro n
    by_cases h : n < 128
    · rw [sizeN_lt h]
      have : 128 ≤ 128 ^ (k + 1 + 1) := by
        have : 128 ^ 1 ≤ 128 ^ (k + 1 + 1) := Nat.pow_le_pow_right (by omega) (by omega)
        omega
      omega
    · rw [sizeN_ge (by omega), Nat.pow_succ]
      have h1 := ih (n / 128)
      rw [Nat.div_lt_iff_lt_mul (by omega)] at h1
      omega
theorem size_u64 {n : Nat} (h : n < 18446744073709551616) : sizeN n ≤ 10 := (sizeN_le 9 n).2 (by
  have : (128 : Nat) ^ (9 + 1) = 1180591620717411303424 := by decide
  omega)
theorem sizeN_bitLen (n : Nat) (h : n < 18446744073709551616) : sizeN n = max 1 ((Lib.bitLen n + 6) / 7) := by
  induction n using Nat.strongRecOn with
  | ind n ih =>
    by_cases h1 : n < 128
    · rw [sizeN_lt h1]
      by_cases h0 : n = 0
      · subst h0; decide
      · have := Lib.bitLenAux_bounds 64 n (by omega) h0
        have h7 : Lib.bitLen n ≤ 7 := by
          apply Classical.byContradiction
          intro hc
          have h2 : 2 ^ 7 ≤ 2 ^ (Lib.bitLen n - 1) := Nat.pow_le_pow_right (by omega) (by omega)
          have h3 : 2 ^ (Lib.bitLen n - 1) ≤ n := this.2.1
          omega
        omega
    · rw [sizeN_ge (by omega), ih (n / 128) (by omega) (by omega), Lib.bitLen_shift 7 n (by omega) h]
      have e : n / 2 ^ 7 = n / 128 := rfl
      rw [e]
      have hp : 1 ≤ Lib.bitLen (n / 128) := (Lib.bitLenAux_bounds 64 (n / 128) (by omega) (by omega)).1
      omega

/-! ### reading -/
/-- how many bytes with which a text begins go on, at most k. -/
def leadN : List UInt8 → Nat → Nat
  | b :: l, k + 1 => if 128 ≤ b.toNat then 1 + leadN l k else 0
  | _, _ => 0
theorem leadN_le (l : List UInt8) (k : Nat) : leadN l k ≤ k ∧ leadN l k ≤ l.length := by
  induction l generalizing k with
  | nil => cases k <;> simp [leadN]
  | cons b l ih =>
    cases k with
    | zero => simp [leadN]
    | succ k =>
      have := ih k
      unfold leadN
      split <;> simp <;> omega
theorem leadN_goes (l : List UInt8) (k i : Nat) (h : i < leadN l k) : 128 ≤ (l.getD i 0).toNat := by
  induction l generalizing k i with
  | nil => cases k <;> simp [leadN] at h
  | cons b l ih =>
    cases k with
    | zero => simp [leadN] at h
    | succ k =>
      unfold leadN at h
      split at h
      · rename_i hb
        cases i with
        | zero => simpa using hb
        | succ i => simpa using ih k i (by omega)
      · omega
theorem leadN_ends (l : List UInt8) (k : Nat) (h : leadN l k < k) (h2 : leadN l k < l.length) : (l.getD (leadN l k) 0).toNat < 128 := by
  induction l generalizing k with
  | nil => simp at h2
  | cons b l ih =>
    cases k with
    | zero => omega
    | succ k =>
      by_cases hb : 128 ≤ b.toNat
      · have e : leadN (b :: l) (k + 1) = 1 + leadN l k := by show (if 128 ≤ b.toNat then _ else _) = _; rw [if_pos hb]
        rw [e] at h h2 ⊢
        have := ih k (by omega) (by simp at h2; omega)
        rw [Nat.add_comm]
        simpa using this
      · have e : leadN (b :: l) (k + 1) = 0 := by show (if 128 ≤ b.toNat then _ else _) = _; rw [if_neg hb]
        rw [e]
        simp; omega
/-- the number of goes-on bytes is told by them. -/
theorem leadN_is (l : List UInt8) (k c : Nat) (hk : c ≤ k) (hl : c ≤ l.length) (hg : ∀ i, i < c → 128 ≤ (l.getD i 0).toNat) (he : c = k ∨ c = l.length ∨ (l.getD c 0).toNat < 128) : leadN l k = c := by
  have h1 := leadN_le l k
  rcases Nat.lt_trichotomy (leadN l k) c with h | h | h
  · have := leadN_ends l k (by omega) (by omega)
    have := hg _ h
    omega
  · exact h
  · have := leadN_goes l k c h
    omega

/-- the number with which a text begins, how many bytes it has, and what bars it. -/
def numL (s : List UInt8) : Nat × Nat × Int :=
  if leadN s 10 = 10 then (0, 0, 8) else if leadN s 10 = s.length then (0, 0, 7) else if leadN s 10 = 9 ∧ 1 < (s.getD 9 0).toNat then (0, 0, 8) else
  if sizeN (valN (s.take (leadN s 10 + 1))) = leadN s 10 + 1 then (valN (s.take (leadN s 10 + 1)), leadN s 10 + 1, 0) else (0, 0, 8)
/-- the same as the document has it. -/
def nextL (s : List UInt8) : Nat × Nat × Int :=
  if leadN s 10 = 10 then (0, 0, 8) else if leadN s 10 = s.length then (0, 0, 7) else
  if putN (valN (s.take (leadN s 10 + 1)) % 18446744073709551616) = s.take (leadN s 10 + 1) then (valN (s.take (leadN s 10 + 1)) % 18446744073709551616, leadN s 10 + 1, 0) else (0, 0, 8)

theorem valN_app (a b : List UInt8) : valN (a ++ b) = valN a + 128 ^ a.length * valN b := by
  induction a with
  | nil => simp [valN]
  | cons x a ih =>
    simp only [List.cons_append, valN, ih, List.length_cons]
    rw [Nat.pow_succ, Nat.mul_add, Nat.mul_comm (128 ^ a.length) 128, Nat.mul_assoc]
    omega
theorem valN_lt (l : List UInt8) : valN l < 128 ^ l.length := by
  induction l with
  | nil => simp [valN]
  | cons x l ih =>
    simp only [valN, List.length_cons]
    rw [Nat.pow_succ]
    omega
theorem valN_drop (l : List UInt8) (i : Nat) : valN (l.drop i) ≤ valN l := by
  induction l generalizing i with
  | nil => simp
  | cons x l ih =>
    cases i with
    | zero => simp
    | succ i =>
      have := ih i
      simp only [List.drop_succ_cons, valN]
      omega
/-- bytes that go on but for the last one are a number's just if they are as many as it has. -/
theorem putN_val (s : List UInt8) (hs : s ≠ []) (hg : ∀ i, i + 1 < s.length → 128 ≤ (s.getD i 0).toNat) (he : (s.getD (s.length - 1) 0).toNat < 128) : putN (valN s) = s ↔ sizeN (valN s) = s.length := by
  constructor
  · intro h
    rw [← putN_len, h]
  · induction s with
    | nil => exact absurd rfl hs
    | cons b l ih =>
      intro hz
      have hb := b.toNat_lt
      cases l with
      | nil =>
        have he' : b.toNat < 128 := by simpa using he
        have : valN [b] = b.toNat := by simp only [valN]; omega
        rw [this, putN_lt he']
        simp
      | cons c l =>
        have hb1 := hg 0 (by simp)
        simp only [List.getD_cons_zero] at hb1
        have hge : 128 ≤ valN (b :: c :: l) := by
          apply Classical.byContradiction
          intro hc
          rw [sizeN_lt (by omega)] at hz
          simp at hz
        have hd : valN (b :: c :: l) / 128 = valN (c :: l) := by
          show (b.toNat % 128 + 128 * valN (c :: l)) / 128 = _
          omega
        have hm : valN (b :: c :: l) % 128 = b.toNat % 128 := by
          show (b.toNat % 128 + 128 * valN (c :: l)) % 128 = _
          omega
        rw [sizeN_ge hge, hd, List.length_cons] at hz
        rw [putN_ge hge, hd, hm, ih (by simp) (fun i hi => by
          have := hg (i + 1) (by simp at hi ⊢; omega)
          simpa using this) (by simpa using he) (by omega)]
        congr 1
        have e : b.toNat % 128 + 128 = b.toNat := by omega
        rw [e]
        simp
/-- all bytes of a number but the last one go on. -/
theorem putN_goes (n i : Nat) (h : i + 1 < sizeN n) : 128 ≤ ((putN n).getD i 0).toNat := by
  induction n using Nat.strongRecOn generalizing i with
  | ind n ih =>
    by_cases h1 : n < 128
    · rw [sizeN_lt h1] at h; omega
    · rw [sizeN_ge (by omega)] at h
      rw [putN_ge (by omega)]
      cases i with
      | zero =>
        rw [List.getD_cons_zero, byte_low (by omega)]
        omega
      | succ i => simpa using ih (n / 128) (by omega) i (by omega)
theorem putN_ends (n : Nat) : ((putN n).getD (sizeN n - 1) 0).toNat < 128 := by
  induction n using Nat.strongRecOn with
  | ind n ih =>
    by_cases h1 : n < 128
    · rw [sizeN_lt h1, putN_lt h1]
      show (UInt8.ofNat n).toNat < 128
      rw [byte_low (by omega)]
      exact h1
    · have hp := sizeN_pos (n / 128)
      rw [sizeN_ge (by omega), putN_ge (by omega)]
      have e : 1 + sizeN (n / 128) - 1 = (sizeN (n / 128) - 1) + 1 := by omega
      rw [e, List.getD_cons_succ]
      exact ih (n / 128) (by omega)
theorem getD_take_ (l : List UInt8) (n i : Nat) (h : i < n) : (l.take n).getD i 0 = l.getD i 0 := by
  rw [List.getD_eq_getElem?_getD, List.getD_eq_getElem?_getD, List.getElem?_take, if_pos h]
theorem pow_128_9 : (128 : Nat) ^ 9 = 9223372036854775808 := by decide
/-- what stands ahead of the test for ten bytes. -/
theorem take_facts {s : List UInt8} (h1 : leadN s 10 ≠ 10) (h2 : leadN s 10 ≠ s.length) :
    (s.take (leadN s 10 + 1)).length = leadN s 10 + 1 ∧ (∀ i, i + 1 < (s.take (leadN s 10 + 1)).length → 128 ≤ ((s.take (leadN s 10 + 1)).getD i 0).toNat) ∧ ((s.take (leadN s 10 + 1)).getD ((s.take (leadN s 10 + 1)).length - 1) 0).toNat < 128 := by
  have hle := leadN_le s 10
  have hl : (s.take (leadN s 10 + 1)).length = leadN s 10 + 1 := by rw [List.length_take]; omega
  refine ⟨hl, fun i hi => ?_, ?_⟩
  · rw [hl] at hi
    rw [getD_take_ _ _ _ (by omega)]
    exact leadN_goes s 10 i (by omega)
  · rw [hl, Nat.add_sub_cancel, getD_take_ _ _ _ (by omega)]
    exact leadN_ends s 10 (by omega) (by omega)
theorem val_ten {s : List UInt8} (h1 : leadN s 10 ≠ 10) (h2 : leadN s 10 ≠ s.length) : valN (s.take (leadN s 10 + 1)) < 18446744073709551616 ↔ ¬ (leadN s 10 = 9 ∧ 1 < (s.getD 9 0).toNat) := by
  obtain ⟨hl, hg, he⟩ := take_facts h1 h2
  have hle := leadN_le s 10
  by_cases h9 : leadN s 10 = 9
  · have e : s.take (leadN s 10 + 1) = s.take 9 ++ [s.getD 9 0] := by
      rw [h9, List.take_succ_eq_append_getElem (by omega), List.getD_eq_getElem?_getD, List.getElem?_eq_getElem (by omega)]
      rfl
    have h128 : (s.getD 9 0).toNat < 128 := by
      have := leadN_ends s 10 (by omega) (by omega)
      rw [h9] at this
      exact this
    have hlt := valN_lt (s.take 9)
    have hl9 : (s.take 9).length = 9 := by rw [List.length_take]; omega
    rw [e, valN_app, hl9, pow_128_9]
    rw [hl9, pow_128_9] at hlt
    have ev : valN [s.getD 9 0] = (s.getD 9 0).toNat := by simp only [valN]; omega
    rw [ev]
    constructor
    · rintro h ⟨-, hc⟩
      omega
    · intro h
      have : (s.getD 9 0).toNat ≤ 1 := by
        apply Classical.byContradiction
        intro hc
        exact h ⟨h9, by omega⟩
      omega
  · have hlt := valN_lt (s.take (leadN s 10 + 1))
    rw [hl] at hlt
    have hp : 128 ^ (leadN s 10 + 1) ≤ 128 ^ 9 := Nat.pow_le_pow_right (by omega) (by omega)
    rw [pow_128_9] at hp
    constructor
    · rintro - ⟨hc, -⟩
      exact h9 hc
    · intro _
      omega
theorem next_is (s : List UInt8) : nextL s = numL s := by
  unfold nextL numL
  by_cases h1 : leadN s 10 = 10
  · rw [if_pos h1, if_pos h1]
  rw [if_neg h1, if_neg h1]
  by_cases h2 : leadN s 10 = s.length
  · rw [if_pos h2, if_pos h2]
  rw [if_neg h2, if_neg h2]
  obtain ⟨hl, hg, he⟩ := take_facts h1 h2
  have hv := val_ten h1 h2
  generalize s.take (leadN s 10 + 1) = t at *
  have hp := putN_val t (fun e => by rw [e] at hl; simp at hl) hg he
  by_cases h3 : leadN s 10 = 9 ∧ 1 < (s.getD 9 0).toNat
  · rw [if_pos h3, if_neg]
    intro hc
    have := congrArg valN hc
    rw [valN_putN] at this
    exact hv.1 (by omega) h3
  · rw [if_neg h3]
    have hlt := hv.2 h3
    rw [Nat.mod_eq_of_lt hlt]
    by_cases h4 : sizeN (valN t) = leadN s 10 + 1
    · rw [if_pos h4, if_pos (hp.2 (by omega))]
    · rw [if_neg h4, if_neg (fun hc => h4 (by have := hp.1 hc; omega))]
/-- What is read is there, byte by byte. -/
theorem num_ok {s : List UInt8} {n k : Nat} (h : numL s = (n, k, 0)) : n < 18446744073709551616 ∧ k = sizeN n ∧ k ≤ s.length ∧ s.take k = putN n := by
  unfold numL at h
  split at h
  · simp at h
  rename_i h1
  split at h
  · simp at h
  rename_i h2
  split at h
  · simp at h
  rename_i h3
  obtain ⟨hl, hg, he⟩ := take_facts h1 h2
  have hv := (val_ten h1 h2).2 h3
  split at h
  · rename_i h4
    simp only [Prod.mk.injEq, and_true] at h
    obtain ⟨h5, h6⟩ := h
    have hp := (putN_val _ (fun e => by rw [e] at hl; simp at hl) hg he).2 (by rw [h4, hl])
    rw [List.length_take] at hl
    rw [h5] at hp h4 hv
    rw [h6] at hp h4
    exact ⟨hv, h4.symm, by omega, hp.symm⟩
  · simp at h
theorem num_bad (s : List UInt8) : ((numL s).2.2 = 0) ∨ numL s = (0, 0, 7) ∨ numL s = (0, 0, 8) := by
  unfold numL
  split
  · simp
  split
  · simp
  split
  · simp
  split <;> simp
theorem num_put (n : Nat) (hn : n < 18446744073709551616) (r : List UInt8) : numL (putN n ++ r) = (n, sizeN n, 0) := by
  have hl := putN_len n
  have hp := sizeN_pos n
  have h10 := size_u64 hn
  have hget : ∀ i, i < sizeN n → (putN n ++ r).getD i 0 = (putN n).getD i 0 := by
    intro i hi
    rw [List.getD_eq_getElem?_getD, List.getD_eq_getElem?_getD, List.getElem?_append_left (by omega)]
  have hc : leadN (putN n ++ r) 10 = sizeN n - 1 := leadN_is _ _ _ (by omega) (by rw [List.length_append]; omega)
    (fun i hi => by rw [hget i (by omega)]; exact putN_goes n i (by omega))
    (.inr (.inr (by rw [hget _ (by omega)]; exact putN_ends n)))
  have h1 : leadN (putN n ++ r) 10 ≠ 10 := by omega
  have h2 : leadN (putN n ++ r) 10 ≠ (putN n ++ r).length := by rw [List.length_append]; omega
  have ht : (putN n ++ r).take (leadN (putN n ++ r) 10 + 1) = putN n := by
    rw [hc, Nat.sub_add_cancel hp, ← hl, List.take_left]
  have hv := (val_ten h1 h2).1 (by rw [ht, valN_putN]; exact hn)
  unfold numL
  rw [if_neg h1, if_neg h2, if_neg hv, ht, valN_putN, if_pos (by omega), hc, Nat.sub_add_cancel hp]

/-! ### a reader, and what it reads of a register's bytes -/
/-- A reader: what it has not read, how many bytes it has, its first failure. -/
structure InS where
  rest : List UInt8
  read : Nat
  fail : Int
/-- A number that is at most another one. -/
def boundL (s : List UInt8) (m : Nat) : Nat × Nat × Int :=
  if (numL s).2.2 = 0 then (if (numL s).1 ≤ m then numL s else (0, 0, 8)) else (0, 0, (numL s).2.2)
theorem bound_ok {s : List UInt8} {m n k : Nat} (h : boundL s m = (n, k, 0)) : n ≤ m ∧ numL s = (n, k, 0) := by
  unfold boundL at h
  split at h
  · split at h
    · rename_i h1 h2
      rw [h] at h2
      exact ⟨h2, h⟩
    · simp at h
  · rename_i h1
    simp only [Prod.mk.injEq] at h
    exact absurd h.2.2 h1
theorem bound_bad (s : List UInt8) (m : Nat) : (boundL s m).2.2 = 0 ∨ boundL s m = (0, 0, 7) ∨ boundL s m = (0, 0, 8) := by
  unfold boundL
  rcases num_bad s with h | h | h
  · rw [if_pos h]
    split
    · exact .inl h
    · exact .inr (.inr rfl)
  · rw [h]; exact .inr (.inl rfl)
  · rw [h]; exact .inr (.inr rfl)
theorem bound_put (n m : Nat) (hn : n < 18446744073709551616) (hm : n ≤ m) (r : List UInt8) : boundL (putN n ++ r) m = (n, sizeN n, 0) := by
  unfold boundL
  rw [num_put n hn r]
  simp [hm]
/-- Most. -/
def InS.most (x : InS) (m : Nat) : Nat × InS :=
  if x.fail = 0 then (if (boundL x.rest m).2.2 = 0 then ((boundL x.rest m).1, ⟨x.rest.drop (boundL x.rest m).2.1, x.read + (boundL x.rest m).2.1, 0⟩) else (0, ⟨x.rest, x.read, (boundL x.rest m).2.2⟩)) else (0, x)
theorem InS.most_le (x : InS) (m : Nat) : (x.most m).1 ≤ m := by
  unfold InS.most
  split
  · split
    · rename_i h
      obtain ⟨⟨a, b, c⟩, hb⟩ : ∃ q, boundL x.rest m = q := ⟨_, rfl⟩
      rw [hb] at h ⊢
      obtain rfl : c = 0 := h
      exact (bound_ok hb).1
    · exact Nat.zero_le _
  · exact Nat.zero_le _
/-- The greatest epoch. -/
def maxE : Nat := 9223372036854775807
/-- The first failure of a register's bytes. -/
def errA (s : List UInt8) : Int :=
  if (((⟨s, 0, 0⟩ : InS).most maxE).2.most 1).2.fail ≠ 0 then (((⟨s, 0, 0⟩ : InS).most maxE).2.most 1).2.fail
  else if (((⟨s, 0, 0⟩ : InS).most maxE).2.most 1).2.rest ≠ [] then 8 else if ((⟨s, 0, 0⟩ : InS).most maxE).1 = 0 then 8 else 0
/-- What a register's bytes are read as. -/
def readA (s : List UInt8) : Nat × Nat × Int :=
  if errA s = 0 then (((⟨s, 0, 0⟩ : InS).most maxE).1, (((⟨s, 0, 0⟩ : InS).most maxE).2.most 1).1, 0) else (0, 0, errA s)
/-- A register's bytes. -/
def bytesA (n h : Nat) : List UInt8 := putN n ++ putN h
theorem most_put (n m k : Nat) (hn : n < 18446744073709551616) (hm : n ≤ m) (r : List UInt8) : (⟨putN n ++ r, k, 0⟩ : InS).most m = (n, ⟨r, k + sizeN n, 0⟩) := by
  unfold InS.most
  simp only [bound_put n m hn hm r, if_pos]
  rw [← putN_len n, List.drop_left]
theorem read_bytes (n h : Nat) (h1 : 1 ≤ n) (h2 : n ≤ maxE) (h3 : h ≤ 1) : readA (bytesA n h) = (n, h, 0) := by
  have hx : maxE = 9223372036854775807 := rfl
  have e1 : (⟨bytesA n h, 0, 0⟩ : InS).most maxE = (n, ⟨putN h, 0 + sizeN n, 0⟩) := most_put n maxE 0 (by omega) h2 (putN h)
  have e2 : (⟨putN h, 0 + sizeN n, 0⟩ : InS).most 1 = (h, ⟨[], 0 + sizeN n + sizeN h, 0⟩) := by
    have := most_put h 1 (0 + sizeN n) (by omega) h3 []
    rwa [List.append_nil] at this
  have e3 : errA (bytesA n h) = 0 := by
    unfold errA
    rw [e1]
    simp only [e2]
    rw [if_neg (by simp), if_neg (by simp), if_neg (by omega)]
  unfold readA
  rw [if_pos e3, e1]
  simp only [e2]
theorem most_ok {x : InS} {m : Nat} (h : (x.most m).2.fail = 0) : x.fail = 0 ∧ (x.most m).1 ≤ m ∧ x.rest = putN (x.most m).1 ++ (x.most m).2.rest := by
  unfold InS.most at h ⊢
  by_cases h1 : x.fail = 0
  · rw [if_pos h1] at h ⊢
    by_cases h2 : (boundL x.rest m).2.2 = 0
    · rw [if_pos h2]
      obtain ⟨⟨a, b, c⟩, hb⟩ : ∃ q, boundL x.rest m = q := ⟨_, rfl⟩
      rw [hb] at h2 ⊢
      obtain rfl : c = 0 := h2
      obtain ⟨h3, h4⟩ := bound_ok hb
      obtain ⟨h5, h6, h7, h8⟩ := num_ok h4
      refine ⟨h1, h3, ?_⟩
      show x.rest = putN a ++ x.rest.drop b
      rw [← h8, List.take_append_drop]
    · rw [if_neg h2] at h
      exact absurd h h2
  · rw [if_neg h1] at h
    exact absurd h h1
theorem read_ok {s : List UInt8} (h : (readA s).2.2 = 0) : 1 ≤ (readA s).1 ∧ (readA s).1 ≤ maxE ∧ (readA s).2.1 ≤ 1 ∧ s = bytesA (readA s).1 (readA s).2.1 := by
  unfold readA at h ⊢
  by_cases h1 : errA s = 0
  · rw [if_pos h1]
    unfold errA at h1
    by_cases c1 : (((⟨s, 0, 0⟩ : InS).most maxE).2.most 1).2.fail = 0
    · rw [if_neg (by simp [c1])] at h1
      by_cases c2 : (((⟨s, 0, 0⟩ : InS).most maxE).2.most 1).2.rest = []
      · rw [if_neg (by simp [c2])] at h1
        by_cases c3 : ((⟨s, 0, 0⟩ : InS).most maxE).1 = 0
        · rw [if_pos c3] at h1; simp at h1
        · obtain ⟨d1, d2, d3⟩ := most_ok c1
          obtain ⟨e1, e2, e3⟩ := most_ok d1
          refine ⟨by show 1 ≤ _; omega, e2, d2, ?_⟩
          show s = putN _ ++ putN _
          rw [c2, List.append_nil] at d3
          rw [← d3]
          exact e3
      · rw [if_pos c2] at h1; simp at h1
    · rw [if_pos c1] at h1
      exact absurd h1 c1
  · rw [if_neg h1] at h
    exact absurd h h1
end Go.Proofs.YtdfgmieinbmfkaaGreat

/-
  Plain: texts within bytes; paths, operations and batches, and their bytes: no program in sight.
-/
namespace Go.Proofs.YtdfgmieinbmfkaaGreat
open Go

/-- A text's bytes: its length ahead. -/
def textN (t : List UInt8) : List UInt8 := putN t.length ++ t
/-- Num. -/
def InS.num (x : InS) : Nat × InS :=
  if x.fail = 0 then (if (numL x.rest).2.2 = 0 then ((numL x.rest).1, ⟨x.rest.drop (numL x.rest).2.1, x.read + (numL x.rest).2.1, 0⟩) else (0, ⟨x.rest, x.read, (numL x.rest).2.2⟩)) else (0, x)
/-- The failure of a text. -/
def textE (s : List UInt8) (m : Nat) : Int := if (boundL s m).2.2 ≠ 0 then (boundL s m).2.2 else if s.length - (boundL s m).2.1 < (boundL s m).1 then 7 else 0
/-- Text. -/
def InS.text (x : InS) (m : Nat) : List UInt8 × InS :=
  if x.fail = 0 then (if textE x.rest m = 0 then ((x.rest.drop (boundL x.rest m).2.1).take (boundL x.rest m).1, ⟨x.rest.drop ((boundL x.rest m).2.1 + (boundL x.rest m).1), x.read + ((boundL x.rest m).2.1 + (boundL x.rest m).1), 0⟩) else ([], ⟨x.rest, x.read, textE x.rest m⟩)) else ([], x)
/-- Byte. -/
def InS.byte (x : InS) : UInt8 × InS :=
  if x.fail = 0 then (if x.rest = [] then (0, ⟨x.rest, x.read, 7⟩) else (x.rest.getD 0 0, ⟨x.rest.drop 1, x.read + 1, 0⟩)) else (0, x)

theorem numI_put (n k : Nat) (hn : n < 18446744073709551616) (r : List UInt8) : (⟨putN n ++ r, k, 0⟩ : InS).num = (n, ⟨r, k + sizeN n, 0⟩) := by
  unfold InS.num
  simp only [num_put n hn r, if_pos]
  rw [← putN_len n, List.drop_left]
theorem text_put (t : List UInt8) (m k : Nat) (ht : t.length ≤ m) (hn : t.length < 18446744073709551616) (r : List UInt8) : (⟨textN t ++ r, k, 0⟩ : InS).text m = (t, ⟨r, k + (textN t).length, 0⟩) := by
  have h1 : boundL (textN t ++ r) m = (t.length, sizeN t.length, 0) := by
    unfold textN
    rw [List.append_assoc]
    exact bound_put _ _ hn ht _
  have hl : (textN t).length = sizeN t.length + t.length := by unfold textN; rw [List.length_append, putN_len]
  unfold InS.text
  simp only
  rw [if_pos trivial, if_pos (by unfold textE; rw [h1]; simp only; rw [if_neg (by simp), if_neg (by rw [List.length_append, hl]; omega)]), h1]
  simp only
  rw [← hl, List.drop_left]
  have e : (textN t ++ r).drop (sizeN t.length) = t ++ r := by
    unfold textN
    rw [List.append_assoc, ← putN_len, List.drop_left]
  rw [e, List.take_left]
theorem byte_cons (b : UInt8) (k : Nat) (r : List UInt8) : (⟨b :: r, k, 0⟩ : InS).byte = (b, ⟨r, k + 1, 0⟩) := by
  unfold InS.byte
  simp
theorem textN_len (t : List UInt8) : (textN t).length = sizeN t.length + t.length := by unfold textN; rw [List.length_append, putN_len]
theorem sizeN_small {n : Nat} (h : n < 16384) : sizeN n ≤ 2 := (sizeN_le 1 n).2 (by simpa using h)

/-! ### paths -/
def okName (s : List UInt8) : Bool := decide (1 ≤ s.length ∧ s.length ≤ 8) && s.all fun c => decide (97 ≤ c.toNat ∧ c.toNat ≤ 122)
def okKey (s : List UInt8) : Bool := decide (1 ≤ s.length ∧ s.length ≤ 24) && s.all fun c => decide (c ≠ 0 ∧ c ≠ 47)
/-- What stands ahead of the first '/'. -/
def headP (p : List UInt8) : List UInt8 := p.takeWhile (· != 47)
/-- A path's mount and key. -/
def cutP (p : List UInt8) : List UInt8 × List UInt8 × Bool :=
  if (headP p).length < p.length ∧ okName (headP p) = true ∧ okKey (p.drop ((headP p).length + 1)) = true then (headP p, p.drop ((headP p).length + 1), true) else ([], [], false)
def okPath (p : List UInt8) : Bool := (cutP p).2.2
theorem okPath_len {p : List UInt8} (h : okPath p = true) : p.length ≤ 33 := by
  unfold okPath cutP at h
  split at h
  · rename_i h1
    obtain ⟨h1, h2, h3⟩ := h1
    unfold okName at h2
    unfold okKey at h3
    simp only [Bool.and_eq_true, decide_eq_true_eq, List.length_drop] at h2 h3
    omega
  · simp at h

/-! ### operations -/
/-- An operation. -/
structure OpM where
  kind : UInt8
  path : List UInt8
  value : List UInt8
/-- Why an operation may not be. -/
def opErr (o : OpM) : Int := if o.kind ≠ 1 ∧ o.kind ≠ 2 then 10 else if okPath o.path = false then 20 else if 32 < o.value.length then 3 else if o.kind = 2 ∧ o.value ≠ [] then 1 else 0
def opsErr : List OpM → Int
  | [] => 0
  | o :: r => if opErr o ≠ 0 then opErr o else opsErr r
/-- Why a batch may not be. -/
def batErr (i e : Int) (l : List OpM) : Int := if i < 1 ∨ 4611686018427387904 < i ∨ e < 1 then 1 else if 4 < l.length then 3 else opsErr l
theorem opsErr_zero {l : List OpM} : opsErr l = 0 ↔ ∀ o ∈ l, opErr o = 0 := by
  induction l with
  | nil => simp [opsErr]
  | cons o r ih =>
    unfold opsErr
    by_cases h : opErr o = 0
    · rw [if_neg (by simp [h]), ih]; simp [h]
    · rw [if_pos h]; simp [h]
theorem batErr_zero {i e : Int} {l : List OpM} (h : batErr i e l = 0) : 1 ≤ i ∧ i ≤ 4611686018427387904 ∧ 1 ≤ e ∧ l.length ≤ 4 ∧ ∀ o ∈ l, opErr o = 0 := by
  unfold batErr at h
  split at h
  · simp at h
  · split at h
    · simp at h
    · exact ⟨by omega, by omega, by omega, by omega, opsErr_zero.1 h⟩
theorem opErr_zero {o : OpM} (h : opErr o = 0) : (o.kind = 1 ∨ o.kind = 2) ∧ okPath o.path = true ∧ o.path.length ≤ 33 ∧ o.value.length ≤ 32 ∧ (o.kind = 2 → o.value = []) := by
  unfold opErr at h
  split at h
  · simp at h
  · split at h
    · simp at h
    · split at h
      · simp at h
      · split at h
        · simp at h
        · rename_i h1 h2 h3 h4
          have hp : okPath o.path = true := by simpa using h2
          refine ⟨?_, hp, okPath_len hp, by omega, fun hk => ?_⟩
          · apply Classical.byContradiction
            intro hc
            exact h1 ⟨fun e => hc (.inl e), fun e => hc (.inr e)⟩
          · apply Classical.byContradiction
            intro hc
            exact h4 ⟨hk, hc⟩
/-- An operation's bytes. -/
def opB (o : OpM) : List UInt8 := o.kind :: (textN o.path ++ if o.kind = 1 then textN o.value else [])
def opsB (l : List OpM) : List UInt8 := l.flatMap opB
/-- A batch's bytes. -/
def batB (i e : Nat) (l : List OpM) : List UInt8 := putN i ++ (putN e ++ (putN l.length ++ opsB l))
theorem opB_len {o : OpM} (h : opErr o = 0) : (opB o).length ≤ 70 := by
  obtain ⟨-, -, h1, h2, -⟩ := opErr_zero h
  have a := sizeN_small (n := o.path.length) (by omega)
  have b := sizeN_small (n := o.value.length) (by omega)
  unfold opB
  rw [List.length_cons, List.length_append, textN_len]
  split
  · rw [textN_len]; omega
  · simp; omega
theorem opsB_len {l : List OpM} (h : ∀ o ∈ l, opErr o = 0) : (opsB l).length ≤ 70 * l.length := by
  induction l with
  | nil => simp [opsB]
  | cons o r ih =>
    have h1 := opB_len (h o (by simp))
    have h2 := ih fun p hp => h p (by simp [hp])
    have e : opsB (o :: r) = opB o ++ opsB r := rfl
    rw [e, List.length_append, List.length_cons]
    omega
theorem batB_len {i e : Nat} {l : List OpM} (hi : i < 18446744073709551616) (he : e < 18446744073709551616) (hl : l.length ≤ 4) (h : ∀ o ∈ l, opErr o = 0) : (batB i e l).length ≤ 310 := by
  have h1 := size_u64 hi
  have h2 := size_u64 he
  have h3 := sizeN_small (n := l.length) (by omega)
  have h4 := opsB_len h
  unfold batB
  rw [List.length_append, List.length_append, List.length_append, putN_len, putN_len, putN_len]
  omega

/-! ### pairs -/
/-- A path and its value. -/
abbrev PairM := List UInt8 × List UInt8
def pairB (p : PairM) : List UInt8 := textN p.1 ++ textN p.2
/-- The text of pairs. -/
def pairsB (l : List PairM) : List UInt8 := putN l.length ++ l.flatMap pairB
theorem pairs_len {l : List PairM} {a b : Nat} (ha : a < 16384) (hb : b < 16384) (h : ∀ p ∈ l, p.1.length ≤ a ∧ p.2.length ≤ b) : (l.flatMap pairB).length ≤ (a + b + 4) * l.length := by
  induction l with
  | nil => simp
  | cons p r ih =>
    obtain ⟨h1, h2⟩ := h p (by simp)
    have h3 := ih fun q hq => h q (by simp [hq])
    have c := sizeN_small (n := p.1.length) (by omega)
    have d := sizeN_small (n := p.2.length) (by omega)
    have e : (pairB p).length ≤ a + b + 4 := by
      unfold pairB
      rw [List.length_append, textN_len, textN_len]
      omega
    rw [List.flatMap_cons, List.length_append, List.length_cons, Nat.mul_succ]
    omega
end Go.Proofs.YtdfgmieinbmfkaaGreat

/-
  Plain: a hash as the program reckons it.
-/
namespace Go.Proofs.YtdfgmieinbmfkaaGreat
open Go Go.RowKit

/-- The n lowest bytes of x, the highest one first. -/
def beB (x : Nat) : Nat → List UInt8
  | 0 => []
  | n + 1 => UInt8.ofNat (x / 2 ^ (8 * n)) :: beB x n
theorem beB_len (x n : Nat) : (beB x n).length = n := by
  induction n with
  | zero => rfl
  | succ n ih => simp [beB, ih]
/-- The number of these bytes, the highest one first. -/
def beN (l : List UInt8) : Nat := l.foldl (fun a b => a * 256 + b.toNat) 0
theorem beN_snoc (l : List UInt8) (b : UInt8) : beN (l ++ [b]) = beN l * 256 + b.toNat := by simp [beN]
theorem beN_lt (l : List UInt8) : beN l < 2 ^ (8 * l.length) := by
  have key : ∀ (l : List UInt8) (a : Nat), l.foldl (fun a b => a * 256 + b.toNat) a < (a + 1) * 2 ^ (8 * l.length) := by
    intro l
    induction l with
    | nil => intro a; simp
    | cons b r ih =>
      intro a
      have h := ih (a * 256 + b.toNat)
      have hb := b.toNat_lt
      rw [List.foldl_cons, List.length_cons]
      have e : 2 ^ (8 * (r.length + 1)) = 256 * 2 ^ (8 * r.length) := by rw [Nat.mul_add, Nat.pow_add]; omega
      rw [e, ← Nat.mul_assoc]
      exact Nat.lt_of_lt_of_le h (Nat.mul_le_mul_right _ (by omega))
  have := key l 0
  simpa [beN] using this
/-- Words. -/
def U32 (z : Int) : Prop := 0 ≤ z ∧ z < 4294967296
def arrU (l : List Int) : Array Value := (l.map (Value.int .u32)).toArray
def AllU (l : List Int) : Prop := ∀ z ∈ l, U32 z
theorem bitsU (op : BinOp) (a b : Int) : U32 (bits op .u32 a b) := ⟨bits_lo_u32 op a b, by have := bits_hi_u32 op a b; omega⟩
theorem modU (a : Int) : U32 (a % 4294967296) := ⟨Int.emod_nonneg _ (by decide), Int.emod_lt_of_pos _ (by decide)⟩
theorem arrU_size (l : List Int) : (arrU l).size = l.length := by simp [arrU]
theorem arrU_get (l : List Int) (i : Nat) (h : i < l.length) : (arrU l)[i]? = some (.int .u32 (l.getD i 0)) := by simp [arrU, h]
theorem arrU_set (l : List Int) (i : Nat) (z : Int) : (arrU l).setIfInBounds i (.int .u32 z) = arrU (l.set i z) := by simp [arrU, List.map_set]
theorem AllU.get {l : List Int} (h : AllU l) (i : Nat) : U32 (l.getD i 0) := by
  by_cases hi : i < l.length
  · rw [List.getD_eq_getElem?_getD, List.getElem?_eq_getElem hi]
    exact h _ (List.getElem_mem hi)
  · rw [List.getD_eq_getElem?_getD, List.getElem?_eq_none (by omega)]
    exact ⟨by simp, by simp⟩
theorem AllU.set {l : List Int} (h : AllU l) (i : Nat) {z : Int} (hz : U32 z) : AllU (l.set i z) := by
  intro u hu
  rcases List.mem_or_eq_of_mem_set hu with h1 | h1
  · exact h u h1
  · rw [h1]; exact hz
/-! ### the reckoning -/
def rotl (x : Int) (r : Nat) : Int := bits .or .u32 (x * 2 ^ r % 4294967296) (x / 2 ^ (32 - r))
/-- How far a rotation goes. -/
def amt (k : Int) : Nat := (IntKind.u64.wrap k).toNat % 32
def sg0 (x : Int) : Int := bits .xor .u32 (bits .xor .u32 (rotl x 25) (rotl x 14)) (x / 8)
def sg1 (y : Int) : Int := bits .xor .u32 (bits .xor .u32 (rotl y 15) (rotl y 13)) (y / 1024)
/-- The words of a block's first bytes, and those made of them. -/
def wordAt (s : List UInt8) (i : Nat) : Int := (beN ((s.drop (4 * i)).take 4) : Int)
def nextW (l : List Int) (i : Nat) : Int := (((l.getD (i - 16) 0 + sg0 (l.getD (i - 15) 0)) % 4294967296 + l.getD (i - 7) 0) % 4294967296 + sg1 (l.getD (i - 2) 0)) % 4294967296
def wIn (s : List UInt8) (k : Nat) : List Int := (List.range k).foldl (fun l i => l.set i (wordAt s i)) (List.replicate 64 0)
def wOn (l : List Int) (k : Nat) : List Int := (List.range k).foldl (fun l j => l.set (16 + j) (nextW l (16 + j))) l
theorem wIn_succ (s : List UInt8) (k : Nat) : wIn s (k + 1) = (wIn s k).set k (wordAt s k) := by simp [wIn, List.range_succ]
theorem wOn_succ (l : List Int) (k : Nat) : wOn l (k + 1) = (wOn l k).set (16 + k) (nextW (wOn l k) (16 + k)) := by simp [wOn, List.range_succ]
theorem wIn_len (s : List UInt8) (k : Nat) : (wIn s k).length = 64 := by
  induction k with
  | zero => simp [wIn]
  | succ k ih => rw [wIn_succ, List.length_set, ih]
theorem wOn_len (l : List Int) (k : Nat) : (wOn l k).length = l.length := by
  induction k with
  | zero => simp [wOn]
  | succ k ih => rw [wOn_succ, List.length_set, ih]
theorem wordU (s : List UInt8) (i : Nat) : U32 (wordAt s i) := by
  have h := beN_lt ((s.drop (4 * i)).take 4)
  have h2 : beN ((s.drop (4 * i)).take 4) < 4294967296 := Nat.lt_of_lt_of_le h (Nat.le_trans (Nat.pow_le_pow_right (by omega) (show 8 * ((s.drop (4 * i)).take 4).length ≤ 32 by simp; omega)) (by decide))
  exact ⟨by unfold wordAt; omega, by unfold wordAt; omega⟩
theorem wIn_all (s : List UInt8) (k : Nat) : AllU (wIn s k) := by
  induction k with
  | zero => intro z hz; have := (List.mem_replicate.1 (show z ∈ List.replicate 64 0 from hz)).2; rw [this]; exact ⟨by decide, by decide⟩
  | succ k ih => rw [wIn_succ]; exact ih.set _ (wordU s k)
theorem wOn_all {l : List Int} (h : AllU l) (k : Nat) : AllU (wOn l k) := by
  induction k with
  | zero => exact h
  | succ k ih => rw [wOn_succ]; exact ih.set _ (modU _)
/-- A round. -/
def roundT (e b5 b6 b7 k w : Int) : Int :=
  ((b7 + bits .xor .u32 (bits .xor .u32 (rotl e (amt (-6))) (rotl e (amt (-11)))) (rotl e (amt (-25))) + bits .xor .u32 (bits .and .u32 e b5) (bits .and .u32 (bits .xor .u32 4294967295 e) b6) + k) % 4294967296 + w) % 4294967296
def roundU (a b1 b2 : Int) : Int :=
  (bits .xor .u32 (bits .xor .u32 (rotl a (amt (-2))) (rotl a (amt (-13)))) (rotl a (amt (-22))) + bits .xor .u32 (bits .xor .u32 (bits .and .u32 a b1) (bits .and .u32 a b2)) (bits .and .u32 b1 b2)) % 4294967296
def roundB : List Int → Int → Int → List Int
  | [b0, b1, b2, b3, b4, b5, b6, b7], k, w => [(roundT b4 b5 b6 b7 k w + roundU b0 b1 b2) % 4294967296, b0, b1, b2, (b3 + roundT b4 b5 b6 b7 k w) % 4294967296, b4, b5, b6]
  | l, _, _ => l
def rounds (K W b : List Int) (k : Nat) : List Int := (List.range k).foldl (fun b i => roundB b (K.getD i 0) (W.getD i 0)) b
theorem rounds_succ (K W b : List Int) (k : Nat) : rounds K W b (k + 1) = roundB (rounds K W b k) (K.getD k 0) (W.getD k 0) := by simp [rounds, List.range_succ]
theorem eight {l : List Int} (h : l.length = 8) : ∃ a b c d e f g i, l = [a, b, c, d, e, f, g, i] := by
  match l, h with
  | [a, b, c, d, e, f, g, i], _ => exact ⟨a, b, c, d, e, f, g, i, rfl⟩
theorem roundB_len {l : List Int} (h : l.length = 8) (k w : Int) : (roundB l k w).length = 8 := by
  obtain ⟨a, b, c, d, e, f, g, i, rfl⟩ := eight h
  rfl
theorem roundB_all {l : List Int} (h : l.length = 8) (hl : AllU l) (k w : Int) : AllU (roundB l k w) := by
  obtain ⟨a, b, c, d, e, f, g, i, rfl⟩ := eight h
  intro z hz
  simp only [roundB, List.mem_cons, List.not_mem_nil, or_false] at hz
  rcases hz with rfl | rfl | rfl | rfl | rfl | rfl | rfl | rfl
  · exact modU _
  · exact hl _ (by simp)
  · exact hl _ (by simp)
  · exact hl _ (by simp)
  · exact modU _
  · exact hl _ (by simp)
  · exact hl _ (by simp)
  · exact hl _ (by simp)
theorem rounds_ok {K W b : List Int} (h : b.length = 8) (hb : AllU b) (k : Nat) : (rounds K W b k).length = 8 ∧ AllU (rounds K W b k) := by
  induction k with
  | zero => exact ⟨h, hb⟩
  | succ k ih => rw [rounds_succ]; exact ⟨roundB_len ih.1 _ _, roundB_all ih.1 ih.2 _ _⟩
/-- What is added at the end. -/
def addH (h b : List Int) (k : Nat) : List Int := (List.range k).foldl (fun l i => l.set i ((l.getD i 0 + b.getD i 0) % 4294967296)) h
theorem addH_succ (h b : List Int) (k : Nat) : addH h b (k + 1) = (addH h b k).set k (((addH h b k).getD k 0 + b.getD k 0) % 4294967296) := by simp [addH, List.range_succ]
theorem addH_len (h b : List Int) (k : Nat) : (addH h b k).length = h.length := by
  induction k with
  | zero => simp [addH]
  | succ k ih => rw [addH_succ, List.length_set, ih]
theorem addH_all {h b : List Int} (hh : AllU h) (k : Nat) : AllU (addH h b k) := by
  induction k with
  | zero => exact hh
  | succ k ih => rw [addH_succ]; exact ih.set _ (modU _)
/-- A block's turn. -/
def turnL (h b K : List Int) (s : List UInt8) : List Int := addH h (rounds K (wOn (wIn s 16) 48) b 64) 8
/-- The words at first, and the numbers of the rounds. -/
def hash0 : List Int := [0x6a09e667, 0xbb67ae85, 0x3c6ef372, 0xa54ff53a, 0x510e527f, 0x9b05688c, 0x1f83d9ab, 0x5be0cd19]
def hashK : List Int := [0x428a2f98, 0x71374491, 0xb5c0fbcf, 0xe9b5dba5, 0x3956c25b, 0x59f111f1, 0x923f82a4, 0xab1c5ed5,
  0xd807aa98, 0x12835b01, 0x243185be, 0x550c7dc3, 0x72be5d74, 0x80deb1fe, 0x9bdc06a7, 0xc19bf174,
  0xe49b69c1, 0xefbe4786, 0x0fc19dc6, 0x240ca1cc, 0x2de92c6f, 0x4a7484aa, 0x5cb0a9dc, 0x76f988da,
  0x983e5152, 0xa831c66d, 0xb00327c8, 0xbf597fc7, 0xc6e00bf3, 0xd5a79147, 0x06ca6351, 0x14292967,
  0x27b70a85, 0x2e1b2138, 0x4d2c6dfc, 0x53380d13, 0x650a7354, 0x766a0abb, 0x81c2c92e, 0x92722c85,
  0xa2bfe8a1, 0xa81a664b, 0xc24b8b70, 0xc76c51a3, 0xd192e819, 0xd6990624, 0xf40e3585, 0x106aa070,
  0x19a4c116, 0x1e376c08, 0x2748774c, 0x34b0bcb5, 0x391c0cb3, 0x4ed8aa4a, 0x5b9cca4f, 0x682e6ff3,
  0x748f82ee, 0x78a5636f, 0x84c87814, 0x8cc70208, 0x90befffa, 0xa4506ceb, 0xbef9a3f7, 0xc67178f2]
theorem turnL_len {h b K : List Int} {s : List UInt8} : (turnL h b K s).length = h.length := addH_len _ _ _
theorem turnL_all {h b K : List Int} {s : List UInt8} (hh : AllU h) : AllU (turnL h b K s) := addH_all hh _
/-- So many blocks of a text. -/
def hashN : Nat → List Int → List UInt8 → List Int
  | 0, h, _ => h
  | n + 1, h, s => hashN n (turnL h h hashK (s.take 64)) (s.drop 64)
theorem hashN_ok {h : List Int} (h8 : h.length = 8) (hh : AllU h) (n : Nat) (s : List UInt8) : (hashN n h s).length = 8 ∧ AllU (hashN n h s) := by
  induction n generalizing h s with
  | zero => exact ⟨h8, hh⟩
  | succ n ih => exact ih (turnL_len.trans h8) (turnL_all hh) _
theorem hashN_snoc (n : Nat) (h : List Int) (s : List UInt8) : hashN (n + 1) h s = turnL (hashN n h s) (hashN n h s) hashK ((s.drop (64 * n)).take 64) := by
  induction n generalizing h s with
  | zero => simp [hashN]
  | succ n ih =>
    rw [hashN, ih]
    have e : (s.drop 64).drop (64 * n) = s.drop (64 * (n + 1)) := by rw [List.drop_drop]; congr 1; omega
    rw [e]
    rfl
/-- What stands behind a text: as many noughts as make whole blocks of it all, and how long it was. -/
def padB (rest : List UInt8) (n : Nat) : List UInt8 := rest ++ 128 :: (List.replicate ((119 - rest.length % 64) % 64) 0 ++ beB (8 * n) 8)
def outL (h : List Int) : List UInt8 := h.flatMap fun n => beB n.toNat 4
/-- A text's hash. -/
def shaL (s : List UInt8) : List UInt8 :=
  let rest := s.drop (64 * (s.length / 64))
  outL (hashN ((padB rest s.length).length / 64) (hashN (s.length / 64) hash0 s) (padB rest s.length))
theorem hash0_ok : hash0.length = 8 ∧ AllU hash0 := by
  refine ⟨by decide, ?_⟩
  intro z hz
  have : ∀ z ∈ hash0, 0 ≤ z ∧ z < 4294967296 := by decide
  exact this z hz
theorem hashK_ok : hashK.length = 64 ∧ AllU hashK := by
  refine ⟨by decide, ?_⟩
  intro z hz
  have : ∀ z ∈ hashK, 0 ≤ z ∧ z < 4294967296 := by decide
  exact this z hz
theorem outL_len {h : List Int} : (outL h).length = 4 * h.length := by
  induction h with
  | nil => rfl
  | cons a r ih =>
    unfold outL at ih ⊢
    rw [List.flatMap_cons, List.length_append, ih, beB_len, List.length_cons]
    omega
theorem shaL_len (s : List UInt8) : (shaL s).length = 32 := by
  unfold shaL
  rw [outL_len, (hashN_ok (hashN_ok hash0_ok.1 hash0_ok.2 _ _).1 (hashN_ok hash0_ok.1 hash0_ok.2 _ _).2 _ _).1]
theorem padB_len (rest : List UInt8) (n : Nat) (h : rest.length < 64) : 64 ∣ (padB rest n).length ∧ (padB rest n).length ≤ 128 := by
  unfold padB
  simp only [List.length_append, List.length_cons, List.length_replicate, beB_len]
  omega
end Go.Proofs.YtdfgmieinbmfkaaGreat

/-
  Plain: a key's own, a block enciphered, a text sealed and opened again.
-/
namespace Go.Proofs.YtdfgmieinbmfkaaGreat
open Go Go.RowKit

/-! ### tags -/
/-- A key's block, each byte xored. -/
def padK (key : List UInt8) (by_ : UInt8) : List UInt8 := (key ++ List.replicate (64 - key.length) 0).map (· ^^^ by_)
def tagL (key text : List UInt8) : List UInt8 := shaL (padK key 0x5c ++ shaL (padK key 0x36 ++ text))
theorem padK_len {key : List UInt8} {b : UInt8} (h : key.length ≤ 64) : (padK key b).length = 64 := by
  unfold padK
  rw [List.length_map, List.length_append, List.length_replicate]
  omega
theorem tagL_len (key text : List UInt8) : (tagL key text).length = 32 := shaL_len _

/-! ### the cipher -/
def twU (b : UInt8) : UInt8 := (b <<< 1) ^^^ ((b >>> 7) * 27)
def rolU (b : UInt8) (k : Nat) : UInt8 := UInt8.ofNat ((b.toNat * 2 ^ k) % 256 + b.toNat / 2 ^ (8 - k))
/-- What goes through all bytes, and S so far. -/
structure BoxM where
  p : UInt8
  q : UInt8
  s : List UInt8
def BoxM.q1 (b : BoxM) : UInt8 := b.q ^^^ (b.q <<< 1)
def BoxM.q2 (b : BoxM) : UInt8 := b.q1 ^^^ (b.q1 <<< 2)
def BoxM.q3 (b : BoxM) : UInt8 := b.q2 ^^^ (b.q2 <<< 4)
def BoxM.next (b : BoxM) : BoxM :=
  ⟨b.p ^^^ twU b.p, b.q3 ^^^ ((b.q3 >>> 7) * 9), b.s.set b.p.toNat (b.q ^^^ rolU b.q 1 ^^^ rolU b.q 2 ^^^ rolU b.q 3 ^^^ rolU b.q 4 ^^^ 0x63)⟩
def boxAt : Nat → BoxM
  | 0 => ⟨1, 1, List.replicate 256 0⟩
  | n + 1 => (boxAt n).next
def boxL : List UInt8 := (boxAt 255).s.set 0 0x63
theorem boxAt_len (n : Nat) : (boxAt n).s.length = 256 := by
  induction n with
  | zero => exact List.length_replicate
  | succ n ih => exact List.length_set.trans ih
theorem boxL_len : boxL.length = 256 := by rw [boxL, List.length_set, boxAt_len]
/-- The word that a word of the schedule is made with. -/
def wordK (i : Nat) (power : UInt8) (t : List UInt8) : List UInt8 :=
  let t1 := if i % 8 = 0 then [t.getD 1 0, t.getD 2 0, t.getD 3 0, t.getD 0 0] else t
  let t2 := if i % 4 = 0 then t1.map fun b => boxL.getD b.toNat 0 else t1
  if i % 8 = 0 then t2.set 0 (t2.getD 0 0 ^^^ power) else t2
/-- The schedule, so many words of it behind the first eight: its bytes, and the power. -/
def schedAt (key : List UInt8) : Nat → List UInt8 × UInt8
  | 0 => (key, 1)
  | n + 1 =>
    let w := (schedAt key n).1
    let t := wordK (n + 8) (schedAt key n).2 (w.drop (4 * (n + 7)))
    (w ++ (List.range 4).map (fun k => w.getD (4 * n + k) 0 ^^^ t.getD k 0), if (n + 8) % 8 = 0 then twU (schedAt key n).2 else (schedAt key n).2)
def schedL (key : List UInt8) : List UInt8 := (schedAt key 52).1
theorem schedAt_len {key : List UInt8} (h : key.length = 32) (n : Nat) : (schedAt key n).1.length = 32 + 4 * n := by
  induction n with
  | zero => exact h
  | succ n ih =>
    show (_ ++ _ : List UInt8).length = _
    rw [List.length_append, ih]
    simp
    omega
theorem schedL_len {key : List UInt8} (h : key.length = 32) : (schedL key).length = 240 := schedAt_len h 52
/-- A round's words xored. -/
def addK (w b : List UInt8) (round : Nat) : List UInt8 := (List.range 16).map fun i => b.getD i 0 ^^^ w.getD (16 * round + i) 0
/-- A block's columns mixed. -/
def mixK (b : List UInt8) : List UInt8 := (List.range 16).map fun i =>
  let n := fun k => b.getD (i / 4 * 4 + (i + k) % 4) 0
  twU (n 0) ^^^ twU (n 1) ^^^ n 1 ^^^ n 2 ^^^ n 3
def subK (b : List UInt8) : List UInt8 := (List.range 16).map fun i => boxL.getD (b.getD ((i + 4 * (i % 4)) % 16) 0).toNat 0
/-- So many rounds. -/
def roundK (w : List UInt8) : Nat → List UInt8 → List UInt8
  | 0, b => addK w b 0
  | r + 1, b => addK w (if r + 1 < 14 then mixK (subK (roundK w r b)) else subK (roundK w r b)) (r + 1)
def blockL (key b : List UInt8) : List UInt8 := roundK (schedL key) 14 b
theorem addK_len (w b : List UInt8) (r : Nat) : (addK w b r).length = 16 := by simp [addK]
theorem roundK_len (w b : List UInt8) (r : Nat) : (roundK w r b).length = 16 := by cases r <;> exact addK_len _ _ _
theorem blockL_len (key b : List UInt8) : (blockL key b).length = 16 := roundK_len _ _ _
/-- The stream's byte. -/
def streamAt (key nonce : List UInt8) (i : Nat) : UInt8 := (blockL key (nonce ++ beB (i / 16) 4)).getD (i % 16) 0
/-- A text, each byte xored with the stream's. -/
def streamL (key nonce text : List UInt8) : List UInt8 := text.mapIdx fun i b => b ^^^ streamAt key nonce i
theorem streamL_len (key nonce text : List UInt8) : (streamL key nonce text).length = text.length := by simp [streamL]
theorem streamL_back (key nonce text : List UInt8) : streamL key nonce (streamL key nonce text) = text := by
  unfold streamL
  refine List.ext_getElem (by simp) fun i h1 h2 => ?_
  simp only [List.getElem_mapIdx]
  rw [UInt8.xor_assoc, UInt8.xor_self, UInt8.xor_zero]

/-! ### seals -/
def numbersB (key boot n : Nat) : List UInt8 := putN key ++ (putN boot ++ putN n)
def dataL (k : List UInt8) (boot n : Nat) (text : List UInt8) : List UInt8 := streamL (tagL k [101, 110, 99]) (beB boot 4 ++ beB n 8) text
def stampL (k : List UInt8) (key boot n : Nat) (about data : List UInt8) : List UInt8 := tagL (tagL k [109, 97, 99]) (numbersB key boot n ++ (textN about ++ textN data))
/-- What a text is sealed to. -/
def sealB (k : List UInt8) (key boot n : Nat) (about text : List UInt8) : List UInt8 :=
  numbersB key boot n ++ (textN (dataL k boot n text) ++ stampL k key boot n about (dataL k boot n text))
/-- A key of the ring. -/
def ringK (master : List UInt8) (i : Nat) : List UInt8 := tagL master ([114, 105, 110, 103] ++ beB i 8)
theorem dataL_len (k : List UInt8) (boot n : Nat) (text : List UInt8) : (dataL k boot n text).length = text.length := streamL_len _ _ _
theorem dataL_back (k : List UInt8) (boot n : Nat) (text : List UInt8) : dataL k boot n (dataL k boot n text) = text := streamL_back _ _ _
theorem sealB_len {k : List UInt8} {key boot n : Nat} {about text : List UInt8} (hk : key ≤ 1048576) (hb : boot < 4294967296) (hn : n < 18446744073709551616) (ht : text.length ≤ 8192) : (sealB k key boot n about text).length ≤ text.length + 52 := by
  have h1 : sizeN key ≤ 3 := (sizeN_le 2 key).2 (by omega)
  have h2 : sizeN boot ≤ 5 := (sizeN_le 4 boot).2 (by omega)
  have h3 := size_u64 hn
  have h4 := sizeN_small (n := text.length) (by omega)
  unfold sealB numbersB
  simp only [List.length_append, putN_len, textN_len, dataL_len, stampL, tagL_len]
  omega
end Go.Proofs.YtdfgmieinbmfkaaGreat
