/-
  The sum finds whatever is turned within 32 bits that follow one another.
-/
import Derived.Test.YtafgohnpnaiomaaClose
namespace Go.Proofs.Ytafgohnpnaiomaa
open Go Go.RowKit

/-- One bit's step of the register. -/
def Bs (x : Nat) : Nat := (x / 2) ^^^ (if x % 2 = 1 then 3988292384 else 0)
def Bn : Nat → Nat → Nat
  | 0, x => x
  | n + 1, x => Bn n (Bs x)
theorem Bn_add (m n x : Nat) : Bn (m + n) x = Bn n (Bn m x) := by
  induction m generalizing x with
  | zero => simp [Bn]
  | succ m ih => rw [Nat.add_right_comm, Bn, ih, Bn]
theorem Bn_succ (n x : Nat) : Bn (n + 1) x = Bs (Bn n x) := by rw [Bn_add]; rfl
theorem xor_lc (a b c : Nat) : a ^^^ (b ^^^ c) = b ^^^ (a ^^^ c) := by rw [← Nat.xor_assoc, Nat.xor_comm a b, Nat.xor_assoc]
theorem xor_half (a b : Nat) : (a ^^^ b) / 2 = a / 2 ^^^ b / 2 := by
  have h := Nat.shiftRight_xor_distrib (a := a) (b := b) (i := 1)
  simpa [Nat.shiftRight_eq_div_pow] using h
theorem xor_odd (a b : Nat) : (a ^^^ b) % 2 = (a + b) % 2 := by
  have h := Nat.xor_mod_two_pow (a := a) (b := b) (n := 1)
  rw [show (2 : Nat) ^ 1 = 2 from rfl] at h
  rw [h]
  rcases Nat.mod_two_eq_zero_or_one a with ha | ha <;> rcases Nat.mod_two_eq_zero_or_one b with hb | hb <;> rw [ha, hb] <;> simp <;> omega
theorem Bs_xor (a b : Nat) : Bs (a ^^^ b) = Bs a ^^^ Bs b := by
  unfold Bs
  rw [xor_half, xor_odd]
  rcases Nat.mod_two_eq_zero_or_one a with ha | ha <;> rcases Nat.mod_two_eq_zero_or_one b with hb | hb
  · rw [if_neg (by omega), if_neg (by omega), if_neg (by omega)]; simp
  · rw [if_pos (by omega), if_neg (by omega), if_pos (by omega)]; simp [Nat.xor_assoc]
  · rw [if_pos (by omega), if_pos (by omega), if_neg (by omega)]; rw [Nat.xor_zero, Nat.xor_assoc, Nat.xor_assoc, Nat.xor_comm (b / 2)]
  · rw [if_neg (by omega), if_pos (by omega), if_pos (by omega)]
    have e : a / 2 ^^^ 3988292384 ^^^ (b / 2 ^^^ 3988292384) = a / 2 ^^^ (b / 2 ^^^ (3988292384 ^^^ 3988292384)) := by rw [Nat.xor_assoc, xor_lc 3988292384]
    rw [e, Nat.xor_self]
    simp
theorem Bn_xor (n a b : Nat) : Bn n (a ^^^ b) = Bn n a ^^^ Bn n b := by
  induction n generalizing a b with
  | zero => rfl
  | succ n ih => rw [Bn, Bs_xor, ih, Bn, Bn]
theorem Bn_zero (n : Nat) : Bn n 0 = 0 := by
  induction n with
  | zero => rfl
  | succ n ih => rw [Bn]; exact ih
theorem Bn_up (n z : Nat) : Bn n (2 ^ n * z) = z := by
  induction n with
  | zero => simp [Bn]
  | succ n ih =>
    have e : 2 ^ (n + 1) * z = 2 * (2 ^ n * z) := by rw [Nat.pow_succ, Nat.mul_comm (2 ^ n) 2, Nat.mul_assoc]
    rw [Bn, e, Bs, if_neg (by omega), Nat.mul_div_cancel_left _ (by omega), Nat.xor_zero, ih]
theorem Bs_lt (x : Nat) (h : x < 2 ^ 32) : Bs x < 2 ^ 32 := by
  unfold Bs
  refine Nat.xor_lt_two_pow (by omega) ?_
  split <;> decide
theorem Bs_ne (x : Nat) (h : x < 2 ^ 32) (h0 : x ≠ 0) : Bs x ≠ 0 := by
  unfold Bs
  intro e
  have e2 : x / 2 = (if x % 2 = 1 then 3988292384 else 0) := by
    have := congrArg (· ^^^ (if x % 2 = 1 then 3988292384 else 0)) e
    simpa [Nat.xor_assoc] using this
  split at e2 <;> omega
theorem Bn_ne (n x : Nat) (h : x < 2 ^ 32) (h0 : x ≠ 0) : Bn n x ≠ 0 := by
  induction n generalizing x with
  | zero => exact h0
  | succ n ih => exact ih (Bs x) (Bs_lt x h) (Bs_ne x h h0)
theorem Bn_lt (n x : Nat) (h : x < 2 ^ 32) : Bn n x < 2 ^ 32 := by
  induction n generalizing x with
  | zero => exact h
  | succ n ih => exact ih (Bs x) (Bs_lt x h)

theorem ofInt_nat (a : Nat) : BitVec.ofInt 32 (a : Int) = BitVec.ofNat 32 a := by simp
theorem xorN (a b : Nat) (ha : a < 4294967296) (hb : b < 4294967296) : bits .xor .u32 (a : Int) (b : Int) = ((a ^^^ b : Nat) : Int) := by
  have e : bits .xor .u32 (a : Int) (b : Int) = IntKind.u32.wrap ((BitVec.ofInt 32 (a : Int) ^^^ BitVec.ofInt 32 (b : Int)).toNat : Int) := rfl
  have := Nat.xor_lt_two_pow (n := 32) ha hb
  rw [e, ofInt_nat, ofInt_nat, BitVec.toNat_xor, BitVec.toNat_ofNat, BitVec.toNat_ofNat, Nat.mod_eq_of_lt ha, Nat.mod_eq_of_lt hb, IntKind.wrap_u32']
  omega
theorem andN (a : Nat) (ha : a < 4294967296) : bits .and .u32 (a : Int) 15 = ((a % 16 : Nat) : Int) := by
  have e : bits .and .u32 (a : Int) 15 = IntKind.u32.wrap ((BitVec.ofInt 32 (a : Int) &&& BitVec.ofInt 32 15).toNat : Int) := rfl
  have e2 : (BitVec.ofInt 32 15).toNat = 15 := rfl
  have e3 := Nat.and_two_pow_sub_one_eq_mod a 4
  rw [show (2 : Nat) ^ 4 - 1 = 15 from rfl, show (2 : Nat) ^ 4 = 16 from rfl] at e3
  rw [e, ofInt_nat, BitVec.toNat_and, BitVec.toNat_ofNat, e2, Nat.mod_eq_of_lt ha, e3, IntKind.wrap_u32']
  omega
theorem tb_eq : ∀ i : Fin 16, tb i.val = (Bn 4 i.val : Int) := by decide +kernel
theorem nib_split (x : Nat) : Bn 4 x = x / 16 ^^^ Bn 4 (x % 16) := by
  have h : x = (x % 16) ^^^ (2 ^ 4 * (x / 16)) := by
    have h1 : (x % 16) ^^^ (2 ^ 4 * (x / 16)) = (x % 16) + 2 ^ 4 * (x / 16) := by
      apply Nat.eq_of_testBit_eq
      intro i
      rw [Nat.add_comm, Nat.testBit_xor, Nat.testBit_two_pow_mul_add _ (show x % 16 < 2 ^ 4 by omega), Nat.testBit_two_pow_mul]
      by_cases hi : i < 4
      · have h4 : ¬ 4 ≤ i := by omega
        simp [hi, h4]
      · have : (x % 16).testBit i = false := Nat.testBit_lt_two_pow (Nat.lt_of_lt_of_le (show x % 16 < 2 ^ 4 by omega) (Nat.pow_le_pow_right (by omega) (by omega)))
        have h4 : 4 ≤ i := by omega
        simp [hi, this, h4]
    omega
  rw [h, Bn_xor, Bn_up, Nat.xor_comm]
  congr 1
  · rw [← h]
  · rw [← h]
theorem nibI_nat (x : Nat) (h : x < 4294967296) : nibI (x : Int) = (Bn 4 x : Int) := by
  have h4 : Bn 4 (x % 16) < 4294967296 := Bn_lt 4 (x % 16) (by omega)
  have e := tb_eq ⟨x % 16, by omega⟩
  simp only at e
  unfold nibI
  rw [andN x h, Int.toNat_natCast, e, show (x : Int) / 16 = ((x / 16 : Nat) : Int) from rfl, xorN _ _ (by omega) h4, ← nib_split]
theorem crcB_nat (c : Nat) (y : UInt8) (h : c < 4294967296) : crcB (c : Int) y = (Bn 8 (c ^^^ y.toNat) : Int) := by
  have hy := y.toNat_lt
  have hx : c ^^^ y.toNat < 4294967296 := Nat.xor_lt_two_pow (n := 32) h (by omega)
  have h4 : Bn 4 (c ^^^ y.toNat) < 4294967296 := Bn_lt 4 _ hx
  unfold crcB
  rw [xorN _ _ h (by omega), nibI_nat _ hx, nibI_nat _ h4, ← Bn_add]
/-- The register behind these bytes. -/
def crcN (c : Nat) (l : List UInt8) : Nat := l.foldl (fun c y => Bn 8 (c ^^^ y.toNat)) c
theorem crcN_lt (c : Nat) (l : List UInt8) (h : c < 4294967296) : crcN c l < 4294967296 := by
  induction l generalizing c with
  | nil => exact h
  | cons y l ih =>
    have hy := y.toNat_lt
    exact ih _ (Bn_lt 8 _ (Nat.xor_lt_two_pow (n := 32) h (by omega)))
theorem crcL_nat (l : List UInt8) : crcL l = (crcN 4294967295 l : Int) := by
  have key : ∀ (l : List UInt8) (c : Nat), c < 4294967296 → l.foldl crcB (c : Int) = (crcN c l : Int) := by
    intro l
    induction l with
    | nil => intro c _; rfl
    | cons y l ih =>
      intro c h
      have hy := y.toNat_lt
      rw [List.foldl_cons, crcB_nat c y h, ih _ (Bn_lt 8 _ (Nat.xor_lt_two_pow (n := 32) h (by omega)))]
      rfl
  exact key l 4294967295 (by omega)
theorem sumN_nat (l : List UInt8) : sumN l = 4294967295 ^^^ crcN 4294967295 l := by
  have h := crcN_lt 4294967295 l (by omega)
  have e : IntKind.u32.max = ((4294967295 : Nat) : Int) := rfl
  unfold sumN sumI
  rw [crcL_nat, e, xorN _ _ (by omega) h, Int.toNat_natCast]
theorem leN_xor (y : UInt8) (l : List UInt8) : leN (y :: l) = y.toNat ^^^ (2 ^ 8 * leN l) := by
  have hy := y.toNat_lt
  rw [leN]
  apply Nat.eq_of_testBit_eq
  intro i
  rw [show (256 : Nat) = 2 ^ 8 from rfl, Nat.add_comm, Nat.testBit_xor, Nat.testBit_two_pow_mul_add _ (show y.toNat < 2 ^ 8 by omega), Nat.testBit_two_pow_mul]
  by_cases hi : i < 8
  · have h4 : ¬ 8 ≤ i := by omega
    simp [hi, h4]
  · have : y.toNat.testBit i = false := Nat.testBit_lt_two_pow (Nat.lt_of_lt_of_le (show y.toNat < 2 ^ 8 by omega) (Nat.pow_le_pow_right (by omega) (by omega)))
    have h4 : 8 ≤ i := by omega
    simp [hi, this, h4]
theorem crcN_word (c : Nat) (l : List UInt8) : crcN c l = Bn (8 * l.length) (c ^^^ leN l) := by
  induction l generalizing c with
  | nil => simp [crcN, leN, Bn]
  | cons y l ih =>
    have h : crcN c (y :: l) = crcN (Bn 8 (c ^^^ y.toNat)) l := rfl
    rw [h, ih, List.length_cons, show 8 * (l.length + 1) = 8 + 8 * l.length by omega, Bn_add, leN_xor, ← Nat.xor_assoc, Bn_xor 8 (c ^^^ y.toNat), Bn_up]
/-- A sector whose sum is right. -/
def fits (s : List UInt8) : Prop := s.length = 64 ∧ leN (s.drop 60) = sumN (s.take 60)
theorem fits_res (s : List UInt8) (h : fits s) : Bn 512 (4294967295 ^^^ leN s) = Bn 32 4294967295 := by
  obtain ⟨hl, hs⟩ := h
  have e : crcN 4294967295 s = crcN (crcN 4294967295 (s.take 60)) (s.drop 60) := by
    unfold crcN
    rw [← List.foldl_append, List.take_append_drop]
  have e2 := crcN_word 4294967295 s
  have e3 := crcN_word (crcN 4294967295 (s.take 60)) (s.drop 60)
  rw [hl] at e2
  rw [List.length_drop, hl, hs, sumN_nat] at e3
  rw [show 512 = 8 * 64 from rfl, ← e2, e, e3, Nat.xor_comm 4294967295, ← Nat.xor_assoc, Nat.xor_self, Nat.zero_xor]
/-- Two sectors whose sums are right are not apart in 32 bits that follow one another alone. -/
theorem fits_burst {s t : List UInt8} (hs : fits s) (ht : fits t) (q e : Nat) (he : e < 2 ^ 32) (hq : q ≤ 512) (h : leN t = leN s ^^^ (2 ^ q * e)) : e = 0 := by
  apply Classical.byContradiction
  intro h0
  have r1 := fits_res s hs
  have r2 := fits_res t ht
  rw [h, ← Nat.xor_assoc, Bn_xor, r1] at r2
  have r3 : Bn 512 (2 ^ q * e) = 0 := by
    have := congrArg (Bn 32 4294967295 ^^^ ·) r2
    simpa [← Nat.xor_assoc] using this
  rw [show 512 = q + (512 - q) by omega, Bn_add, Bn_up] at r3
  exact Bn_ne _ e he h0 r3
theorem look_fits {s : List UInt8} (h : (lookL s).2 = 1) : fits s := by
  unfold lookL at h
  split at h
  · simp at h
  · split at h
    · simp at h
    · split at h
      · simp at h
      · rename_i h1 h2 h3
        exact ⟨by simpa using h1, by simpa using h3⟩
theorem look_of_fits {s : List UInt8} (h : fits s) (h0 : s ≠ List.replicate 64 0) : lookL s = (s.take 60, 1) := by
  unfold lookL
  rw [if_neg (by simpa using h.1), if_neg h0, if_neg (by simpa using h.2)]
end Go.Proofs.Ytafgohnpnaiomaa
