/-
  Bytes that are turned.
-/
import Derived.Test.YtpfbgmfkeofefaaGreatClose
import Derived.Test.YtpfbgmfkeofefaaGreatDiskN
namespace Go.Proofs.YtpfbgmfkeofefaaGreat
open Go Go.RowKit

theorem mul_xor (n a b : Nat) : 2 ^ n * (a ^^^ b) = (2 ^ n * a) ^^^ (2 ^ n * b) := by
  have h := Nat.shiftLeft_xor_distrib (a := a) (b := b) (i := n)
  simpa [Nat.shiftLeft_eq, Nat.mul_comm] using h
theorem leN_app_xor (a b : List UInt8) : leN (a ++ b) = leN a ^^^ (2 ^ (8 * a.length) * leN b) := by
  induction a with
  | nil => simp [leN]
  | cons y a ih =>
    have e : 2 ^ 8 * (2 ^ (8 * a.length) * leN b) = 2 ^ (8 * (a.length + 1)) * leN b := by
      rw [← Nat.mul_assoc, ← Nat.pow_add]
      congr 2
      omega
    rw [List.cons_append, leN_xor, ih, mul_xor, e, leN_xor, List.length_cons, Nat.xor_assoc]
theorem leN_set (l : List UInt8) (j : Nat) (c : UInt8) (hj : j < l.length) : leN (l.set j (l.getD j 0 ^^^ c)) = leN l ^^^ (2 ^ (8 * j) * c.toNat) := by
  have hg : l.getD j 0 = l[j] := by rw [List.getD_eq_getElem?_getD, List.getElem?_eq_getElem hj]; rfl
  have hl : l = l.take j ++ l[j] :: l.drop (j + 1) := by
    rw [← List.drop_eq_getElem_cons hj, List.take_append_drop]
  have htl : (l.take j).length = j := by rw [List.length_take]; omega
  have h1 : leN l = leN (l.take j) ^^^ (2 ^ (8 * j) * (l[j].toNat ^^^ (2 ^ 8 * leN (l.drop (j + 1))))) := by
    have h := leN_app_xor (l.take j) (l[j] :: l.drop (j + 1))
    rw [← hl, htl, leN_xor] at h
    exact h
  have h2 : leN (l.set j (l[j] ^^^ c)) = leN (l.take j) ^^^ (2 ^ (8 * j) * ((l[j] ^^^ c).toNat ^^^ (2 ^ 8 * leN (l.drop (j + 1))))) := by
    rw [List.set_eq_take_append_cons_drop, if_pos hj, leN_app_xor, htl, leN_xor]
  rw [hg, h2, h1, UInt8.toNat_xor]
  simp only [mul_xor]
  simp only [Nat.xor_comm, xor_lc]

/-- The first k bytes of x turned into l from the place a on. -/
def turnK (l : List UInt8) (a : Nat) (x : List UInt8) : Nat → List UInt8
  | 0 => l
  | k + 1 => (turnK l a x k).set (a + k) ((turnK l a x k).getD (a + k) 0 ^^^ x.getD k 0)
theorem turnK_len (l : List UInt8) (a : Nat) (x : List UInt8) (k : Nat) : (turnK l a x k).length = l.length := by
  induction k with
  | zero => rfl
  | succ k ih => rw [turnK, List.length_set, ih]
theorem turnK_leN (l : List UInt8) (a : Nat) (x : List UInt8) (k : Nat) (h : a + k ≤ l.length) (hk : k ≤ x.length) : leN (turnK l a x k) = leN l ^^^ (2 ^ (8 * a) * leN (x.take k)) := by
  induction k with
  | zero => simp [turnK, leN]
  | succ k ih =>
    have htl : (x.take k).length = k := by rw [List.length_take]; omega
    have hg : x.getD k 0 = x[k] := by rw [List.getD_eq_getElem?_getD, List.getElem?_eq_getElem (by omega)]; rfl
    have e : 2 ^ (8 * a) * (2 ^ (8 * k) * (x[k]'(by omega)).toNat) = 2 ^ (8 * (a + k)) * (x[k]'(by omega)).toNat := by
      rw [← Nat.mul_assoc, ← Nat.pow_add, Nat.mul_add]
    have h0 : leN [x[k]'(by omega)] = (x[k]'(by omega)).toNat := by simp [leN]
    rw [turnK, leN_set _ _ _ (by rw [turnK_len]; omega), ih (by omega) (by omega), hg, List.take_succ_eq_append_getElem (by omega), leN_app_xor, htl, h0, mul_xor, e, Nat.xor_assoc]
/-- What a sound sector is that was turned in at most four bytes: as it was, or no longer sound. -/
theorem turn_look (s : List UInt8) (a : Nat) (x : List UInt8) (hs : (lookL s).2 = 1) (hx : x.length ≤ 4) (ha : a + x.length ≤ 64) (hne : turnK s a x x.length ≠ s) : (lookL (turnK s a x x.length)).2 ≠ 1 := by
  intro h
  have f1 := look_fits hs
  have f2 := look_fits h
  have hl := turnK_leN s a x x.length (by rw [f1.1]; exact ha) (Nat.le_refl _)
  rw [List.take_of_length_le (Nat.le_refl _)] at hl
  have hlt := leN_lt x
  have hp : 2 ^ (8 * x.length) ≤ 2 ^ 32 := Nat.pow_le_pow_right (by omega) (by omega)
  have h0 := fits_burst f1 f2 (8 * a) (leN x) (by omega) (by omega) hl
  apply hne
  rw [h0, Nat.mul_zero, Nat.xor_zero] at hl
  have inj : ∀ (a b : List UInt8), a.length = b.length → leN a = leN b → a = b := by
    intro a
    induction a with
    | nil => intro b hb _; exact (List.eq_nil_of_length_eq_zero hb.symm).symm
    | cons y a ih =>
      intro b hb he
      cases b with
      | nil => simp at hb
      | cons z b =>
        simp only [leN] at he
        have hy := y.toNat_lt
        have hz := z.toNat_lt
        have e1 : y = z := UInt8.toNat_inj.1 (by omega)
        rw [e1, ih b (by simpa using hb) (by omega)]
  exact inj _ _ (turnK_len _ _ _ _) hl
theorem turnK_get (l : List UInt8) (a : Nat) (x : List UInt8) (k j : Nat) (h : j < a ∨ a + k ≤ j) : (turnK l a x k).getD j 0 = l.getD j 0 := by
  induction k with
  | zero => rfl
  | succ k ih =>
    rw [turnK, List.getD_eq_getElem?_getD, List.getElem?_set_ne (by omega), ← List.getD_eq_getElem?_getD, ih (by omega)]

/-- Spoil. -/
def Dk.spoil (d : Dk) (i at_ : Int) (x : ByteArray) : Dk × Int :=
  if d.there i && decide (x.size ≤ 4 ∧ 0 ≤ at_ ∧ at_ ≤ 64 - x.size) then
    ({ d with lasts := d.lasts.set i.toNat (str (turnK (d.last i.toNat).data.toList at_.toNat x.data.toList x.size)) }, 0)
  else (d, 1)
end Go.Proofs.YtpfbgmfkeofefaaGreat
