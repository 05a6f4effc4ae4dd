/-
  The plain law of what is kept: what was written is what is read.
-/
import Derived.Test.YtafgohnpnaiomaaKeptI
namespace Go.Proofs.Ytafgohnpnaiomaa
open Go Go.RowKit

theorem lookL_closeL (b : List UInt8) (hb : b.length = 60) (hz : b ≠ List.replicate 60 0) (hs : sumN b < 2 ^ (8 * 4)) : lookL (closeL b) = (b, 1) := by
  have hl : (leB (sumN b) 4).length = 4 := leB_len _ _
  have h1 : (closeL b).length = 64 := by simp [closeL, hb, hl]
  have h2 : (closeL b).take 60 = b := by rw [closeL, List.take_append_of_le_length (by omega), List.take_of_length_le (by omega)]
  have h3 : (closeL b).drop 60 = leB (sumN b) 4 := by rw [closeL, List.drop_append_of_le_length (by omega), List.drop_of_length_le (by omega)]; rfl
  have h4 : closeL b ≠ List.replicate 64 0 := by
    intro e
    apply hz
    rw [← h2, e]
    rfl
  rw [lookL, if_neg (by omega), if_neg h4, h2, h3, leN_leB _ _ hs, if_neg (by simp)]

theorem readL_body (p : Pt) (hg : p.gen < 2 ^ (8 * 8)) (hn : p.number < 256) (ha : p.all < 256) (ht : p.text.length ≤ 48) : readL p.body = (p, true) := by
  obtain ⟨g, n, a, t⟩ := p
  simp only at hg hn ha ht
  have hl : (leB g 8).length = 8 := leB_len _ _
  have hb : (⟨g, n, a, t⟩ : Pt).body = leB g 8 ++ ([UInt8.ofNat n, UInt8.ofNat a, UInt8.ofNat t.length, 0] ++ (t ++ List.replicate (48 - t.length) 0)) := by simp [Pt.body]
  have h1 : (Pt.body ⟨g, n, a, t⟩).take 8 = leB g 8 := by rw [hb, List.take_append_of_le_length (by omega), List.take_of_length_le (by omega)]
  have hd : ∀ i, (Pt.body ⟨g, n, a, t⟩).getD (8 + i) 0 = ([UInt8.ofNat n, UInt8.ofNat a, UInt8.ofNat t.length, 0] ++ (t ++ List.replicate (48 - t.length) 0)).getD i 0 := by
    intro i
    rw [hb, List.getD_eq_getElem?_getD, List.getD_eq_getElem?_getD, List.getElem?_append_right (by omega), hl, Nat.add_sub_cancel_left]
  have h8 : (Pt.body ⟨g, n, a, t⟩).getD 8 0 = UInt8.ofNat n := hd 0
  have h9 : (Pt.body ⟨g, n, a, t⟩).getD 9 0 = UInt8.ofNat a := hd 1
  have h10 : (Pt.body ⟨g, n, a, t⟩).getD 10 0 = UInt8.ofNat t.length := hd 2
  have h11 : (Pt.body ⟨g, n, a, t⟩).getD 11 0 = 0 := hd 3
  have hdr : ∀ i, (Pt.body ⟨g, n, a, t⟩).drop (12 + i) = (t ++ List.replicate (48 - t.length) 0).drop i := by
    intro i
    rw [hb, ← List.append_assoc, ← List.drop_drop, List.drop_left' (by simp [hl])]
  have hu : ∀ x, x < 256 → (UInt8.ofNat x).toNat = x := fun x hx => by simp; omega
  rw [readL, h8, h9, h10, h11, h1, hu n hn, hu a ha, hu t.length (by omega), if_neg (by omega), leN_leB _ _ hg]
  have e0 := hdr 0
  rw [Nat.add_zero] at e0
  rw [e0, hdr t.length]
  simp

theorem chunks (t : List UInt8) (n : Nat) : ((List.range n).flatMap fun i => (t.drop (48 * i)).take 48) = t.take (48 * n) := by
  induction n with
  | zero => simp
  | succ n ih => rw [List.range_succ, List.flatMap_append, ih]; simp [List.take_add, Nat.mul_add]
theorem textL_cut (t : List UInt8) (g : Nat) : textL (cutL t g) = t := by
  have h := chunks t (allOf t.length)
  rw [textL, cutL, List.flatMap_map]
  rw [h, List.take_of_length_le]
  unfold allOf
  omega
theorem holdL_cut (t : List UInt8) (g : Nat) (rest : List Pt) (hg : g ≠ 0) (ht : t.length ≤ 400) : holdL (cutL t g ++ rest) = (t, g) := by
  have hn : 0 < (cutL t g).length := by rw [cutL_len]; unfold allOf; omega
  have h0 := cutL_get t g 0 hn
  obtain ⟨p, l, e⟩ : ∃ p l, cutL t g = p :: l := by
    cases h : cutL t g with
    | nil => rw [h] at hn; simp at hn
    | cons p l => exact ⟨p, l, rfl⟩
  have hp : p.gen = g ∧ p.all = allOf t.length := by
    have h1 : (cutL t g)[0] = p := by simp [e]
    rw [h1] at h0
    exact ⟨h0.1, h0.2.2.1⟩
  have hfg : firstGen (cutL t g ++ rest) = g := by rw [e]; exact hp.1
  have hfa : firstAll (cutL t g ++ rest) = allOf t.length := by rw [e]; exact hp.2
  have htk : (cutL t g ++ rest).take (allOf t.length) = cutL t g := by rw [List.take_append_of_le_length (by rw [cutL_len]; omega), List.take_of_length_le (by rw [cutL_len]; omega)]
  rw [holdL, hfg, hfa, htk, textL_cut, htk, if_neg hg, if_neg (by omega), if_pos rfl]
end Go.Proofs.Ytafgohnpnaiomaa
