/-
  The plain law of a disk without a fuse.
-/
import Derived.Test.YtafgohnpnaiomaaLawK
namespace Go.Proofs.Ytafgohnpnaiomaa
open Go Go.RowKit

theorem Dk.burn_free {d : Dk} (h : d.fuse = -1) : d.burn = (d, true) := by
  unfold Dk.burn
  rw [if_neg (by omega), if_neg (by omega)]
theorem Dk.write_free {d : Dk} (h : d.fuse = -1) (ho : d.off = false) {i : Nat} (hi : i < d.lasts.length) {b : ByteArray} (hb : b.size = 64) : d.write (i : Int) b = (d.push i b, 0) := by
  have ht : d.there (i : Int) = true := by simp [Dk.there]; omega
  unfold Dk.write
  rw [ho, ht, Dk.burn_free h]
  simp [hb]
theorem Dk.push_now (d : Dk) (i j : Nat) (b : ByteArray) (hi : i < d.waits.length) : (d.push i b).now j = if i = j then b else d.now j := by
  unfold Dk.now Dk.push Dk.at_ Dk.last
  simp only [List.getD_eq_getElem?_getD, List.getElem?_set]
  by_cases h : i = j
  · subst h
    simp [hi]
  · simp [h]
theorem Dk.sync_free {d : Dk} (h : d.fuse = -1) (ho : d.off = false) : d.sync = (d.flush, 0) := by
  unfold Dk.sync
  rw [ho, Dk.burn_free h]
  simp
theorem Dk.flush_now (d : Dk) (i : Nat) (hi : i < d.lasts.length) : d.flush.now i = d.now i := by
  have hw : (d.waits.map fun _ => ([] : List ByteArray)).getD i [] = [] := by
    rw [List.getD_eq_getElem?_getD, List.getElem?_map]
    cases d.waits[i]? <;> rfl
  show ((d.waits.map fun _ => ([] : List ByteArray)).getD i []).getLast?.getD (((List.range d.lasts.length).map d.now).getD i ByteArray.empty) = d.now i
  rw [hw, List.getD_eq_getElem?_getD, List.getElem?_map, List.getElem?_range hi]
  rfl
theorem Dk.flush_pend (d : Dk) : d.flush.pend = 0 := by
  show ((d.waits.map fun _ => ([] : List ByteArray)).map List.length).sum = 0
  rw [List.map_map]
  generalize d.waits = l
  induction l with
  | nil => rfl
  | cons x l ih => simp only [List.map_cons, List.sum_cons, ih]; rfl

theorem writeN_free {d : Dk} (h : d.fuse = -1) (ho : d.off = false) (hw : d.waits.length = d.lasts.length) (a : Nat) (l : List Pt) (hs : ∀ q ∈ l, q.sec.size = 64) (j : Nat) (hj : j ≤ l.length) (ha : a + j ≤ d.lasts.length) :
    (writeN d a l j).2 = 0 ∧ (writeN d a l j).1.fuse = -1 ∧ (writeN d a l j).1.off = false ∧
      ∀ i, (writeN d a l j).1.now i = if a ≤ i ∧ i < a + j then (l.getD (i - a) ⟨0, 0, 0, []⟩).sec else d.now i := by
  induction j with
  | zero => exact ⟨rfl, h, ho, fun i => by rw [if_neg (by omega)]; rfl⟩
  | succ j ih =>
    obtain ⟨i1, i2, i3, i4⟩ := ih (by omega) (by omega)
    obtain ⟨s1, s2, s3⟩ := writeN_same d a l hw j
    have hq : (l.getD j ⟨0, 0, 0, []⟩).sec.size = 64 := by
      rw [List.getD_eq_getElem?_getD, List.getElem?_eq_getElem (by omega)]
      exact hs _ (List.getElem_mem _)
    have hwr := Dk.write_free i2 i3 (i := a + j) (by rw [s1]; omega) hq
    rw [writeN, if_neg (by rw [i1]; simp), hwr]
    refine ⟨rfl, i2, i3, fun i => ?_⟩
    rw [Dk.push_now _ _ _ _ (by rw [s2, hw]; omega), i4]
    by_cases e : a + j = i
    · subst e
      rw [if_pos rfl, if_pos (by omega), Nat.add_sub_cancel_left]
    · rw [if_neg e]
      by_cases e2 : a ≤ i ∧ i < a + j
      · rw [if_pos e2, if_pos (by omega)]
      · rw [if_neg e2, if_neg (by omega)]
end Go.Proofs.Ytafgohnpnaiomaa
