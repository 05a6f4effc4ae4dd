/-
  The plain law of a slot.
-/
import Derived.Test.YtafgohnpnaiomaaLawD
namespace Go.Proofs.Ytafgohnpnaiomaa
open Go Go.RowKit

/-- A part that a record can have. -/
structure Pt.ok (p : Pt) : Prop where
  gen : 0 < p.gen
  gen' : p.gen < 2 ^ (8 * 8)
  number : p.number < 256
  all : p.all < 256
  text : p.text.length ≤ 48
  all0 : 0 < p.all
theorem body_ne (p : Pt) (h : p.ok) : p.body ≠ List.replicate 60 0 := by
  intro e
  have h1 := (readL_body p h.gen' h.number h.all h.text)
  rw [e] at h1
  have h2 : (readL (List.replicate 60 0)).1.gen = p.gen := by rw [h1]
  have h3 : (readL (List.replicate 60 0)).1.gen = 0 := by decide
  have := h.gen
  omega
theorem look_sec (p : Pt) (h : p.ok) : lookL p.sec.data.toList = (p.body, 1) := by
  have e : p.sec.data.toList = closeL p.body := by simp [Pt.sec, str]
  rw [e]
  exact lookL_closeL _ (p.body_len h.text) (body_ne p h) (by have := sumN_lt p.body; have e2 : (2 : Nat) ^ (8 * 4) = 4294967296 := by decide
                                                             omega)

/-- A slot: parts from its beginning on, blank behind them. -/
structure SlotIs (d : Dk) (a : Nat) (l : List Pt) : Prop where
  len : l.length ≤ 10
  ok : ∀ p ∈ l, p.ok
  full : ∀ i (h : i < l.length), d.now (a + i) = l[i].sec
  blank : ∀ i, l.length ≤ i → i < 10 → (d.now (a + i)).data.toList = List.replicate 64 0
def gensL (l : List Pt) (s : Nat) : Nat := l.foldl (fun m p => max m p.gen) s
theorem slotAt_is {d : Dk} {a : Nat} {l : List Pt} (h : SlotIs d a l) (seen j : Nat) (hj : j ≤ 10) :
    slotAt d a seen j = ⟨l.take j, decide (j ≤ l.length), gensL (l.take j) seen, false⟩ := by
  induction j with
  | zero => simp [slotAt, gensL]
  | succ j ih =>
    rw [slotAt_succ, ih (by omega), slotStep, if_neg (by simp)]
    by_cases hl : j < l.length
    · have hk := h.ok _ (List.getElem_mem hl)
      rw [h.full j hl, look_sec _ hk, if_neg (by simp), if_pos rfl, readL_body _ hk.gen' hk.number hk.all hk.text]
      rw [decide_eq_true (show j ≤ l.length by omega), decide_eq_true (show j + 1 ≤ l.length by omega), gensL, gensL, List.take_succ_eq_append_getElem hl, List.foldl_append]
      rfl
    · have hb : lookL (d.now (a + j)).data.toList = ([], 0) := by
        rw [h.blank j (by omega) (by omega)]
        unfold lookL
        rw [if_neg (by simp), if_pos rfl]
      rw [hb, if_neg (by decide), if_neg (by decide), decide_eq_false (show ¬ j + 1 ≤ l.length by omega), List.take_of_length_le (by omega), List.take_of_length_le (by omega)]
theorem cutL_ok (t : List UInt8) (g : Nat) (hg : 0 < g) (hg2 : g < 2 ^ (8 * 8)) (ht : t.length ≤ 400) : ∀ p ∈ cutL t g, p.ok := by
  intro p hp
  obtain ⟨i, hi, rfl⟩ := List.mem_iff_getElem.1 hp
  obtain ⟨c1, c2, c3, c4⟩ := cutL_get t g i hi
  have hn : (cutL t g).length ≤ 9 := by rw [cutL_len]; unfold allOf; omega
  rw [cutL_len] at hn
  exact ⟨by omega, by omega, by rw [cutL_len] at hi; omega, by omega, c4, by rw [c3]; unfold allOf; omega⟩
theorem sec_size (p : Pt) (h : p.ok) : p.sec.size = 64 := by
  rw [Pt.sec, str_size, closeL, List.length_append, p.body_len h.text, leB_len]
/-- A slot that is put. -/
theorem slot_put {d : Dk} (h : d.fuse = -1) (ho : d.off = false) (hw : d.waits.length = d.lasts.length) {a : Nat} {l : List Pt} (hl : SlotIs d a l) (ha : a + 10 ≤ d.lasts.length) (t : List UInt8) (g : Nat) (hg : 0 < g) (hg2 : g < 2 ^ (8 * 8)) (ht : t.length ≤ 400) :
    SlotIs (writeN d a (cutL t g) (allOf t.length)).1.flush a (cutL t g ++ l.drop (allOf t.length)) := by
  have hn : allOf t.length ≤ 9 := by unfold allOf; omega
  have hc := cutL_len t g
  have hk := cutL_ok t g hg hg2 ht
  have hlen := hl.len
  obtain ⟨w1, w2, w3, w4⟩ := writeN_free h ho hw a (cutL t g) (fun q hq => sec_size q (hk q hq)) (allOf t.length) (by omega) (by omega)
  obtain ⟨s1, s2, s3⟩ := writeN_same d a (cutL t g) hw (allOf t.length)
  have hnow : ∀ i, i < 10 → (writeN d a (cutL t g) (allOf t.length)).1.flush.now (a + i) = if i < allOf t.length then ((cutL t g).getD i ⟨0, 0, 0, []⟩).sec else d.now (a + i) := by
    intro i hi
    rw [Dk.flush_now _ _ (by rw [s1]; omega), w4]
    by_cases e : i < allOf t.length
    · rw [if_pos (by omega), if_pos e, Nat.add_sub_cancel_left]
    · rw [if_neg (by omega), if_neg e]
  refine ⟨?_, fun p hp => ?_, fun i hi => ?_, fun i hi hi2 => ?_⟩
  · rw [List.length_append, List.length_drop, hc]; omega
  · rcases List.mem_append.1 hp with e | e
    · exact hk p e
    · exact hl.ok p (List.mem_of_mem_drop e)
  · have hi' : i < 10 := by rw [List.length_append, List.length_drop, hc] at hi; omega
    rw [hnow i hi']
    by_cases e : i < allOf t.length
    · rw [if_pos e, List.getD_eq_getElem?_getD, List.getElem?_eq_getElem (by omega), List.getElem_append_left (by omega)]
      rfl
    · rw [List.length_append, List.length_drop, hc] at hi
      rw [if_neg e, hl.full i (by omega), List.getElem_append_right (by omega)]
      simp only [List.getElem_drop, hc]
      congr 2
      omega
  · rw [List.length_append, List.length_drop, hc] at hi
    rw [hnow i hi2, if_neg (by omega)]
    exact hl.blank i (by omega) hi2
/-- Another slot is as it was. -/
theorem slot_other {d : Dk} (h : d.fuse = -1) (ho : d.off = false) (hw : d.waits.length = d.lasts.length) {a b : Nat} {l : List Pt} (hl : SlotIs d b l) (ha : a + 10 ≤ d.lasts.length) (hb : b + 10 ≤ d.lasts.length) (hab : a + 10 ≤ b ∨ b + 10 ≤ a) (t : List UInt8) (g : Nat) (hg : 0 < g) (hg2 : g < 2 ^ (8 * 8)) (ht : t.length ≤ 400) :
    SlotIs (writeN d a (cutL t g) (allOf t.length)).1.flush b l := by
  have hn : allOf t.length ≤ 9 := by unfold allOf; omega
  have hc := cutL_len t g
  have hk := cutL_ok t g hg hg2 ht
  obtain ⟨w1, w2, w3, w4⟩ := writeN_free h ho hw a (cutL t g) (fun q hq => sec_size q (hk q hq)) (allOf t.length) (by omega) (by omega)
  obtain ⟨s1, s2, s3⟩ := writeN_same d a (cutL t g) hw (allOf t.length)
  have hnow : ∀ i, i < 10 → (writeN d a (cutL t g) (allOf t.length)).1.flush.now (b + i) = d.now (b + i) := by
    intro i hi
    rw [Dk.flush_now _ _ (by rw [s1]; omega), w4, if_neg (by omega)]
  have hlen := hl.len
  exact ⟨hl.len, hl.ok, fun i hi => by rw [hnow i (by omega)]; exact hl.full i hi, fun i hi hi2 => by rw [hnow i hi2]; exact hl.blank i hi hi2⟩
end Go.Proofs.Ytafgohnpnaiomaa
