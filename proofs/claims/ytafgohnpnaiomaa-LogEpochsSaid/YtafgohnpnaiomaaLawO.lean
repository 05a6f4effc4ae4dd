/-
  What is opened behind a Put.
-/
import Derived.Test.YtafgohnpnaiomaaLawS
namespace Go.Proofs.Ytafgohnpnaiomaa
open Go Go.RowKit

theorem gensL_le {l : List Pt} {s m : Nat} (hs : s ≤ m) (h : ∀ p ∈ l, p.gen ≤ m) : gensL l s ≤ m := by
  unfold gensL
  induction l generalizing s with
  | nil => exact hs
  | cons p l ih => exact ih (s := max s p.gen) (by have := h p (by simp); omega) (fun q hq => h q (by simp [hq]))
theorem gensL_ge (l : List Pt) (s : Nat) : s ≤ gensL l s := by
  unfold gensL
  induction l generalizing s with
  | nil => exact Nat.le_refl _
  | cons p l ih => exact Nat.le_trans (by omega) (ih (max s p.gen))

/-- What one slot more makes of what is known. -/
def seeL (n : Nat) (l : List Pt) (k : Kp) : Kp :=
  if k.gen < (holdL l).2 then { k with seen := gensL l k.seen, text := (holdL l).1, gen := (holdL l).2, at_ := n } else { k with seen := gensL l k.seen }
theorem openStep_is {d : Dk} {n : Nat} {k : Kp} {l : List Pt} (h : SlotIs d (k.from_ + n * 10) l) : openStep d n k = some (seeL n l k) := by
  have hs := slotAt_is h k.seen 10 (by omega)
  rw [List.take_of_length_le h.len] at hs
  rw [openStep, hs]
  rfl
theorem seeL_from (n : Nat) (l : List Pt) (k : Kp) : (seeL n l k).from_ = k.from_ := by
  unfold seeL
  split <;> rfl
theorem open_is {d : Dk} {f : Nat} {l0 l1 : List Pt} (h0 : SlotIs d f l0) (h1 : SlotIs d (f + 10) l1) : openN d f 2 = some (seeL 1 l1 (seeL 0 l0 ⟨f, [], 0, 1, 0, false⟩)) := by
  have e0 : openN d f 1 = some (seeL 0 l0 ⟨f, [], 0, 1, 0, false⟩) := by
    rw [openN, openN]
    exact openStep_is (by simpa using h0)
  rw [openN, e0]
  exact openStep_is (by rw [seeL_from]; simpa using h1)
theorem holdL_le {l : List Pt} {m : Nat} (h : ∀ p ∈ l, p.gen ≤ m) : (holdL l).2 ≤ m := by
  have hf : firstGen l ≤ m := by
    cases l with
    | nil => simp [firstGen]
    | cons p l => exact h p (by simp)
  unfold holdL
  split
  · exact Nat.zero_le _
  · split
    · exact Nat.zero_le _
    · split
      · exact hf
      · exact Nat.zero_le _
theorem gensL_mem {l : List Pt} {p : Pt} (hp : p ∈ l) (s : Nat) : p.gen ≤ gensL l s := by
  unfold gensL
  induction l generalizing s with
  | nil => simp at hp
  | cons q l ih =>
    simp only [List.foldl_cons]
    rcases List.mem_cons.1 hp with rfl | h
    · have := gensL_ge l (max s p.gen)
      unfold gensL at this
      omega
    · exact ih h _

/-- A record that stands on a disk without a fuse. -/
structure KeptIs (d : Dk) (k : Kp) (l0 l1 : List Pt) : Prop where
  fuse : d.fuse = -1
  off : d.off = false
  waits : d.waits.length = d.lasts.length
  room : k.from_ + 20 ≤ d.lasts.length
  s0 : SlotIs d k.from_ l0
  s1 : SlotIs d (k.from_ + 10) l1
  g0 : ∀ p ∈ l0, p.gen ≤ k.seen
  g1 : ∀ p ∈ l1, p.gen ≤ k.seen
  at_ : k.at_ ≤ 1
  broken : k.broken = false
  opens : openN d k.from_ 2 = some k

theorem cut_gens (t : List UInt8) (g : Nat) (l : List Pt) (m n : Nat) (hg : g ≤ m) (h : ∀ p ∈ l, p.gen ≤ m) : ∀ p ∈ cutL t g ++ l.drop n, p.gen ≤ m := by
  intro p hp
  rcases List.mem_append.1 hp with e | e
  · obtain ⟨i, hi, rfl⟩ := List.mem_iff_getElem.1 e
    have := (cutL_get t g i hi).1
    omega
  · exact h p (List.mem_of_mem_drop e)
theorem cut_first (t : List UInt8) (g : Nat) (r : List Pt) : ∃ p ∈ cutL t g ++ r, p.gen = g := by
  have hn : 0 < (cutL t g).length := by rw [cutL_len]; unfold allOf; omega
  exact ⟨(cutL t g)[0], List.mem_append_left _ (List.getElem_mem _), (cutL_get t g 0 hn).1⟩

/-- Put, on a disk without a fuse. -/
theorem put_is {d : Dk} {k : Kp} {l0 l1 : List Pt} (h : KeptIs d k l0 l1) (t : List UInt8) (ht : t.length ≤ 400) (hs : k.seen + 1 < 18446744073709551616) :
    ∃ d' l0' l1', putK d k t = (d', { k with seen := k.seen + 1, text := t, gen := k.seen + 1, at_ := 1 - k.at_, broken := false }, 0) ∧
      KeptIs d' { k with seen := k.seen + 1, text := t, gen := k.seen + 1, at_ := 1 - k.at_, broken := false } l0' l1' ∧ d'.lasts.length = d.lasts.length ∧ d'.pend = 0 ∧
      d' = (writeN d (k.from_ + (1 - k.at_) * 10) (cutL t (k.seen + 1)) (allOf t.length)).1.flush := by
  have hroom := h.room
  have hat := h.at_
  have hn : allOf t.length ≤ 9 := by unfold allOf; omega
  have e64 : (2 : Nat) ^ (8 * 8) = 18446744073709551616 := by decide
  have hk := cutL_ok t (k.seen + 1) (by omega) (by omega) ht
  have hc := cutL_len t (k.seen + 1)
  obtain ⟨w1, w2, w3, w4⟩ := writeN_free h.fuse h.off h.waits (k.from_ + (1 - k.at_) * 10) (cutL t (k.seen + 1)) (fun q hq => sec_size q (hk q hq)) (allOf t.length) (by omega) (by omega)
  obtain ⟨s1, s2, s3⟩ := writeN_same d (k.from_ + (1 - k.at_) * 10) (cutL t (k.seen + 1)) h.waits (allOf t.length)
  have hsy := Dk.sync_free w2 w3
  have hput : putK d k t = ((writeN d (k.from_ + (1 - k.at_) * 10) (cutL t (k.seen + 1)) (allOf t.length)).1.flush, { k with seen := k.seen + 1, text := t, gen := k.seen + 1, at_ := 1 - k.at_, broken := false }, 0) := by
    unfold putK
    rw [h.broken, if_neg (by simp), if_neg (by omega), if_neg (by omega), if_neg (by rw [w1]; simp), hsy, if_neg (by simp)]
  have hlen : (writeN d (k.from_ + (1 - k.at_) * 10) (cutL t (k.seen + 1)) (allOf t.length)).1.flush.lasts.length = d.lasts.length := by
    show ((List.range _).map _).length = _
    rw [List.length_map, List.length_range, s1]
  have hwl : (writeN d (k.from_ + (1 - k.at_) * 10) (cutL t (k.seen + 1)) (allOf t.length)).1.flush.waits.length = d.lasts.length := by
    show (List.map _ _).length = _
    rw [List.length_map, s2, h.waits]
  have hcase : 1 - k.at_ = 0 ∨ 1 - k.at_ = 1 := by omega
  have hg0 : ∀ p ∈ l0, p.gen ≤ k.seen + 1 := fun p hp => by have := h.g0 p hp; omega
  have hg1 : ∀ p ∈ l1, p.gen ≤ k.seen + 1 := fun p hp => by have := h.g1 p hp; omega
  have hh0 := holdL_le h.g0
  have hh1 := holdL_le h.g1
  rcases hcase with e | e
  · rw [e] at hput hlen hwl w2 w3 ⊢
    have hS0 : SlotIs (writeN d (k.from_ + 0 * 10) (cutL t (k.seen + 1)) (allOf t.length)).1.flush k.from_ (cutL t (k.seen + 1) ++ l0.drop (allOf t.length)) := by
      have := slot_put h.fuse h.off h.waits (a := k.from_ + 0 * 10) (by simpa using h.s0) (by omega) t (k.seen + 1) (by omega) (by omega) ht
      simpa using this
    have hS1 : SlotIs (writeN d (k.from_ + 0 * 10) (cutL t (k.seen + 1)) (allOf t.length)).1.flush (k.from_ + 10) l1 :=
      slot_other h.fuse h.off h.waits (a := k.from_ + 0 * 10) h.s1 (by omega) (by omega) (by omega) t (k.seen + 1) (by omega) (by omega) ht
    have hG0 := cut_gens t (k.seen + 1) l0 (k.seen + 1) (allOf t.length) (Nat.le_refl _) hg0
    refine ⟨_, cutL t (k.seen + 1) ++ l0.drop (allOf t.length), l1, hput, ⟨w2, w3, by rw [hwl, hlen], by rw [hlen]; exact hroom, hS0, hS1, hG0, hg1, by simp, rfl, ?_⟩, hlen, Dk.flush_pend _, rfl⟩
    rw [open_is hS0 hS1]
    congr 1
    have hgl : gensL l1 (gensL (cutL t (k.seen + 1) ++ l0.drop (allOf t.length)) 0) = k.seen + 1 := by
      obtain ⟨p, hp, hpg⟩ := cut_first t (k.seen + 1) (l0.drop (allOf t.length))
      have h1 := gensL_mem hp 0
      have h2 := gensL_le (Nat.zero_le (k.seen + 1)) hG0
      have h3 := gensL_le h2 hg1
      have h4 := gensL_ge l1 (gensL (cutL t (k.seen + 1) ++ l0.drop (allOf t.length)) 0)
      omega
    have h0 : seeL 0 (cutL t (k.seen + 1) ++ l0.drop (allOf t.length)) ⟨k.from_, [], 0, 1, 0, false⟩ = ⟨k.from_, t, k.seen + 1, 0, gensL (cutL t (k.seen + 1) ++ l0.drop (allOf t.length)) 0, false⟩ := by
      rw [seeL, holdL_cut t (k.seen + 1) _ (by omega) ht, if_pos (by simp)]
    rw [h0, seeL, if_neg (by show ¬ k.seen + 1 < _; omega), hgl]
  · rw [e] at hput hlen hwl w2 w3 ⊢
    have hS1 : SlotIs (writeN d (k.from_ + 1 * 10) (cutL t (k.seen + 1)) (allOf t.length)).1.flush (k.from_ + 10) (cutL t (k.seen + 1) ++ l1.drop (allOf t.length)) := by
      have := slot_put h.fuse h.off h.waits (a := k.from_ + 1 * 10) (by simpa using h.s1) (by omega) t (k.seen + 1) (by omega) (by omega) ht
      simpa using this
    have hS0 : SlotIs (writeN d (k.from_ + 1 * 10) (cutL t (k.seen + 1)) (allOf t.length)).1.flush k.from_ l0 :=
      slot_other h.fuse h.off h.waits (a := k.from_ + 1 * 10) h.s0 (by omega) (by omega) (by omega) t (k.seen + 1) (by omega) (by omega) ht
    have hG1 := cut_gens t (k.seen + 1) l1 (k.seen + 1) (allOf t.length) (Nat.le_refl _) hg1
    refine ⟨_, l0, cutL t (k.seen + 1) ++ l1.drop (allOf t.length), hput, ⟨w2, w3, by rw [hwl, hlen], by rw [hlen]; exact hroom, hS0, hS1, hg0, hG1, by simp, rfl, ?_⟩, hlen, Dk.flush_pend _, rfl⟩
    rw [open_is hS0 hS1]
    congr 1
    have h0g : (seeL 0 l0 ⟨k.from_, [], 0, 1, 0, false⟩).gen ≤ k.seen ∧ (seeL 0 l0 ⟨k.from_, [], 0, 1, 0, false⟩).seen = gensL l0 0 ∧ (seeL 0 l0 ⟨k.from_, [], 0, 1, 0, false⟩).from_ = k.from_ ∧ (seeL 0 l0 ⟨k.from_, [], 0, 1, 0, false⟩).broken = false := by
      unfold seeL
      split
      · exact ⟨hh0, rfl, rfl, rfl⟩
      · exact ⟨Nat.zero_le _, rfl, rfl, rfl⟩
    obtain ⟨b1, b2, b3, b4⟩ := h0g
    have hgl : gensL (cutL t (k.seen + 1) ++ l1.drop (allOf t.length)) (gensL l0 0) = k.seen + 1 := by
      obtain ⟨p, hp, hpg⟩ := cut_first t (k.seen + 1) (l1.drop (allOf t.length))
      have h2 := gensL_le (Nat.zero_le (k.seen + 1)) hg0
      have h1 := gensL_mem hp (gensL l0 0)
      have h3 := gensL_le h2 hG1
      omega
    generalize seeL 0 l0 ⟨k.from_, [], 0, 1, 0, false⟩ = K at *
    rw [seeL, holdL_cut t (k.seen + 1) _ (by omega) ht, if_pos (by show K.gen < k.seen + 1; omega), b2, hgl]
    obtain ⟨q1, q2, q3, q4, q5, q6⟩ := K
    simp only at b3 b4
    rw [b3, b4]
end Go.Proofs.Ytafgohnpnaiomaa
