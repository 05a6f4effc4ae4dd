/-
  Two records on one disk.
-/
import Derived.Test.YtafgohnpnaiomaaLawQ
namespace Go.Proofs.Ytafgohnpnaiomaa
open Go Go.RowKit

theorem blank_is {d : Dk} (hf : d.fuse = -1) (ho : d.off = false) (hw : d.waits.length = d.lasts.length) (f : Nat) (hr : f + 20 ≤ d.lasts.length) (hz : ∀ j, j < 20 → d.now (f + j) = zeros64) :
    KeptIs d ⟨f, [], 0, 1, 0, false⟩ [] [] := by
  have s : ∀ a, a ≤ 10 → SlotIs d (f + a) [] := by
    intro a ha
    refine ⟨by simp, by simp, by simp, fun i _ hi => ?_⟩
    rw [Nat.add_assoc, hz (a + i) (by omega)]
    rfl
  have s0 : SlotIs d f [] := by simpa using s 0 (by omega)
  refine ⟨hf, ho, hw, hr, s0, s 10 (by omega), by simp, by simp, by simp, rfl, ?_⟩
  rw [open_is s0 (s 10 (by omega))]
  rfl
theorem putD_free {d : Dk} {k : Kp} {l0 l1 : List Pt} (h : KeptIs d k l0 l1) (t : List UInt8) (ht : t.length ≤ 400) (hs : k.seen < 1000) :
    (putD d k t).fuse = -1 ∧ (putD d k t).off = false ∧ (putD d k t).waits.length = d.lasts.length ∧ (putD d k t).lasts.length = d.lasts.length ∧
      ∀ i, i < d.lasts.length → (i < k.from_ ∨ k.from_ + 20 ≤ i) → (putD d k t).now i = d.now i := by
  have hroom := h.room
  have hat := h.at_
  have hn : allOf t.length ≤ 9 := by unfold allOf; omega
  have e64 : (2 : Nat) ^ (8 * 8) = 18446744073709551616 := by decide
  have hk := cutL_ok t (k.seen + 1) (by omega) (by omega) ht
  have hc := cutL_len t (k.seen + 1)
  obtain ⟨w1, w2, w3, w4⟩ := writeN_free h.fuse h.off h.waits (k.from_ + (1 - k.at_) * 10) (cutL t (k.seen + 1)) (fun q hq => sec_size q (hk q hq)) (allOf t.length) (by omega) (by omega)
  obtain ⟨s1, s2, s3⟩ := writeN_same d (k.from_ + (1 - k.at_) * 10) (cutL t (k.seen + 1)) h.waits (allOf t.length)
  refine ⟨w2, w3, ?_, ?_, fun i hi ho => ?_⟩
  · show (List.map _ _).length = _
    rw [List.length_map, s2, h.waits]
  · show ((List.range _).map _).length = _
    rw [List.length_map, List.length_range, s1]
  · unfold putD
    rw [Dk.flush_now _ _ (by rw [s1]; exact hi), w4, if_neg (by omega)]
theorem kept_other {d : Dk} {k ko : Kp} {l0 l1 o0 o1 : List Pt} (h : KeptIs d k l0 l1) (ho : KeptIs d ko o0 o1) (hap : k.from_ + 20 ≤ ko.from_ ∨ ko.from_ + 20 ≤ k.from_) (t : List UInt8) (ht : t.length ≤ 400) (hs : k.seen < 1000) :
    KeptIs (putD d k t) ko o0 o1 := by
  obtain ⟨p1, p2, p3, p4, p5⟩ := putD_free h t ht hs
  have hr := ho.room
  have sl : ∀ (a : Nat) (l : List Pt), SlotIs d a l → ko.from_ ≤ a → a ≤ ko.from_ + 10 → SlotIs (putD d k t) a l := by
    intro a l hl h1 h2
    have hlen := hl.len
    exact ⟨hl.len, hl.ok, fun i hi => by rw [p5 _ (by omega) (by omega)]; exact hl.full i hi, fun i hi hi2 => by rw [p5 _ (by omega) (by omega)]; exact hl.blank i hi hi2⟩
  have s0 := sl _ _ ho.s0 (Nat.le_refl _) (by omega)
  have s1 := sl _ _ ho.s1 (by omega) (Nat.le_refl _)
  refine ⟨p1, p2, by rw [p3, p4], by rw [p4]; exact hr, s0, s1, ho.g0, ho.g1, ho.at_, ho.broken, ?_⟩
  have e := ho.opens
  rw [open_is ho.s0 ho.s1] at e
  rw [open_is s0 s1]
  exact e
end Go.Proofs.Ytafgohnpnaiomaa
