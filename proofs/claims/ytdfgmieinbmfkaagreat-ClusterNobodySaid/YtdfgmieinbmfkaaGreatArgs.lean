/-
  What a law is handed: strings, lists of strings, lists of ints.
-/
import Derived.Test.YtdfgmieinbmfkaaGreatOwn
import Derived.Test.YtdfgmieinbmfkaaGreatProg
import Derived.ProofKit
import Derived.OpenShut
import Derived.ShutString
import Derived.ChangeOld
import Derived.SliceStrings
namespace Go.Proofs.YtdfgmieinbmfkaaGreat
open Go Go.RowKit Go.ChangeShapes Go.WideShapes Go.ChangeAt

/-- A row of one-cell values that came in. -/
structure Row (w : World) (v : Value) (vs : List Value) : Prop where
  ex : ∃ A cap, v = .slice A vs.length cap ∧ vs.length ≤ maxLen ∧ (0 < vs.length → ∃ b off, A = some ⟨b, off, none⟩ ∧ b < w.heap.size ∧ ∀ i (h : i < vs.length), w.cell? ⟨b, off + i, none⟩ = some vs[i])
def IsStrs (w : World) (v : Value) (ss : List ByteArray) : Prop := Row w v (ss.map Value.string) ∧ ∀ s ∈ ss, s.size ≤ maxLen
def IsInts (w : World) (v : Value) (zs : List Int) : Prop := Row w v (zs.map (Value.int .i64)) ∧ ∀ z ∈ zs, (Lit.int .i64 z).wf = true
theorem Row.upd {w w' : World} {v : Value} {vs : List Value} (h : Row w v vs) (hu : Upd (fun _ => False) w w') : Row w' v vs := by
  obtain ⟨A, cap, h1, h2, h3⟩ := h.ex
  refine ⟨A, cap, h1, h2, fun h0 => ?_⟩
  obtain ⟨b, off, g1, g2, g3⟩ := h3 h0
  refine ⟨b, off, g1, Nat.lt_of_lt_of_le g2 hu.size, fun i hi => ?_⟩
  rw [World.cell?_of_block (w := w) (a := ⟨b, off + i, none⟩) (hu.block b g2 (fun e => e))]
  exact g3 i hi
theorem Row.open_ {w : World} {v : Value} {vs : List Value} (h : Row w v vs) : ∃ A cap b off, v = .slice A vs.length cap ∧ vs.length ≤ maxLen ∧ (0 < vs.length → A = some ⟨b, off, none⟩) ∧
    ∀ w', Upd (fun _ => False) w w' → ∀ i (_ : i < vs.length), w'.cell? ⟨b, off + i, none⟩ = some vs[i] := by
  obtain ⟨A, cap, h1, h2, h3⟩ := h.ex
  by_cases h0 : 0 < vs.length
  · obtain ⟨b, off, g1, g2, g3⟩ := h3 h0
    refine ⟨A, cap, b, off, h1, h2, fun _ => g1, fun w' hu i hi => ?_⟩
    rw [World.cell?_of_block (w := w) (a := ⟨b, off + i, none⟩) (hu.block b g2 (fun e => e))]
    exact g3 i hi
  · exact ⟨A, cap, 0, 0, h1, h2, fun h => absurd h h0, fun w' hu i hi => absurd hi (by omega)⟩
theorem IsStrs.open_ {w : World} {v : Value} {ss : List ByteArray} (h : IsStrs w v ss) : ∃ A cap b off, v = .slice A ss.length cap ∧ ss.length ≤ 9223372036854775807 ∧ (0 < ss.length → A = some ⟨b, off, none⟩) ∧
    (∀ w', Upd (fun _ => False) w w' → ∀ i (_ : i < ss.length), w'.cell? ⟨b, off + i, none⟩ = some (.string ss[i])) ∧ ∀ s ∈ ss, s.size ≤ 9223372036854775807 := by
  obtain ⟨A, cap, b, off, h1, h2, h3, h4⟩ := h.1.open_
  simp only [List.length_map] at h1 h2 h3 h4
  refine ⟨A, cap, b, off, h1, h2, h3, fun w' hu i hi => ?_, fun s hs => ?_⟩
  · have := h4 w' hu i hi
    simpa using this
  · exact h.2 s hs
theorem IsInts.open_ {w : World} {v : Value} {ss : List Int} (h : IsInts w v ss) : ∃ A cap b off, v = .slice A ss.length cap ∧ ss.length ≤ 9223372036854775807 ∧ (0 < ss.length → A = some ⟨b, off, none⟩) ∧
    (∀ w', Upd (fun _ => False) w w' → ∀ i (_ : i < ss.length), w'.cell? ⟨b, off + i, none⟩ = some (.int .i64 ss[i])) ∧ ∀ s ∈ ss, -9223372036854775808 ≤ s ∧ s ≤ 9223372036854775807 := by
  obtain ⟨A, cap, b, off, h1, h2, h3, h4⟩ := h.1.open_
  simp only [List.length_map] at h1 h2 h3 h4
  refine ⟨A, cap, b, off, h1, h2, h3, fun w' hu i hi => ?_, fun s hs => ?_⟩
  · have := h4 w' hu i hi
    simpa using this
  · have := h.2 s hs
    simp only [Lit.wf, Bool.and_eq_true, decide_eq_true_eq] at this
    have h1 : IntKind.i64.min = -9223372036854775808 := rfl
    have h2 : IntKind.i64.max = 9223372036854775807 := rfl
    omega
theorem isRow_of {w : World} {a : Addr} {cap : Nat} {vs : List Value} (hm : vs.length ≤ maxLen) (hc : ∀ i (h : i < vs.length), w.cell? (a.add i) = some vs[i]) : Row w (.slice (some a) vs.length cap) vs := by
  refine ⟨some a, cap, rfl, hm, fun h0 => ?_⟩
  obtain ⟨b, off, spot⟩ := a
  have hs : spot = none := by simpa [Addr.add] using World.cell?_spot (hc 0 h0)
  subst hs
  refine ⟨b, off, rfl, ?_, fun i hi => ?_⟩
  · simpa [Addr.add] using World.block_lt_of_cell? _ _ (hc 0 h0)
  · rw [← add_plain]; exact hc i hi
section
variable {H : Type} {enc : TypeId × Value → H} {P : Program} {w : World} {base : Nat} {spare : Nat → Bool} {held : Bool}
theorem strs_of {t e : TypeId} {fuel : Nat} {v : Value} {x : DataW H × List MemPlace} (ht : P.underlying t = some (.slice e)) (he : P.underlying e = some .string) (hc : P.cellsOf e = 1)
    (h : DataW.trod enc P w base spare held fuel t [v] = some x) : ∃ ss, IsStrs w v ss := by
  rcases open_strings ht he hc h with ⟨hcs, _⟩ | ⟨a, len, cap, ss, hcs, _, hl, hm, hz, _, hcell, hws⟩
  · simp only [List.cons.injEq, and_true] at hcs
    subst hcs
    exact ⟨[], ⟨none, 0, rfl, by simp, by simp⟩, by simp⟩
  · simp only [List.cons.injEq, and_true] at hcs
    subst hcs
    have hge : len ≤ ss.length := by rw [hz]; split <;> omega
    have hlen : ((ss.take len).map Value.string).length = len := by rw [List.length_map, List.length_take]; omega
    refine ⟨ss.take len, ?_, fun s hs => hws s (List.mem_of_mem_take hs)⟩
    have hr := isRow_of (w := w) (a := a) (cap := cap) (vs := (ss.take len).map Value.string) (by omega) (fun i hi => ?_)
    · rw [hlen] at hr; exact hr
    · rw [hcell i (by omega), List.getElem_map, List.getElem_take, List.getD_eq_getElem?_getD, List.getElem?_eq_getElem (by omega)]
      rfl
theorem ints_of {t e : TypeId} {fuel : Nat} {v : Value} {x : DataW H × List MemPlace} (ht : P.underlying t = some (.slice e)) (he : P.underlying e = some (.int .i64)) (hc : P.cellsOf e = 1)
    (h : DataW.trod enc P w base spare held fuel t [v] = some x) : ∃ zs, IsInts w v zs := by
  rcases open_ints ht he hc h with ⟨hcs, _⟩ | ⟨a, len, cap, ss, hcs, _, hl, hm, hz, _, hcell, hws⟩
  · simp only [List.cons.injEq, and_true] at hcs
    subst hcs
    exact ⟨[], ⟨none, 0, rfl, by simp, by simp⟩, by simp⟩
  · simp only [List.cons.injEq, and_true] at hcs
    subst hcs
    have hge : len ≤ ss.length := by rw [hz]; split <;> omega
    have hlen : ((ss.take len).map (Value.int .i64)).length = len := by rw [List.length_map, List.length_take]; omega
    refine ⟨ss.take len, ?_, fun s hs => hws s (List.mem_of_mem_take hs)⟩
    have hr := isRow_of (w := w) (a := a) (cap := cap) (vs := (ss.take len).map (Value.int .i64)) (by omega) (fun i hi => ?_)
    · rw [hlen] at hr; exact hr
    · rw [hcell i (by omega), List.getElem_map, List.getElem_take, List.getD_eq_getElem?_getD, List.getElem?_eq_getElem (by omega)]
      rfl
end
end Go.Proofs.YtdfgmieinbmfkaaGreat
