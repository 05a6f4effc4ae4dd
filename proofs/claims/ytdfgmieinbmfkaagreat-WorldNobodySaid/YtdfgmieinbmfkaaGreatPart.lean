/-
  A struct within a block, loaded and stored.
-/
import Derived.Test.YtdfgmieinbmfkaaGreatOps
import Derived.Deep.MidRow
namespace Go.Proofs.YtdfgmieinbmfkaaGreat
open Go Go.RowKit

theorem Blk.cells6 {w : World} {g : Nat} {t : TypeId} {a b c d e f : Value} (k : Blk w g t #[a, b, c, d, e, f]) : w.cell? ⟨g, 0, none⟩ = some a ∧ w.cell? ⟨g, 1, none⟩ = some b ∧ w.cell? ⟨g, 2, none⟩ = some c ∧ w.cell? ⟨g, 3, none⟩ = some d ∧ w.cell? ⟨g, 4, none⟩ = some e ∧ w.cell? ⟨g, 5, none⟩ = some f :=
  ⟨k.cell 0, k.cell 1, k.cell 2, k.cell 3, k.cell 4, k.cell 5⟩

/-! ### a struct within a block, out and in -/
section
variable {P : Program} {ops : Array Oper} {rest : List Oper} {o : Oper} {a : Act} {w : World} {Q : Exit → Act → World → Prop} {K : Act → World → Prop}
theorem Blk.range {g : Nat} {t : TypeId} {cs : Array Value} (h : Blk w g t cs) (i : Nat) (vs : List Value) (hv : ∀ j v, vs[j]? = some v → cs[i + j]? = some v) : w.rangeAt g i vs := fun j v e => by
  rw [h.cell]; exact hv j v e
theorem Blk.there_ {g : Nat} {t : TypeId} {cs : Array Value} (h : Blk w g t cs) (i n : Nat) (hn : i + n ≤ cs.size) : w.there g i n := fun j hj => by
  refine ⟨?_, h.frozen _⟩
  rw [h.cell, Array.getElem?_eq_getElem (by omega)]
  rfl
theorem Upd.setCells_ (g : Nat) : ∀ (vs : List Value) (i : Nat) (w : World), Upd (· = g) w (w.setCells g i vs) ∧ (w.setCells g i vs).heap.size = w.heap.size
  | [], _, w => ⟨Upd.refl _ _, rfl⟩
  | v :: r, i, w => by
    have h1 := (Upd.refl (· = g) w).setCell (p := ⟨g, i, none⟩) (.inl rfl) v
    obtain ⟨h2, h3⟩ := Upd.setCells_ g r (i + 1) (w.setCell ⟨g, i, none⟩ v)
    refine ⟨h1.then h2 (fun _ e => .inl e), ?_⟩
    rw [World.setCells, h3]
    simp
theorem Blk.setCells {g : Nat} {t : TypeId} : ∀ (vs : List Value) (i : Nat) (w : World) (cs : Array Value), Blk w g t cs → i + vs.length ≤ cs.size → Blk (w.setCells g i vs) g t (cs.toList.take i ++ vs ++ cs.toList.drop (i + vs.length)).toArray
  | [], i, w, cs, h, hi => by
    simp only [List.append_nil, List.length_nil, Nat.add_zero, List.take_append_drop]
    exact h
  | v :: r, i, w, cs, h, hi => by
    rw [World.setCells]
    have hi' : i < cs.size := by simp at hi; omega
    have := Blk.setCells r (i + 1) _ _ (h.set_ i v) (by simp at hi ⊢; omega)
    have e : (cs.setIfInBounds i v).toList.take (i + 1) ++ r ++ (cs.setIfInBounds i v).toList.drop (i + 1 + r.length) = cs.toList.take i ++ (v :: r) ++ cs.toList.drop (i + (v :: r).length) := by
      rw [Array.toList_setIfInBounds, List.drop_set_of_lt (by omega), List.take_set, List.take_succ_eq_append_getElem (by simpa using hi')]
      have hl : (cs.toList.take i).length = i := by rw [List.length_take, Array.length_toList]; omega
      rw [List.set_append_right _ _ (by omega), hl, Nat.sub_self]
      simp [Nat.add_comm, Nat.add_left_comm]
    rw [e] at this
    exact this
theorem wp_store_part (ty : TypeId) (x y : Operand) (ho : o.op = .store ty x y) (g i : Nat) (vs : Array Value) (hx : a.eval x = .pointer (some ⟨g, i, none⟩)) (hy : a.eval y = .agg vs)
    (t : TypeId) (cs new : Array Value) (hB : Blk w g t cs) (hi : i + vs.size ≤ cs.size) (hn : cs.toList.take i ++ vs.toList ++ cs.toList.drop (i + vs.size) = new.toList) (h1 : vs.all (·.oneCell') = true) (hsz : (P.info? ty).map (·.size) = some vs.size)
    (h : ∀ w', Blk w' g t new → Upd (· = g) w w' → w'.heap.size = w.heap.size → K (a.put o.dst undef) w') : o.wp P a w K Q := by
  refine wp_store_mid ty x y ho g i vs hx hy (hB.there_ i _ hi) hsz h1 ?_
  obtain ⟨u1, u2⟩ := Upd.setCells_ g vs.toList i w
  refine h _ ?_ u1 u2
  have := Blk.setCells vs.toList i w cs hB (by simpa using hi)
  rw [Array.length_toList, hn] at this
  exact this
theorem wpList_store_part (hg : o.guard = none) (ty : TypeId) (x y : Operand) (ho : o.op = .store ty x y) (g i : Nat) (vs : Array Value) (hx : a.eval x = .pointer (some ⟨g, i, none⟩)) (hy : a.eval y = .agg vs)
    (t : TypeId) (cs new : Array Value) (hB : Blk w g t cs) (hi : i + vs.size ≤ cs.size) (hn : cs.toList.take i ++ vs.toList ++ cs.toList.drop (i + vs.size) = new.toList) (h1 : vs.all (·.oneCell') = true) (hsz : (P.info? ty).map (·.size) = some vs.size)
    (h : ∀ w', Blk w' g t new → Upd (· = g) w w' → w'.heap.size = w.heap.size → wpList P ops Q rest (a.put o.dst undef) w') : wpList P ops Q (o :: rest) a w :=
  wpList_plain hg fun _ hK => wp_store_part ty x y ho g i vs hx hy t cs new hB hi hn h1 hsz fun w' b1 b2 b3 => hK _ _ (h w' b1 b2 b3)
theorem wpList_load_part (hg : o.guard = none) (ty : TypeId) (x : Operand) (ho : o.op = .load ty x) (g i : Nat) (hx : a.eval x = .pointer (some ⟨g, i, none⟩)) (t : TypeId) (cs : Array Value) (vs : List Value) (d : TypeDesc)
    (hB : Blk w g t cs) (hv : ∀ j v, vs[j]? = some v → cs[i + j]? = some v) (hu : P.underlying ty = some d) (hd : d.isRow = true) (hi : (P.info? ty).map (·.size) = some vs.length)
    (h : wpList P ops Q rest (a.put o.dst (.agg vs.toArray)) w) : wpList P ops Q (o :: rest) a w :=
  wpList_load_mid hg ty x ho g i hx vs d (hB.range i vs hv) hu hd hi h
/-- A part of a row stored, or one cell, as one step of a region that draws. -/
theorem step_store_part {E : Prop} (hg : o.guard = none) (ty : TypeId) (x y : Operand) (ho : o.op = .store ty x y) (g i : Nat) (vs : Array Value) (hx : a.eval x = .pointer (some ⟨g, i, none⟩)) (hy : a.eval y = .agg vs)
    (t : TypeId) (cs new : Array Value) (hB : Blk w g t cs) (hi : i + vs.size ≤ cs.size) (hn : cs.toList.take i ++ vs.toList ++ cs.toList.drop (i + vs.size) = new.toList) (h1 : vs.all (·.oneCell') = true) (hsz : (P.info? ty).map (·.size) = some vs.size)
    (h : ∀ w', Blk w' g t new → Upd (· = g) w w' → w'.heap.size = w.heap.size → K (a.put o.dst undef) w') : if Region.wanted o (yielded ops a.tmps) = true then Oper.wp P o a w K Q else E := by
  have hw : Region.wanted o (yielded ops a.tmps) = true := by simp [Region.wanted, hg]
  rw [if_pos hw]
  exact wp_store_part ty x y ho g i vs hx hy t cs new hB hi hn h1 hsz h
theorem step_store_one {E : Prop} (hg : o.guard = none) (ty : TypeId) (x y : Operand) (ho : o.op = .store ty x y) (g i : Nat) (v : Value) (hx : a.eval x = .pointer (some ⟨g, i, none⟩)) (hy : a.eval y = v)
    (t : TypeId) (cs new : Array Value) (hB : Blk w g t cs) (hi : i < cs.size) (hn : cs.setIfInBounds i v = new) (h1 : v.oneCell' = true) (hsz : (P.info? ty).map (·.size) = some 1)
    (h : ∀ w', Blk w' g t new → Upd (· = g) w w' → w'.heap.size = w.heap.size → K (a.put o.dst undef) w') : if Region.wanted o (yielded ops a.tmps) = true then Oper.wp P o a w K Q else E := by
  have hw : Region.wanted o (yielded ops a.tmps) = true := by simp [Region.wanted, hg]
  rw [if_pos hw]
  subst hn
  exact wp_store_one ty x y ho g i v hx hy t cs hB hi h1 hsz h
end
end Go.Proofs.YtdfgmieinbmfkaaGreat
