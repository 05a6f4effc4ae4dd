/-
  Laws of single operations over blocks known whole: the world behind a store is a new letter, of which the block and what else stands is told.
-/
import Derived.Test.YtdfgmieinbmfkaaGreatHeap
namespace Go.Proofs.YtdfgmieinbmfkaaGreat
open Go Go.RowKit

section
variable {P : Program} {ops : Array Oper} {rest : List Oper} {o : Oper} {a : Act} {w : World} {Q : Exit → Act → World → Prop} {K : Act → World → Prop}

theorem Blk.setRow {g : Nat} {t : TypeId} {cs : Array Value} (h : Blk w g t cs) (new : Array Value) : Blk (w.setRow g new) g t new := setRow_heap w g cs new t (0, 0) h
theorem Upd.setRow_ (w : World) (g : Nat) (new : Array Value) : Upd (· = g) w (w.setRow g new) := ⟨rfl, rfl, rfl, by simp, fun k _ hk => setRow_other w g k new hk⟩

theorem run_store_one {ty t : TypeId} {g i : Nat} {v : Value} {cs : Array Value} (hB : Blk w g t cs) (hi : i < cs.size) (h1 : v.oneCell' = true) (hsz : (P.info? ty).map (·.size) = some 1) :
    (Instr.storeAt ty (.pointer (some ⟨g, i, none⟩)) v).run P w = .ok () (w.setCell ⟨g, i, none⟩ v) := by
  have hc : w.cell? ⟨g, i, none⟩ = some cs[i] := by rw [hB.cell]; exact Array.getElem?_eq_getElem hi
  have hf := hB.frozen i
  cases hq : P.info? ty with
  | none => simp [hq] at hsz
  | some inf =>
    have hs : inf.size = 1 := by simpa [hq] using hsz
    have hcells : v.cells = #[v] := by cases v <;> simp_all [Value.oneCell', Value.cells]
    have hst : (store ⟨g, i, none⟩ v).run P w = .ok () (w.setCell ⟨g, i, none⟩ v) := by
      rw [run_store P w _ v _ h1]
      simp [hc, hf]
    simp [Instr.storeAt, Instr.sureAddr, storeVar, sizeOf, typeInfo, hq, hs, hcells, storeCells, Addr.add, hst, Result.andThen]

theorem wp_store_one (ty : TypeId) (x y : Operand) (ho : o.op = .store ty x y) (g i : Nat) (v : Value) (hx : a.eval x = .pointer (some ⟨g, i, none⟩)) (hy : a.eval y = v)
    (t : TypeId) (cs : Array Value) (hB : Blk w g t cs) (hi : i < cs.size) (h1 : v.oneCell' = true) (hsz : (P.info? ty).map (·.size) = some 1)
    (h : ∀ w', Blk w' g t (cs.setIfInBounds i v) → Upd (· = g) w w' → w'.heap.size = w.heap.size → K (a.put o.dst undef) w') : o.wp P a w K Q := by
  unfold Oper.wp execOp
  simp only [ho, hx, hy, Sem.run_bind, run_store_one (P := P) hB hi h1 hsz, Sem.run_pure, Result.andThen_ok]
  exact h _ (hB.set_ i v) ((Upd.refl (· = g) w).setCell (p := ⟨g, i, none⟩) (.inl rfl) v) (by simp)
theorem wpList_store_one (hg : o.guard = none) (ty : TypeId) (x y : Operand) (ho : o.op = .store ty x y) (g i : Nat) (v : Value) (hx : a.eval x = .pointer (some ⟨g, i, none⟩)) (hy : a.eval y = v)
    (t : TypeId) (cs : Array Value) (hB : Blk w g t cs) (hi : i < cs.size) (h1 : v.oneCell' = true) (hsz : (P.info? ty).map (·.size) = some 1)
    (h : ∀ w', Blk w' g t (cs.setIfInBounds i v) → Upd (· = g) w w' → w'.heap.size = w.heap.size → wpList P ops Q rest (a.put o.dst undef) w') : wpList P ops Q (o :: rest) a w :=
  wpList_plain hg fun _ hK => wp_store_one ty x y ho g i v hx hy t cs hB hi h1 hsz fun w' b1 b2 b3 => hK _ _ (h w' b1 b2 b3)

theorem wp_store_all (ty : TypeId) (x y : Operand) (ho : o.op = .store ty x y) (g : Nat) (new : Array Value) (hx : a.eval x = .pointer (some ⟨g, 0, none⟩)) (hy : a.eval y = .agg new)
    (t : TypeId) (cs : Array Value) (hB : Blk w g t cs) (hs : cs.size = new.size) (h1 : new.all (·.oneCell') = true) (hsz : (P.info? ty).map (·.size) = some new.size)
    (h : ∀ w', Blk w' g t new → Upd (· = g) w w' → w'.heap.size = w.heap.size → K (a.put o.dst undef) w') : o.wp P a w K Q :=
  wp_store_row ty x y ho g new hx hy t cs hB hsz hs h1 (h _ (hB.setRow new) (Upd.setRow_ w g new) (by simp))
theorem wpList_store_all (hg : o.guard = none) (ty : TypeId) (x y : Operand) (ho : o.op = .store ty x y) (g : Nat) (new : Array Value) (hx : a.eval x = .pointer (some ⟨g, 0, none⟩)) (hy : a.eval y = .agg new)
    (t : TypeId) (cs : Array Value) (hB : Blk w g t cs) (hs : cs.size = new.size) (h1 : new.all (·.oneCell') = true) (hsz : (P.info? ty).map (·.size) = some new.size)
    (h : ∀ w', Blk w' g t new → Upd (· = g) w w' → w'.heap.size = w.heap.size → wpList P ops Q rest (a.put o.dst undef) w') : wpList P ops Q (o :: rest) a w :=
  wpList_plain hg fun _ hK => wp_store_all ty x y ho g new hx hy t cs hB hs h1 hsz fun w' b1 b2 b3 => hK _ _ (h w' b1 b2 b3)

theorem wpList_load_all (hg : o.guard = none) (ty : TypeId) (x : Operand) (ho : o.op = .load ty x) (g : Nat) (hx : a.eval x = .pointer (some ⟨g, 0, none⟩)) (t : TypeId) (cs : Array Value) (d : TypeDesc)
    (hB : Blk w g t cs) (hu : P.underlying ty = some d) (hd : (match d with | .struct _ | .array _ _ => true | _ => false) = true) (hi : (P.info? ty).map (·.size) = some cs.size)
    (h : wpList P ops Q rest (a.put o.dst (.agg cs)) w) : wpList P ops Q (o :: rest) a w := wpList_load_row hg ty x ho g hx t cs (0, 0) d hB hu hd hi h
end

/-! ### the cells of a block that is written out -/
section
variable {w : World} {g : Nat} {t : TypeId} {a b c d e f h i j : Value}
theorem Blk.cells1 (k : Blk w g t #[a]) : w.cell? ⟨g, 0, none⟩ = some a := k.cell 0
theorem Blk.cells2 (k : Blk w g t #[a, b]) : w.cell? ⟨g, 0, none⟩ = some a ∧ w.cell? ⟨g, 1, none⟩ = some b := ⟨k.cell 0, k.cell 1⟩
theorem Blk.cells3 (k : Blk w g t #[a, b, c]) : w.cell? ⟨g, 0, none⟩ = some a ∧ w.cell? ⟨g, 1, none⟩ = some b ∧ w.cell? ⟨g, 2, none⟩ = some c := ⟨k.cell 0, k.cell 1, k.cell 2⟩
theorem Blk.cells4 (k : Blk w g t #[a, b, c, d]) : w.cell? ⟨g, 0, none⟩ = some a ∧ w.cell? ⟨g, 1, none⟩ = some b ∧ w.cell? ⟨g, 2, none⟩ = some c ∧ w.cell? ⟨g, 3, none⟩ = some d := ⟨k.cell 0, k.cell 1, k.cell 2, k.cell 3⟩
theorem Blk.cells7 (k : Blk w g t #[a, b, c, d, e, f, h]) : w.cell? ⟨g, 0, none⟩ = some a ∧ w.cell? ⟨g, 1, none⟩ = some b ∧ w.cell? ⟨g, 2, none⟩ = some c ∧ w.cell? ⟨g, 3, none⟩ = some d ∧ w.cell? ⟨g, 4, none⟩ = some e ∧ w.cell? ⟨g, 5, none⟩ = some f ∧ w.cell? ⟨g, 6, none⟩ = some h :=
  ⟨k.cell 0, k.cell 1, k.cell 2, k.cell 3, k.cell 4, k.cell 5, k.cell 6⟩
theorem Blk.cells9 (k : Blk w g t #[a, b, c, d, e, f, h, i, j]) : w.cell? ⟨g, 0, none⟩ = some a ∧ w.cell? ⟨g, 1, none⟩ = some b ∧ w.cell? ⟨g, 2, none⟩ = some c ∧ w.cell? ⟨g, 3, none⟩ = some d ∧ w.cell? ⟨g, 4, none⟩ = some e ∧ w.cell? ⟨g, 5, none⟩ = some f ∧ w.cell? ⟨g, 6, none⟩ = some h ∧ w.cell? ⟨g, 7, none⟩ = some i ∧ w.cell? ⟨g, 8, none⟩ = some j :=
  ⟨k.cell 0, k.cell 1, k.cell 2, k.cell 3, k.cell 4, k.cell 5, k.cell 6, k.cell 7, k.cell 8⟩
end
end Go.Proofs.YtdfgmieinbmfkaaGreat
