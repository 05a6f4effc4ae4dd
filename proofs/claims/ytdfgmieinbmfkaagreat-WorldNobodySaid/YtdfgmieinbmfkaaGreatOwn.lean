/-
  Slices that a call owns, marks of conversions let in; append onto them from whatever source; and the laws of single operations whose run is known.
-/
import Derived.Test.YtdfgmieinbmfkaaGreatOps
import Derived.Test.YtdfgmieinbmfkaaGreatRange
import Derived.Lib.ConvBytes
namespace Go.Proofs.YtdfgmieinbmfkaaGreat
open Go Go.RowKit
open Go.ChangeMaps (setBlock)

/-- No cell below k is marked. -/
def NoFr (fr : Nat × Nat) (k : Nat) : Prop := fr = (0, 0) ∨ k ≤ fr.1

/-- The slice value v, of n elements of 'size' cells each, begins at the head of a row of its own, of which no cell is marked and whose first cells are xs; or it is nil. -/
def Own (w : World) (e : TypeId) (size : Nat) (v : Value) (n : Nat) (xs : List Value) : Prop :=
  xs.length = n * size ∧
  ((v = .slice none 0 0 ∧ n = 0) ∨
   ∃ g cap cur fr, v = .slice (some ⟨g, 0, none⟩) n cap ∧ w.heap[g]? = some (.cells cur e fr) ∧ NoFr fr cur.size ∧ n ≤ cap ∧ cap ≤ maxLen ∧ cur.size = cap * size ∧ cur.toList.take (n * size) = xs)

section
variable {w w' : World} {e : TypeId} {size n : Nat} {v : Value} {xs : List Value}
theorem Own.nil (w : World) (e : TypeId) (size : Nat) : Own w e size (.slice none 0 0) 0 [] := ⟨by simp, .inl ⟨rfl, rfl⟩⟩
theorem Own.len (h : Own w e size v n xs) : xs.length = n * size := h.1
theorem Own.lt (h : Own w e size v n xs) {k : Nat} (hk : v.ownBlock = some k) : k < w.heap.size := by
  rcases h.2 with ⟨rfl, _⟩ | ⟨g, cap, cur, fr, rfl, hg, _⟩
  · simp [Value.ownBlock] at hk
  · simp [Value.ownBlock] at hk
    subst hk
    exact (Array.getElem?_eq_some_iff.1 hg).1
theorem Own.eqb (h : Own w e size v n xs) (hb : ∀ k, v.ownBlock = some k → w'.heap[k]? = w.heap[k]?) : Own w' e size v n xs := by
  refine ⟨h.1, ?_⟩
  rcases h.2 with hn | ⟨g, cap, cur, fr, rfl, hg, rest⟩
  · exact .inl hn
  · exact .inr ⟨g, cap, cur, fr, rfl, (hb g (by simp [Value.ownBlock])).trans hg, rest⟩
theorem Own.upd {F : Nat → Prop} (h : Own w e size v n xs) (hu : Upd F w w') (hn : ∀ k, v.ownBlock = some k → ¬ F k) : Own w' e size v n xs :=
  h.eqb fun k hk => hu.block k (h.lt hk) (hn k hk)
theorem Own.drew (h : Own w e size v n xs) : Own w.drew e size v n xs := h
theorem Own.alloc (h : Own w e size v n xs) (o : Obj) : Own (w.alloc o) e size v n xs := h.eqb fun k hk => Below.heap_alloc w o k (h.lt hk)
theorem Own.far (h : Own w e size v n xs) {p : Addr} (hp : v.ownBlock ≠ some p.block) (u : Value) : Own (w.setCell p u) e size v n xs :=
  h.eqb fun k hk => Below.heap_setCell w p u k (fun e => hp (by rw [← e]; exact hk))
theorem Own.cells (h : Own w e size v n xs) {g : Nat} (hg : v.ownBlock = some g) : ∀ j u, xs[j]? = some u → w.cell? ((⟨g, 0, none⟩ : Addr).add j) = some u := by
  intro j u hu
  rcases h.2 with ⟨rfl, _⟩ | ⟨g', cap, cur, fr, rfl, hgg, _, _, _, _, htake⟩
  · simp [Value.ownBlock] at hg
  · simp [Value.ownBlock] at hg
    subst hg
    have hadd : (⟨g', 0, none⟩ : Addr).add j = ⟨g', j, none⟩ := by unfold Addr.add; split <;> simp_all
    rw [hadd, cell_of_row w g' j cur e fr hgg]
    rw [← htake, List.getElem?_take] at hu
    split at hu
    · simpa using hu
    · cases hu
theorem Own.cellAt {g cap : Nat} (h : Own w e size (.slice (some ⟨g, 0, none⟩) n cap) n xs) (j : Nat) (hj : j < n * size) : w.cell? ⟨g, j, none⟩ = xs[j]? := by
  have hl := h.1
  have h1 := h.cells (g := g) (by simp [Value.ownBlock]) j xs[j] (List.getElem?_eq_getElem (by omega))
  rw [List.getElem?_eq_getElem (by omega), ← h1]
  congr 1
  unfold Addr.add
  split <;> simp_all
theorem Own.frozenAt {g cap : Nat} (h : Own w e size (.slice (some ⟨g, 0, none⟩) n cap) n xs) (j : Nat) (hj : j < n * size) : w.frozen? ⟨g, j, none⟩ = false := by
  rcases h.2 with ⟨hv, _⟩ | ⟨g', cap', cur, fr, hv, hgg, hfr, hnc, _, hcs, _⟩
  · cases hv
  · injection hv with h1 h2 h3
    injection h1 with h1
    injection h1 with h1
    subst h1 h3
    have hlt : j < cur.size := by rw [hcs]; exact Nat.lt_of_lt_of_le hj (Nat.mul_le_mul_right _ hnc)
    obtain ⟨lo, hi⟩ := fr
    simp only [World.frozen?, hgg]
    rcases hfr with h0 | h0
    · cases h0; simp
    · simp only at h0
      have : ¬ lo ≤ j := by omega
      simp [this]
theorem Own.head (h : Own w e size v n xs) (hn : 0 < n) : ∃ g cap, v = .slice (some ⟨g, 0, none⟩) n cap ∧ n ≤ cap ∧ cap ≤ maxLen := by
  rcases h.2 with ⟨_, h0⟩ | ⟨g, cap, cur, fr, rfl, _, _, hnc, hcm, _⟩
  · omega
  · exact ⟨g, cap, rfl, hnc, hcm⟩
theorem Own.one (h : Own w e size v n xs) : v.oneCell' = true := by
  rcases h.2 with ⟨rfl, _⟩ | ⟨g, cap, cur, fr, rfl, _⟩ <;> rfl
theorem Own.ne_blk {g : Nat} {t : TypeId} {cs : Array Value} (h : Own w e size v n xs) (hB : Blk w g t cs) (hne : e ≠ t) : v.ownBlock ≠ some g := by
  rcases h.2 with ⟨rfl, _⟩ | ⟨g', cap, cur, fr, rfl, hg, _⟩
  · simp [Value.ownBlock]
  · intro he
    have : g' = g := by simpa [Value.ownBlock] using he
    subst this
    unfold Blk at hB
    rw [hg] at hB
    injection hB with hB
    injection hB with _ ht
    exact hne ht
theorem Own.ne_map {α : Type} {inj : α → Value} {g : Nat} {m : List (α × Value)} (h : Own w e size v n xs) (hM : MapB inj w g m) : v.ownBlock ≠ some g := by
  rcases h.2 with ⟨rfl, _⟩ | ⟨g', cap, cur, fr, rfl, hg, _⟩
  · simp [Value.ownBlock]
  · intro he
    have : g' = g := by simpa [Value.ownBlock] using he
    subst this
    obtain ⟨es, clock, h1, _⟩ := hM
    rw [hg] at h1
    cases h1
theorem Own.shape (h : Own w e size v n xs) : ∃ A cap, v = .slice A n cap ∧ n ≤ cap ∧ cap ≤ maxLen := by
  rcases h.2 with ⟨rfl, h0⟩ | ⟨g, cap, cur, fr, rfl, _, _, hnc, hcm, _⟩
  · exact ⟨none, 0, by rw [h0], by omega, by simp [maxLen]⟩
  · exact ⟨_, cap, rfl, hnc, hcm⟩
theorem setCell_heap_same (w : World) (g j : Nat) (cur : Array Value) (t : TypeId) (fr : Nat × Nat) (u : Value) (hg : w.heap[g]? = some (.cells cur t fr)) :
    (w.setCell ⟨g, j, none⟩ u).heap[g]? = some (.cells (cur.setIfInBounds j u) t fr) := by
  simp [World.setCell, Array.getElem?_modify, hg]
/-- a store into one of its cells. -/
theorem Own.stored {g cap : Nat} (h : Own w e size (.slice (some ⟨g, 0, none⟩) n cap) n xs) (j : Nat) (u : Value) : Own (w.setCell ⟨g, j, none⟩ u) e size (.slice (some ⟨g, 0, none⟩) n cap) n (xs.set j u) := by
  refine ⟨by simpa using h.1, ?_⟩
  rcases h.2 with ⟨hv, _⟩ | ⟨g', cap', cur, fr, hv, hgg, hfr, hnc, hcm, hcs, htake⟩
  · cases hv
  · injection hv with h1 h2 h3
    injection h1 with h1
    injection h1 with h1
    subst h1 h3
    refine .inr ⟨g, cap, cur.setIfInBounds j u, fr, rfl, setCell_heap_same w g j cur e fr u hgg, by simpa using hfr, hnc, hcm, by simpa using hcs, ?_⟩
    rw [Array.toList_setIfInBounds, List.take_set, htake]
end

/-! ### sources of an append -/

/-- x gives the cells news, m elements. -/
structure Src (P : Program) (w : World) (xT : TypeId) (size : Nat) (x : Value) (m : Nat) (news : List Value) : Prop where
  known : (∃ t, P.underlying xT = some (.slice t)) ∨ P.underlying xT = some .string
  len : news.length = m * size
  lenOf : ∀ w, (Builtin.lenOf x).run P w = .ok m w
  cells : (Builtin.firstCells size m x).run P w = .ok news.toArray w
  cells' : (Builtin.firstCells size m x).run P w.drew = .ok news.toArray w.drew

section
variable {P : Program} {w w' : World} {e xT t : TypeId} {size n m : Nat} {v x : Value} {xs news : List Value}
theorem Src.of_addr (ht : P.underlying xT = some (.slice t)) (a : Addr) (m c : Nat) (hl : news.length = m * size) (h : ∀ j u, news[j]? = some u → w.cell? (a.add j) = some u) : Src P w xT size (.slice (some a) m c) m news :=
  ⟨.inl ⟨_, ht⟩, hl, fun w => by simp [Builtin.lenOf], run_firstCells_some w size m a m c news hl h, run_firstCells_some w.drew size m a m c news hl h⟩
theorem Src.of_nil (ht : P.underlying xT = some (.slice t)) (c : Nat) : Src P w xT size (.slice none 0 c) 0 [] :=
  ⟨.inl ⟨_, ht⟩, by simp, fun w => by simp [Builtin.lenOf], by simp [Builtin.firstCells], by simp [Builtin.firstCells]⟩
theorem Src.of_own (ht : P.underlying xT = some (.slice t)) (h : Own w e size v n xs) : Src P w xT size v n xs := by
  rcases h.2 with ⟨rfl, rfl⟩ | ⟨g, cap, cur, fr, rfl, _⟩
  · have : xs = [] := List.eq_nil_of_length_eq_zero (by simpa using h.1)
    subst this
    exact .of_nil ht 0
  · exact .of_addr ht _ _ _ h.1 (h.cells (by simp [Value.ownBlock]))
theorem Src.of_string (ht : P.underlying xT = some .string) (s : ByteArray) : Src P w xT 1 (.string s) s.size (s.data.toList.map fun b => Value.int .u8 b.toNat) := by
  have hx : (Array.map (fun b : UInt8 => Value.int IntKind.u8 (b.toNat : Int)) s.data).extract 0 s.size = Array.map (fun b : UInt8 => Value.int IntKind.u8 (b.toNat : Int)) s.data := by
    have hs : s.size = (Array.map (fun b : UInt8 => Value.int IntKind.u8 (b.toNat : Int)) s.data).size := by rw [Array.size_map]; rfl
    rw [hs, Array.extract_size]
  have hy : (s.data.toList.map fun b => Value.int .u8 b.toNat).toArray = Array.map (fun b : UInt8 => Value.int IntKind.u8 (b.toNat : Int)) s.data := by
    apply Array.ext'
    simp
  exact ⟨.inr ht, by simp, fun w => by simp [Builtin.lenOf], by simp [Builtin.firstCells, hy], by simp [Builtin.firstCells, hy]⟩

theorem run_storeCells_fr (g o : Nat) (t : TypeId) (fr : Nat × Nat) (P : Program) : ∀ (vs : List Value) (i : Nat) (cur : Array Value) (w : World), w.heap[g]? = some (.cells cur t fr) → NoFr fr cur.size → o + i + vs.length ≤ cur.size → (∀ v ∈ vs, v.oneCell' = true) →
    ∃ w', (storeCells ⟨g, o, none⟩ vs i).run P w = .ok () w' ∧ w'.heap[g]? = some (.cells (cur.toList.take (o + i) ++ vs ++ cur.toList.drop (o + i + vs.length)).toArray t fr) ∧ Upd (· = g) w w' ∧ w'.heap.size = w.heap.size
  | [], i, cur, w, hg, _, _, _ => by
    refine ⟨w, by simp [storeCells], ?_, Upd.refl _ _, rfl⟩
    simp only [List.append_nil, List.length_nil, Nat.add_zero, List.take_append_drop, Array.toArray_toList]
    exact hg
  | v :: rest, i, cur, w, hg, hfr, hl, h1 => by
    have hi : o + i < cur.size := by simp at hl; omega
    have hadd : (⟨g, o, none⟩ : Addr).add i = ⟨g, o + i, none⟩ := by unfold Addr.add; split <;> simp_all
    have hcell : w.cell? ⟨g, o + i, none⟩ = some cur[o + i] := by simp [World.cell?, hg, hi]
    have hfro : w.frozen? ⟨g, o + i, none⟩ = false := by
      obtain ⟨lo, hh⟩ := fr
      simp only [World.frozen?, hg]
      rcases hfr with h0 | h0
      · cases h0; simp
      · simp only at h0
        have : ¬ lo ≤ o + i := by omega
        simp [this]
    have hst : (store ((⟨g, o, none⟩ : Addr).add i) v).run P w = .ok () (w.setCell ⟨g, o + i, none⟩ v) := by
      rw [hadd, run_store P w _ v _ (h1 v (by simp)), hcell]
      simp [hfro]
    obtain ⟨w', k1, k2, k3, k4⟩ := run_storeCells_fr g o t fr P rest (i + 1) (cur.setIfInBounds (o + i) v) (w.setCell ⟨g, o + i, none⟩ v) (setCell_heap_same w g (o + i) cur t fr v hg) (by simpa using hfr) (by simp at hl ⊢; omega) (fun x hx => h1 x (by simp [hx]))
    refine ⟨w', by simp only [storeCells, Sem.run_bind, hst, Result.andThen_ok, k1], ?_, (((Upd.refl (· = g) w).setCell (p := ⟨g, o + i, none⟩) (.inl rfl) v).then k3 (fun b hb => .inl hb)), by rw [k4]; simp⟩
    rw [k2]
    congr 3
    have e := list_seg_step cur.toList (o + i) v rest (by simp at hl ⊢; omega)
    simpa [Array.toList_setIfInBounds, Nat.add_assoc] using e

/-- append: what becomes of the slice, and of the world. -/
theorem run_append_src (t ty : TypeId) (i : TypeInfo) (z : Value) (bytes : Nat) (ht : P.underlying t = some (.slice e)) (hi : P.info? e = some i) (hz : i.zero = some z)
    (hsize : i.size = size) (hby : i.bytes = bytes) (hzs : z.cells.size = size)
    (hown : Own w e size v n xs) (hsrc : Src P w xT size x m news) (h1 : ∀ u ∈ news, u.oneCell' = true)
    (h63 : n + m ≤ maxLen) (hbytes : (n + m) * bytes ≤ 140737488355328) :
    ∃ v' w', (Builtin.append_ #[t, xT] ty #[v, x]).run P w = .ok v' w' ∧ Own w' e size v' (n + m) (xs ++ news) ∧ Upd (fun k => v.ownBlock = some k) w w' ∧
      (v'.ownBlock = v.ownBlock ∨ v'.ownBlock = some w.heap.size) ∧ w'.heap.size ≤ w.heap.size + 1 := by
  subst hsize
  subst hby
  have hsmall : n + m ≤ 9223372036854775807 := by simp only [maxLen] at h63; omega
  have hlen : (xs ++ news).length = (n + m) * i.size := by rw [List.length_append, hown.1, hsrc.len, Nat.add_mul]
  have h63' : ¬ (9223372036854775807 < ((n : Int) + (m : Int))) := by omega
  have grown : ∀ (old : Nat), old < n + m →
      Own (w.drew.alloc (.cells (xs.toArray ++ news.toArray ++ Builtin.zeroCells z.cells (grownCap w (n + m) old e - (n + m))) e)) e i.size
        (.slice (some ⟨w.heap.size, 0, none⟩) (n + m) (grownCap w (n + m) old e)) (n + m) (xs ++ news) := by
    intro old ho
    have hge := grownCap_ge w (n + m) old e
    have hcm : grownCap w (n + m) old e ≤ maxLen := grownCap_le_maxLen w (n + m) old e h63
    refine ⟨hlen, .inr ⟨w.heap.size, _, _, (0, 0), rfl, heap_alloc_new w.drew _, .inl rfl, hge, hcm, ?_, ?_⟩⟩
    · simp only [Array.size_append, List.size_toArray, size_zeroCells, hzs, hown.1, hsrc.len, ← Nat.add_mul]
      congr 1
      omega
    · simp only [Array.toList_append, List.append_assoc]
      rw [← List.append_assoc, ← hlen]
      exact List.take_left
  have updg : ∀ (o : Obj), Upd (fun k => v.ownBlock = some k) w (w.drew.alloc o) := fun o => ((Upd.refl _ w).drew).alloc o
  rcases hown.2 with ⟨rfl, rfl⟩ | ⟨g, cap, cur, fr, rfl, hg, hfr, hnc, hcm, hcs, htake⟩
  · have hx : xs = [] := List.eq_nil_of_length_eq_zero (by simpa using hown.1)
    subst hx
    by_cases hm0 : m = 0
    · subst hm0
      have hn : news = [] := List.eq_nil_of_length_eq_zero (by simpa using hsrc.len)
      subst hn
      refine ⟨.slice none 0 0, w, ?_, Own.nil w e i.size, Upd.refl _ _, .inl rfl, by omega⟩
      rcases hsrc.known with ⟨tx, hdx⟩ | hdx <;> simp [Builtin.append_, run_underlying ht, run_underlying hdx, sizeOf, typeInfo, hi, hsrc.lenOf, hsrc.cells]
    · have hgr := grown 0 (by omega)
      simp only [Nat.zero_add, List.nil_append, Array.empty_append] at hgr
      refine ⟨_, _, ?_, by simpa using hgr, updg _, .inr (by simp [Value.ownBlock]), by simp⟩
      have h48' : ¬ (281474976710656 < Builtin.nextslicecap m 0 * i.bytes) := by
        rw [nextslicecap_zero (by omega)]
        have hb := hbytes
        simp only [Nat.zero_add] at hb
        omega
      have h63'' : ¬ (9223372036854775807 < (m : Int)) := by omega
      rcases hsrc.known with ⟨tx, hdx⟩ | hdx <;> simp [Builtin.append_, run_underlying ht, run_underlying hdx, sizeOf, typeInfo, zeroValue, hi, hz, hsrc.lenOf, hm0, h63'', h48', Question.forced, run_firstCells_none, hsrc.cells', newRow, grownCap]
  · by_cases hroom : n + m ≤ cap
    · have hfit : n * i.size + 0 + news.length ≤ cur.size := by rw [hsrc.len, hcs, Nat.add_zero, ← Nat.add_mul]; exact Nat.mul_le_mul_right _ hroom
      obtain ⟨w', k1, k2, k3, k4⟩ := run_storeCells_fr g (n * i.size) e fr P news 0 cur w hg hfr hfit h1
      refine ⟨.slice (some ⟨g, 0, none⟩) (n + m) cap, w', ?_, ⟨hlen, .inr ⟨g, cap, _, fr, rfl, k2, ?_, hroom, hcm, ?_, ?_⟩⟩, k3.mono (fun b hb => .inl (by subst hb; simp [Value.ownBlock])), .inl (by simp [Value.ownBlock]), by omega⟩
      · rcases hsrc.known with ⟨tx, hdx⟩ | hdx <;> simp [Builtin.append_, run_underlying ht, run_underlying hdx, sizeOf, typeInfo, hi, hsrc.lenOf, hroom, hsrc.cells, Addr.add_lit, k1]
      · have : ((cur.toList.take (n * i.size + 0) ++ news ++ cur.toList.drop (n * i.size + 0 + news.length)).toArray).size = cur.size := by
          simp only [List.size_toArray, List.length_append, List.length_take, List.length_drop, Array.length_toList]
          omega
        rw [this]
        exact hfr
      · simp only [List.size_toArray, List.length_append, List.length_take, List.length_drop, Array.length_toList]
        omega
      · rw [Nat.add_zero, htake, ← hlen]
        exact List.take_left
    · have holds : ∀ j u, xs[j]? = some u → w.cell? ((⟨g, 0, none⟩ : Addr).add j) = some u := hown.cells (by simp [Value.ownBlock])
      have hfo := run_firstCells_some (P := P) w.drew i.size n ⟨g, 0, none⟩ n cap xs hown.1 (by simpa using holds)
      have hfit := growslice_fits (show cap < n + m by omega) hbytes
      have h48' : ¬ (281474976710656 < Builtin.nextslicecap (n + m) cap * i.bytes) := by omega
      refine ⟨_, _, ?_, grown cap (by omega), updg _, .inr (by simp [Value.ownBlock]), by simp⟩
      rcases hsrc.known with ⟨tx, hdx⟩ | hdx <;> simp [Builtin.append_, run_underlying ht, run_underlying hdx, sizeOf, typeInfo, zeroValue, hi, hz, hsrc.lenOf, hroom, h63', h48', Question.forced, hsrc.cells', hfo, newRow, grownCap]
      all_goals
        congr 2
        apply Array.ext'
        simp [List.append_assoc]
end

/-! ### single operations whose run is known -/
section
variable {P : Program} {ops : Array Oper} {rest : List Oper} {o : Oper} {a : Act} {w w' : World} {Q : Exit → Act → World → Prop} {K : Act → World → Prop}

theorem wp_append_run (s x : Operand) (t xT : TypeId) (ho : o.op = .call { callee := .builtin .append, args := #[s, x], argTypes := #[t, xT] }) {vs vx v' : Value} (hs : a.eval s = vs) (hx : a.eval x = vx)
    (hrun : (Builtin.append_ #[t, xT] o.type #[vs, vx]).run P w = .ok v' w') (h : K (a.put o.dst v') w') : o.wp P a w K Q := by
  unfold Oper.wp execOp
  simp only [ho, resolve, invoke, builtin, Sem.run_bind, Sem.run_pure, Result.andThen_ok, List.map_toArray, List.map_cons, List.map_nil, hs, hx, hrun]
  exact h
theorem wpList_append_run (hg : o.guard = none) (s x : Operand) (t xT : TypeId) (ho : o.op = .call { callee := .builtin .append, args := #[s, x], argTypes := #[t, xT] }) {vs vx v' : Value} (hs : a.eval s = vs) (hx : a.eval x = vx)
    (hrun : (Builtin.append_ #[t, xT] o.type #[vs, vx]).run P w = .ok v' w') (h : wpList P ops Q rest (a.put o.dst v') w') : wpList P ops Q (o :: rest) a w :=
  wpList_plain hg fun _ hK => wp_append_run s x t xT ho hs hx hrun (hK _ _ h)

/-- append onto an owned slice, at the operation. -/
theorem wpList_append_src (hg : o.guard = none) (s x : Operand) (t xT : TypeId) (ho : o.op = .call { callee := .builtin .append, args := #[s, x], argTypes := #[t, xT] })
    (e : TypeId) (i : TypeInfo) (z : Value) (size bytes : Nat) (ht : P.underlying t = some (.slice e)) (hi : P.info? e = some i) (hz : i.zero = some z) (hsize : i.size = size) (hby : i.bytes = bytes) (hzs : z.cells.size = size)
    (v : Value) (n : Nat) (xs : List Value) (hs : a.eval s = v) (hown : Own w e size v n xs) (vx : Value) (m : Nat) (news : List Value) (hx : a.eval x = vx) (hsrc : Src P w xT size vx m news) (h1 : ∀ u ∈ news, u.oneCell' = true)
    (h63 : n + m ≤ maxLen) (hbytes : (n + m) * bytes ≤ 140737488355328)
    (h : ∀ v' w', Own w' e size v' (n + m) (xs ++ news) → Upd (fun k => v.ownBlock = some k) w w' → (v'.ownBlock = v.ownBlock ∨ v'.ownBlock = some w.heap.size) → w'.heap.size ≤ w.heap.size + 1 → wpList P ops Q rest (a.put o.dst v') w') :
    wpList P ops Q (o :: rest) a w := by
  obtain ⟨v', w', hrun, h2, h3, h4, h5⟩ := run_append_src (P := P) t o.type i z bytes ht hi hz hsize hby hzs hown hsrc h1 h63 hbytes
  exact wpList_append_run hg s x t xT ho hs hx hrun (h v' w' h2 h3 h4 h5)

/-- A cell in a new block of one. -/
theorem cell_of_new (w : World) (x : Value) (t : TypeId) : ∀ j u, [x][j]? = some u → (w.alloc (.cells #[x] t)).cell? ((⟨w.heap.size, 0, none⟩ : Addr).add j) = some u := cell_one_new w x t
theorem Src.of_new {xT t e : TypeId} (ht : P.underlying xT = some (.slice t)) (x : Value) : Src P (w.alloc (.cells #[x] e)) xT 1 (.slice (some ⟨w.heap.size, 0, none⟩) 1 1) 1 [x] :=
  .of_addr ht _ _ _ (by simp) (cell_one_new w x e)

theorem Src.of_new_drew {xT t e : TypeId} (ht : P.underlying xT = some (.slice t)) (x : Value) : Src P (w.alloc (.cells #[x] e)).drew xT 1 (.slice (some ⟨w.heap.size, 0, none⟩) 1 1) 1 [x] :=
  .of_addr ht _ _ _ (by simp) (cell_one_new w x e)

theorem wpList_mapUpdate_run (hg : o.guard = none) (m x y : Operand) (t : TypeId) (ho : o.op = .mapUpdate t m x y) {vm vx vy : Value} (hm : a.eval m = vm) (hx : a.eval x = vx) (hy : a.eval y = vy)
    (hrun : (Instr.mapUpdate t vm vx vy).run P w = .ok () w') (h : wpList P ops Q rest (a.put o.dst undef) w') : wpList P ops Q (o :: rest) a w := by
  refine wpList_plain hg fun K hK => ?_
  unfold Oper.wp execOp
  simp only [ho, hm, hx, hy, Sem.run_bind, hrun, Sem.run_pure, Result.andThen_ok]
  exact hK _ _ h
theorem wpList_range_run (hg : o.guard = none) (t : TypeId) (x : Operand) (ho : o.op = .range t x) {vx v : Value} (hx : a.eval x = vx) (hrun : (Instr.range t vx).run P w = .ok v w') (h : wpList P ops Q rest (a.put o.dst v) w') : wpList P ops Q (o :: rest) a w := by
  refine wpList_plain hg fun K hK => ?_
  unfold Oper.wp execOp
  simp only [ho, hx, Sem.run_bind, hrun, Sem.run_pure, Result.andThen_ok]
  exact hK _ _ h
theorem wpList_next_run (hg : o.guard = none) (x : Operand) (s : Bool) (ho : o.op = .next x s) {vx v : Value} (hx : a.eval x = vx) (hrun : (Instr.next vx s o.type).run P w = .ok v w') (h : wpList P ops Q rest (a.put o.dst v) w') : wpList P ops Q (o :: rest) a w := by
  refine wpList_plain hg fun K hK => ?_
  unfold Oper.wp execOp
  simp only [ho, hx, Sem.run_bind, hrun, Sem.run_pure, Result.andThen_ok]
  exact hK _ _ h
theorem wpList_delete_run (hg : o.guard = none) (m x : Operand) (t k : TypeId) (ho : o.op = .call { callee := .builtin .delete, args := #[m, x], argTypes := #[t, k] }) {vm vx v : Value} (hm : a.eval m = vm) (hx : a.eval x = vx)
    (hrun : (Builtin.delete_ #[t, k] o.type #[vm, vx]).run P w = .ok v w') (h : wpList P ops Q rest (a.put o.dst v) w') : wpList P ops Q (o :: rest) a w := by
  refine wpList_plain hg fun K hK => ?_
  unfold Oper.wp execOp
  simp only [ho, resolve, invoke, builtin, Sem.run_bind, Sem.run_pure, Result.andThen_ok, List.map_toArray, List.map_cons, List.map_nil, hm, hx, hrun]
  exact hK _ _ h
end
end Go.Proofs.YtdfgmieinbmfkaaGreat
