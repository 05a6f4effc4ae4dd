/-
  Ranging over a map by the laws of a list of pairs: what is left to come is a list of pairs, of which whichever may come next; keys that came or that will not come may be deleted meanwhile.
-/
import Derived.Test.YtdfgmieinbmfkaaGreatHeap
namespace Go.Proofs.YtdfgmieinbmfkaaGreat
open Go Go.RowKit Go.MapKept
open Go.ChangeMaps (setBlock)

/-- Block r is an iterator over the map in block b, which holds m; the pairs 'left' are still to come. -/
def Rng {α : Type} (inj : α → Value) (w : World) (r b : Nat) (m left : List (α × Value)) : Prop :=
  ∃ es clock since seen c0, w.heap[r]? = some (.mapIter (some b) since seen c0) ∧ w.heap[b]? = some (.map es clock) ∧ Stamped es clock ∧ es.toList.map (fun e => (e.key, e.val)) = m.map (fun p => (inj p.1, p.2)) ∧
    (∀ x ∈ es.toList, x.born < since) ∧ since ≤ c0 ∧ since ≤ clock ∧ (es.toList.filter (fun e => !seen.contains e.born)).map (fun e => (e.key, e.val)) = left.map (fun p => (inj p.1, p.2))

section
variable {α : Type} {inj : α → Value} {d : TypeDesc} {w w' : World} {r b : Nat} {m left : List (α × Value)}
theorem Rng.map (h : Rng inj w r b m left) : MapB inj w b m := by
  obtain ⟨es, clock, since, seen, c0, _, h2, h3, h4, _⟩ := h
  exact ⟨es, clock, h2, h3, h4⟩
theorem Rng.lt (h : Rng inj w r b m left) : r < w.heap.size := by
  obtain ⟨es, clock, since, seen, c0, h1, _⟩ := h
  exact (Array.getElem?_eq_some_iff.1 h1).1
theorem Rng.ne (h : Rng inj w r b m left) : r ≠ b := by
  rintro rfl
  obtain ⟨es, clock, since, seen, c0, h1, h2, _⟩ := h
  rw [h1] at h2
  cases h2
theorem Rng.ne_blk {g : Nat} {t : TypeId} {cs : Array Value} (h : Rng inj w r b m left) (h' : Blk w g t cs) : r ≠ g := by
  rintro rfl
  obtain ⟨es, clock, since, seen, c0, h1, _⟩ := h
  unfold Blk at h'
  rw [h1] at h'
  cases h'
theorem Rng.eqb (h : Rng inj w r b m left) (h1 : w'.heap[r]? = w.heap[r]?) (h2 : w'.heap[b]? = w.heap[b]?) : Rng inj w' r b m left := by
  obtain ⟨es, clock, since, seen, c0, k1, k2, k3⟩ := h
  exact ⟨es, clock, since, seen, c0, h1.trans k1, h2.trans k2, k3⟩
theorem Rng.upd {F : Nat → Prop} (h : Rng inj w r b m left) (hu : Upd F w w') (hr : ¬ F r) (hb : ¬ F b) : Rng inj w' r b m left :=
  h.eqb (hu.block r h.lt hr) (hu.block b h.map.lt hb)

/-- How many pairs are still to come: a loop's measure. -/
def rngLeft (w : World) (r b : Nat) : Nat :=
  match w.heap[r]?, w.heap[b]? with
  | some (.mapIter _ _ seen _), some (.map es _) => (es.toList.filter (fun e => !seen.contains e.born)).length
  | _, _ => 0
theorem Rng.left_eq (h : Rng inj w r b m left) : rngLeft w r b = left.length := by
  obtain ⟨es, clock, since, seen, c0, h1, h2, _, _, _, _, _, h3⟩ := h
  have := congrArg List.length h3
  simp only [List.length_map] at this
  unfold rngLeft
  rw [h1, h2]
  exact this
theorem Rng.drew (h : Rng inj w r b m left) : Rng inj w.drew r b m left := h.eqb rfl rfl
theorem Rng.far (h : Rng inj w r b m left) {p : Addr} (h1 : r ≠ p.block) (h2 : b ≠ p.block) (u : Value) : Rng inj (w.setCell p u) r b m left := h.eqb (Below.heap_setCell w p u r h1) (Below.heap_setCell w p u b h2)

/-- 'range m'. -/
theorem MapB.run_range {P : Program} {mty kt et : TypeId} (h : MapB inj w b m) (hm : P.underlying mty = some (.map kt et)) :
    ∃ w', (Instr.range mty (.map (some b))).run P w = .ok (.pointer (some ⟨w.heap.size, 0, none⟩)) w' ∧ Rng inj w' w.heap.size b m m ∧ Upd (fun _ => False) w w' ∧ w'.heap.size = w.heap.size + 1 := by
  have hlt := h.lt
  obtain ⟨es, clock, hb, hs, he⟩ := h
  refine ⟨w.alloc (.mapIter (some b) clock #[] clock), ?_, ⟨es, clock, clock, #[], clock, heap_alloc_new w _, (Below.heap_alloc w _ b hlt).trans hb, hs, he, hs.1, Nat.le_refl _, Nat.le_refl _, ?_⟩, (Upd.refl _ _).alloc _, by simp⟩
  · simp [Instr.range, run_underlying hm, MapKept.run_getObj_map hb, Result.andThen]
  · have : es.toList.filter (fun e => !(#[] : Array Nat).contains e.born) = es.toList := by
      rw [List.filter_eq_self]
      intro x _
      simp
    rw [this]
    exact he

/-- 'next': nothing is left, or whichever of what is left. -/
theorem Rng.run_next {P : Program} (h : Rng inj w r b m left) (hn : ∀ p q, inj p = inj q → p = q) (ty : TypeId) :
    (left = [] ∧ (Instr.next (.pointer (some ⟨r, 0, none⟩)) false ty).run P w = .ok (.tuple #[.bool false]) w) ∨
    ∃ k v l1 l2 w', left = l1 ++ (k, v) :: l2 ∧ (k, v) ∈ m ∧ (Instr.next (.pointer (some ⟨r, 0, none⟩)) false ty).run P w = .ok (.tuple #[.bool true, inj k, v]) w' ∧ Rng inj w' r b m (l1 ++ l2) ∧
      (Instr.entry (.pointer (some ⟨r, 0, none⟩))).run P w' = .ok (.tuple #[inj k, v]) w' ∧ Upd (· = r) w w' ∧ w'.heap.size = w.heap.size := by
  have hrb := h.ne
  obtain ⟨es, clock, since, seen, c0, hr, hb, hs, he, hold, hsc, hcl, hl⟩ := h
  rcases run_next_at (P := P) w ty r b since c0 seen es clock hr hb hold hsc with ⟨h0, hrun⟩ | ⟨e, hmem, w1, hw1, hrun⟩
  · left
    refine ⟨?_, hrun⟩
    have h1 : (leftOf es seen).toList = [] := by
      have : (leftOf es seen) = #[] := Array.eq_empty_of_size_eq_zero h0
      rw [this]
    unfold leftOf at h1
    rw [Array.toList_filter] at h1
    rw [h1] at hl
    simpa using hl.symm
  · right
    have hmem' : e ∈ es.toList.filter (fun e => !seen.contains e.born) := by
      unfold leftOf at hmem
      rw [Array.toList_filter] at hmem
      exact hmem
    have hes : e ∈ es.toList := (List.mem_filter.1 hmem').1
    obtain ⟨s1, s2, hsplit⟩ := List.append_of_mem hmem'
    have hl' := hl
    rw [hsplit] at hl'
    simp only [List.map_append, List.map_cons] at hl'
    obtain ⟨l1, lr, hleft, e1, e2⟩ := List.map_eq_append_iff.1 hl'.symm
    obtain ⟨q, l2, rfl, e3, e4⟩ := List.map_eq_cons_iff.1 e2
    obtain ⟨k, v⟩ := q
    simp only [Prod.mk.injEq] at e3
    obtain ⟨ek, ev⟩ := e3
    subst ev
    have hw1h : w1.heap = w.heap := by rcases hw1 with rfl | rfl <;> rfl
    have hsetr : (setBlock w1 r (.mapIter (some b) since (seen.push e.born) clock)).heap[r]? = some (.mapIter (some b) since (seen.push e.born) clock) := by
      have hlt : r < w1.heap.size := by rw [hw1h]; exact (Array.getElem?_eq_some_iff.1 hr).1
      simp [ChangeMaps.setBlock, hlt]
    have hseto : ∀ k, k ≠ r → (setBlock w1 r (.mapIter (some b) since (seen.push e.born) clock)).heap[k]? = w.heap[k]? := by
      intro k hk
      simp [ChangeMaps.setBlock, Ne.symm hk, hw1h]
    have hsetb := (hseto b (Ne.symm hrb)).trans hb
    have hin : (inj k, e.val) ∈ es.toList.map (fun e => (e.key, e.val)) := by rw [ek]; exact List.mem_map.2 ⟨e, hes, rfl⟩
    refine ⟨k, e.val, l1, l2, _, hleft, ?_, ?_, ⟨es, clock, since, seen.push e.born, clock, hsetr, hsetb, hs, he, hold, hcl, hcl, ?_⟩, ?_, ?_, ?_⟩
    · rw [he] at hin
      obtain ⟨p, hp, hpe⟩ := List.mem_map.1 hin
      simp only [Prod.mk.injEq] at hpe
      have : p = (k, e.val) := Prod.ext (hn _ _ hpe.1) hpe.2
      rw [← this]
      exact hp
    · rw [ek]; exact hrun
    · have hnd : (es.toList.map (·.born)).Nodup := hs.2.1
      have hnf : (es.toList.filter (fun e => !seen.contains e.born)).Nodup := (nodup_of_map hnd).filter _
      have e5 : es.toList.filter (fun x => !(seen.push e.born).contains x.born) = (es.toList.filter (fun e => !seen.contains e.born)).filter (fun x => x.born ≠ e.born) := by
        rw [List.filter_filter]
        apply List.filter_congr
        intro x _
        by_cases hx : x.born = e.born <;> simp [hx]
      rw [e5, hsplit]
      have inj_born : ∀ x ∈ es.toList, x.born = e.born → x = e := by
        intro x hx hxe
        obtain ⟨i, hi⟩ := List.getElem?_of_mem hx
        obtain ⟨j, hj⟩ := List.getElem?_of_mem hes
        have hi' : (es.toList.map (·.born))[i]? = some e.born := by simp [hi, hxe]
        have hj' : (es.toList.map (·.born))[j]? = some e.born := by simp [hj]
        have hlt : i < (es.toList.map (·.born)).length := (List.getElem?_eq_some_iff.1 hi').1
        have := (List.getElem?_inj hlt hnd).1 (hi'.trans hj'.symm)
        subst this
        rw [hi] at hj
        exact Option.some.inj hj
      rw [hsplit] at hnf
      have hall : ∀ x ∈ s1 ++ e :: s2, x ∈ es.toList := by
        intro x hx
        rw [← hsplit] at hx
        exact (List.mem_filter.1 hx).1
      have hnn := List.nodup_append.1 hnf
      have f1 : s1.filter (fun x => decide (x.born ≠ e.born)) = s1 := by
        rw [List.filter_eq_self]
        intro x hx
        have : x.born ≠ e.born := fun hxe => by
          have := inj_born x (hall x (by simp [hx])) hxe
          subst this
          exact hnn.2.2 x hx x (.head _) rfl
        simpa using this
      have f2 : s2.filter (fun x => decide (x.born ≠ e.born)) = s2 := by
        rw [List.filter_eq_self]
        intro x hx
        have : x.born ≠ e.born := fun hxe => by
          have := inj_born x (hall x (by simp [hx])) hxe
          subst this
          exact (List.nodup_cons.1 hnn.2.1).1 hx
        simpa using this
      rw [List.filter_append, List.filter_cons, if_neg (by simp), f1, f2]
      simp only [List.map_append, e1, e4]
    · rw [ek]
      exact run_entry_at _ r b since seen es clock e hsetr hsetb hes hs.2.1
    · refine ⟨?_, ?_, ?_, by simp [ChangeMaps.setBlock, hw1h], fun k _ hk => hseto k hk⟩ <;> rcases hw1 with rfl | rfl <;> rfl
    · simp [ChangeMaps.setBlock, hw1h]

variable [DecidableEq α]
/-- 'delete(m, a)' while it is ranged over. -/
theorem Rng.run_delete {P : Program} {mty kt et ty : TypeId} (h : Rng inj w r b m left) (K : KeyIn d inj) (hm : P.underlying mty = some (.map kt et)) (hd : P.underlying kt = some d) (a : α) :
    ∃ w', (Builtin.delete_ #[mty, kt] ty #[.map (some b), inj a]).run P w = .ok (.tuple #[]) w' ∧ Rng inj w' r b (delA m a) (delA left a) ∧ Upd (· = b) w w' ∧ w'.heap.size = w.heap.size := by
  classical
  have hrb := h.ne
  have hmB := h.map
  obtain ⟨w', h1, h2, h3, h4⟩ := hmB.run_delete (ty := ty) K hm hd a
  obtain ⟨es, clock, since, seen, c0, hr, hb, hs, he, hold, hsc, hcl, hl⟩ := h
  -- the same run once more, over the entries
  have key : ∃ es', w'.heap[b]? = some (.map es' clock) ∧ Stamped es' clock ∧ es'.toList = es.toList.filter (fun e => decide (e.key ≠ inj a) ) := by
    rcases findNow_spec (K.isKey a) es.toList 0 (isKeys_of K he) with ⟨k1, k2⟩ | ⟨j, e, k1, k2, k3⟩
    · simp [Builtin.delete_, run_underlying hm, MapKept.run_getObj_map hb, run_checkKey hd (K.isKey a), run_findKey hd k1, MapKept.run_setObj_map _ hb, Result.andThen] at h1
      subst h1
      refine ⟨es, (heap_set hb).1, hs, ?_⟩
      symm
      rw [List.filter_eq_self]
      intro x hx
      simpa using k2 x hx
    · simp [Builtin.delete_, run_underlying hm, MapKept.run_getObj_map hb, run_checkKey hd (K.isKey a), run_findKey hd k1, MapKept.run_setObj_map _ hb, Result.andThen] at h1
      subst h1
      refine ⟨_, (heap_set hb).1, stamped_erase hs _, ?_⟩
      have hlt : j < es.size := by simpa using (List.getElem?_eq_some_iff.1 k2).1
      have e1 : (es.eraseIdxIfInBounds j).toList = es.toList.eraseIdx j := by
        unfold Array.eraseIdxIfInBounds
        rw [dif_pos hlt]
        simp
      rw [e1, List.eraseIdx_eq_take_drop_succ]
      have hlt' : j < es.toList.length := by simpa using hlt
      have hsplit : es.toList = es.toList.take j ++ (es.toList[j] :: es.toList.drop (j + 1)) := by rw [← List.drop_eq_getElem_cons, List.take_append_drop]
      have hej : es.toList[j] = e := by
        rw [List.getElem?_eq_getElem hlt'] at k2
        exact Option.some.inj k2
      have hnn := hs.2.2
      rw [hsplit] at hnn
      simp only [List.map_append, List.map_cons, List.nodup_append, List.nodup_cons] at hnn
      conv => rhs; rw [hsplit]
      rw [List.filter_append, List.filter_cons, if_neg (by simp [hej, k3])]
      have f1 : (es.toList.take j).filter (fun e => decide (e.key ≠ inj a)) = es.toList.take j := by
        rw [List.filter_eq_self]
        intro q hq
        have := hnn.2.2 q.key (List.mem_map.2 ⟨q, hq, rfl⟩) (inj a) (by rw [hej, k3]; exact .head _)
        simpa using this
      have f2 : (es.toList.drop (j + 1)).filter (fun e => decide (e.key ≠ inj a)) = es.toList.drop (j + 1) := by
        rw [List.filter_eq_self]
        intro q hq
        have : q.key ≠ inj a := fun hqa => hnn.2.1.1 (List.mem_map.2 ⟨q, hq, by rw [hqa, hej, k3]⟩)
        simpa using this
      rw [f1, f2]
  obtain ⟨es', hb', hs', hes'⟩ := key
  have pull : ∀ (l : List MapEntry) (m' : List (α × Value)), l.map (fun e => (e.key, e.val)) = m'.map (fun p => (inj p.1, p.2)) →
      (l.filter (fun e => decide (e.key ≠ inj a))).map (fun e => (e.key, e.val)) = (delA m' a).map (fun p => (inj p.1, p.2)) := by
    intro l
    induction l with
    | nil => intro m' hm'; cases m' with
      | nil => rfl
      | cons => simp at hm'
    | cons x l ih =>
      intro m' hm'
      cases m' with
      | nil => simp at hm'
      | cons q m' =>
        simp only [List.map_cons, List.cons.injEq, Prod.mk.injEq] at hm'
        obtain ⟨⟨hk, hv⟩, hrest⟩ := hm'
        have := ih m' hrest
        unfold delA at this ⊢
        by_cases hq : q.1 = a
        · rw [List.filter_cons, if_neg (by simp [hk, hq]), List.filter_cons, if_neg (by simp [hq])]
          exact this
        · have hx : x.key ≠ inj a := fun e => hq (K.inj _ _ (by rw [← hk, e]))
          rw [List.filter_cons, if_pos (by simp [hx]), List.filter_cons, if_pos (by simp [hq])]
          simp only [List.map_cons, this, hk, hv]
  refine ⟨w', h1, ⟨es', clock, since, seen, c0, (h3.block r (Array.getElem?_eq_some_iff.1 hr).1 hrb).trans hr, hb', hs', ?_, ?_, hsc, hcl, ?_⟩, h3, h4⟩
  · rw [hes']; exact pull _ _ he
  · intro x hx
    rw [hes'] at hx
    exact hold x (List.mem_filter.1 hx).1
  · rw [hes', List.filter_filter]
    have := pull _ _ hl
    rw [List.filter_filter] at this
    rw [← this]
    congr 1
    apply List.filter_congr
    intro x _
    rw [Bool.and_comm]
end
end Go.Proofs.YtdfgmieinbmfkaaGreat
