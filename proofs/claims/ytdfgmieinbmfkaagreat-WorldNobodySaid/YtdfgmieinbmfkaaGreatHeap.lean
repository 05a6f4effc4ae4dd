/-
  Words for memory: a block known whole, what a call may have turned ('Upd'), and a map with its entries as a list of pairs, with the laws of make, lookup, store, delete and range over it. No program is in sight.
-/
import Derived.WalkKit
import Derived.WalkSpells
import Derived.WalkLawsBesides
import Derived.Maps.RangeRun
import Derived.Maps.AppendAt
import Derived.MapKept
import Derived.ChangeMaps5
import Derived.KernelRfl
import Derived.Lib.Hide
namespace Go.Proofs.YtdfgmieinbmfkaaGreat
open Go Go.RowKit Go.MapKept
open Go.ChangeMaps (setBlock)

/-! ### what a call may have turned -/

/-- w' is w but for the blocks of F and new ones. -/
structure Upd (F : Nat → Prop) (w w' : World) : Prop where
  os : w'.os = w.os
  tape : w'.tape = w.tape
  output : w'.output = w.output
  size : w.heap.size ≤ w'.heap.size
  block : ∀ k, k < w.heap.size → ¬ F k → w'.heap[k]? = w.heap[k]?

section
variable {F G H : Nat → Prop} {w w1 w2 w' : World}
theorem Upd.refl (F : Nat → Prop) (w : World) : Upd F w w := ⟨rfl, rfl, rfl, Nat.le_refl _, fun _ _ _ => rfl⟩
theorem Upd.trans (h : Upd F w w1) (k : Upd G w1 w2) (hF : ∀ b, F b → H b) (hG : ∀ b, G b → H b ∨ w.heap.size ≤ b) : Upd H w w2 :=
  ⟨k.os.trans h.os, k.tape.trans h.tape, k.output.trans h.output, Nat.le_trans h.size k.size, fun b hb hn =>
    (k.block b (Nat.lt_of_lt_of_le hb h.size) (fun e => (hG b e).elim hn (fun e => by omega))).trans (h.block b hb (fun e => hn (hF b e)))⟩
theorem Upd.mono (h : Upd F w w1) (hF : ∀ b, F b → G b ∨ w.heap.size ≤ b) : Upd G w w1 :=
  ⟨h.os, h.tape, h.output, h.size, fun b hb hn => h.block b hb (fun e => (hF b e).elim hn (fun e => by omega))⟩
theorem Upd.drew (h : Upd F w w1) : Upd F w w1.drew := ⟨h.os, h.tape, h.output, h.size, h.block⟩
theorem Upd.drewN (h : Upd F w w1) (n : Nat) : Upd F w (w1.drewN n) := ⟨h.os, h.tape, h.output, h.size, h.block⟩
theorem Upd.alloc (h : Upd F w w1) (o : Obj) : Upd F w (w1.alloc o) :=
  ⟨h.os, h.tape, h.output, Nat.le_trans h.size (by simp), fun b hb hn => (Below.heap_alloc w1 o b (Nat.lt_of_lt_of_le hb h.size)).trans (h.block b hb hn)⟩
theorem Upd.setCell (h : Upd F w w1) {p : Addr} (hp : F p.block ∨ w.heap.size ≤ p.block) (u : Value) : Upd F w (w1.setCell p u) :=
  ⟨h.os, h.tape, h.output, by simpa [World.setCell] using h.size, fun b hb hn => (Below.heap_setCell w1 p u b (by
    rintro rfl
    rcases hp with hp | hp
    · exact hn hp
    · omega)).trans (h.block b hb hn)⟩
theorem Upd.setBlock (h : Upd F w w1) {b : Nat} (hp : F b ∨ w.heap.size ≤ b) (o : Obj) : Upd F w (setBlock w1 b o) :=
  ⟨h.os, h.tape, h.output, by simpa [ChangeMaps.setBlock] using h.size, fun k hk hn => by
    have hne : k ≠ b := by
      rintro rfl
      rcases hp with hp | hp
      · exact hn hp
      · omega
    have : (ChangeMaps.setBlock w1 b o).heap[k]? = w1.heap[k]? := by simp [ChangeMaps.setBlock, Ne.symm hne]
    exact this.trans (h.block k hk hn)⟩
theorem Upd.of_below (h : Below w.heap.size w w1) (F : Nat → Prop) : Upd F w w1 := ⟨h.os, h.tape, h.output, h.size, fun b hb _ => h.block b hb⟩
theorem Upd.of_grown {row : Option Nat} (h : w.grownBy w1 row) (hF : ∀ k, row = some k → F k ∨ w.heap.size ≤ k) : Upd F w w1 :=
  ⟨h.os, h.tape, h.output, h.size, fun b hb hn => h.block b hb (fun e => (hF b e.symm).elim hn (fun e => by omega))⟩
theorem Upd.below (h : Upd F w w1) (hF : ∀ b, F b → w.heap.size ≤ b) : Below w.heap.size w w1 :=
  ⟨h.os, h.tape, h.output, h.size, fun b hb => h.block b hb (fun e => by have := hF b e; omega)⟩
/-- Two steps, the second one over blocks that the first one had or that are new. -/
theorem Upd.then (h : Upd F w w1) (k : Upd G w1 w2) (hG : ∀ b, G b → F b ∨ w.heap.size ≤ b) : Upd F w w2 := h.trans k (fun _ e => e) hG
end

/-! ### a block known whole -/

def Blk (w : World) (g : Nat) (t : TypeId) (cs : Array Value) : Prop := w.heap[g]? = some (.cells cs t (0, 0))

section
variable {w w' : World} {g : Nat} {t : TypeId} {cs : Array Value}
theorem Blk.lt (h : Blk w g t cs) : g < w.heap.size := by
  rcases Nat.lt_or_ge g w.heap.size with hlt | hge
  · exact hlt
  · unfold Blk at h; rw [Array.getElem?_eq_none hge] at h; cases h
theorem Blk.cell (h : Blk w g t cs) (i : Nat) : w.cell? ⟨g, i, none⟩ = cs[i]? := cell_of_row w g i cs t (0, 0) h
theorem Blk.frozen (h : Blk w g t cs) (i : Nat) : w.frozen? ⟨g, i, none⟩ = false := by
  unfold Blk at h
  simp [World.frozen?, h]
theorem Blk.new (w : World) (t : TypeId) (cs : Array Value) : Blk (w.alloc (.cells cs t)) w.heap.size t cs := heap_alloc_new w _
theorem Blk.drew (h : Blk w g t cs) : Blk w.drew g t cs := h
theorem Blk.drewN (h : Blk w g t cs) (n : Nat) : Blk (w.drewN n) g t cs := h
theorem Blk.alloc (h : Blk w g t cs) (o : Obj) : Blk (w.alloc o) g t cs := (Below.heap_alloc w o g h.lt).trans h
theorem Blk.set_ (h : Blk w g t cs) (i : Nat) (u : Value) : Blk (w.setCell ⟨g, i, none⟩ u) g t (cs.setIfInBounds i u) := by
  unfold Blk at h ⊢
  simp [World.setCell, Array.getElem?_modify, h]
theorem Blk.far (h : Blk w g t cs) {p : Addr} (hp : g ≠ p.block) (u : Value) : Blk (w.setCell p u) g t cs := (Below.heap_setCell w p u g hp).trans h
theorem Blk.upd {F : Nat → Prop} (h : Blk w g t cs) (hb : Upd F w w') (hg : ¬ F g) : Blk w' g t cs := (hb.block g h.lt hg).trans h
theorem Blk.eqb (h : Blk w g t cs) (hb : w'.heap[g]? = w.heap[g]?) : Blk w' g t cs := hb.trans h
theorem Blk.grown {row : Option Nat} (h : Blk w g t cs) (hb : w.grownBy w' row) (hg : some g ≠ row) : Blk w' g t cs := (hb.block g h.lt hg).trans h
theorem Blk.ne_ {g' : Nat} {t' : TypeId} {cs' : Array Value} (h : Blk w g t cs) (h' : Blk w g' t' cs') (hne : t ≠ t') : g ≠ g' := by
  rintro rfl
  unfold Blk at h h'
  rw [h] at h'
  injection h' with h'
  injection h' with _ ht
  exact hne ht
end

/-! ### maps -/

/-- How a Go key is made of a plain one. -/
structure KeyIn {α : Type} (d : TypeDesc) (inj : α → Value) : Prop where
  isKey : ∀ a, IsKey d (inj a)
  inj : ∀ a b, inj a = inj b → a = b

theorem keyInt (k : IntKind) : KeyIn (.int k) (fun i : Int => Value.int k i) := ⟨fun _ => rfl, fun _ _ h => by injection h⟩
theorem keyStr : KeyIn .string (fun s : ByteArray => Value.string s) := ⟨fun _ => trivial, fun _ _ h => by injection h⟩

/-- Block b is a map that holds just these pairs, in the order in which their keys came in. -/
def MapB {α : Type} (inj : α → Value) (w : World) (b : Nat) (m : List (α × Value)) : Prop :=
  ∃ es clock, w.heap[b]? = some (.map es clock) ∧ Stamped es clock ∧ es.toList.map (fun e => (e.key, e.val)) = m.map (fun p => (inj p.1, p.2))

/-- m with v at a. -/
def setA {α : Type} [DecidableEq α] (m : List (α × Value)) (a : α) (v : Value) : List (α × Value) :=
  if a ∈ m.map (·.1) then m.map (fun p => if p.1 = a then (a, v) else p) else m ++ [(a, v)]
def delA {α : Type} [DecidableEq α] (m : List (α × Value)) (a : α) : List (α × Value) := m.filter (fun p => p.1 ≠ a)
/-- what is at a. -/
def getA {α : Type} [DecidableEq α] (m : List (α × Value)) (a : α) : Option Value := (m.find? (fun p => p.1 = a)).map (·.2)

section
variable {α : Type} {inj : α → Value} {d : TypeDesc} {w w' : World} {b : Nat} {m : List (α × Value)}
theorem MapB.lt (h : MapB inj w b m) : b < w.heap.size := by
  obtain ⟨es, clock, hb, _⟩ := h
  exact (Array.getElem?_eq_some_iff.1 hb).1
theorem MapB.eqb (h : MapB inj w b m) (hb : w'.heap[b]? = w.heap[b]?) : MapB inj w' b m := by
  obtain ⟨es, clock, h1, h2⟩ := h
  exact ⟨es, clock, hb.trans h1, h2⟩
theorem MapB.upd {F : Nat → Prop} (h : MapB inj w b m) (hu : Upd F w w') (hn : ¬ F b) : MapB inj w' b m := h.eqb (hu.block b h.lt hn)
theorem MapB.drew (h : MapB inj w b m) : MapB inj w.drew b m := h
theorem MapB.alloc (h : MapB inj w b m) (o : Obj) : MapB inj (w.alloc o) b m := h.eqb (Below.heap_alloc w o b h.lt)
theorem MapB.far (h : MapB inj w b m) {p : Addr} (hp : b ≠ p.block) (u : Value) : MapB inj (w.setCell p u) b m := h.eqb (Below.heap_setCell w p u b hp)
theorem MapB.new (w : World) : MapB inj (w.alloc (.map #[] 0)) w.heap.size [] := ⟨#[], 0, heap_alloc_new w _, stamped_empty 0, rfl⟩
/-- A map is no row of cells. -/
theorem MapB.ne_blk {g : Nat} {t : TypeId} {cs : Array Value} (h : MapB inj w b m) (h' : Blk w g t cs) : b ≠ g := by
  rintro rfl
  obtain ⟨es, clock, h1, _⟩ := h
  unfold Blk at h'
  rw [h1] at h'
  cases h'
theorem keys_of {es : List MapEntry} (h : es.map (fun e => (e.key, e.val)) = m.map (fun p => (inj p.1, p.2))) : es.map (·.key) = m.map (fun p => inj p.1) := by
  have := congrArg (List.map Prod.fst) h
  simp only [List.map_map] at this
  exact this
theorem isKeys_of (K : KeyIn d inj) {es : List MapEntry} (h : es.map (fun e => (e.key, e.val)) = m.map (fun p => (inj p.1, p.2))) : ∀ x ∈ es, IsKey d x.key := by
  intro x hx
  have h1 : x.key ∈ es.map (·.key) := List.mem_map.2 ⟨x, hx, rfl⟩
  rw [keys_of h] at h1
  obtain ⟨p, _, hp⟩ := List.mem_map.1 h1
  rw [← hp]
  exact K.isKey _
theorem nodup_of_map {β γ : Type} {f : β → γ} : ∀ {l : List β}, (l.map f).Nodup → l.Nodup
  | [], _ => List.nodup_nil
  | x :: l, h => by
    simp only [List.map_cons, List.nodup_cons] at h ⊢
    exact ⟨fun e => h.1 (List.mem_map.2 ⟨x, e, rfl⟩), nodup_of_map h.2⟩
theorem MapB.nodup (h : MapB inj w b m) : (m.map (·.1)).Nodup := by
  obtain ⟨es, clock, _, hs, hm⟩ := h
  have h3 := hs.2.2
  rw [keys_of hm] at h3
  have h4 : ((m.map (·.1)).map inj).Nodup := by rw [List.map_map]; exact h3
  exact nodup_of_map h4
theorem at_place {es : List MapEntry} (hm : es.map (fun e => (e.key, e.val)) = m.map (fun p => (inj p.1, p.2))) (j : Nat) (e : MapEntry) (he : es[j]? = some e) :
    ∃ p, m[j]? = some p ∧ e.key = inj p.1 ∧ e.val = p.2 := by
  have h1 : (es.map (fun e => (e.key, e.val)))[j]? = some (e.key, e.val) := by simp [he]
  rw [hm] at h1
  simp only [List.getElem?_map, Option.map_eq_some_iff, Prod.mk.injEq] at h1
  obtain ⟨p, hp, h2, h3⟩ := h1
  exact ⟨p, hp, h2.symm, h3.symm⟩

variable [DecidableEq α]
theorem getA_some {a : α} (hn : (m.map (·.1)).Nodup) {j : Nat} {v : Value} (h : m[j]? = some (a, v)) : getA m a = some v := by
  unfold getA
  have hmem : (a, v) ∈ m := List.mem_of_getElem? h
  induction m generalizing j with
  | nil => simp at h
  | cons q m ih =>
    simp only [List.map_cons, List.nodup_cons] at hn
    by_cases hq : q.1 = a
    · have : q = (a, v) := by
        rcases List.mem_cons.1 hmem with e | e
        · exact e.symm
        · exact absurd (show a ∈ m.map (·.1) from List.mem_map.2 ⟨_, e, rfl⟩) (by rw [← hq]; exact hn.1)
      simp [this]
    · have hmem' : (a, v) ∈ m := by
        rcases List.mem_cons.1 hmem with e | e
        · exact absurd (by rw [← e]) hq
        · exact e
      obtain ⟨j', hj'⟩ := List.getElem?_of_mem hmem'
      simp only [List.find?_cons, hq, decide_false]
      exact ih hn.2 hj' hmem'
theorem getA_none {a : α} (h : ∀ p ∈ m, p.1 ≠ a) : getA m a = none := by
  unfold getA
  have : m.find? (fun p => decide (p.1 = a)) = none := by
    simp only [List.find?_eq_none, decide_eq_true_eq]
    exact h
  rw [this]
  rfl

/-- 'm[a]', 'm[a]' with ok. -/
theorem MapB.run_lookup {P : Program} {mty kt et : TypeId} (h : MapB inj w b m) (K : KeyIn d inj) (hm : P.underlying mty = some (.map kt et)) (hd : P.underlying kt = some d) (a : α) (ok : Bool)
    {z : Value} (hz : (zeroValue et).run P w = .ok z w) :
    (Instr.lookup mty (.map (some b)) (inj a) ok).run P w = .ok (if ok then .tuple #[(getA m a).getD z, .bool (getA m a).isSome] else (getA m a).getD z) w := by
  have hn := h.nodup
  obtain ⟨es, clock, hb, hs, he⟩ := h
  rcases findNow_spec (K.isKey a) es.toList 0 (isKeys_of K he) with ⟨h1, h2⟩ | ⟨j, e, h1, h2, h3⟩
  · have hg : getA m a = none := getA_none fun p hp hpa => by
      have h4 : inj p.1 ∈ es.toList.map (·.key) := by rw [keys_of he]; exact List.mem_map.2 ⟨p, hp, rfl⟩
      obtain ⟨x, hx, hxk⟩ := List.mem_map.1 h4
      exact h2 x hx (by rw [hxk, hpa])
    cases ok <;> simp [Instr.lookup, run_underlying hm, MapKept.run_getObj_map hb, run_checkKey hd (K.isKey a), run_findKey hd h1, hz, hg, Result.andThen]
  · obtain ⟨p, hp, hk, hv⟩ := at_place he j e h2
    have hpa : p.1 = a := K.inj _ _ (by rw [← hk, h3])
    have hg : getA m a = some e.val := getA_some hn (j := j) (by rw [hp, hv, ← hpa])
    cases ok <;> simp [Instr.lookup, run_underlying hm, MapKept.run_getObj_map hb, run_checkKey hd (K.isKey a), run_findKey hd h1, hg, Result.andThen]

/-- 'm[a] = v': the world behind it. -/
theorem MapB.run_update {P : Program} {mty kt et : TypeId} (h : MapB inj w b m) (K : KeyIn d inj) (hm : P.underlying mty = some (.map kt et)) (hd : P.underlying kt = some d) (a : α) (v : Value) :
    ∃ w', (Instr.mapUpdate mty (.map (some b)) (inj a) v).run P w = .ok () w' ∧ MapB inj w' b (setA m a v) ∧ Upd (· = b) w w' ∧ w'.heap.size = w.heap.size := by
  have hn := h.nodup
  obtain ⟨es, clock, hb, hs, he⟩ := h
  have hupd : ∀ o, Upd (· = b) w { w with heap := w.heap.setIfInBounds b o } := fun o => ⟨rfl, rfl, rfl, by simp, fun k _ hk => (heap_set hb).2 k hk⟩
  rcases findNow_spec (K.isKey a) es.toList 0 (isKeys_of K he) with ⟨h1, h2⟩ | ⟨j, e, h1, h2, h3⟩
  · refine ⟨{ w with heap := w.heap.setIfInBounds b (.map (es.push { key := inj a, val := v, born := clock }) (clock + 1)) }, ?_, ⟨_, _, (heap_set hb).1, stamped_push hs h2, ?_⟩, hupd _, by simp⟩
    · simp [Instr.mapUpdate, run_underlying hm, MapKept.run_getObj_map hb, run_checkKey hd (K.isKey a), run_findKey hd h1, MapKept.run_setObj_map _ hb, Result.andThen]
    · have hna : a ∉ m.map (·.1) := fun hmem => by
        obtain ⟨p, hp, hpa⟩ := List.mem_map.1 hmem
        have h4 : inj p.1 ∈ es.toList.map (·.key) := by rw [keys_of he]; exact List.mem_map.2 ⟨p, hp, rfl⟩
        obtain ⟨x, hx, hxk⟩ := List.mem_map.1 h4
        exact h2 x hx (by rw [hxk, hpa])
      unfold setA
      rw [if_neg hna]
      simp [he]
  · have hj : es[j]? = some e := by simpa using h2
    obtain ⟨p, hp, hk, hv⟩ := at_place he j e h2
    have hpa : p.1 = a := K.inj _ _ (by rw [← hk, h3])
    have hkey : ∀ e', es[j]? = some e' → ({ e' with key := inj a, val := v } : MapEntry).key = e'.key := fun e' he' => by rw [hj] at he'; cases he'; exact h3.symm
    refine ⟨{ w with heap := w.heap.setIfInBounds b (.map (es.modify j fun e => { e with key := inj a, val := v }) clock) }, ?_, ⟨_, _, (heap_set hb).1, stamped_modify hs _ _ (fun _ _ => rfl) (fun e' _ he' => hkey e' he'), ?_⟩, hupd _, by simp⟩
    · simp [Instr.mapUpdate, run_underlying hm, MapKept.run_getObj_map hb, run_checkKey hd (K.isKey a), run_findKey hd h1, hj, h3, run_keyThatStays (K.isKey a), MapKept.run_setObj_map _ hb, Result.andThen]
    · have hya : a ∈ m.map (·.1) := List.mem_map.2 ⟨p, List.mem_of_getElem? hp, hpa⟩
      unfold setA
      rw [if_pos hya]
      apply List.ext_getElem?
      intro i
      simp only [List.getElem?_map, Array.getElem?_toList, Array.getElem?_modify]
      have hi : (es.toList.map (fun e => (e.key, e.val)))[i]? = (m.map (fun p => (inj p.1, p.2)))[i]? := by rw [he]
      simp only [List.getElem?_map, Array.getElem?_toList] at hi
      by_cases hij : j = i
      · subst hij
        simp [hj, hp, hpa]
      · simp only [hij, if_false]
        rw [hi]
        cases hmi : m[i]? with
        | none => rfl
        | some q =>
          have hqa : q.1 ≠ a := by
            intro hqa
            have hlt1 : i < m.length := (List.getElem?_eq_some_iff.1 hmi).1
            have hlt2 : j < m.length := (List.getElem?_eq_some_iff.1 hp).1
            have e1 : (m.map (·.1))[i]? = some a := by simp [hmi, hqa]
            have e2 : (m.map (·.1))[j]? = some a := by simp [hp, hpa]
            exact hij ((List.getElem?_inj (by simpa using hlt2) hn).1 (e2.trans e1.symm))
          simp [hqa]

/-- 'delete(m, a)': the world behind it. -/
theorem MapB.run_delete {P : Program} {mty kt et ty : TypeId} (h : MapB inj w b m) (K : KeyIn d inj) (hm : P.underlying mty = some (.map kt et)) (hd : P.underlying kt = some d) (a : α) :
    ∃ w', (Builtin.delete_ #[mty, kt] ty #[.map (some b), inj a]).run P w = .ok (.tuple #[]) w' ∧ MapB inj w' b (delA m a) ∧ Upd (· = b) w w' ∧ w'.heap.size = w.heap.size := by
  have hn := h.nodup
  obtain ⟨es, clock, hb, hs, he⟩ := h
  have hupd : ∀ o, Upd (· = b) w { w with heap := w.heap.setIfInBounds b o } := fun o => ⟨rfl, rfl, rfl, by simp, fun k _ hk => (heap_set hb).2 k hk⟩
  rcases findNow_spec (K.isKey a) es.toList 0 (isKeys_of K he) with ⟨h1, h2⟩ | ⟨j, e, h1, h2, h3⟩
  · refine ⟨{ w with heap := w.heap.setIfInBounds b (.map es clock) }, ?_, ⟨_, _, (heap_set hb).1, hs, ?_⟩, hupd _, by simp⟩
    · simp [Builtin.delete_, run_underlying hm, MapKept.run_getObj_map hb, run_checkKey hd (K.isKey a), run_findKey hd h1, MapKept.run_setObj_map _ hb, Result.andThen]
    · have : delA m a = m := by
        unfold delA
        rw [List.filter_eq_self]
        intro p hp
        have h4 : inj p.1 ∈ es.toList.map (·.key) := by rw [keys_of he]; exact List.mem_map.2 ⟨p, hp, rfl⟩
        obtain ⟨x, hx, hxk⟩ := List.mem_map.1 h4
        have : p.1 ≠ a := fun hpa => h2 x hx (by rw [hxk, hpa])
        simpa using this
      rw [this]
      exact he
  · obtain ⟨p, hp, hk, hv⟩ := at_place he j e h2
    have hpa : p.1 = a := K.inj _ _ (by rw [← hk, h3])
    refine ⟨{ w with heap := w.heap.setIfInBounds b (.map (es.eraseIdxIfInBounds j) clock) }, ?_, ⟨_, _, (heap_set hb).1, stamped_erase hs _, ?_⟩, hupd _, by simp⟩
    · simp [Builtin.delete_, run_underlying hm, MapKept.run_getObj_map hb, run_checkKey hd (K.isKey a), run_findKey hd h1, MapKept.run_setObj_map _ hb, Result.andThen]
    · have hlt : j < es.size := by simpa using (List.getElem?_eq_some_iff.1 h2).1
      have hltm : j < m.length := (List.getElem?_eq_some_iff.1 hp).1
      have e1 : (es.eraseIdxIfInBounds j).toList = es.toList.eraseIdx j := by
        unfold Array.eraseIdxIfInBounds
        rw [dif_pos hlt]
        simp
      have e2 : delA m a = m.eraseIdx j := by
        unfold delA
        rw [List.eraseIdx_eq_take_drop_succ]
        have hsplit : m = m.take j ++ (m[j] :: m.drop (j + 1)) := by rw [← List.drop_eq_getElem_cons, List.take_append_drop]
        have hmj : m[j] = p := by
          have := List.getElem?_eq_getElem hltm
          rw [this] at hp
          exact Option.some.inj hp
        have hnn := hn
        rw [hsplit] at hnn
        simp only [List.map_append, List.map_cons, List.nodup_append, List.nodup_cons] at hnn
        conv => lhs; rw [hsplit]
        rw [List.filter_append, List.filter_cons]
        rw [if_neg (by simp [hmj, hpa])]
        have f1 : (m.take j).filter (fun p => decide (p.1 ≠ a)) = m.take j := by
          rw [List.filter_eq_self]
          intro q hq
          have := hnn.2.2 q.1 (List.mem_map.2 ⟨q, hq, rfl⟩) a (by rw [hmj, hpa]; exact .head _)
          simpa using this
        have f2 : (m.drop (j + 1)).filter (fun p => decide (p.1 ≠ a)) = m.drop (j + 1) := by
          rw [List.filter_eq_self]
          intro q hq
          have h5 := hnn.2.1.1
          have : q.1 ≠ a := fun hqa => h5 (List.mem_map.2 ⟨q, hq, by rw [hqa, hmj, hpa]⟩)
          simpa using this
        rw [f1, f2]
      rw [e1, e2, List.eraseIdx_eq_take_drop_succ, List.eraseIdx_eq_take_drop_succ]
      simp only [List.map_append, List.map_take, List.map_drop, he]
end
end Go.Proofs.YtdfgmieinbmfkaaGreat
