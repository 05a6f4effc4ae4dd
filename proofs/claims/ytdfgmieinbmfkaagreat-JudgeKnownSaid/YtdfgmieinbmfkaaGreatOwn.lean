/-
  Words for memory: a block known whole, what a call may have turned ('Upd'), and a map with its entries as a list of pairs, with the laws of make, lookup, store, delete and range over it. No program is in sight.
-/
import Derived.WalkKit
import Derived.WalkSpells
import Derived.WalkLawsBesides
import Derived.Maps.RangeRun
import Derived.Maps.AppendAt
import Derived.MapKept
import Derived.ChangeMaps5
import Derived.KernelRfl
import Derived.Lib.Hide
import Derived.Lib.ConvBytes
namespace Go.Proofs.YtdfgmieinbmfkaaGreat
open Go Go.RowKit Go.MapKept
open Go.ChangeMaps (setBlock)

/-! ### what a call may have turned -/

/-- w' is w but for the blocks of F and new ones. -/
structure Upd (F : Nat → Prop) (w w' : World) : Prop where
  os : w'.os = w.os
  tape : w'.tape = w.tape
  output : w'.output = w.output
  size : w.heap.size ≤ w'.heap.size
  block : ∀ k, k < w.heap.size → ¬ F k → w'.heap[k]? = w.heap[k]?

section
variable {F G H : Nat → Prop} {w w1 w2 w' : World}
theorem Upd.refl (F : Nat → Prop) (w : World) : Upd F w w := ⟨rfl, rfl, rfl, Nat.le_refl _, fun _ _ _ => rfl⟩
theorem Upd.trans (h : Upd F w w1) (k : Upd G w1 w2) (hF : ∀ b, F b → H b) (hG : ∀ b, G b → H b ∨ w.heap.size ≤ b) : Upd H w w2 :=
  ⟨k.os.trans h.os, k.tape.trans h.tape, k.output.trans h.output, Nat.le_trans h.size k.size, fun b hb hn =>
    (k.block b (Nat.lt_of_lt_of_le hb h.size) (fun e => (hG b e).elim hn (fun e => by omega))).trans (h.block b hb (fun e => hn (hF b e)))⟩
theorem Upd.mono (h : Upd F w w1) (hF : ∀ b, F b → G b ∨ w.heap.size ≤ b) : Upd G w w1 :=
  ⟨h.os, h.tape, h.output, h.size, fun b hb hn => h.block b hb (fun e => (hF b e).elim hn (fun e => by omega))⟩
theorem Upd.drew (h : Upd F w w1) : Upd F w w1.drew := ⟨h.os, h.tape, h.output, h.size, h.block⟩
theorem Upd.drewN (h : Upd F w w1) (n : Nat) : Upd F w (w1.drewN n) := ⟨h.os, h.tape, h.output, h.size, h.block⟩
theorem Upd.alloc (h : Upd F w w1) (o : Obj) : Upd F w (w1.alloc o) :=
  ⟨h.os, h.tape, h.output, Nat.le_trans h.size (by simp), fun b hb hn => (Below.heap_alloc w1 o b (Nat.lt_of_lt_of_le hb h.size)).trans (h.block b hb hn)⟩
theorem Upd.setCell (h : Upd F w w1) {p : Addr} (hp : F p.block ∨ w.heap.size ≤ p.block) (u : Value) : Upd F w (w1.setCell p u) :=
  ⟨h.os, h.tape, h.output, by simpa [World.setCell] using h.size, fun b hb hn => (Below.heap_setCell w1 p u b (by
    rintro rfl
    rcases hp with hp | hp
    · exact hn hp
    · omega)).trans (h.block b hb hn)⟩
theorem Upd.setBlock (h : Upd F w w1) {b : Nat} (hp : F b ∨ w.heap.size ≤ b) (o : Obj) : Upd F w (setBlock w1 b o) :=
  ⟨h.os, h.tape, h.output, by simpa [ChangeMaps.setBlock] using h.size, fun k hk hn => by
    have hne : k ≠ b := by
      rintro rfl
      rcases hp with hp | hp
      · exact hn hp
      · omega
    have : (ChangeMaps.setBlock w1 b o).heap[k]? = w1.heap[k]? := by simp [ChangeMaps.setBlock, Ne.symm hne]
    exact this.trans (h.block k hk hn)⟩
theorem Upd.of_below (h : Below w.heap.size w w1) (F : Nat → Prop) : Upd F w w1 := ⟨h.os, h.tape, h.output, h.size, fun b hb _ => h.block b hb⟩
theorem Upd.of_grown {row : Option Nat} (h : w.grownBy w1 row) (hF : ∀ k, row = some k → F k ∨ w.heap.size ≤ k) : Upd F w w1 :=
  ⟨h.os, h.tape, h.output, h.size, fun b hb hn => h.block b hb (fun e => (hF b e.symm).elim hn (fun e => by omega))⟩
theorem Upd.below (h : Upd F w w1) (hF : ∀ b, F b → w.heap.size ≤ b) : Below w.heap.size w w1 :=
  ⟨h.os, h.tape, h.output, h.size, fun b hb => h.block b hb (fun e => by have := hF b e; omega)⟩
/-- Two steps, the second one over blocks that the first one had or that are new. -/
theorem Upd.then (h : Upd F w w1) (k : Upd G w1 w2) (hG : ∀ b, G b → F b ∨ w.heap.size ≤ b) : Upd F w w2 := h.trans k (fun _ e => e) hG
end

/-! ### a block known whole -/

def Blk (w : World) (g : Nat) (t : TypeId) (cs : Array Value) : Prop := w.heap[g]? = some (.cells cs t (0, 0))

section
variable {w w' : World} {g : Nat} {t : TypeId} {cs : Array Value}
theorem Blk.lt (h : Blk w g t cs) : g < w.heap.size := by
  rcases Nat.lt_or_ge g w.heap.size with hlt | hge
  · exact hlt
  · unfold Blk at h; rw [Array.getElem?_eq_none hge] at h; cases h
theorem Blk.cell (h : Blk w g t cs) (i : Nat) : w.cell? ⟨g, i, none⟩ = cs[i]? := cell_of_row w g i cs t (0, 0) h
theorem Blk.frozen (h : Blk w g t cs) (i : Nat) : w.frozen? ⟨g, i, none⟩ = false := by
  unfold Blk at h
  simp [World.frozen?, h]
theorem Blk.new (w : World) (t : TypeId) (cs : Array Value) : Blk (w.alloc (.cells cs t)) w.heap.size t cs := heap_alloc_new w _
theorem Blk.drew (h : Blk w g t cs) : Blk w.drew g t cs := h
theorem Blk.drewN (h : Blk w g t cs) (n : Nat) : Blk (w.drewN n) g t cs := h
theorem Blk.alloc (h : Blk w g t cs) (o : Obj) : Blk (w.alloc o) g t cs := (Below.heap_alloc w o g h.lt).trans h
theorem Blk.set_ (h : Blk w g t cs) (i : Nat) (u : Value) : Blk (w.setCell ⟨g, i, none⟩ u) g t (cs.setIfInBounds i u) := by
  unfold Blk at h ⊢
  simp [World.setCell, Array.getElem?_modify, h]
theorem Blk.far (h : Blk w g t cs) {p : Addr} (hp : g ≠ p.block) (u : Value) : Blk (w.setCell p u) g t cs := (Below.heap_setCell w p u g hp).trans h
theorem Blk.upd {F : Nat → Prop} (h : Blk w g t cs) (hb : Upd F w w') (hg : ¬ F g) : Blk w' g t cs := (hb.block g h.lt hg).trans h
theorem Blk.eqb (h : Blk w g t cs) (hb : w'.heap[g]? = w.heap[g]?) : Blk w' g t cs := hb.trans h
theorem Blk.grown {row : Option Nat} (h : Blk w g t cs) (hb : w.grownBy w' row) (hg : some g ≠ row) : Blk w' g t cs := (hb.block g h.lt hg).trans h
theorem Blk.ne_ {g' : Nat} {t' : TypeId} {cs' : Array Value} (h : Blk w g t cs) (h' : Blk w g' t' cs') (hne : t ≠ t') : g ≠ g' := by
  rintro rfl
  unfold Blk at h h'
  rw [h] at h'
  injection h' with h'
  injection h' with _ ht
  exact hne ht
end

/-! ### maps -/

/-- How a Go key is made of a plain one. -/
structure KeyIn {α : Type} (d : TypeDesc) (inj : α → Value) : Prop where
  isKey : ∀ a, IsKey d (inj a)
  inj : ∀ a b, inj a = inj b → a = b

theorem keyInt (k : IntKind) : KeyIn (.int k) (fun i : Int => Value.int k i) := ⟨fun _ => rfl, fun _ _ h => by injection h⟩
theorem keyStr : KeyIn .string (fun s : ByteArray => Value.string s) := ⟨fun _ => trivial, fun _ _ h => by injection h⟩

/-- Block b is a map that holds just these pairs, in the order in which their keys came in. -/
def MapB {α : Type} (inj : α → Value) (w : World) (b : Nat) (m : List (α × Value)) : Prop :=
  ∃ es clock, w.heap[b]? = some (.map es clock) ∧ Stamped es clock ∧ es.toList.map (fun e => (e.key, e.val)) = m.map (fun p => (inj p.1, p.2))

/-- m with v at a. -/
def setA {α : Type} [DecidableEq α] (m : List (α × Value)) (a : α) (v : Value) : List (α × Value) :=
  if a ∈ m.map (·.1) then m.map (fun p => if p.1 = a then (a, v) else p) else m ++ [(a, v)]
def delA {α : Type} [DecidableEq α] (m : List (α × Value)) (a : α) : List (α × Value) := m.filter (fun p => p.1 ≠ a)
/-- what is at a. -/
def getA {α : Type} [DecidableEq α] (m : List (α × Value)) (a : α) : Option Value := (m.find? (fun p => p.1 = a)).map (·.2)

section
variable {α : Type} {inj : α → Value} {d : TypeDesc} {w w' : World} {b : Nat} {m : List (α × Value)}
theorem MapB.lt (h : MapB inj w b m) : b < w.heap.size := by
  obtain ⟨es, clock, hb, _⟩ := h
  exact (Array.getElem?_eq_some_iff.1 hb).1
theorem MapB.eqb (h : MapB inj w b m) (hb : w'.heap[b]? = w.heap[b]?) : MapB inj w' b m := by
  obtain ⟨es, clock, h1, h2⟩ := h
  exact ⟨es, clock, hb.trans h1, h2⟩
theorem MapB.upd {F : Nat → Prop} (h : MapB inj w b m) (hu : Upd F w w') (hn : ¬ F b) : MapB inj w' b m := h.eqb (hu.block b h.lt hn)
theorem MapB.drew (h : MapB inj w b m) : MapB inj w.drew b m := h
theorem MapB.alloc (h : MapB inj w b m) (o : Obj) : MapB inj (w.alloc o) b m := h.eqb (Below.heap_alloc w o b h.lt)
theorem MapB.far (h : MapB inj w b m) {p : Addr} (hp : b ≠ p.block) (u : Value) : MapB inj (w.setCell p u) b m := h.eqb (Below.heap_setCell w p u b hp)
theorem MapB.new (w : World) : MapB inj (w.alloc (.map #[] 0)) w.heap.size [] := ⟨#[], 0, heap_alloc_new w _, stamped_empty 0, rfl⟩
/-- A map is no row of cells. -/
theorem MapB.ne_blk {g : Nat} {t : TypeId} {cs : Array Value} (h : MapB inj w b m) (h' : Blk w g t cs) : b ≠ g := by
  rintro rfl
  obtain ⟨es, clock, h1, _⟩ := h
  unfold Blk at h'
  rw [h1] at h'
  cases h'
theorem keys_of {es : List MapEntry} (h : es.map (fun e => (e.key, e.val)) = m.map (fun p => (inj p.1, p.2))) : es.map (·.key) = m.map (fun p => inj p.1) := by
  have := congrArg (List.map Prod.fst) h
  simp only [List.map_map] at this
  exact this
theorem isKeys_of (K : KeyIn d inj) {es : List MapEntry} (h : es.map (fun e => (e.key, e.val)) = m.map (fun p => (inj p.1, p.2))) : ∀ x ∈ es, IsKey d x.key := by
  intro x hx
  have h1 : x.key ∈ es.map (·.key) := List.mem_map.2 ⟨x, hx, rfl⟩
  rw [keys_of h] at h1
  obtain ⟨p, _, hp⟩ := List.mem_map.1 h1
  rw [← hp]
  exact K.isKey _
theorem nodup_of_map {β γ : Type} {f : β → γ} : ∀ {l : List β}, (l.map f).Nodup → l.Nodup
  | [], _ => List.nodup_nil
  | x :: l, h => by
    simp only [List.map_cons, List.nodup_cons] at h ⊢
    exact ⟨fun e => h.1 (List.mem_map.2 ⟨x, e, rfl⟩), nodup_of_map h.2⟩
theorem MapB.nodup (h : MapB inj w b m) : (m.map (·.1)).Nodup := by
  obtain ⟨es, clock, _, hs, hm⟩ := h
  have h3 := hs.2.2
  rw [keys_of hm] at h3
  have h4 : ((m.map (·.1)).map inj).Nodup := by rw [List.map_map]; exact h3
  exact nodup_of_map h4
theorem at_place {es : List MapEntry} (hm : es.map (fun e => (e.key, e.val)) = m.map (fun p => (inj p.1, p.2))) (j : Nat) (e : MapEntry) (he : es[j]? = some e) :
    ∃ p, m[j]? = some p ∧ e.key = inj p.1 ∧ e.val = p.2 := by
  have h1 : (es.map (fun e => (e.key, e.val)))[j]? = some (e.key, e.val) := by simp [he]
  rw [hm] at h1
  simp only [List.getElem?_map, Option.map_eq_some_iff, Prod.mk.injEq] at h1
  obtain ⟨p, hp, h2, h3⟩ := h1
  exact ⟨p, hp, h2.symm, h3.symm⟩

variable [DecidableEq α]
theorem getA_some {a : α} (hn : (m.map (·.1)).Nodup) {j : Nat} {v : Value} (h : m[j]? = some (a, v)) : getA m a = some v := by
  unfold getA
  have hmem : (a, v) ∈ m := List.mem_of_getElem? h
  induction m generalizing j with
  | nil => simp at h
  | cons q m ih =>
    simp only [List.map_cons, List.nodup_cons] at hn
    by_cases hq : q.1 = a
    · have : q = (a, v) := by
        rcases List.mem_cons.1 hmem with e | e
        · exact e.symm
        · exact absurd (show a ∈ m.map (·.1) from List.mem_map.2 ⟨_, e, rfl⟩) (by rw [← hq]; exact hn.1)
      simp [this]
    · have hmem' : (a, v) ∈ m := by
        rcases List.mem_cons.1 hmem with e | e
        · exact absurd (by rw [← e]) hq
        · exact e
      obtain ⟨j', hj'⟩ := List.getElem?_of_mem hmem'
      simp only [List.find?_cons, hq, decide_false]
      exact ih hn.2 hj' hmem'
theorem getA_none {a : α} (h : ∀ p ∈ m, p.1 ≠ a) : getA m a = none := by
  unfold getA
  have : m.find? (fun p => decide (p.1 = a)) = none := by
    simp only [List.find?_eq_none, decide_eq_true_eq]
    exact h
  rw [this]
  rfl

/-- 'm[a]', 'm[a]' with ok. -/
theorem MapB.run_lookup {P : Program} {mty kt et : TypeId} (h : MapB inj w b m) (K : KeyIn d inj) (hm : P.underlying mty = some (.map kt et)) (hd : P.underlying kt = some d) (a : α) (ok : Bool)
    {z : Value} (hz : (zeroValue et).run P w = .ok z w) :
    (Instr.lookup mty (.map (some b)) (inj a) ok).run P w = .ok (if ok then .tuple #[(getA m a).getD z, .bool (getA m a).isSome] else (getA m a).getD z) w := by
  have hn := h.nodup
  obtain ⟨es, clock, hb, hs, he⟩ := h
  rcases findNow_spec (K.isKey a) es.toList 0 (isKeys_of K he) with ⟨h1, h2⟩ | ⟨j, e, h1, h2, h3⟩
  · have hg : getA m a = none := getA_none fun p hp hpa => by
      have h4 : inj p.1 ∈ es.toList.map (·.key) := by rw [keys_of he]; exact List.mem_map.2 ⟨p, hp, rfl⟩
      obtain ⟨x, hx, hxk⟩ := List.mem_map.1 h4
      exact h2 x hx (by rw [hxk, hpa])
    cases ok <;> simp [Instr.lookup, run_underlying hm, MapKept.run_getObj_map hb, run_checkKey hd (K.isKey a), run_findKey hd h1, hz, hg, Result.andThen]
  · obtain ⟨p, hp, hk, hv⟩ := at_place he j e h2
    have hpa : p.1 = a := K.inj _ _ (by rw [← hk, h3])
    have hg : getA m a = some e.val := getA_some hn (j := j) (by rw [hp, hv, ← hpa])
    cases ok <;> simp [Instr.lookup, run_underlying hm, MapKept.run_getObj_map hb, run_checkKey hd (K.isKey a), run_findKey hd h1, hg, Result.andThen]

/-- 'm[a] = v': the world behind it. -/
theorem MapB.run_update {P : Program} {mty kt et : TypeId} (h : MapB inj w b m) (K : KeyIn d inj) (hm : P.underlying mty = some (.map kt et)) (hd : P.underlying kt = some d) (a : α) (v : Value) :
    ∃ w', (Instr.mapUpdate mty (.map (some b)) (inj a) v).run P w = .ok () w' ∧ MapB inj w' b (setA m a v) ∧ Upd (· = b) w w' ∧ w'.heap.size = w.heap.size := by
  have hn := h.nodup
  obtain ⟨es, clock, hb, hs, he⟩ := h
  have hupd : ∀ o, Upd (· = b) w { w with heap := w.heap.setIfInBounds b o } := fun o => ⟨rfl, rfl, rfl, by simp, fun k _ hk => (heap_set hb).2 k hk⟩
  rcases findNow_spec (K.isKey a) es.toList 0 (isKeys_of K he) with ⟨h1, h2⟩ | ⟨j, e, h1, h2, h3⟩
  · refine ⟨{ w with heap := w.heap.setIfInBounds b (.map (es.push { key := inj a, val := v, born := clock }) (clock + 1)) }, ?_, ⟨_, _, (heap_set hb).1, stamped_push hs h2, ?_⟩, hupd _, by simp⟩
    · simp [Instr.mapUpdate, run_underlying hm, MapKept.run_getObj_map hb, run_checkKey hd (K.isKey a), run_findKey hd h1, MapKept.run_setObj_map _ hb, Result.andThen]
    · have hna : a ∉ m.map (·.1) := fun hmem => by
        obtain ⟨p, hp, hpa⟩ := List.mem_map.1 hmem
        have h4 : inj p.1 ∈ es.toList.map (·.key) := by rw [keys_of he]; exact List.mem_map.2 ⟨p, hp, rfl⟩
        obtain ⟨x, hx, hxk⟩ := List.mem_map.1 h4
        exact h2 x hx (by rw [hxk, hpa])
      unfold setA
      rw [if_neg hna]
      simp [he]
  · have hj : es[j]? = some e := by simpa using h2
    obtain ⟨p, hp, hk, hv⟩ := at_place he j e h2
    have hpa : p.1 = a := K.inj _ _ (by rw [← hk, h3])
    have hkey : ∀ e', es[j]? = some e' → ({ e' with key := inj a, val := v } : MapEntry).key = e'.key := fun e' he' => by rw [hj] at he'; cases he'; exact h3.symm
    refine ⟨{ w with heap := w.heap.setIfInBounds b (.map (es.modify j fun e => { e with key := inj a, val := v }) clock) }, ?_, ⟨_, _, (heap_set hb).1, stamped_modify hs _ _ (fun _ _ => rfl) (fun e' _ he' => hkey e' he'), ?_⟩, hupd _, by simp⟩
    · simp [Instr.mapUpdate, run_underlying hm, MapKept.run_getObj_map hb, run_checkKey hd (K.isKey a), run_findKey hd h1, hj, h3, run_keyThatStays (K.isKey a), MapKept.run_setObj_map _ hb, Result.andThen]
    · have hya : a ∈ m.map (·.1) := List.mem_map.2 ⟨p, List.mem_of_getElem? hp, hpa⟩
      unfold setA
      rw [if_pos hya]
      apply List.ext_getElem?
      intro i
      simp only [List.getElem?_map, Array.getElem?_toList, Array.getElem?_modify]
      have hi : (es.toList.map (fun e => (e.key, e.val)))[i]? = (m.map (fun p => (inj p.1, p.2)))[i]? := by rw [he]
      simp only [List.getElem?_map, Array.getElem?_toList] at hi
      by_cases hij : j = i
      · subst hij
        simp [hj, hp, hpa]
      · simp only [hij, if_false]
        rw [hi]
        cases hmi : m[i]? with
        | none => rfl
        | some q =>
          have hqa : q.1 ≠ a := by
            intro hqa
            have hlt1 : i < m.length := (List.getElem?_eq_some_iff.1 hmi).1
            have hlt2 : j < m.length := (List.getElem?_eq_some_iff.1 hp).1
            have e1 : (m.map (·.1))[i]? = some a := by simp [hmi, hqa]
            have e2 : (m.map (·.1))[j]? = some a := by simp [hp, hpa]
            exact hij ((List.getElem?_inj (by simpa using hlt2) hn).1 (e2.trans e1.symm))
          simp [hqa]

/-- 'delete(m, a)': the world behind it. -/
theorem MapB.run_delete {P : Program} {mty kt et ty : TypeId} (h : MapB inj w b m) (K : KeyIn d inj) (hm : P.underlying mty = some (.map kt et)) (hd : P.underlying kt = some d) (a : α) :
    ∃ w', (Builtin.delete_ #[mty, kt] ty #[.map (some b), inj a]).run P w = .ok (.tuple #[]) w' ∧ MapB inj w' b (delA m a) ∧ Upd (· = b) w w' ∧ w'.heap.size = w.heap.size := by
  have hn := h.nodup
  obtain ⟨es, clock, hb, hs, he⟩ := h
  have hupd : ∀ o, Upd (· = b) w { w with heap := w.heap.setIfInBounds b o } := fun o => ⟨rfl, rfl, rfl, by simp, fun k _ hk => (heap_set hb).2 k hk⟩
  rcases findNow_spec (K.isKey a) es.toList 0 (isKeys_of K he) with ⟨h1, h2⟩ | ⟨j, e, h1, h2, h3⟩
  · refine ⟨{ w with heap := w.heap.setIfInBounds b (.map es clock) }, ?_, ⟨_, _, (heap_set hb).1, hs, ?_⟩, hupd _, by simp⟩
    · simp [Builtin.delete_, run_underlying hm, MapKept.run_getObj_map hb, run_checkKey hd (K.isKey a), run_findKey hd h1, MapKept.run_setObj_map _ hb, Result.andThen]
    · have : delA m a = m := by
        unfold delA
        rw [List.filter_eq_self]
        intro p hp
        have h4 : inj p.1 ∈ es.toList.map (·.key) := by rw [keys_of he]; exact List.mem_map.2 ⟨p, hp, rfl⟩
        obtain ⟨x, hx, hxk⟩ := List.mem_map.1 h4
        have : p.1 ≠ a := fun hpa => h2 x hx (by rw [hxk, hpa])
        simpa using this
      rw [this]
      exact he
  · obtain ⟨p, hp, hk, hv⟩ := at_place he j e h2
    have hpa : p.1 = a := K.inj _ _ (by rw [← hk, h3])
    refine ⟨{ w with heap := w.heap.setIfInBounds b (.map (es.eraseIdxIfInBounds j) clock) }, ?_, ⟨_, _, (heap_set hb).1, stamped_erase hs _, ?_⟩, hupd _, by simp⟩
    · simp [Builtin.delete_, run_underlying hm, MapKept.run_getObj_map hb, run_checkKey hd (K.isKey a), run_findKey hd h1, MapKept.run_setObj_map _ hb, Result.andThen]
    · have hlt : j < es.size := by simpa using (List.getElem?_eq_some_iff.1 h2).1
      have hltm : j < m.length := (List.getElem?_eq_some_iff.1 hp).1
      have e1 : (es.eraseIdxIfInBounds j).toList = es.toList.eraseIdx j := by
        unfold Array.eraseIdxIfInBounds
        rw [dif_pos hlt]
        simp
      have e2 : delA m a = m.eraseIdx j := by
        unfold delA
        rw [List.eraseIdx_eq_take_drop_succ]
        have hsplit : m = m.take j ++ (m[j] :: m.drop (j + 1)) := by rw [← List.drop_eq_getElem_cons, List.take_append_drop]
        have hmj : m[j] = p := by
          have := List.getElem?_eq_getElem hltm
          rw [this] at hp
          exact Option.some.inj hp
        have hnn := hn
        rw [hsplit] at hnn
        simp only [List.map_append, List.map_cons, List.nodup_append, List.nodup_cons] at hnn
        conv => lhs; rw [hsplit]
        rw [List.filter_append, List.filter_cons]
        rw [if_neg (by simp [hmj, hpa])]
        have f1 : (m.take j).filter (fun p => decide (p.1 ≠ a)) = m.take j := by
          rw [List.filter_eq_self]
          intro q hq
          have := hnn.2.2 q.1 (List.mem_map.2 ⟨q, hq, rfl⟩) a (by rw [hmj, hpa]; exact .head _)
          simpa using this
        have f2 : (m.drop (j + 1)).filter (fun p => decide (p.1 ≠ a)) = m.drop (j + 1) := by
          rw [List.filter_eq_self]
          intro q hq
          have h5 := hnn.2.1.1
          have : q.1 ≠ a := fun hqa => h5 (List.mem_map.2 ⟨q, hq, by rw [hqa, hmj, hpa]⟩)
          simpa using this
        rw [f1, f2]
      rw [e1, e2, List.eraseIdx_eq_take_drop_succ, List.eraseIdx_eq_take_drop_succ]
      simp only [List.map_append, List.map_take, List.map_drop, he]
end
end Go.Proofs.YtdfgmieinbmfkaaGreat

/-
  Laws of single operations over blocks known whole: the world behind a store is a new letter, of which the block and what else stands is told.
-/
namespace Go.Proofs.YtdfgmieinbmfkaaGreat
open Go Go.RowKit

section
variable {P : Program} {ops : Array Oper} {rest : List Oper} {o : Oper} {a : Act} {w : World} {Q : Exit → Act → World → Prop} {K : Act → World → Prop}

theorem Blk.setRow {g : Nat} {t : TypeId} {cs : Array Value} (h : Blk w g t cs) (new : Array Value) : Blk (w.setRow g new) g t new := setRow_heap w g cs new t (0, 0) h
theorem Upd.setRow_ (w : World) (g : Nat) (new : Array Value) : Upd (· = g) w (w.setRow g new) := ⟨rfl, rfl, rfl, by simp, fun k _ hk => setRow_other w g k new hk⟩

theorem run_store_one {ty t : TypeId} {g i : Nat} {v : Value} {cs : Array Value} (hB : Blk w g t cs) (hi : i < cs.size) (h1 : v.oneCell' = true) (hsz : (P.info? ty).map (·.size) = some 1) :
    (Instr.storeAt ty (.pointer (some ⟨g, i, none⟩)) v).run P w = .ok () (w.setCell ⟨g, i, none⟩ v) := by
  have hc : w.cell? ⟨g, i, none⟩ = some cs[i] := by rw [hB.cell]; exact Array.getElem?_eq_getElem hi
  have hf := hB.frozen i
  cases hq : P.info? ty with
  | none => simp [hq] at hsz
  | some inf =>
    have hs : inf.size = 1 := by simpa [hq] using hsz
    have hcells : v.cells = #[v] := by cases v <;> simp_all [Value.oneCell', Value.cells]
    have hst : (store ⟨g, i, none⟩ v).run P w = .ok () (w.setCell ⟨g, i, none⟩ v) := by
      rw [run_store P w _ v _ h1]
      simp [hc, hf]
    simp [Instr.storeAt, Instr.sureAddr, storeVar, sizeOf, typeInfo, hq, hs, hcells, storeCells, Addr.add, hst, Result.andThen]

theorem wp_store_one (ty : TypeId) (x y : Operand) (ho : o.op = .store ty x y) (g i : Nat) (v : Value) (hx : a.eval x = .pointer (some ⟨g, i, none⟩)) (hy : a.eval y = v)
    (t : TypeId) (cs : Array Value) (hB : Blk w g t cs) (hi : i < cs.size) (h1 : v.oneCell' = true) (hsz : (P.info? ty).map (·.size) = some 1)
    (h : ∀ w', Blk w' g t (cs.setIfInBounds i v) → Upd (· = g) w w' → w'.heap.size = w.heap.size → K (a.put o.dst undef) w') : o.wp P a w K Q := by
  unfold Oper.wp execOp
  simp only [ho, hx, hy, Sem.run_bind, run_store_one (P := P) hB hi h1 hsz, Sem.run_pure, Result.andThen_ok]
  exact h _ (hB.set_ i v) ((Upd.refl (· = g) w).setCell (p := ⟨g, i, none⟩) (.inl rfl) v) (by simp)
theorem wpList_store_one (hg : o.guard = none) (ty : TypeId) (x y : Operand) (ho : o.op = .store ty x y) (g i : Nat) (v : Value) (hx : a.eval x = .pointer (some ⟨g, i, none⟩)) (hy : a.eval y = v)
    (t : TypeId) (cs : Array Value) (hB : Blk w g t cs) (hi : i < cs.size) (h1 : v.oneCell' = true) (hsz : (P.info? ty).map (·.size) = some 1)
    (h : ∀ w', Blk w' g t (cs.setIfInBounds i v) → Upd (· = g) w w' → w'.heap.size = w.heap.size → wpList P ops Q rest (a.put o.dst undef) w') : wpList P ops Q (o :: rest) a w :=
  wpList_plain hg fun _ hK => wp_store_one ty x y ho g i v hx hy t cs hB hi h1 hsz fun w' b1 b2 b3 => hK _ _ (h w' b1 b2 b3)

theorem wp_store_all (ty : TypeId) (x y : Operand) (ho : o.op = .store ty x y) (g : Nat) (new : Array Value) (hx : a.eval x = .pointer (some ⟨g, 0, none⟩)) (hy : a.eval y = .agg new)
    (t : TypeId) (cs : Array Value) (hB : Blk w g t cs) (hs : cs.size = new.size) (h1 : new.all (·.oneCell') = true) (hsz : (P.info? ty).map (·.size) = some new.size)
    (h : ∀ w', Blk w' g t new → Upd (· = g) w w' → w'.heap.size = w.heap.size → K (a.put o.dst undef) w') : o.wp P a w K Q :=
  wp_store_row ty x y ho g new hx hy t cs hB hsz hs h1 (h _ (hB.setRow new) (Upd.setRow_ w g new) (by simp))
theorem wpList_store_all (hg : o.guard = none) (ty : TypeId) (x y : Operand) (ho : o.op = .store ty x y) (g : Nat) (new : Array Value) (hx : a.eval x = .pointer (some ⟨g, 0, none⟩)) (hy : a.eval y = .agg new)
    (t : TypeId) (cs : Array Value) (hB : Blk w g t cs) (hs : cs.size = new.size) (h1 : new.all (·.oneCell') = true) (hsz : (P.info? ty).map (·.size) = some new.size)
    (h : ∀ w', Blk w' g t new → Upd (· = g) w w' → w'.heap.size = w.heap.size → wpList P ops Q rest (a.put o.dst undef) w') : wpList P ops Q (o :: rest) a w :=
  wpList_plain hg fun _ hK => wp_store_all ty x y ho g new hx hy t cs hB hs h1 hsz fun w' b1 b2 b3 => hK _ _ (h w' b1 b2 b3)

theorem wpList_load_all (hg : o.guard = none) (ty : TypeId) (x : Operand) (ho : o.op = .load ty x) (g : Nat) (hx : a.eval x = .pointer (some ⟨g, 0, none⟩)) (t : TypeId) (cs : Array Value) (d : TypeDesc)
    (hB : Blk w g t cs) (hu : P.underlying ty = some d) (hd : (match d with | .struct _ | .array _ _ => true | _ => false) = true) (hi : (P.info? ty).map (·.size) = some cs.size)
    (h : wpList P ops Q rest (a.put o.dst (.agg cs)) w) : wpList P ops Q (o :: rest) a w := wpList_load_row hg ty x ho g hx t cs (0, 0) d hB hu hd hi h
end

/-! ### the cells of a block that is written out -/
section
variable {w : World} {g : Nat} {t : TypeId} {a b c d e f h i j : Value}
theorem Blk.cells1 (k : Blk w g t #[a]) : w.cell? ⟨g, 0, none⟩ = some a := k.cell 0
theorem Blk.cells2 (k : Blk w g t #[a, b]) : w.cell? ⟨g, 0, none⟩ = some a ∧ w.cell? ⟨g, 1, none⟩ = some b := ⟨k.cell 0, k.cell 1⟩
theorem Blk.cells3 (k : Blk w g t #[a, b, c]) : w.cell? ⟨g, 0, none⟩ = some a ∧ w.cell? ⟨g, 1, none⟩ = some b ∧ w.cell? ⟨g, 2, none⟩ = some c := ⟨k.cell 0, k.cell 1, k.cell 2⟩
theorem Blk.cells4 (k : Blk w g t #[a, b, c, d]) : w.cell? ⟨g, 0, none⟩ = some a ∧ w.cell? ⟨g, 1, none⟩ = some b ∧ w.cell? ⟨g, 2, none⟩ = some c ∧ w.cell? ⟨g, 3, none⟩ = some d := ⟨k.cell 0, k.cell 1, k.cell 2, k.cell 3⟩
theorem Blk.cells7 (k : Blk w g t #[a, b, c, d, e, f, h]) : w.cell? ⟨g, 0, none⟩ = some a ∧ w.cell? ⟨g, 1, none⟩ = some b ∧ w.cell? ⟨g, 2, none⟩ = some c ∧ w.cell? ⟨g, 3, none⟩ = some d ∧ w.cell? ⟨g, 4, none⟩ = some e ∧ w.cell? ⟨g, 5, none⟩ = some f ∧ w.cell? ⟨g, 6, none⟩ = some h :=
  ⟨k.cell 0, k.cell 1, k.cell 2, k.cell 3, k.cell 4, k.cell 5, k.cell 6⟩
theorem Blk.cells9 (k : Blk w g t #[a, b, c, d, e, f, h, i, j]) : w.cell? ⟨g, 0, none⟩ = some a ∧ w.cell? ⟨g, 1, none⟩ = some b ∧ w.cell? ⟨g, 2, none⟩ = some c ∧ w.cell? ⟨g, 3, none⟩ = some d ∧ w.cell? ⟨g, 4, none⟩ = some e ∧ w.cell? ⟨g, 5, none⟩ = some f ∧ w.cell? ⟨g, 6, none⟩ = some h ∧ w.cell? ⟨g, 7, none⟩ = some i ∧ w.cell? ⟨g, 8, none⟩ = some j :=
  ⟨k.cell 0, k.cell 1, k.cell 2, k.cell 3, k.cell 4, k.cell 5, k.cell 6, k.cell 7, k.cell 8⟩
end
end Go.Proofs.YtdfgmieinbmfkaaGreat

/-
  Ranging over a map by the laws of a list of pairs: what is left to come is a list of pairs, of which whichever may come next; keys that came or that will not come may be deleted meanwhile.
-/
namespace Go.Proofs.YtdfgmieinbmfkaaGreat
open Go Go.RowKit Go.MapKept
open Go.ChangeMaps (setBlock)

/-- Block r is an iterator over the map in block b, which holds m; the pairs 'left' are still to come. -/
def Rng {α : Type} (inj : α → Value) (w : World) (r b : Nat) (m left : List (α × Value)) : Prop :=
  ∃ es clock since seen c0, w.heap[r]? = some (.mapIter (some b) since seen c0) ∧ w.heap[b]? = some (.map es clock) ∧ Stamped es clock ∧ es.toList.map (fun e => (e.key, e.val)) = m.map (fun p => (inj p.1, p.2)) ∧
    (∀ x ∈ es.toList, x.born < since) ∧ since ≤ c0 ∧ since ≤ clock ∧ (es.toList.filter (fun e => !seen.contains e.born)).map (fun e => (e.key, e.val)) = left.map (fun p => (inj p.1, p.2))

section
variable {α : Type} {inj : α → Value} {d : TypeDesc} {w w' : World} {r b : Nat} {m left : List (α × Value)}
theorem Rng.map (h : Rng inj w r b m left) : MapB inj w b m := by
  obtain ⟨es, clock, since, seen, c0, _, h2, h3, h4, _⟩ := h
  exact ⟨es, clock, h2, h3, h4⟩
theorem Rng.lt (h : Rng inj w r b m left) : r < w.heap.size := by
  obtain ⟨es, clock, since, seen, c0, h1, _⟩ := h
  exact (Array.getElem?_eq_some_iff.1 h1).1
theorem Rng.ne (h : Rng inj w r b m left) : r ≠ b := by
  rintro rfl
  obtain ⟨es, clock, since, seen, c0, h1, h2, _⟩ := h
  rw [h1] at h2
  cases h2
theorem Rng.ne_blk {g : Nat} {t : TypeId} {cs : Array Value} (h : Rng inj w r b m left) (h' : Blk w g t cs) : r ≠ g := by
  rintro rfl
  obtain ⟨es, clock, since, seen, c0, h1, _⟩ := h
  unfold Blk at h'
  rw [h1] at h'
  cases h'
theorem Rng.eqb (h : Rng inj w r b m left) (h1 : w'.heap[r]? = w.heap[r]?) (h2 : w'.heap[b]? = w.heap[b]?) : Rng inj w' r b m left := by
  obtain ⟨es, clock, since, seen, c0, k1, k2, k3⟩ := h
  exact ⟨es, clock, since, seen, c0, h1.trans k1, h2.trans k2, k3⟩
theorem Rng.upd {F : Nat → Prop} (h : Rng inj w r b m left) (hu : Upd F w w') (hr : ¬ F r) (hb : ¬ F b) : Rng inj w' r b m left :=
  h.eqb (hu.block r h.lt hr) (hu.block b h.map.lt hb)

/-- How many pairs are still to come: a loop's measure. -/
def rngLeft (w : World) (r b : Nat) : Nat :=
  match w.heap[r]?, w.heap[b]? with
  | some (.mapIter _ _ seen _), some (.map es _) => (es.toList.filter (fun e => !seen.contains e.born)).length
  | _, _ => 0
theorem Rng.left_eq (h : Rng inj w r b m left) : rngLeft w r b = left.length := by
  obtain ⟨es, clock, since, seen, c0, h1, h2, _, _, _, _, _, h3⟩ := h
  have := congrArg List.length h3
  simp only [List.length_map] at this
  unfold rngLeft
  rw [h1, h2]
  exact this
theorem Rng.drew (h : Rng inj w r b m left) : Rng inj w.drew r b m left := h.eqb rfl rfl
theorem Rng.far (h : Rng inj w r b m left) {p : Addr} (h1 : r ≠ p.block) (h2 : b ≠ p.block) (u : Value) : Rng inj (w.setCell p u) r b m left := h.eqb (Below.heap_setCell w p u r h1) (Below.heap_setCell w p u b h2)

/-- 'range m'. -/
theorem MapB.run_range {P : Program} {mty kt et : TypeId} (h : MapB inj w b m) (hm : P.underlying mty = some (.map kt et)) :
    ∃ w', (Instr.range mty (.map (some b))).run P w = .ok (.pointer (some ⟨w.heap.size, 0, none⟩)) w' ∧ Rng inj w' w.heap.size b m m ∧ Upd (fun _ => False) w w' ∧ w'.heap.size = w.heap.size + 1 := by
  have hlt := h.lt
  obtain ⟨es, clock, hb, hs, he⟩ := h
  refine ⟨w.alloc (.mapIter (some b) clock #[] clock), ?_, ⟨es, clock, clock, #[], clock, heap_alloc_new w _, (Below.heap_alloc w _ b hlt).trans hb, hs, he, hs.1, Nat.le_refl _, Nat.le_refl _, ?_⟩, (Upd.refl _ _).alloc _, by simp⟩
  · simp [Instr.range, run_underlying hm, MapKept.run_getObj_map hb, Result.andThen]
  · have : es.toList.filter (fun e => !(#[] : Array Nat).contains e.born) = es.toList := by
      rw [List.filter_eq_self]
      intro x _
      simp
    rw [this]
    exact he

/-- 'next': nothing is left, or whichever of what is left. -/
theorem Rng.run_next {P : Program} (h : Rng inj w r b m left) (hn : ∀ p q, inj p = inj q → p = q) (ty : TypeId) :
    (left = [] ∧ (Instr.next (.pointer (some ⟨r, 0, none⟩)) false ty).run P w = .ok (.tuple #[.bool false]) w) ∨
    ∃ k v l1 l2 w', left = l1 ++ (k, v) :: l2 ∧ (k, v) ∈ m ∧ (Instr.next (.pointer (some ⟨r, 0, none⟩)) false ty).run P w = .ok (.tuple #[.bool true, inj k, v]) w' ∧ Rng inj w' r b m (l1 ++ l2) ∧
      (Instr.entry (.pointer (some ⟨r, 0, none⟩))).run P w' = .ok (.tuple #[inj k, v]) w' ∧ Upd (· = r) w w' ∧ w'.heap.size = w.heap.size := by
  have hrb := h.ne
  obtain ⟨es, clock, since, seen, c0, hr, hb, hs, he, hold, hsc, hcl, hl⟩ := h
  rcases run_next_at (P := P) w ty r b since c0 seen es clock hr hb hold hsc with ⟨h0, hrun⟩ | ⟨e, hmem, w1, hw1, hrun⟩
  · left
    refine ⟨?_, hrun⟩
    have h1 : (leftOf es seen).toList = [] := by
      have : (leftOf es seen) = #[] := Array.eq_empty_of_size_eq_zero h0
      rw [this]
    unfold leftOf at h1
    rw [Array.toList_filter] at h1
    rw [h1] at hl
    simpa using hl.symm
  · right
    have hmem' : e ∈ es.toList.filter (fun e => !seen.contains e.born) := by
      unfold leftOf at hmem
      rw [Array.toList_filter] at hmem
      exact hmem
    have hes : e ∈ es.toList := (List.mem_filter.1 hmem').1
    obtain ⟨s1, s2, hsplit⟩ := List.append_of_mem hmem'
    have hl' := hl
    rw [hsplit] at hl'
    simp only [List.map_append, List.map_cons] at hl'
    obtain ⟨l1, lr, hleft, e1, e2⟩ := List.map_eq_append_iff.1 hl'.symm
    obtain ⟨q, l2, rfl, e3, e4⟩ := List.map_eq_cons_iff.1 e2
    obtain ⟨k, v⟩ := q
    simp only [Prod.mk.injEq] at e3
    obtain ⟨ek, ev⟩ := e3
    subst ev
    have hw1h : w1.heap = w.heap := by rcases hw1 with rfl | rfl <;> rfl
    have hsetr : (setBlock w1 r (.mapIter (some b) since (seen.push e.born) clock)).heap[r]? = some (.mapIter (some b) since (seen.push e.born) clock) := by
      have hlt : r < w1.heap.size := by rw [hw1h]; exact (Array.getElem?_eq_some_iff.1 hr).1
      simp [ChangeMaps.setBlock, hlt]
    have hseto : ∀ k, k ≠ r → (setBlock w1 r (.mapIter (some b) since (seen.push e.born) clock)).heap[k]? = w.heap[k]? := by
      intro k hk
      simp [ChangeMaps.setBlock, Ne.symm hk, hw1h]
    have hsetb := (hseto b (Ne.symm hrb)).trans hb
    have hin : (inj k, e.val) ∈ es.toList.map (fun e => (e.key, e.val)) := by rw [ek]; exact List.mem_map.2 ⟨e, hes, rfl⟩
    refine ⟨k, e.val, l1, l2, _, hleft, ?_, ?_, ⟨es, clock, since, seen.push e.born, clock, hsetr, hsetb, hs, he, hold, hcl, hcl, ?_⟩, ?_, ?_, ?_⟩
    · rw [he] at hin
      obtain ⟨p, hp, hpe⟩ := List.mem_map.1 hin
      simp only [Prod.mk.injEq] at hpe
      have : p = (k, e.val) := Prod.ext (hn _ _ hpe.1) hpe.2
      rw [← this]
      exact hp
    · rw [ek]; exact hrun
    · have hnd : (es.toList.map (·.born)).Nodup := hs.2.1
      have hnf : (es.toList.filter (fun e => !seen.contains e.born)).Nodup := (nodup_of_map hnd).filter _
      have e5 : es.toList.filter (fun x => !(seen.push e.born).contains x.born) = (es.toList.filter (fun e => !seen.contains e.born)).filter (fun x => x.born ≠ e.born) := by
        rw [List.filter_filter]
        apply List.filter_congr
        intro x _
        by_cases hx : x.born = e.born <;> simp [hx]
      rw [e5, hsplit]
      have inj_born : ∀ x ∈ es.toList, x.born = e.born → x = e := by
        intro x hx hxe
        obtain ⟨i, hi⟩ := List.getElem?_of_mem hx
        obtain ⟨j, hj⟩ := List.getElem?_of_mem hes
        have hi' : (es.toList.map (·.born))[i]? = some e.born := by simp [hi, hxe]
        have hj' : (es.toList.map (·.born))[j]? = some e.born := by simp [hj]
        have hlt : i < (es.toList.map (·.born)).length := (List.getElem?_eq_some_iff.1 hi').1
        have := (List.getElem?_inj hlt hnd).1 (hi'.trans hj'.symm)
        subst this
        rw [hi] at hj
        exact Option.some.inj hj
      rw [hsplit] at hnf
      have hall : ∀ x ∈ s1 ++ e :: s2, x ∈ es.toList := by
        intro x hx
        rw [← hsplit] at hx
        exact (List.mem_filter.1 hx).1
      have hnn := List.nodup_append.1 hnf
      have f1 : s1.filter (fun x => decide (x.born ≠ e.born)) = s1 := by
        rw [List.filter_eq_self]
        intro x hx
        have : x.born ≠ e.born := fun hxe => by
          have := inj_born x (hall x (by simp [hx])) hxe
          subst this
          exact hnn.2.2 x hx x (.head _) rfl
        simpa using this
      have f2 : s2.filter (fun x => decide (x.born ≠ e.born)) = s2 := by
        rw [List.filter_eq_self]
        intro x hx
        have : x.born ≠ e.born := fun hxe => by
          have := inj_born x (hall x (by simp [hx])) hxe
          subst this
          exact (List.nodup_cons.1 hnn.2.1).1 hx
        simpa using this
      rw [List.filter_append, List.filter_cons, if_neg (by simp), f1, f2]
      simp only [List.map_append, e1, e4]
    · rw [ek]
      exact run_entry_at _ r b since seen es clock e hsetr hsetb hes hs.2.1
    · refine ⟨?_, ?_, ?_, by simp [ChangeMaps.setBlock, hw1h], fun k _ hk => hseto k hk⟩ <;> rcases hw1 with rfl | rfl <;> rfl
    · simp [ChangeMaps.setBlock, hw1h]

variable [DecidableEq α]
/-- 'delete(m, a)' while it is ranged over. -/
theorem Rng.run_delete {P : Program} {mty kt et ty : TypeId} (h : Rng inj w r b m left) (K : KeyIn d inj) (hm : P.underlying mty = some (.map kt et)) (hd : P.underlying kt = some d) (a : α) :
    ∃ w', (Builtin.delete_ #[mty, kt] ty #[.map (some b), inj a]).run P w = .ok (.tuple #[]) w' ∧ Rng inj w' r b (delA m a) (delA left a) ∧ Upd (· = b) w w' ∧ w'.heap.size = w.heap.size := by
  classical
  have hrb := h.ne
  have hmB := h.map
  obtain ⟨w', h1, h2, h3, h4⟩ := hmB.run_delete (ty := ty) K hm hd a
  obtain ⟨es, clock, since, seen, c0, hr, hb, hs, he, hold, hsc, hcl, hl⟩ := h
  -- the same run once more, over the entries
  have key : ∃ es', w'.heap[b]? = some (.map es' clock) ∧ Stamped es' clock ∧ es'.toList = es.toList.filter (fun e => decide (e.key ≠ inj a) ) := by
    rcases findNow_spec (K.isKey a) es.toList 0 (isKeys_of K he) with ⟨k1, k2⟩ | ⟨j, e, k1, k2, k3⟩
    · simp [Builtin.delete_, run_underlying hm, MapKept.run_getObj_map hb, run_checkKey hd (K.isKey a), run_findKey hd k1, MapKept.run_setObj_map _ hb, Result.andThen] at h1
      subst h1
      refine ⟨es, (heap_set hb).1, hs, ?_⟩
      symm
      rw [List.filter_eq_self]
      intro x hx
      simpa using k2 x hx
    · simp [Builtin.delete_, run_underlying hm, MapKept.run_getObj_map hb, run_checkKey hd (K.isKey a), run_findKey hd k1, MapKept.run_setObj_map _ hb, Result.andThen] at h1
      subst h1
      refine ⟨_, (heap_set hb).1, stamped_erase hs _, ?_⟩
      have hlt : j < es.size := by simpa using (List.getElem?_eq_some_iff.1 k2).1
      have e1 : (es.eraseIdxIfInBounds j).toList = es.toList.eraseIdx j := by
        unfold Array.eraseIdxIfInBounds
        rw [dif_pos hlt]
        simp
      rw [e1, List.eraseIdx_eq_take_drop_succ]
      have hlt' : j < es.toList.length := by simpa using hlt
      have hsplit : es.toList = es.toList.take j ++ (es.toList[j] :: es.toList.drop (j + 1)) := by rw [← List.drop_eq_getElem_cons, List.take_append_drop]
      have hej : es.toList[j] = e := by
        rw [List.getElem?_eq_getElem hlt'] at k2
        exact Option.some.inj k2
      have hnn := hs.2.2
      rw [hsplit] at hnn
      simp only [List.map_append, List.map_cons, List.nodup_append, List.nodup_cons] at hnn
      conv => rhs; rw [hsplit]
      rw [List.filter_append, List.filter_cons, if_neg (by simp [hej, k3])]
      have f1 : (es.toList.take j).filter (fun e => decide (e.key ≠ inj a)) = es.toList.take j := by
        rw [List.filter_eq_self]
        intro q hq
        have := hnn.2.2 q.key (List.mem_map.2 ⟨q, hq, rfl⟩) (inj a) (by rw [hej, k3]; exact .head _)
        simpa using this
      have f2 : (es.toList.drop (j + 1)).filter (fun e => decide (e.key ≠ inj a)) = es.toList.drop (j + 1) := by
        rw [List.filter_eq_self]
        intro q hq
        have : q.key ≠ inj a := fun hqa => hnn.2.1.1 (List.mem_map.2 ⟨q, hq, by rw [hqa, hej, k3]⟩)
        simpa using this
      rw [f1, f2]
  obtain ⟨es', hb', hs', hes'⟩ := key
  have pull : ∀ (l : List MapEntry) (m' : List (α × Value)), l.map (fun e => (e.key, e.val)) = m'.map (fun p => (inj p.1, p.2)) →
      (l.filter (fun e => decide (e.key ≠ inj a))).map (fun e => (e.key, e.val)) = (delA m' a).map (fun p => (inj p.1, p.2)) := by
    intro l
    induction l with
    | nil => intro m' hm'; cases m' with
      | nil => rfl
      | cons => simp at hm'
    | cons x l ih =>
      intro m' hm'
      cases m' with
      | nil => simp at hm'
      | cons q m' =>
        simp only [List.map_cons, List.cons.injEq, Prod.mk.injEq] at hm'
        obtain ⟨⟨hk, hv⟩, hrest⟩ := hm'
        have := ih m' hrest
        unfold delA at this ⊢
        by_cases hq : q.1 = a
        · rw [List.filter_cons, if_neg (by simp [hk, hq]), List.filter_cons, if_neg (by simp [hq])]
          exact this
        · have hx : x.key ≠ inj a := fun e => hq (K.inj _ _ (by rw [← hk, e]))
          rw [List.filter_cons, if_pos (by simp [hx]), List.filter_cons, if_pos (by simp [hq])]
          simp only [List.map_cons, this, hk, hv]
  refine ⟨w', h1, ⟨es', clock, since, seen, c0, (h3.block r (Array.getElem?_eq_some_iff.1 hr).1 hrb).trans hr, hb', hs', ?_, ?_, hsc, hcl, ?_⟩, h3, h4⟩
  · rw [hes']; exact pull _ _ he
  · intro x hx
    rw [hes'] at hx
    exact hold x (List.mem_filter.1 hx).1
  · rw [hes', List.filter_filter]
    have := pull _ _ hl
    rw [List.filter_filter] at this
    rw [← this]
    congr 1
    apply List.filter_congr
    intro x _
    rw [Bool.and_comm]
end
end Go.Proofs.YtdfgmieinbmfkaaGreat

/-
  Slices that a call owns, marks of conversions let in; append onto them from whatever source; and the laws of single operations whose run is known.
-/
namespace Go.Proofs.YtdfgmieinbmfkaaGreat
open Go Go.RowKit
open Go.ChangeMaps (setBlock)

/-- No cell below k is marked. -/
def NoFr (fr : Nat × Nat) (k : Nat) : Prop := fr = (0, 0) ∨ k ≤ fr.1

/-- The slice value v, of n elements of 'size' cells each, begins at the head of a row of its own, of which no cell is marked and whose first cells are xs; or it is nil. -/
def Own (w : World) (e : TypeId) (size : Nat) (v : Value) (n : Nat) (xs : List Value) : Prop :=
  xs.length = n * size ∧
  ((v = .slice none 0 0 ∧ n = 0) ∨
   ∃ g cap cur fr, v = .slice (some ⟨g, 0, none⟩) n cap ∧ w.heap[g]? = some (.cells cur e fr) ∧ NoFr fr cur.size ∧ n ≤ cap ∧ cap ≤ maxLen ∧ cur.size = cap * size ∧ cur.toList.take (n * size) = xs)

section
variable {w w' : World} {e : TypeId} {size n : Nat} {v : Value} {xs : List Value}
theorem Own.nil (w : World) (e : TypeId) (size : Nat) : Own w e size (.slice none 0 0) 0 [] := ⟨by simp, .inl ⟨rfl, rfl⟩⟩
theorem Own.len (h : Own w e size v n xs) : xs.length = n * size := h.1
theorem Own.lt (h : Own w e size v n xs) {k : Nat} (hk : v.ownBlock = some k) : k < w.heap.size := by
  rcases h.2 with ⟨rfl, _⟩ | ⟨g, cap, cur, fr, rfl, hg, _⟩
  · simp [Value.ownBlock] at hk
  · simp [Value.ownBlock] at hk
    subst hk
    exact (Array.getElem?_eq_some_iff.1 hg).1
theorem Own.eqb (h : Own w e size v n xs) (hb : ∀ k, v.ownBlock = some k → w'.heap[k]? = w.heap[k]?) : Own w' e size v n xs := by
  refine ⟨h.1, ?_⟩
  rcases h.2 with hn | ⟨g, cap, cur, fr, rfl, hg, rest⟩
  · exact .inl hn
  · exact .inr ⟨g, cap, cur, fr, rfl, (hb g (by simp [Value.ownBlock])).trans hg, rest⟩
theorem Own.upd {F : Nat → Prop} (h : Own w e size v n xs) (hu : Upd F w w') (hn : ∀ k, v.ownBlock = some k → ¬ F k) : Own w' e size v n xs :=
  h.eqb fun k hk => hu.block k (h.lt hk) (hn k hk)
theorem Own.drew (h : Own w e size v n xs) : Own w.drew e size v n xs := h
theorem Own.alloc (h : Own w e size v n xs) (o : Obj) : Own (w.alloc o) e size v n xs := h.eqb fun k hk => Below.heap_alloc w o k (h.lt hk)
theorem Own.far (h : Own w e size v n xs) {p : Addr} (hp : v.ownBlock ≠ some p.block) (u : Value) : Own (w.setCell p u) e size v n xs :=
  h.eqb fun k hk => Below.heap_setCell w p u k (fun e => hp (by rw [← e]; exact hk))
theorem Own.cells (h : Own w e size v n xs) {g : Nat} (hg : v.ownBlock = some g) : ∀ j u, xs[j]? = some u → w.cell? ((⟨g, 0, none⟩ : Addr).add j) = some u := by
  intro j u hu
  rcases h.2 with ⟨rfl, _⟩ | ⟨g', cap, cur, fr, rfl, hgg, _, _, _, _, htake⟩
  · simp [Value.ownBlock] at hg
  · simp [Value.ownBlock] at hg
    subst hg
    have hadd : (⟨g', 0, none⟩ : Addr).add j = ⟨g', j, none⟩ := by unfold Addr.add; split <;> simp_all
    rw [hadd, cell_of_row w g' j cur e fr hgg]
    rw [← htake, List.getElem?_take] at hu
    split at hu
    · simpa using hu
    · cases hu
theorem Own.cellAt {g cap : Nat} (h : Own w e size (.slice (some ⟨g, 0, none⟩) n cap) n xs) (j : Nat) (hj : j < n * size) : w.cell? ⟨g, j, none⟩ = xs[j]? := by
  have hl := h.1
  have h1 := h.cells (g := g) (by simp [Value.ownBlock]) j xs[j] (List.getElem?_eq_getElem (by omega))
  rw [List.getElem?_eq_getElem (by omega), ← h1]
  congr 1
  unfold Addr.add
  split <;> simp_all
theorem Own.frozenAt {g cap : Nat} (h : Own w e size (.slice (some ⟨g, 0, none⟩) n cap) n xs) (j : Nat) (hj : j < n * size) : w.frozen? ⟨g, j, none⟩ = false := by
  rcases h.2 with ⟨hv, _⟩ | ⟨g', cap', cur, fr, hv, hgg, hfr, hnc, _, hcs, _⟩
  · cases hv
  · injection hv with h1 h2 h3
    injection h1 with h1
    injection h1 with h1
    subst h1 h3
    have hlt : j < cur.size := by rw [hcs]; exact Nat.lt_of_lt_of_le hj (Nat.mul_le_mul_right _ hnc)
    obtain ⟨lo, hi⟩ := fr
    simp only [World.frozen?, hgg]
    rcases hfr with h0 | h0
    · cases h0; simp
    · simp only at h0
      have : ¬ lo ≤ j := by omega
      simp [this]
theorem Own.head (h : Own w e size v n xs) (hn : 0 < n) : ∃ g cap, v = .slice (some ⟨g, 0, none⟩) n cap ∧ n ≤ cap ∧ cap ≤ maxLen := by
  rcases h.2 with ⟨_, h0⟩ | ⟨g, cap, cur, fr, rfl, _, _, hnc, hcm, _⟩
  · omega
  · exact ⟨g, cap, rfl, hnc, hcm⟩
theorem Own.one (h : Own w e size v n xs) : v.oneCell' = true := by
  rcases h.2 with ⟨rfl, _⟩ | ⟨g, cap, cur, fr, rfl, _⟩ <;> rfl
theorem Own.ne_blk {g : Nat} {t : TypeId} {cs : Array Value} (h : Own w e size v n xs) (hB : Blk w g t cs) (hne : e ≠ t) : v.ownBlock ≠ some g := by
  rcases h.2 with ⟨rfl, _⟩ | ⟨g', cap, cur, fr, rfl, hg, _⟩
  · simp [Value.ownBlock]
  · intro he
    have : g' = g := by simpa [Value.ownBlock] using he
    subst this
    unfold Blk at hB
    rw [hg] at hB
    injection hB with hB
    injection hB with _ ht
    exact hne ht
theorem Own.ne_map {α : Type} {inj : α → Value} {g : Nat} {m : List (α × Value)} (h : Own w e size v n xs) (hM : MapB inj w g m) : v.ownBlock ≠ some g := by
  rcases h.2 with ⟨rfl, _⟩ | ⟨g', cap, cur, fr, rfl, hg, _⟩
  · simp [Value.ownBlock]
  · intro he
    have : g' = g := by simpa [Value.ownBlock] using he
    subst this
    obtain ⟨es, clock, h1, _⟩ := hM
    rw [hg] at h1
    cases h1
theorem Own.shape (h : Own w e size v n xs) : ∃ A cap, v = .slice A n cap ∧ n ≤ cap ∧ cap ≤ maxLen := by
  rcases h.2 with ⟨rfl, h0⟩ | ⟨g, cap, cur, fr, rfl, _, _, hnc, hcm, _⟩
  · exact ⟨none, 0, by rw [h0], by omega, by simp [maxLen]⟩
  · exact ⟨_, cap, rfl, hnc, hcm⟩
theorem setCell_heap_same (w : World) (g j : Nat) (cur : Array Value) (t : TypeId) (fr : Nat × Nat) (u : Value) (hg : w.heap[g]? = some (.cells cur t fr)) :
    (w.setCell ⟨g, j, none⟩ u).heap[g]? = some (.cells (cur.setIfInBounds j u) t fr) := by
  simp [World.setCell, Array.getElem?_modify, hg]
/-- a store into one of its cells. -/
theorem Own.stored {g cap : Nat} (h : Own w e size (.slice (some ⟨g, 0, none⟩) n cap) n xs) (j : Nat) (u : Value) : Own (w.setCell ⟨g, j, none⟩ u) e size (.slice (some ⟨g, 0, none⟩) n cap) n (xs.set j u) := by
  refine ⟨by simpa using h.1, ?_⟩
  rcases h.2 with ⟨hv, _⟩ | ⟨g', cap', cur, fr, hv, hgg, hfr, hnc, hcm, hcs, htake⟩
  · cases hv
  · injection hv with h1 h2 h3
    injection h1 with h1
    injection h1 with h1
    subst h1 h3
    refine .inr ⟨g, cap, cur.setIfInBounds j u, fr, rfl, setCell_heap_same w g j cur e fr u hgg, by simpa using hfr, hnc, hcm, by simpa using hcs, ?_⟩
    rw [Array.toList_setIfInBounds, List.take_set, htake]
end

/-! ### sources of an append -/

/-- x gives the cells news, m elements. -/
structure Src (P : Program) (w : World) (xT : TypeId) (size : Nat) (x : Value) (m : Nat) (news : List Value) : Prop where
  known : (∃ t, P.underlying xT = some (.slice t)) ∨ P.underlying xT = some .string
  len : news.length = m * size
  lenOf : ∀ w, (Builtin.lenOf x).run P w = .ok m w
  cells : (Builtin.firstCells size m x).run P w = .ok news.toArray w
  cells' : (Builtin.firstCells size m x).run P w.drew = .ok news.toArray w.drew

section
variable {P : Program} {w w' : World} {e xT t : TypeId} {size n m : Nat} {v x : Value} {xs news : List Value}
theorem Src.of_addr (ht : P.underlying xT = some (.slice t)) (a : Addr) (m c : Nat) (hl : news.length = m * size) (h : ∀ j u, news[j]? = some u → w.cell? (a.add j) = some u) : Src P w xT size (.slice (some a) m c) m news :=
  ⟨.inl ⟨_, ht⟩, hl, fun w => by simp [Builtin.lenOf], run_firstCells_some w size m a m c news hl h, run_firstCells_some w.drew size m a m c news hl h⟩
theorem Src.of_nil (ht : P.underlying xT = some (.slice t)) (c : Nat) : Src P w xT size (.slice none 0 c) 0 [] :=
  ⟨.inl ⟨_, ht⟩, by simp, fun w => by simp [Builtin.lenOf], by simp [Builtin.firstCells], by simp [Builtin.firstCells]⟩
theorem Src.of_own (ht : P.underlying xT = some (.slice t)) (h : Own w e size v n xs) : Src P w xT size v n xs := by
  rcases h.2 with ⟨rfl, rfl⟩ | ⟨g, cap, cur, fr, rfl, _⟩
  · have : xs = [] := List.eq_nil_of_length_eq_zero (by simpa using h.1)
    subst this
    exact .of_nil ht 0
  · exact .of_addr ht _ _ _ h.1 (h.cells (by simp [Value.ownBlock]))
theorem Src.of_string (ht : P.underlying xT = some .string) (s : ByteArray) : Src P w xT 1 (.string s) s.size (s.data.toList.map fun b => Value.int .u8 b.toNat) := by
  have hx : (Array.map (fun b : UInt8 => Value.int IntKind.u8 (b.toNat : Int)) s.data).extract 0 s.size = Array.map (fun b : UInt8 => Value.int IntKind.u8 (b.toNat : Int)) s.data := by
    have hs : s.size = (Array.map (fun b : UInt8 => Value.int IntKind.u8 (b.toNat : Int)) s.data).size := by rw [Array.size_map]; rfl
    rw [hs, Array.extract_size]
  have hy : (s.data.toList.map fun b => Value.int .u8 b.toNat).toArray = Array.map (fun b : UInt8 => Value.int IntKind.u8 (b.toNat : Int)) s.data := by
    apply Array.ext'
    simp
  exact ⟨.inr ht, by simp, fun w => by simp [Builtin.lenOf], by simp [Builtin.firstCells, hy], by simp [Builtin.firstCells, hy]⟩

theorem run_storeCells_fr (g o : Nat) (t : TypeId) (fr : Nat × Nat) (P : Program) : ∀ (vs : List Value) (i : Nat) (cur : Array Value) (w : World), w.heap[g]? = some (.cells cur t fr) → NoFr fr cur.size → o + i + vs.length ≤ cur.size → (∀ v ∈ vs, v.oneCell' = true) →
    ∃ w', (storeCells ⟨g, o, none⟩ vs i).run P w = .ok () w' ∧ w'.heap[g]? = some (.cells (cur.toList.take (o + i) ++ vs ++ cur.toList.drop (o + i + vs.length)).toArray t fr) ∧ Upd (· = g) w w' ∧ w'.heap.size = w.heap.size
  | [], i, cur, w, hg, _, _, _ => by
    refine ⟨w, by simp [storeCells], ?_, Upd.refl _ _, rfl⟩
    simp only [List.append_nil, List.length_nil, Nat.add_zero, List.take_append_drop, Array.toArray_toList]
    exact hg
  | v :: rest, i, cur, w, hg, hfr, hl, h1 => by
    have hi : o + i < cur.size := by simp at hl; omega
    have hadd : (⟨g, o, none⟩ : Addr).add i = ⟨g, o + i, none⟩ := by unfold Addr.add; split <;> simp_all
    have hcell : w.cell? ⟨g, o + i, none⟩ = some cur[o + i] := by simp [World.cell?, hg, hi]
    have hfro : w.frozen? ⟨g, o + i, none⟩ = false := by
      obtain ⟨lo, hh⟩ := fr
      simp only [World.frozen?, hg]
      rcases hfr with h0 | h0
      · cases h0; simp
      · simp only at h0
        have : ¬ lo ≤ o + i := by omega
        simp [this]
    have hst : (store ((⟨g, o, none⟩ : Addr).add i) v).run P w = .ok () (w.setCell ⟨g, o + i, none⟩ v) := by
      rw [hadd, run_store P w _ v _ (h1 v (by simp)), hcell]
      simp [hfro]
    obtain ⟨w', k1, k2, k3, k4⟩ := run_storeCells_fr g o t fr P rest (i + 1) (cur.setIfInBounds (o + i) v) (w.setCell ⟨g, o + i, none⟩ v) (setCell_heap_same w g (o + i) cur t fr v hg) (by simpa using hfr) (by simp at hl ⊢; omega) (fun x hx => h1 x (by simp [hx]))
    refine ⟨w', by simp only [storeCells, Sem.run_bind, hst, Result.andThen_ok, k1], ?_, (((Upd.refl (· = g) w).setCell (p := ⟨g, o + i, none⟩) (.inl rfl) v).then k3 (fun b hb => .inl hb)), by rw [k4]; simp⟩
    rw [k2]
    congr 3
    have e := list_seg_step cur.toList (o + i) v rest (by simp at hl ⊢; omega)
    simpa [Array.toList_setIfInBounds, Nat.add_assoc] using e

/-- append: what becomes of the slice, and of the world. -/
theorem run_append_src (t ty : TypeId) (i : TypeInfo) (z : Value) (bytes : Nat) (ht : P.underlying t = some (.slice e)) (hi : P.info? e = some i) (hz : i.zero = some z)
    (hsize : i.size = size) (hby : i.bytes = bytes) (hzs : z.cells.size = size)
    (hown : Own w e size v n xs) (hsrc : Src P w xT size x m news) (h1 : ∀ u ∈ news, u.oneCell' = true)
    (h63 : n + m ≤ maxLen) (hbytes : (n + m) * bytes ≤ 140737488355328) :
    ∃ v' w', (Builtin.append_ #[t, xT] ty #[v, x]).run P w = .ok v' w' ∧ Own w' e size v' (n + m) (xs ++ news) ∧ Upd (fun k => v.ownBlock = some k) w w' ∧
      (v'.ownBlock = v.ownBlock ∨ v'.ownBlock = some w.heap.size) ∧ w'.heap.size ≤ w.heap.size + 1 := by
  subst hsize
  subst hby
  have hsmall : n + m ≤ 9223372036854775807 := by simp only [maxLen] at h63; omega
  have hlen : (xs ++ news).length = (n + m) * i.size := by rw [List.length_append, hown.1, hsrc.len, Nat.add_mul]
  have h63' : ¬ (9223372036854775807 < ((n : Int) + (m : Int))) := by omega
  have grown : ∀ (old : Nat), old < n + m →
      Own (w.drew.alloc (.cells (xs.toArray ++ news.toArray ++ Builtin.zeroCells z.cells (grownCap w (n + m) old e - (n + m))) e)) e i.size
        (.slice (some ⟨w.heap.size, 0, none⟩) (n + m) (grownCap w (n + m) old e)) (n + m) (xs ++ news) := by
    intro old ho
    have hge := grownCap_ge w (n + m) old e
    have hcm : grownCap w (n + m) old e ≤ maxLen := grownCap_le_maxLen w (n + m) old e h63
    refine ⟨hlen, .inr ⟨w.heap.size, _, _, (0, 0), rfl, heap_alloc_new w.drew _, .inl rfl, hge, hcm, ?_, ?_⟩⟩
    · simp only [Array.size_append, List.size_toArray, size_zeroCells, hzs, hown.1, hsrc.len, ← Nat.add_mul]
      congr 1
      omega
    · simp only [Array.toList_append, List.append_assoc]
      rw [← List.append_assoc, ← hlen]
      exact List.take_left
  have updg : ∀ (o : Obj), Upd (fun k => v.ownBlock = some k) w (w.drew.alloc o) := fun o => ((Upd.refl _ w).drew).alloc o
  rcases hown.2 with ⟨rfl, rfl⟩ | ⟨g, cap, cur, fr, rfl, hg, hfr, hnc, hcm, hcs, htake⟩
  · have hx : xs = [] := List.eq_nil_of_length_eq_zero (by simpa using hown.1)
    subst hx
    by_cases hm0 : m = 0
    · subst hm0
      have hn : news = [] := List.eq_nil_of_length_eq_zero (by simpa using hsrc.len)
      subst hn
      refine ⟨.slice none 0 0, w, ?_, Own.nil w e i.size, Upd.refl _ _, .inl rfl, by omega⟩
      rcases hsrc.known with ⟨tx, hdx⟩ | hdx <;> simp [Builtin.append_, run_underlying ht, run_underlying hdx, sizeOf, typeInfo, hi, hsrc.lenOf, hsrc.cells]
    · have hgr := grown 0 (by omega)
      simp only [Nat.zero_add, List.nil_append, Array.empty_append] at hgr
      refine ⟨_, _, ?_, by simpa using hgr, updg _, .inr (by simp [Value.ownBlock]), by simp⟩
      have h48' : ¬ (281474976710656 < Builtin.nextslicecap m 0 * i.bytes) := by
        rw [nextslicecap_zero (by omega)]
        have hb := hbytes
        simp only [Nat.zero_add] at hb
        omega
      have h63'' : ¬ (9223372036854775807 < (m : Int)) := by omega
      rcases hsrc.known with ⟨tx, hdx⟩ | hdx <;> simp [Builtin.append_, run_underlying ht, run_underlying hdx, sizeOf, typeInfo, zeroValue, hi, hz, hsrc.lenOf, hm0, h63'', h48', Question.forced, run_firstCells_none, hsrc.cells', newRow, grownCap]
  · by_cases hroom : n + m ≤ cap
    · have hfit : n * i.size + 0 + news.length ≤ cur.size := by rw [hsrc.len, hcs, Nat.add_zero, ← Nat.add_mul]; exact Nat.mul_le_mul_right _ hroom
      obtain ⟨w', k1, k2, k3, k4⟩ := run_storeCells_fr g (n * i.size) e fr P news 0 cur w hg hfr hfit h1
      refine ⟨.slice (some ⟨g, 0, none⟩) (n + m) cap, w', ?_, ⟨hlen, .inr ⟨g, cap, _, fr, rfl, k2, ?_, hroom, hcm, ?_, ?_⟩⟩, k3.mono (fun b hb => .inl (by subst hb; simp [Value.ownBlock])), .inl (by simp [Value.ownBlock]), by omega⟩
      · rcases hsrc.known with ⟨tx, hdx⟩ | hdx <;> simp [Builtin.append_, run_underlying ht, run_underlying hdx, sizeOf, typeInfo, hi, hsrc.lenOf, hroom, hsrc.cells, Addr.add_lit, k1]
      · have : ((cur.toList.take (n * i.size + 0) ++ news ++ cur.toList.drop (n * i.size + 0 + news.length)).toArray).size = cur.size := by
          simp only [List.size_toArray, List.length_append, List.length_take, List.length_drop, Array.length_toList]
          omega
        rw [this]
        exact hfr
      · simp only [List.size_toArray, List.length_append, List.length_take, List.length_drop, Array.length_toList]
        omega
      · rw [Nat.add_zero, htake, ← hlen]
        exact List.take_left
    · have holds : ∀ j u, xs[j]? = some u → w.cell? ((⟨g, 0, none⟩ : Addr).add j) = some u := hown.cells (by simp [Value.ownBlock])
      have hfo := run_firstCells_some (P := P) w.drew i.size n ⟨g, 0, none⟩ n cap xs hown.1 (by simpa using holds)
      have hfit := growslice_fits (show cap < n + m by omega) hbytes
      have h48' : ¬ (281474976710656 < Builtin.nextslicecap (n + m) cap * i.bytes) := by omega
      refine ⟨_, _, ?_, grown cap (by omega), updg _, .inr (by simp [Value.ownBlock]), by simp⟩
      rcases hsrc.known with ⟨tx, hdx⟩ | hdx <;> simp [Builtin.append_, run_underlying ht, run_underlying hdx, sizeOf, typeInfo, zeroValue, hi, hz, hsrc.lenOf, hroom, h63', h48', Question.forced, hsrc.cells', hfo, newRow, grownCap]
      all_goals
        congr 2
        apply Array.ext'
        simp [List.append_assoc]
end

/-! ### single operations whose run is known -/
section
variable {P : Program} {ops : Array Oper} {rest : List Oper} {o : Oper} {a : Act} {w w' : World} {Q : Exit → Act → World → Prop} {K : Act → World → Prop}

theorem wp_append_run (s x : Operand) (t xT : TypeId) (ho : o.op = .call { callee := .builtin .append, args := #[s, x], argTypes := #[t, xT] }) {vs vx v' : Value} (hs : a.eval s = vs) (hx : a.eval x = vx)
    (hrun : (Builtin.append_ #[t, xT] o.type #[vs, vx]).run P w = .ok v' w') (h : K (a.put o.dst v') w') : o.wp P a w K Q := by
  unfold Oper.wp execOp
  simp only [ho, resolve, invoke, builtin, Sem.run_bind, Sem.run_pure, Result.andThen_ok, List.map_toArray, List.map_cons, List.map_nil, hs, hx, hrun]
  exact h
theorem wpList_append_run (hg : o.guard = none) (s x : Operand) (t xT : TypeId) (ho : o.op = .call { callee := .builtin .append, args := #[s, x], argTypes := #[t, xT] }) {vs vx v' : Value} (hs : a.eval s = vs) (hx : a.eval x = vx)
    (hrun : (Builtin.append_ #[t, xT] o.type #[vs, vx]).run P w = .ok v' w') (h : wpList P ops Q rest (a.put o.dst v') w') : wpList P ops Q (o :: rest) a w :=
  wpList_plain hg fun _ hK => wp_append_run s x t xT ho hs hx hrun (hK _ _ h)

/-- append onto an owned slice, at the operation. -/
theorem wpList_append_src (hg : o.guard = none) (s x : Operand) (t xT : TypeId) (ho : o.op = .call { callee := .builtin .append, args := #[s, x], argTypes := #[t, xT] })
    (e : TypeId) (i : TypeInfo) (z : Value) (size bytes : Nat) (ht : P.underlying t = some (.slice e)) (hi : P.info? e = some i) (hz : i.zero = some z) (hsize : i.size = size) (hby : i.bytes = bytes) (hzs : z.cells.size = size)
    (v : Value) (n : Nat) (xs : List Value) (hs : a.eval s = v) (hown : Own w e size v n xs) (vx : Value) (m : Nat) (news : List Value) (hx : a.eval x = vx) (hsrc : Src P w xT size vx m news) (h1 : ∀ u ∈ news, u.oneCell' = true)
    (h63 : n + m ≤ maxLen) (hbytes : (n + m) * bytes ≤ 140737488355328)
    (h : ∀ v' w', Own w' e size v' (n + m) (xs ++ news) → Upd (fun k => v.ownBlock = some k) w w' → (v'.ownBlock = v.ownBlock ∨ v'.ownBlock = some w.heap.size) → w'.heap.size ≤ w.heap.size + 1 → wpList P ops Q rest (a.put o.dst v') w') :
    wpList P ops Q (o :: rest) a w := by
  obtain ⟨v', w', hrun, h2, h3, h4, h5⟩ := run_append_src (P := P) t o.type i z bytes ht hi hz hsize hby hzs hown hsrc h1 h63 hbytes
  exact wpList_append_run hg s x t xT ho hs hx hrun (h v' w' h2 h3 h4 h5)

/-- A cell in a new block of one. -/
theorem cell_of_new (w : World) (x : Value) (t : TypeId) : ∀ j u, [x][j]? = some u → (w.alloc (.cells #[x] t)).cell? ((⟨w.heap.size, 0, none⟩ : Addr).add j) = some u := cell_one_new w x t
theorem Src.of_new {xT t e : TypeId} (ht : P.underlying xT = some (.slice t)) (x : Value) : Src P (w.alloc (.cells #[x] e)) xT 1 (.slice (some ⟨w.heap.size, 0, none⟩) 1 1) 1 [x] :=
  .of_addr ht _ _ _ (by simp) (cell_one_new w x e)

theorem Src.of_new_drew {xT t e : TypeId} (ht : P.underlying xT = some (.slice t)) (x : Value) : Src P (w.alloc (.cells #[x] e)).drew xT 1 (.slice (some ⟨w.heap.size, 0, none⟩) 1 1) 1 [x] :=
  .of_addr ht _ _ _ (by simp) (cell_one_new w x e)

theorem wpList_mapUpdate_run (hg : o.guard = none) (m x y : Operand) (t : TypeId) (ho : o.op = .mapUpdate t m x y) {vm vx vy : Value} (hm : a.eval m = vm) (hx : a.eval x = vx) (hy : a.eval y = vy)
    (hrun : (Instr.mapUpdate t vm vx vy).run P w = .ok () w') (h : wpList P ops Q rest (a.put o.dst undef) w') : wpList P ops Q (o :: rest) a w := by
  refine wpList_plain hg fun K hK => ?_
  unfold Oper.wp execOp
  simp only [ho, hm, hx, hy, Sem.run_bind, hrun, Sem.run_pure, Result.andThen_ok]
  exact hK _ _ h
theorem wpList_range_run (hg : o.guard = none) (t : TypeId) (x : Operand) (ho : o.op = .range t x) {vx v : Value} (hx : a.eval x = vx) (hrun : (Instr.range t vx).run P w = .ok v w') (h : wpList P ops Q rest (a.put o.dst v) w') : wpList P ops Q (o :: rest) a w := by
  refine wpList_plain hg fun K hK => ?_
  unfold Oper.wp execOp
  simp only [ho, hx, Sem.run_bind, hrun, Sem.run_pure, Result.andThen_ok]
  exact hK _ _ h
theorem wpList_next_run (hg : o.guard = none) (x : Operand) (s : Bool) (ho : o.op = .next x s) {vx v : Value} (hx : a.eval x = vx) (hrun : (Instr.next vx s o.type).run P w = .ok v w') (h : wpList P ops Q rest (a.put o.dst v) w') : wpList P ops Q (o :: rest) a w := by
  refine wpList_plain hg fun K hK => ?_
  unfold Oper.wp execOp
  simp only [ho, hx, Sem.run_bind, hrun, Sem.run_pure, Result.andThen_ok]
  exact hK _ _ h
theorem wpList_delete_run (hg : o.guard = none) (m x : Operand) (t k : TypeId) (ho : o.op = .call { callee := .builtin .delete, args := #[m, x], argTypes := #[t, k] }) {vm vx v : Value} (hm : a.eval m = vm) (hx : a.eval x = vx)
    (hrun : (Builtin.delete_ #[t, k] o.type #[vm, vx]).run P w = .ok v w') (h : wpList P ops Q rest (a.put o.dst v) w') : wpList P ops Q (o :: rest) a w := by
  refine wpList_plain hg fun K hK => ?_
  unfold Oper.wp execOp
  simp only [ho, resolve, invoke, builtin, Sem.run_bind, Sem.run_pure, Result.andThen_ok, List.map_toArray, List.map_cons, List.map_nil, hm, hx, hrun]
  exact hK _ _ h
end
end Go.Proofs.YtdfgmieinbmfkaaGreat
