/-
  Parts of the proof of VaultMetas: Own, Little, Sum, Shelf, Close, PackA.
-/
import Derived.Test.YtbhjgfibhegddaaGreatQVaultMetas01
import Derived.Deep.RegionWith
import Derived.Ground.Names2Prog
import Derived.Lib.ConvBytes
import Derived.Shelf.Bits.Mul64
import Derived.Shelf.LaysM
import Derived.Shelf.Slices.Clone
import Derived.Shelf.Slices.In.SortNone
import Derived.Shelf.Small.Bits
import Derived.Shelf.Small.Strs
import Derived.Shelf.Sort.Plain
import Derived.Shelf.Strconv.Itoa0
import Derived.Shelf.Strings.Builder1
import Derived.Shelf.Strings.Builder2
import Derived.Shelf.Strings.BuilderF
import Derived.Shelf.Strings.BuilderK
import Derived.Shelf.Strings.Count
import Derived.Shelf.Strings.Cut
import Derived.Shelf.Strings.Prefix
import Derived.Shelf.Strings.Repeat
import Derived.Shelf.Strings.Search1
import Derived.Shelf.Strings.Search2
import Derived.Shelf.Strings.Search3
import Derived.Shelf.Strings.Shaped
import Derived.Test.YtbhjgfibhegddaaGreatProg
set_option maxRecDepth 100000
set_option maxHeartbeats 16000000
namespace Go.Proofs.YtbhjgfibhegddaaGreat
section
open Go Go.RowKit
open Go.ChangeMaps (setBlock)
def NoFr (fr : Nat × Nat) (k : Nat) : Prop := fr = (0, 0) ∨ k ≤ fr.1
def Own (w : World) (e : TypeId) (size : Nat) (v : Value) (n : Nat) (xs : List Value) : Prop :=
 xs.length = n * size ∧
 ((v = .slice none 0 0 ∧ n = 0) ∨
  ∃ g cap cur fr, v = .slice (some ⟨g, 0, none⟩) n cap ∧ w.heap[g]? = some (.cells cur e fr) ∧ NoFr fr cur.size ∧ n ≤ cap ∧ cap ≤ maxLen ∧ cur.size = cap * size ∧ cur.toList.take (n * size) = xs)
section
variable {w w' : World} {e : TypeId} {size n : Nat} {v : Value} {xs : List Value}
theorem Own.nil (w : World) (e : TypeId) (size : Nat) : Own w e size (.slice none 0 0) 0 [] := ⟨by simp, .inl ⟨rfl, rfl⟩⟩
theorem Own.len (h : Own w e size v n xs) : xs.length = n * size := h.1
theorem Own.lt (h : Own w e size v n xs) {k : Nat} (hk : v.ownBlock = some k) : k < w.heap.size := by
 rcases h.2 with ⟨rfl, _⟩ | ⟨g, cap, cur, fr, rfl, hg, _⟩
 ·simp [Value.ownBlock] at hk
 ·simp [Value.ownBlock] at hk
  subst hk;exact (Array.getElem?_eq_some_iff.1 hg).1
theorem Own.eqb (h : Own w e size v n xs) (hb : ∀ k, v.ownBlock = some k → w'.heap[k]? = w.heap[k]?) : Own w' e size v n xs := by
 refine ⟨h.1, ?_⟩;rcases h.2 with hn | ⟨g, cap, cur, fr, rfl, hg, rest⟩
 ·exact .inl hn
 ·exact .inr ⟨g, cap, cur, fr, rfl, (hb g (by simp [Value.ownBlock])).trans hg, rest⟩
theorem Own.upd {F : Nat → Prop} (h : Own w e size v n xs) (hu : Upd F w w') (hn : ∀ k, v.ownBlock = some k → ¬ F k) : Own w' e size v n xs :=
 h.eqb fun k hk => hu.block k (h.lt hk) (hn k hk)
theorem Own.drew (h : Own w e size v n xs) : Own w.drew e size v n xs := h
theorem Own.alloc (h : Own w e size v n xs) (o : Obj) : Own (w.alloc o) e size v n xs := h.eqb fun k hk => Below.heap_alloc w o k (h.lt hk)
theorem Own.far (h : Own w e size v n xs) {p : Addr} (hp : v.ownBlock ≠ some p.block) (u : Value) : Own (w.setCell p u) e size v n xs :=
 h.eqb fun k hk => Below.heap_setCell w p u k (fun e => hp (by rw [← e]; exact hk))
theorem Own.cells (h : Own w e size v n xs) {g : Nat} (hg : v.ownBlock = some g) : ∀ j u, xs[j]? = some u → w.cell? ((⟨g, 0, none⟩ : Addr).add j) = some u := by
 intro j u hu;rcases h.2 with ⟨rfl, _⟩ | ⟨g', cap, cur, fr, rfl, hgg, _, _, _, _, htake⟩
 ·simp [Value.ownBlock] at hg
 ·simp [Value.ownBlock] at hg
  subst hg;have hadd : (⟨g', 0, none⟩ : Addr).add j = ⟨g', j, none⟩ := by unfold Addr.add; split <;> simp_all
  rw [hadd, cell_of_row w g' j cur e fr hgg];rw [← htake, List.getElem?_take] at hu;split at hu
  ·simpa using hu
  ·cases hu
theorem Own.cellAt {g cap : Nat} (h : Own w e size (.slice (some ⟨g, 0, none⟩) n cap) n xs) (j : Nat) (hj : j < n * size) : w.cell? ⟨g, j, none⟩ = xs[j]? := by
 have hl := h.1;have h1 := h.cells (g := g) (by simp [Value.ownBlock]) j xs[j] (List.getElem?_eq_getElem (by omega));rw [List.getElem?_eq_getElem (by omega), ← h1];congr 1
 unfold Addr.add;split <;> simp_all
theorem Own.frozenAt {g cap : Nat} (h : Own w e size (.slice (some ⟨g, 0, none⟩) n cap) n xs) (j : Nat) (hj : j < n * size) : w.frozen? ⟨g, j, none⟩ = false := by
 rcases h.2 with ⟨hv, _⟩ | ⟨g', cap', cur, fr, hv, hgg, hfr, hnc, _, hcs, _⟩
 ·cases hv
 ·injection hv with h1 h2 h3
  injection h1 with h1;injection h1 with h1;subst h1 h3;have hlt : j < cur.size := by rw [hcs]; exact Nat.lt_of_lt_of_le hj (Nat.mul_le_mul_right _ hnc)
  obtain ⟨lo, hi⟩ := fr;simp only [World.frozen?, hgg];rcases hfr with h0 | h0
  ·cases h0; simp
  ·simp only at h0
   have : ¬ lo ≤ j := by omega
   simp [this]
theorem Own.head (h : Own w e size v n xs) (hn : 0 < n) : ∃ g cap, v = .slice (some ⟨g, 0, none⟩) n cap ∧ n ≤ cap ∧ cap ≤ maxLen := by
 rcases h.2 with ⟨_, h0⟩ | ⟨g, cap, cur, fr, rfl, _, _, hnc, hcm, _⟩
 ·omega
 ·exact ⟨g, cap, rfl, hnc, hcm⟩
theorem Own.one (h : Own w e size v n xs) : v.oneCell' = true := by
 rcases h.2 with ⟨rfl, _⟩ | ⟨g, cap, cur, fr, rfl, _⟩ <;> rfl
theorem Own.ne_blk {g : Nat} {t : TypeId} {cs : Array Value} (h : Own w e size v n xs) (hB : Blk w g t cs) (hne : e ≠ t) : v.ownBlock ≠ some g := by
 rcases h.2 with ⟨rfl, _⟩ | ⟨g', cap, cur, fr, rfl, hg, _⟩
 ·simp [Value.ownBlock]
 ·intro he
  have : g' = g := by simpa [Value.ownBlock] using he
  subst this;unfold Blk at hB;rw [hg] at hB;injection hB with hB;injection hB with _ ht;exact hne ht
theorem Own.ne_map {α : Type} {inj : α → Value} {g : Nat} {m : List (α × Value)} (h : Own w e size v n xs) (hM : MapB inj w g m) : v.ownBlock ≠ some g := by
 rcases h.2 with ⟨rfl, _⟩ | ⟨g', cap, cur, fr, rfl, hg, _⟩
 ·simp [Value.ownBlock]
 ·intro he
  have : g' = g := by simpa [Value.ownBlock] using he
  subst this;obtain ⟨es, clock, h1, _⟩ := hM;rw [hg] at h1;cases h1
theorem Own.shape (h : Own w e size v n xs) : ∃ A cap, v = .slice A n cap ∧ n ≤ cap ∧ cap ≤ maxLen := by
 rcases h.2 with ⟨rfl, h0⟩ | ⟨g, cap, cur, fr, rfl, _, _, hnc, hcm, _⟩
 ·exact ⟨none, 0, by rw [h0], by omega, by simp [maxLen]⟩
 ·exact ⟨_, cap, rfl, hnc, hcm⟩
theorem setCell_heap_same (w : World) (g j : Nat) (cur : Array Value) (t : TypeId) (fr : Nat × Nat) (u : Value) (hg : w.heap[g]? = some (.cells cur t fr)) :
 (w.setCell ⟨g, j, none⟩ u).heap[g]? = some (.cells (cur.setIfInBounds j u) t fr) := by
 simp [World.setCell, Array.getElem?_modify, hg]
theorem Own.stored {g cap : Nat} (h : Own w e size (.slice (some ⟨g, 0, none⟩) n cap) n xs) (j : Nat) (u : Value) : Own (w.setCell ⟨g, j, none⟩ u) e size (.slice (some ⟨g, 0, none⟩) n cap) n (xs.set j u) := by
 refine ⟨by simpa using h.1, ?_⟩;rcases h.2 with ⟨hv, _⟩ | ⟨g', cap', cur, fr, hv, hgg, hfr, hnc, hcm, hcs, htake⟩
 ·cases hv
 ·injection hv with h1 h2 h3
  injection h1 with h1;injection h1 with h1;subst h1 h3;refine .inr ⟨g, cap, cur.setIfInBounds j u, fr, rfl, setCell_heap_same w g j cur e fr u hgg, by simpa using hfr, hnc, hcm, by simpa using hcs, ?_⟩;rw [Array.toList_setIfInBounds, List.take_set, htake]
end
structure Src (P : Program) (w : World) (xT : TypeId) (size : Nat) (x : Value) (m : Nat) (news : List Value) : Prop where
 known : (∃ t, P.underlying xT = some (.slice t)) ∨ P.underlying xT = some .string
 len : news.length = m * size
 lenOf : ∀ w, (Builtin.lenOf x).run P w = .ok m w
 cells : (Builtin.firstCells size m x).run P w = .ok news.toArray w
 cells' : (Builtin.firstCells size m x).run P w.drew = .ok news.toArray w.drew
section
variable {P : Program} {w w' : World} {e xT t : TypeId} {size n m : Nat} {v x : Value} {xs news : List Value}
theorem Src.of_addr (ht : P.underlying xT = some (.slice t)) (a : Addr) (m c : Nat) (hl : news.length = m * size) (h : ∀ j u, news[j]? = some u → w.cell? (a.add j) = some u) : Src P w xT size (.slice (some a) m c) m news :=
 ⟨.inl ⟨_, ht⟩, hl, fun w => by simp [Builtin.lenOf], run_firstCells_some w size m a m c news hl h, run_firstCells_some w.drew size m a m c news hl h⟩
theorem Src.of_nil (ht : P.underlying xT = some (.slice t)) (c : Nat) : Src P w xT size (.slice none 0 c) 0 [] :=
 ⟨.inl ⟨_, ht⟩, by simp, fun w => by simp [Builtin.lenOf], by simp [Builtin.firstCells], by simp [Builtin.firstCells]⟩
theorem Src.of_own (ht : P.underlying xT = some (.slice t)) (h : Own w e size v n xs) : Src P w xT size v n xs := by
 rcases h.2 with ⟨rfl, rfl⟩ | ⟨g, cap, cur, fr, rfl, _⟩
 ·have : xs = [] := List.eq_nil_of_length_eq_zero (by simpa using h.1)
  subst this;exact .of_nil ht 0
 ·exact .of_addr ht _ _ _ h.1 (h.cells (by simp [Value.ownBlock]))
theorem Src.of_string (ht : P.underlying xT = some .string) (s : ByteArray) : Src P w xT 1 (.string s) s.size (s.data.toList.map fun b => Value.int .u8 b.toNat) := by
 have hx : (Array.map (fun b : UInt8 => Value.int IntKind.u8 (b.toNat : Int)) s.data).extract 0 s.size = Array.map (fun b : UInt8 => Value.int IntKind.u8 (b.toNat : Int)) s.data := by
  have hs : s.size = (Array.map (fun b : UInt8 => Value.int IntKind.u8 (b.toNat : Int)) s.data).size := by rw [Array.size_map]; rfl
  rw [hs, Array.extract_size]
 have hy : (s.data.toList.map fun b => Value.int .u8 b.toNat).toArray = Array.map (fun b : UInt8 => Value.int IntKind.u8 (b.toNat : Int)) s.data := by
  apply Array.ext'
  simp
 exact ⟨.inr ht, by simp, fun w => by simp [Builtin.lenOf], by simp [Builtin.firstCells, hy], by simp [Builtin.firstCells, hy]⟩
theorem run_storeCells_fr (g o : Nat) (t : TypeId) (fr : Nat × Nat) (P : Program) : ∀ (vs : List Value) (i : Nat) (cur : Array Value) (w : World), w.heap[g]? = some (.cells cur t fr) → NoFr fr cur.size → o + i + vs.length ≤ cur.size → (∀ v ∈ vs, v.oneCell' = true) →
 ∃ w', (storeCells ⟨g, o, none⟩ vs i).run P w = .ok () w' ∧ w'.heap[g]? = some (.cells (cur.toList.take (o + i) ++ vs ++ cur.toList.drop (o + i + vs.length)).toArray t fr) ∧ Upd (· = g) w w' ∧ w'.heap.size = w.heap.size
 | [], i, cur, w, hg, _, _, _ => by
   refine ⟨w, by simp [storeCells], ?_, Upd.refl _ _, rfl⟩;simp only [List.append_nil, List.length_nil, Nat.add_zero, List.take_append_drop, Array.toArray_toList];exact hg
 | v :: rest, i, cur, w, hg, hfr, hl, h1 => by
   have hi : o + i < cur.size := by simp at hl; omega
   have hadd : (⟨g, o, none⟩ : Addr).add i = ⟨g, o + i, none⟩ := by unfold Addr.add; split <;> simp_all
   have hcell : w.cell? ⟨g, o + i, none⟩ = some cur[o + i] := by simp [World.cell?, hg, hi]
   have hfro : w.frozen? ⟨g, o + i, none⟩ = false := by
    obtain ⟨lo, hh⟩ := fr;simp only [World.frozen?, hg];rcases hfr with h0 | h0
    ·cases h0; simp
    ·simp only at h0
     have : ¬ lo ≤ o + i := by omega
     simp [this]
   have hst : (store ((⟨g, o, none⟩ : Addr).add i) v).run P w = .ok () (w.setCell ⟨g, o + i, none⟩ v) := by
    rw [hadd, run_store P w _ v _ (h1 v (by simp)), hcell];simp [hfro]
   obtain ⟨w', k1, k2, k3, k4⟩ := run_storeCells_fr g o t fr P rest (i + 1) (cur.setIfInBounds (o + i) v) (w.setCell ⟨g, o + i, none⟩ v) (setCell_heap_same w g (o + i) cur t fr v hg) (by simpa using hfr) (by simp at hl ⊢; omega) (fun x hx => h1 x (by simp [hx]));refine ⟨w', by simp only [storeCells, Sem.run_bind, hst, Result.andThen_ok, k1], ?_, (((Upd.refl (· = g) w).setCell (p := ⟨g, o + i, none⟩) (.inl rfl) v).then k3 (fun b hb => .inl hb)), by rw [k4]; simp⟩
   rw [k2];congr 3
   have e := list_seg_step cur.toList (o + i) v rest (by simp at hl ⊢; omega);simpa [Array.toList_setIfInBounds, Nat.add_assoc] using e
theorem run_append_src (t ty : TypeId) (i : TypeInfo) (z : Value) (bytes : Nat) (ht : P.underlying t = some (.slice e)) (hi : P.info? e = some i) (hz : i.zero = some z)
 (hsize : i.size = size) (hby : i.bytes = bytes) (hzs : z.cells.size = size)
 (hown : Own w e size v n xs) (hsrc : Src P w xT size x m news) (h1 : ∀ u ∈ news, u.oneCell' = true)
 (h63 : n + m ≤ maxLen) (hbytes : (n + m) * bytes ≤ 140737488355328) :
 ∃ v' w', (Builtin.append_ #[t, xT] ty #[v, x]).run P w = .ok v' w' ∧ Own w' e size v' (n + m) (xs ++ news) ∧ Upd (fun k => v.ownBlock = some k) w w' ∧
  (v'.ownBlock = v.ownBlock ∨ v'.ownBlock = some w.heap.size) ∧ w'.heap.size ≤ w.heap.size + 1 := by
 subst hsize;subst hby;have hsmall : n + m ≤ 9223372036854775807 := by simp only [maxLen] at h63; omega
 have hlen : (xs ++ news).length = (n + m) * i.size := by rw [List.length_append, hown.1, hsrc.len, Nat.add_mul]
 have h63' : ¬ (9223372036854775807 < ((n : Int) + (m : Int))) := by omega
 have grown : ∀ (old : Nat), old < n + m →
  Own (w.drew.alloc (.cells (xs.toArray ++ news.toArray ++ Builtin.zeroCells z.cells (grownCap w (n + m) old e - (n + m))) e)) e i.size
   (.slice (some ⟨w.heap.size, 0, none⟩) (n + m) (grownCap w (n + m) old e)) (n + m) (xs ++ news) := by
  intro old ho;have hge := grownCap_ge w (n + m) old e;have hcm : grownCap w (n + m) old e ≤ maxLen := grownCap_le_maxLen w (n + m) old e h63;refine ⟨hlen, .inr ⟨w.heap.size, _, _, (0, 0), rfl, heap_alloc_new w.drew _, .inl rfl, hge, hcm, ?_, ?_⟩⟩
  ·simp only [Array.size_append, List.size_toArray, size_zeroCells, hzs, hown.1, hsrc.len, ← Nat.add_mul]
   congr 1
   omega
  ·simp only [Array.toList_append, List.append_assoc]
   rw [← List.append_assoc, ← hlen];exact List.take_left
 have updg : ∀ (o : Obj), Upd (fun k => v.ownBlock = some k) w (w.drew.alloc o) := fun o => ((Upd.refl _ w).drew).alloc o
 rcases hown.2 with ⟨rfl, rfl⟩ | ⟨g, cap, cur, fr, rfl, hg, hfr, hnc, hcm, hcs, htake⟩
 ·have hx : xs = [] := List.eq_nil_of_length_eq_zero (by simpa using hown.1)
  subst hx;by_cases hm0 : m = 0
  ·subst hm0
   have hn : news = [] := List.eq_nil_of_length_eq_zero (by simpa using hsrc.len);subst hn;refine ⟨.slice none 0 0, w, ?_, Own.nil w e i.size, Upd.refl _ _, .inl rfl, by omega⟩;rcases hsrc.known with ⟨tx, hdx⟩ | hdx <;> simp [Builtin.append_, run_underlying ht, run_underlying hdx, sizeOf, typeInfo, hi, hsrc.lenOf, hsrc.cells]
  ·have hgr := grown 0 (by omega)
   simp only [Nat.zero_add, List.nil_append, Array.empty_append] at hgr;refine ⟨_, _, ?_, by simpa using hgr, updg _, .inr (by simp [Value.ownBlock]), by simp⟩;have h48' : ¬ (281474976710656 < Builtin.nextslicecap m 0 * i.bytes) := by
    rw [nextslicecap_zero (by omega)];have hb := hbytes;simp only [Nat.zero_add] at hb;omega
   have h63'' : ¬ (9223372036854775807 < (m : Int)) := by omega
   rcases hsrc.known with ⟨tx, hdx⟩ | hdx <;> simp [Builtin.append_, run_underlying ht, run_underlying hdx, sizeOf, typeInfo, zeroValue, hi, hz, hsrc.lenOf, hm0, h63'', h48', Question.forced, run_firstCells_none, hsrc.cells', newRow, grownCap]
 ·by_cases hroom : n + m ≤ cap
  ·have hfit : n * i.size + 0 + news.length ≤ cur.size := by rw [hsrc.len, hcs, Nat.add_zero, ← Nat.add_mul]; exact Nat.mul_le_mul_right _ hroom
   obtain ⟨w', k1, k2, k3, k4⟩ := run_storeCells_fr g (n * i.size) e fr P news 0 cur w hg hfr hfit h1;refine ⟨.slice (some ⟨g, 0, none⟩) (n + m) cap, w', ?_, ⟨hlen, .inr ⟨g, cap, _, fr, rfl, k2, ?_, hroom, hcm, ?_, ?_⟩⟩, k3.mono (fun b hb => .inl (by subst hb; simp [Value.ownBlock])), .inl (by simp [Value.ownBlock]), by omega⟩
   ·rcases hsrc.known with ⟨tx, hdx⟩ | hdx <;> simp [Builtin.append_, run_underlying ht, run_underlying hdx, sizeOf, typeInfo, hi, hsrc.lenOf, hroom, hsrc.cells, Addr.add_lit, k1]
   ·have : ((cur.toList.take (n * i.size + 0) ++ news ++ cur.toList.drop (n * i.size + 0 + news.length)).toArray).size = cur.size := by
     simp only [List.size_toArray, List.length_append, List.length_take, List.length_drop, Array.length_toList];omega
    rw [this];exact hfr
   ·simp only [List.size_toArray, List.length_append, List.length_take, List.length_drop, Array.length_toList]
    omega
   ·rw [Nat.add_zero, htake, ← hlen]
    exact List.take_left
  ·have holds : ∀ j u, xs[j]? = some u → w.cell? ((⟨g, 0, none⟩ : Addr).add j) = some u := hown.cells (by simp [Value.ownBlock])
   have hfo := run_firstCells_some (P := P) w.drew i.size n ⟨g, 0, none⟩ n cap xs hown.1 (by simpa using holds);have hfit := growslice_fits (show cap < n + m by omega) hbytes;have h48' : ¬ (281474976710656 < Builtin.nextslicecap (n + m) cap * i.bytes) := by omega
   refine ⟨_, _, ?_, grown cap (by omega), updg _, .inr (by simp [Value.ownBlock]), by simp⟩;rcases hsrc.known with ⟨tx, hdx⟩ | hdx <;> simp [Builtin.append_, run_underlying ht, run_underlying hdx, sizeOf, typeInfo, zeroValue, hi, hz, hsrc.lenOf, hroom, h63', h48', Question.forced, hsrc.cells', hfo, newRow, grownCap]
   all_goals
    congr 2
    apply Array.ext'
    simp [List.append_assoc]
end
section
variable {P : Program} {ops : Array Oper} {rest : List Oper} {o : Oper} {a : Act} {w w' : World} {Q : Exit → Act → World → Prop} {K : Act → World → Prop}
theorem wp_append_run (s x : Operand) (t xT : TypeId) (ho : o.op = .call { callee := .builtin .append, args := #[s, x], argTypes := #[t, xT] }) {vs vx v' : Value} (hs : a.eval s = vs) (hx : a.eval x = vx)
 (hrun : (Builtin.append_ #[t, xT] o.type #[vs, vx]).run P w = .ok v' w') (h : K (a.put o.dst v') w') : o.wp P a w K Q := by
 unfold Oper.wp execOp;simp only [ho, resolve, invoke, builtin, Sem.run_bind, Sem.run_pure, Result.andThen_ok, List.map_toArray, List.map_cons, List.map_nil, hs, hx, hrun];exact h
theorem wpList_append_run (hg : o.guard = none) (s x : Operand) (t xT : TypeId) (ho : o.op = .call { callee := .builtin .append, args := #[s, x], argTypes := #[t, xT] }) {vs vx v' : Value} (hs : a.eval s = vs) (hx : a.eval x = vx)
 (hrun : (Builtin.append_ #[t, xT] o.type #[vs, vx]).run P w = .ok v' w') (h : wpList P ops Q rest (a.put o.dst v') w') : wpList P ops Q (o :: rest) a w :=
 wpList_plain hg fun _ hK => wp_append_run s x t xT ho hs hx hrun (hK _ _ h)
theorem wpList_append_src (hg : o.guard = none) (s x : Operand) (t xT : TypeId) (ho : o.op = .call { callee := .builtin .append, args := #[s, x], argTypes := #[t, xT] })
 (e : TypeId) (i : TypeInfo) (z : Value) (size bytes : Nat) (ht : P.underlying t = some (.slice e)) (hi : P.info? e = some i) (hz : i.zero = some z) (hsize : i.size = size) (hby : i.bytes = bytes) (hzs : z.cells.size = size)
 (v : Value) (n : Nat) (xs : List Value) (hs : a.eval s = v) (hown : Own w e size v n xs) (vx : Value) (m : Nat) (news : List Value) (hx : a.eval x = vx) (hsrc : Src P w xT size vx m news) (h1 : ∀ u ∈ news, u.oneCell' = true)
 (h63 : n + m ≤ maxLen) (hbytes : (n + m) * bytes ≤ 140737488355328)
 (h : ∀ v' w', Own w' e size v' (n + m) (xs ++ news) → Upd (fun k => v.ownBlock = some k) w w' → (v'.ownBlock = v.ownBlock ∨ v'.ownBlock = some w.heap.size) → w'.heap.size ≤ w.heap.size + 1 → wpList P ops Q rest (a.put o.dst v') w') :
 wpList P ops Q (o :: rest) a w := by
 obtain ⟨v', w', hrun, h2, h3, h4, h5⟩ := run_append_src (P := P) t o.type i z bytes ht hi hz hsize hby hzs hown hsrc h1 h63 hbytes;exact wpList_append_run hg s x t xT ho hs hx hrun (h v' w' h2 h3 h4 h5)
theorem Src.of_new {xT t e : TypeId} (ht : P.underlying xT = some (.slice t)) (x : Value) : Src P (w.alloc (.cells #[x] e)) xT 1 (.slice (some ⟨w.heap.size, 0, none⟩) 1 1) 1 [x] :=
 .of_addr ht _ _ _ (by simp) (cell_one_new w x e)
theorem Src.of_new_drew {xT t e : TypeId} (ht : P.underlying xT = some (.slice t)) (x : Value) : Src P (w.alloc (.cells #[x] e)).drew xT 1 (.slice (some ⟨w.heap.size, 0, none⟩) 1 1) 1 [x] :=
 .of_addr ht _ _ _ (by simp) (cell_one_new w x e)
theorem wpList_mapUpdate_run (hg : o.guard = none) (m x y : Operand) (t : TypeId) (ho : o.op = .mapUpdate t m x y) {vm vx vy : Value} (hm : a.eval m = vm) (hx : a.eval x = vx) (hy : a.eval y = vy)
 (hrun : (Instr.mapUpdate t vm vx vy).run P w = .ok () w') (h : wpList P ops Q rest (a.put o.dst undef) w') : wpList P ops Q (o :: rest) a w := by
 refine wpList_plain hg fun K hK => ?_
 unfold Oper.wp execOp;simp only [ho, hm, hx, hy, Sem.run_bind, hrun, Sem.run_pure, Result.andThen_ok];exact hK _ _ h
theorem wpList_delete_run (hg : o.guard = none) (m x : Operand) (t k : TypeId) (ho : o.op = .call { callee := .builtin .delete, args := #[m, x], argTypes := #[t, k] }) {vm vx v : Value} (hm : a.eval m = vm) (hx : a.eval x = vx)
 (hrun : (Builtin.delete_ #[t, k] o.type #[vm, vx]).run P w = .ok v w') (h : wpList P ops Q rest (a.put o.dst v) w') : wpList P ops Q (o :: rest) a w := by
 refine wpList_plain hg fun K hK => ?_
 unfold Oper.wp execOp;simp only [ho, resolve, invoke, builtin, Sem.run_bind, Sem.run_pure, Result.andThen_ok, List.map_toArray, List.map_cons, List.map_nil, hm, hx, hrun];exact hK _ _ h
end
end
section
open Go Go.RowKit
def bytesV (l : List UInt8) : List Value := l.map fun b => Value.int .u8 b.toNat
theorem bytesV_app (a b : List UInt8) : bytesV (a ++ b) = bytesV a ++ bytesV b := by simp [bytesV]
theorem bytesV_len (a : List UInt8) : (bytesV a).length = a.length := by simp [bytesV]
theorem bytesV_one (l : List UInt8) : ∀ u ∈ bytesV l, u.oneCell' = true := by
 intro u hu;obtain ⟨_, _, rfl⟩ := List.mem_map.1 hu;rfl
def leB (x : Nat) (n : Nat) : List UInt8 := (List.range n).map fun i => UInt8.ofNat (x / 2 ^ (8 * i))
theorem leB_len (x n : Nat) : (leB x n).length = n := by simp [leB]
theorem leB_snoc (x n : Nat) : leB x (n + 1) = leB x n ++ [UInt8.ofNat (x / 2 ^ (8 * n))] := by simp [leB, List.range_succ]
theorem byteV (y : Nat) : (((UInt8.ofNat y).toNat : Nat) : Int) = (y : Int) % 256 := by simp
theorem bytesV_le (x n : Nat) : bytesV (leB x (n + 1)) = bytesV (leB x n) ++ [.int .u8 ((x : Int) / 2 ^ (8 * n) % 256)] := by
 rw [leB_snoc, bytesV_app];rw [show bytesV [UInt8.ofNat (x / 2 ^ (8 * n))] = [.int .u8 ((x : Int) / 2 ^ (8 * n) % 256)] from by simp only [bytesV, List.map_cons, List.map_nil]; rw [byteV]; simp]
def leN : List UInt8 → Nat
 | [] => 0
 | b :: l => b.toNat + 256 * leN l
theorem leN_app (a : List UInt8) (b : List UInt8) : leN (a ++ b) = leN a + 2 ^ (8 * a.length) * leN b := by
 induction a with
 | nil => simp [leN]
 | cons x a ih =>
   simp only [List.cons_append, leN, ih, List.length_cons];have : 2 ^ (8 * (a.length + 1)) = 256 * 2 ^ (8 * a.length) := by rw [Nat.mul_add, Nat.pow_add]; omega
   rw [this, Nat.mul_add, Nat.mul_assoc];omega
theorem leN_lt (l : List UInt8) : leN l < 2 ^ (8 * l.length) := by
 induction l with
 | nil => simp [leN]
 | cons x l ih =>
   have hx := x.toNat_lt;simp only [leN, List.length_cons];have : 2 ^ (8 * (l.length + 1)) = 256 * 2 ^ (8 * l.length) := by rw [Nat.mul_add, Nat.pow_add]; omega
   omega
theorem leN_leB (x n : Nat) (h : x < 2 ^ (8 * n)) : leN (leB x n) = x := by
 have key : ∀ n, leN (leB x n) = x % 2 ^ (8 * n) := by
  intro n;induction n with
  | zero => simp [leB, leN, Nat.mod_one]
  | succ n ih =>
    rw [leB_snoc, leN_app, ih, leB_len];have e : 2 ^ (8 * (n + 1)) = 2 ^ (8 * n) * 256 := by rw [Nat.mul_add, Nat.pow_add]
    rw [e, Nat.mod_mul];simp [leN]
 rw [key, Nat.mod_eq_of_lt h]
theorem u64_or_add (a b k : Nat) (ha : a < 2 ^ (8 * k)) (hb : b < 256) (hk : k < 8) : bits .or .u64 (a : Int) (((b * 2 ^ (8 * k) : Nat) : Int)) = ((a + 2 ^ (8 * k) * b : Nat) : Int) := by
 have h8 : 2 ^ (8 * k) ≤ 2 ^ 56 := Nat.pow_le_pow_right (by omega) (by omega);have hb2 : b * 2 ^ (8 * k) ≤ 255 * 2 ^ 56 := Nat.mul_le_mul (by omega) h8;rw [u64_or_nat a _ (by omega) (by omega), Nat.or_comm, nat_join (8 * k) _ _ (Nat.mul_mod_left _ _) ha, Nat.mul_comm b, Nat.add_comm]
theorem le_step (l : List UInt8) (k : Nat) (y : UInt8) (hk : k < 8) (hl : l.length = k) : bits .or .u64 (leN l : Int) (IntKind.u64.wrap (IntKind.u64.wrap (y.toNat : Int) * 2 ^ (8 * k))) = (leN (l ++ [y]) : Int) := by
 have hy := y.toNat_lt;have h8 : 2 ^ (8 * k) ≤ 2 ^ 56 := Nat.pow_le_pow_right (by omega) (by omega);have hb2 : y.toNat * 2 ^ (8 * k) ≤ 255 * 2 ^ 56 := Nat.mul_le_mul (by omega) h8;have w64 : ∀ z : Nat, z < 18446744073709551616 → IntKind.u64.wrap (z : Int) = (z : Int) := by
  intro z hz;simp only [IntKind.wrap, IntKind.bits, IntKind.signed];simp
  omega
 rw [w64 _ (by omega)];have e : ((y.toNat : Int) * 2 ^ (8 * k)) = ((y.toNat * 2 ^ (8 * k) : Nat) : Int) := by push_cast; rfl
 rw [e, w64 _ (by omega)];have hlt := leN_lt l;rw [hl] at hlt;rw [u64_or_add _ _ k hlt (by omega) hk, leN_app, hl];simp [leN]
theorem infoU8 : (Tryz.prog.info? 5).map (fun i => (i.zero, i.size, i.bytes)) = some (some (.int .u8 0), 1, 1) := by kernel_rfl
theorem take_snoc_ (s : ByteArray) (k : Nat) (h : k < s.size) : s.data.toList.take (k + 1) = s.data.toList.take k ++ [s[k]] := by
 rw [List.take_succ_eq_append_getElem (by simpa using h)]; rfl
theorem putLittle_disk (v : Value) (m : Nat) (xs : List Value) (x n : Nat) (w : World) (hown : Own w 5 1 v m xs) (hn : n ≤ 8) (hm : m ≤ 1000000) :
 Calls Tryz.prog 205 #[v, .int .u64 (x : Int), .int .i64 (n : Int)] w fun e w' => ∃ v', e = .returned v' ∧ Own w' 5 1 v' (m + n) (xs ++ bytesV (leB x n)) ∧ Upd (fun k => v.ownBlock = some k) w w' ∧ (v'.ownBlock = v.ownBlock ∨ ∃ q, v'.ownBlock = some q ∧ w.heap.size ≤ q) := by
 obtain ⟨i0, hi0, hz0, hz1, hz2⟩ := info_parts infoU8;go_enter Tryz.func205, Tryz.ntmps205
 go_wp2_with fail
 go_loopw [0, 9] (fun u i wr => ∃ k : Nat, k ≤ n ∧ i = .int .i64 k ∧ Own wr 5 1 u (m + k) (xs ++ bytesV (leB x k)) ∧ Upd (fun k => v.ownBlock = some k) w wr ∧ (u.ownBlock = v.ownBlock ∨ ∃ q, u.ownBlock = some q ∧ w.heap.size ≤ q)) (fun _ i _ => n - (intOf i).toNat)
 case atStart => exact ⟨0, by omega, rfl, by simpa [leB, bytesV] using hown, Upd.refl _ _, .inl rfl⟩
 case round =>
  obtain ⟨k, hk, rfl, ho, hU, hl⟩ := hrel;clear hown;by_cases hlt : k < n
  ·have HX := Lib.hid (And.intro hU hl)
   clear hU hl;go_wp2_with (at_builtin; refine wpList_append_src rfl _ _ _ _ rfl 5 i0 _ 1 1 Tryz.underlying89 hi0 hz0 hz1 hz2 rfl u0 (m + k) _ rfl (ho.alloc _) _ 1 [_] rfl (Src.of_new Tryz.underlying89 _) (by simp [Value.oneCell']) (by unfold maxLen; omega) (by omega) ?_; intro v2 w2 ho2 hU2 hl2 hs2);obtain ⟨hU, hl⟩ := HX.out;go_roundw
   case rel =>
    refine ⟨k + 1, by omega, by go_num, ?_, (hU.alloc _).then hU2 (fun b hb => ?_), ?_⟩
    ·rw [bytesV_le, ← List.append_assoc]; exact ho2
    ·rcases hl with h | ⟨q, h, hq⟩
     ·exact .inl (by rw [← h]; exact hb)
     ·rw [h] at hb; exact .inr (by have := Option.some.inj hb; omega)
    ·have hsz := hU.size
     rcases hl2 with h | h
     ·rw [h]; exact hl
     ·exact .inr ⟨_, h, by simp; omega⟩
   case measure => simp [intOf]; omega
  ·obtain rfl : k = n := by omega
   go_wp2
   go_ret
   exact ⟨u0, rfl, ho, hU, hl⟩
theorem getLittle_disk (s : ByteArray) (n : Nat) (w : World) (hn : n ≤ 8) (hs : n ≤ s.size) :
 Calls Tryz.prog 91 #[.string s, .int .i64 (n : Int)] w fun e w' => e = .returned (.int .u64 (leN (s.data.toList.take n) : Int)) ∧ w = w' := by
 go_enter Tryz.func91, Tryz.ntmps91
 go_wp2_with fail
 go_loop [4, 7] (fun x i => ∃ k : Nat, k ≤ n ∧ i = .int .i64 k ∧ x = .int .u64 (leN (s.data.toList.take k) : Int)) (fun _ i => n - (intOf i).toNat)
 case atStart => exact ⟨0, by omega, rfl, rfl⟩
 case round =>
  obtain ⟨k, hk, rfl, rfl⟩ := hrel;by_cases hlt : k < n
  ·have hlt' : k < s.size := by omega
   go_wp2
   go_round
   case rel =>
    refine ⟨k + 1, by omega, by go_num, ?_⟩;rw [take_snoc_ s k hlt', le_step _ k _ (by omega) (by simp; omega)]
   case measure => simp [intOf]; omega
  ·obtain rfl : k = n := by omega
   go_wp2
   go_ret
   exact ⟨rfl, rfl⟩
theorem putLittle_kept (v : Value) (m : Nat) (xs : List Value) (x n : Nat) (w : World) (hown : Own w 5 1 v m xs) (hn : n ≤ 8) (hm : m ≤ 1000000) :
 Calls Tryz.prog 223 #[v, .int .u64 (x : Int), .int .i64 (n : Int)] w fun e w' => ∃ v', e = .returned v' ∧ Own w' 5 1 v' (m + n) (xs ++ bytesV (leB x n)) ∧ Upd (fun k => v.ownBlock = some k) w w' ∧ (v'.ownBlock = v.ownBlock ∨ ∃ q, v'.ownBlock = some q ∧ w.heap.size ≤ q) := by
 obtain ⟨i0, hi0, hz0, hz1, hz2⟩ := info_parts infoU8;go_enter Tryz.func223, Tryz.ntmps223
 go_wp2_with fail
 go_loopw [0, 9] (fun u i wr => ∃ k : Nat, k ≤ n ∧ i = .int .i64 k ∧ Own wr 5 1 u (m + k) (xs ++ bytesV (leB x k)) ∧ Upd (fun k => v.ownBlock = some k) w wr ∧ (u.ownBlock = v.ownBlock ∨ ∃ q, u.ownBlock = some q ∧ w.heap.size ≤ q)) (fun _ i _ => n - (intOf i).toNat)
 case atStart => exact ⟨0, by omega, rfl, by simpa [leB, bytesV] using hown, Upd.refl _ _, .inl rfl⟩
 case round =>
  obtain ⟨k, hk, rfl, ho, hU, hl⟩ := hrel;clear hown;by_cases hlt : k < n
  ·have HX := Lib.hid (And.intro hU hl)
   clear hU hl;go_wp2_with (at_builtin; refine wpList_append_src rfl _ _ _ _ rfl 5 i0 _ 1 1 Tryz.underlying89 hi0 hz0 hz1 hz2 rfl u0 (m + k) _ rfl (ho.alloc _) _ 1 [_] rfl (Src.of_new Tryz.underlying89 _) (by simp [Value.oneCell']) (by unfold maxLen; omega) (by omega) ?_; intro v2 w2 ho2 hU2 hl2 hs2);obtain ⟨hU, hl⟩ := HX.out;go_roundw
   case rel =>
    refine ⟨k + 1, by omega, by go_num, ?_, (hU.alloc _).then hU2 (fun b hb => ?_), ?_⟩
    ·rw [bytesV_le, ← List.append_assoc]; exact ho2
    ·rcases hl with h | ⟨q, h, hq⟩
     ·exact .inl (by rw [← h]; exact hb)
     ·rw [h] at hb; exact .inr (by have := Option.some.inj hb; omega)
    ·have hsz := hU.size
     rcases hl2 with h | h
     ·rw [h]; exact hl
     ·exact .inr ⟨_, h, by simp; omega⟩
   case measure => simp [intOf]; omega
  ·obtain rfl : k = n := by omega
   go_wp2
   go_ret
   exact ⟨u0, rfl, ho, hU, hl⟩
theorem getLittle_kept (s : ByteArray) (n : Nat) (w : World) (hn : n ≤ 8) (hs : n ≤ s.size) :
 Calls Tryz.prog 216 #[.string s, .int .i64 (n : Int)] w fun e w' => e = .returned (.int .u64 (leN (s.data.toList.take n) : Int)) ∧ w = w' := by
 go_enter Tryz.func216, Tryz.ntmps216
 go_wp2_with fail
 go_loop [4, 7] (fun x i => ∃ k : Nat, k ≤ n ∧ i = .int .i64 k ∧ x = .int .u64 (leN (s.data.toList.take k) : Int)) (fun _ i => n - (intOf i).toNat)
 case atStart => exact ⟨0, by omega, rfl, rfl⟩
 case round =>
  obtain ⟨k, hk, rfl, rfl⟩ := hrel;by_cases hlt : k < n
  ·have hlt' : k < s.size := by omega
   go_wp2
   go_round
   case rel =>
    refine ⟨k + 1, by omega, by go_num, ?_⟩;rw [take_snoc_ s k hlt', le_step _ k _ (by omega) (by simp; omega)]
   case measure => simp [intOf]; omega
  ·obtain rfl : k = n := by omega
   go_wp2
   go_ret
   exact ⟨rfl, rfl⟩
theorem putLittle_log (v : Value) (m : Nat) (xs : List Value) (x n : Nat) (w : World) (hown : Own w 5 1 v m xs) (hn : n ≤ 8) (hm : m ≤ 1000000) :
 Calls Tryz.prog 171 #[v, .int .u64 (x : Int), .int .i64 (n : Int)] w fun e w' => ∃ v', e = .returned v' ∧ Own w' 5 1 v' (m + n) (xs ++ bytesV (leB x n)) ∧ Upd (fun k => v.ownBlock = some k) w w' ∧ (v'.ownBlock = v.ownBlock ∨ ∃ q, v'.ownBlock = some q ∧ w.heap.size ≤ q) := by
 obtain ⟨i0, hi0, hz0, hz1, hz2⟩ := info_parts infoU8;go_enter Tryz.func171, Tryz.ntmps171
 go_wp2_with fail
 go_loopw [0, 9] (fun u i wr => ∃ k : Nat, k ≤ n ∧ i = .int .i64 k ∧ Own wr 5 1 u (m + k) (xs ++ bytesV (leB x k)) ∧ Upd (fun k => v.ownBlock = some k) w wr ∧ (u.ownBlock = v.ownBlock ∨ ∃ q, u.ownBlock = some q ∧ w.heap.size ≤ q)) (fun _ i _ => n - (intOf i).toNat)
 case atStart => exact ⟨0, by omega, rfl, by simpa [leB, bytesV] using hown, Upd.refl _ _, .inl rfl⟩
 case round =>
  obtain ⟨k, hk, rfl, ho, hU, hl⟩ := hrel;clear hown;by_cases hlt : k < n
  ·have HX := Lib.hid (And.intro hU hl)
   clear hU hl;go_wp2_with (at_builtin; refine wpList_append_src rfl _ _ _ _ rfl 5 i0 _ 1 1 Tryz.underlying89 hi0 hz0 hz1 hz2 rfl u0 (m + k) _ rfl (ho.alloc _) _ 1 [_] rfl (Src.of_new Tryz.underlying89 _) (by simp [Value.oneCell']) (by unfold maxLen; omega) (by omega) ?_; intro v2 w2 ho2 hU2 hl2 hs2);obtain ⟨hU, hl⟩ := HX.out;go_roundw
   case rel =>
    refine ⟨k + 1, by omega, by go_num, ?_, (hU.alloc _).then hU2 (fun b hb => ?_), ?_⟩
    ·rw [bytesV_le, ← List.append_assoc]; exact ho2
    ·rcases hl with h | ⟨q, h, hq⟩
     ·exact .inl (by rw [← h]; exact hb)
     ·rw [h] at hb; exact .inr (by have := Option.some.inj hb; omega)
    ·have hsz := hU.size
     rcases hl2 with h | h
     ·rw [h]; exact hl
     ·exact .inr ⟨_, h, by simp; omega⟩
   case measure => simp [intOf]; omega
  ·obtain rfl : k = n := by omega
   go_wp2
   go_ret
   exact ⟨u0, rfl, ho, hU, hl⟩
theorem getLittle_log (s : ByteArray) (n : Nat) (w : World) (hn : n ≤ 8) (hs : n ≤ s.size) :
 Calls Tryz.prog 207 #[.string s, .int .i64 (n : Int)] w fun e w' => e = .returned (.int .u64 (leN (s.data.toList.take n) : Int)) ∧ w = w' := by
 go_enter Tryz.func207, Tryz.ntmps207
 go_wp2_with fail
 go_loop [4, 7] (fun x i => ∃ k : Nat, k ≤ n ∧ i = .int .i64 k ∧ x = .int .u64 (leN (s.data.toList.take k) : Int)) (fun _ i => n - (intOf i).toNat)
 case atStart => exact ⟨0, by omega, rfl, rfl⟩
 case round =>
  obtain ⟨k, hk, rfl, rfl⟩ := hrel;by_cases hlt : k < n
  ·have hlt' : k < s.size := by omega
   go_wp2
   go_round
   case rel =>
    refine ⟨k + 1, by omega, by go_num, ?_⟩;rw [take_snoc_ s k hlt', le_step _ k _ (by omega) (by simp; omega)]
   case measure => simp [intOf]; omega
  ·obtain rfl : k = n := by omega
   go_wp2
   go_ret
   exact ⟨rfl, rfl⟩
end
section
open Go Go.RowKit
def bst (c : Int) : Int := if bits .and .u32 c 1 = 1 then bits .xor .u32 (c / 2) 3988292384 else c / 2
def bstN : Nat → Int → Int
 | 0, c => c
 | n + 1, c => bst (bstN n c)
def tb (i : Nat) : Int := bstN 4 i
def tabV : Array Value := #[.int .u32 (tb 0), .int .u32 (tb 1), .int .u32 (tb 2), .int .u32 (tb 3), .int .u32 (tb 4), .int .u32 (tb 5), .int .u32 (tb 6), .int .u32 (tb 7), .int .u32 (tb 8), .int .u32 (tb 9), .int .u32 (tb 10), .int .u32 (tb 11), .int .u32 (tb 12), .int .u32 (tb 13), .int .u32 (tb 14), .int .u32 (tb 15)]
theorem tabV_size : tabV.size = 16 := rfl
theorem tabV_get (i : Nat) (hi : i < 16) : tabV[i]? = some (.int .u32 (tb i)) := by
 match i, hi with
 | 0, _ | 1, _ | 2, _ | 3, _ | 4, _ | 5, _ | 6, _ | 7, _ | 8, _ | 9, _ | 10, _ | 11, _ | 12, _ | 13, _ | 14, _ | 15, _ => rfl
 | n + 16, h => omega
theorem tabV_one : tabV.all (·.oneCell') = true := by simp [tabV, Value.oneCell']
theorem bst_yes {c : Int} (h : bits .and .u32 c 1 = 1) : bst c = bits .xor .u32 (c / 2) 3988292384 := by simp [bst, h]
theorem bst_no {c : Int} (h : ¬ bits .and .u32 c 1 = 1) : bst c = c / 2 := by simp [bst, h]
def nibI (x : Int) : Int := bits .xor .u32 (x / 16) (tb (bits .and .u32 x 15).toNat)
def crcB (c : Int) (y : UInt8) : Int := nibI (nibI (bits .xor .u32 c y.toNat))
def crcL (l : List UInt8) : Int := l.foldl crcB 4294967295
def sumI (l : List UInt8) : Int := bits .xor .u32 IntKind.u32.max (crcL l)
theorem bits_u32_range (op : BinOp) (h : op = .xor ∨ op = .and) (a b : Int) : 0 ≤ bits op .u32 a b ∧ bits op .u32 a b < 4294967296 := by
 rcases h with rfl | rfl
 ·have e : bits .xor .u32 a b = IntKind.u32.wrap ((BitVec.ofInt 32 a ^^^ BitVec.ofInt 32 b).toNat : Int) := rfl
  rw [e];generalize (BitVec.ofInt 32 a ^^^ BitVec.ofInt 32 b).toNat = n;rw [IntKind.wrap_u32'];omega
 ·have e : bits .and .u32 a b = IntKind.u32.wrap ((BitVec.ofInt 32 a &&& BitVec.ofInt 32 b).toNat : Int) := rfl
  rw [e];generalize (BitVec.ofInt 32 a &&& BitVec.ofInt 32 b).toNat = n;rw [IntKind.wrap_u32'];omega
def sumN (l : List UInt8) : Nat := (sumI l).toNat
theorem sumI_eq (l : List UInt8) : sumI l = (sumN l : Int) := by
 have h := (bits_u32_range .xor (.inl rfl) IntKind.u32.max (crcL l)).1;unfold sumN;exact (Int.toNat_of_nonneg h).symm
theorem sumN_lt (l : List UInt8) : sumN l < 4294967296 := by
 have h := (bits_u32_range .xor (.inl rfl) IntKind.u32.max (crcL l));have e := sumI_eq l;unfold sumI at e;omega
theorem crcL_snoc (l : List UInt8) (y : UInt8) : crcL (l ++ [y]) = crcB (crcL l) y := by simp [crcL]
theorem nib (x : Int) : 0 ≤ bits .and .u32 x 15 ∧ bits .and .u32 x 15 < 16 := by
 have h : bits .and .u32 x 15 = IntKind.u32.wrap ((BitVec.ofInt 32 x &&& BitVec.ofInt 32 15).toNat : Int) := rfl;have h2 : (BitVec.ofInt 32 x &&& BitVec.ofInt 32 15).toNat < 16 := by
  rw [BitVec.toNat_and];have : (BitVec.ofInt 32 15).toNat = 15 := rfl;rw [this];exact Nat.lt_of_le_of_lt Nat.and_le_right (by omega)
 rw [h];generalize (BitVec.ofInt 32 x &&& BitVec.ofInt 32 15).toNat = n at h2;rw [IntKind.wrap_u32'];omega
theorem take_snoc (s : ByteArray) (k : Nat) (h : k < s.size) : s.data.toList.take (k + 1) = s.data.toList.take k ++ [s[k]] := by
 rw [List.take_succ_eq_append_getElem (by simpa using h)]; rfl
theorem nodup_ext16 {vs : Array Value} (h : vs.size = 16) (hall : ∀ j, j < 16 → vs[j]? = some (.int .u32 (tb j))) : vs = tabV := by
 apply Array.ext_getElem?
 intro i;by_cases hi : i < 16
 ·rw [hall i hi, tabV_get i hi]
 ·rw [Array.getElem?_eq_none (by omega), Array.getElem?_eq_none (by rw [tabV_size]; omega)]
theorem table_c (w : World) :
 Calls Tryz.prog 151 #[] w fun e w' => e = .returned (.agg tabV) ∧ Below w.heap.size w w' := by
 go_enter Tryz.func151, Tryz.ntmps151
 go_wp2_with fail
 go_loopw [1, 2, 3] (fun _ _ i wr => ∃ (k : Nat) (vs : Array Value), k ≤ 16 ∧ i = .int .i64 k ∧ Blk wr w.heap.size 240 vs ∧ vs.size = 16 ∧ (∀ j, j < k → vs[j]? = some (.int .u32 (tb j))) ∧ Below w.heap.size w wr) (fun _ _ i _ => 16 - (intOf i).toNat)
 case atStart => exact ⟨0, _, by omega, rfl, Blk.new _ _ _, rfl, by omega, (Below.refl _ _).alloc (Nat.le_refl _) _⟩
 case round =>
  obtain ⟨k, vs, hk, rfl, hB, hvs, hall, hbel⟩ := hrel;by_cases hlt : k < 16
  ·have Hall := Lib.hid hall
   clear hall;go_wp2_with fail
   obtain ⟨wo, rfl⟩ : ∃ wo : World, wo = wr := ⟨_, rfl⟩;go_loop [2, 8] (fun c m => ∃ (n : Nat), n ≤ 4 ∧ m = .int .i64 n ∧ c = .int .u32 (bstN n k)) (fun _ m => 4 - (intOf m).toNat)
   case atStart => exact ⟨0, by omega, rfl, rfl⟩
   case round =>
    obtain ⟨n, hn, rfl, rfl⟩ := hrel;by_cases hn4 : n < 4
    ·by_cases hbit : bits .and .u32 (bstN n k) 1 = 1
     ·have hb1 : (bits .and .u32 (bstN n k) 1 == 1) = true := by simp [hbit]
      have hstep := Lib.hid (bst_yes hbit);clear hbit;go_wp2
      go_round
      case rel => exact ⟨n + 1, by omega, by go_num, by rw [bstN, hstep.out]⟩
      case measure => simp [intOf]; omega
     ·have hb1 : (bits .and .u32 (bstN n k) 1 == 1) = false := by simp [hbit]
      have hstep := Lib.hid (bst_no hbit);clear hbit;go_wp2
      go_round
      case rel => exact ⟨n + 1, by omega, by go_num, by rw [bstN, hstep.out]⟩
      case measure => simp [intOf]; omega
    ·obtain rfl : n = 4 := by omega
     have hc := hB.cell k;have hf := hB.frozen k;rw [Array.getElem?_eq_getElem (by omega)] at hc;go_wp2
     go_roundw
     case rel =>
      refine ⟨k + 1, vs.setIfInBounds k (.int .u32 (bstN 4 k)), by omega, by go_num, hB.set_ k _, by simpa using hvs, ?_, hbel.setCell (Nat.le_refl _) _⟩;intro j hj;by_cases hjk : j = k
      ·subst hjk
       simp [hvs, hlt, tb]
      ·rw [Array.getElem?_setIfInBounds_ne (Ne.symm hjk)]
       exact Hall.out j (by omega)
     case measure => simp [intOf]; omega
  ·obtain rfl : k = 16 := by omega
   have hv : vs = tabV := nodup_ext16 hvs hall;subst hv;clear hall;go_wp2_with (first | (refine wpList_load_all rfl _ _ rfl w.heap.size rfl _ tabV _ hB Tryz.underlying240 rfl rfl ?_) | (refine wpList_store_all rfl 240 _ _ rfl w.heap.size tabV rfl rfl _ tabV hB rfl tabV_one (by kernel_rfl) ?_; intro w2 hB2 hU2 hs2));refine bodyPost_ret (results_cell_row rfl _ _ w.heap.size _ tabV _ _ rfl hB2 Tryz.underlying240 rfl rfl) rfl ⟨rfl, ?_⟩;exact hbel.trans ⟨hU2.os, hU2.tape, hU2.output, hU2.size, fun b hb => hU2.block b (Nat.lt_of_lt_of_le hb hbel.size) (by omega)⟩
theorem Sum_c (s : ByteArray) (w : World) (hs : s.size ≤ 9223372036854775807) :
 Calls Tryz.prog 92 #[.string s] w fun e w' => e = .returned (.int .u32 (sumN s.data.toList : Int)) ∧ Below w.heap.size w w' := by
 go_enter Tryz.func92, Tryz.ntmps92
 go_wp2_with fail
 refine (table_c _).mono ?_;rintro e w1 ⟨rfl, hb1⟩;unfold tabV;go_wp2_with fail
 generalize hW : w1.alloc _ = W;have hcell : ∀ i : Nat, i < 16 → W.cell? ⟨w1.heap.size, i, none⟩ = some (.int .u32 (tb i)) := by
  intro i hi;rw [← hW, World.cell?_alloc_new];exact tabV_get i hi
 have hb2 : Below w.heap.size w W := by rw [← hW]; exact hb1.alloc hb1.size _
 have Hcell := Lib.hid hcell;clear hcell hW;go_loop [4, 9] (fun c i => ∃ k : Nat, k ≤ s.size ∧ i = .int .i64 k ∧ c = .int .u32 (crcL (s.data.toList.take k))) (fun _ i => s.size - (intOf i).toNat)
 case atStart => exact ⟨0, by omega, rfl, rfl⟩
 case round =>
  obtain ⟨k, hk, rfl, rfl⟩ := hrel;by_cases hlt : k < s.size
  ·have HS : Hid (crcL (s.data.toList.take (k + 1)) = crcB (crcL (s.data.toList.take k)) s[k]) := by rw [take_snoc s k hlt]; exact crcL_snoc _ _
   generalize crcL (s.data.toList.take k) = c' at HS;have hy : ((s[k]'hlt).toNat : Int) < 256 := by have := (s[k]'hlt).toNat_lt; omega
   have l1 := nib (bits .xor .u32 c' (s[k]'hlt).toNat);have g1 := Hcell.out (bits .and .u32 (bits .xor .u32 c' (s[k]'hlt).toNat) 15).toNat (by omega);have l2 := nib (bits .xor .u32 (bits .xor .u32 c' (s[k]'hlt).toNat / 16) (tb (bits .and .u32 (bits .xor .u32 c' (s[k]'hlt).toNat) 15).toNat));have g2 := Hcell.out (bits .and .u32 (bits .xor .u32 (bits .xor .u32 c' (s[k]'hlt).toNat / 16) (tb (bits .and .u32 (bits .xor .u32 c' (s[k]'hlt).toNat) 15).toNat)) 15).toNat (by omega);go_wp2
   go_round
   case rel => exact ⟨k + 1, by omega, by go_num, by rw [HS.out]; rfl⟩
   case measure => simp [intOf]; omega
  ·go_wp2
   go_ret
   refine ⟨?_, hb2⟩;rw [List.take_of_length_le (by simp; omega), ← sumI_eq];rfl
end
end Go.Proofs.YtbhjgfibhegddaaGreat
namespace Go.Proofs
open Go.Shelf
def Tryz.lays169_ren : Go.Shelf.Ren := ⟨fun | 169 => 74 | n => n, fun | 70 => 137 | 9 => 9 | 0 => 0 | 72 => 139 | 37 => 89 | 127 => 226 | 3 => 3 | 5 => 5 | n => n, fun | n => n⟩
theorem Tryz.lays169 : Go.Proofs.Lays.n169 Tryz.prog Tryz.lays169_ren := {
 mixed := by kernel_rfl
 f169 := Tryz.func74.trans (congrArg some (by kernel_rfl))
 t0 := Tryz.underlying0
 a0 := Tryz.isAgg0
 z0 := Tryz.sizeOf0
 v0 := Tryz.zeroValue0
 t3 := Tryz.underlying3
 a3 := Tryz.isAgg3
 z3 := Tryz.sizeOf3
 v3 := Tryz.zeroValue3
 t9 := Tryz.underlying9
 a9 := Tryz.isAgg9
 z9 := Tryz.sizeOf9
 v9 := Tryz.zeroValue9
 t37 := Tryz.underlying89
 a37 := Tryz.isAgg89
 z37 := Tryz.sizeOf89
 v37 := Tryz.zeroValue89
 t70 := Tryz.underlying137
 a70 := Tryz.isAgg137
 z70 := Tryz.sizeOf137
 v70 := Tryz.zeroValue137
 t72 := Tryz.underlying139
 a72 := Tryz.isAgg139
 z72 := Tryz.sizeOf139
 v72 := Tryz.zeroValue139
 t127 := Tryz.underlying226
 a127 := Tryz.isAgg226
 z127 := Tryz.sizeOf226
 v127 := Tryz.zeroValue226 }
theorem Tryz.Builder_Extra_169 : Builder.Extra Tryz.prog Tryz.lays169_ren := {
 sizeBuilder := by kernel_rfl
 liesBuilder := by kernel_rfl
 t5 := Tryz.underlying5
 a5 := Tryz.isAgg5
 z5 := Tryz.sizeOf5
 v5 := Tryz.zeroValue5
 infoByte := by kernel_rfl
 cellsByte := by kernel_rfl
 sizeByte := by kernel_rfl
 neB5 := by decide }
open Go.RowKit in
theorem Tryz.Builder_String_any (B b : Nat) (l : List UInt8) (w : World) (h : Lib.IsBuilder 139 5 B b (Lib.byteCells l) w) (hBw : B ≤ w.heap.size) :
 Calls Tryz.prog 74 #[.pointer (some ⟨b, 0, none⟩)] w fun e w' => e = .returned (.string ⟨l.toArray⟩) ∧ Below B w w' := Any.Builder_String_any Tryz.lays169 Tryz.Builder_Extra_169 B b l w h hBw
def Tryz.lays137_ren : Go.Shelf.Ren := ⟨fun | 137 => 225 | 217 => 238 | 266 => 269 | n => n, fun | 9 => 9 | 5 => 5 | 3 => 3 | n => n, fun | n => n⟩
theorem Tryz.lays137 : Go.Proofs.Lays.n137 Tryz.prog Tryz.lays137_ren := {
 mixed := by kernel_rfl
 f137 := Tryz.func225.trans (congrArg some (by kernel_rfl))
 f217 := Tryz.func238.trans (congrArg some (by kernel_rfl))
 f266 := Tryz.func269.trans (congrArg some (by kernel_rfl))
 t3 := Tryz.underlying3
 a3 := Tryz.isAgg3
 z3 := Tryz.sizeOf3
 v3 := Tryz.zeroValue3
 t5 := Tryz.underlying5
 a5 := Tryz.isAgg5
 z5 := Tryz.sizeOf5
 v5 := Tryz.zeroValue5
 t9 := Tryz.underlying9
 a9 := Tryz.isAgg9
 z9 := Tryz.sizeOf9
 v9 := Tryz.zeroValue9 }
open Go.RowKit in
theorem Tryz.strings_IndexByte (s : ByteArray) (c : Int) (w : World) :
 Calls Tryz.prog 225 #[.string s, .int .u8 c] w fun e w' => e = .returned (.int .i64 (Lib.indexByte s.data.toList c.toNat.toUInt8)) ∧ w' = w := Any.strings_IndexByte Tryz.lays137 s c w
def Tryz.lays129_ren : Go.Shelf.Ren := ⟨fun | 129 => 204 | n => n, fun | 53 => 112 | 3 => 3 | 4 => 4 | 46 => 133 | 5 => 5 | 9 => 9 | n => n, fun | n => n⟩
theorem Tryz.lays129 : Go.Proofs.Lays.n129 Tryz.prog Tryz.lays129_ren := {
 mixed := by kernel_rfl
 f129 := Tryz.func204.trans (congrArg some (by kernel_rfl))
 t3 := Tryz.underlying3
 a3 := Tryz.isAgg3
 z3 := Tryz.sizeOf3
 v3 := Tryz.zeroValue3
 t4 := Tryz.underlying4
 a4 := Tryz.isAgg4
 z4 := Tryz.sizeOf4
 v4 := Tryz.zeroValue4
 t5 := Tryz.underlying5
 a5 := Tryz.isAgg5
 z5 := Tryz.sizeOf5
 v5 := Tryz.zeroValue5
 t9 := Tryz.underlying9
 a9 := Tryz.isAgg9
 z9 := Tryz.sizeOf9
 v9 := Tryz.zeroValue9
 t46 := Tryz.underlying133
 a46 := Tryz.isAgg133
 z46 := Tryz.sizeOf133
 v46 := Tryz.zeroValue133
 t53 := Tryz.underlying112
 a53 := Tryz.isAgg112
 z53 := Tryz.sizeOf112
 v53 := Tryz.zeroValue112 }
theorem Tryz.bits_Len64 (x : Int) (w : World) (h0 : 0 ≤ x) (h1 : x ≤ 18446744073709551615) :
 Calls Tryz.prog 204 #[.int .u64 x] w fun e w' => e = .returned (.int .i64 (Lib.bitLen x.toNat)) ∧ w' = w := Any.bits_Len64 Tryz.lays129 x w h0 h1
def Tryz.lays219_ren : Go.Shelf.Ren := ⟨fun | 219 => 198 | 217 => 238 | 225 => 239 | 224 => 240 | 267 => 241 | 266 => 269 | 314 => 270 | n => n, fun | 9 => 9 | 3 => 3 | 4 => 4 | 5 => 5 | 46 => 133 | 146 => 222 | 51 => 113 | n => n, fun | 1 => 0 | n => n⟩
theorem Tryz.lays219 : Go.Proofs.Lays.n219 Tryz.prog Tryz.lays219_ren := {
 mixed := by kernel_rfl
 f217 := Tryz.func238.trans (congrArg some (by kernel_rfl))
 f219 := Tryz.func198.trans (congrArg some (by kernel_rfl))
 f224 := Tryz.func240.trans (congrArg some (by kernel_rfl))
 f225 := Tryz.func239.trans (congrArg some (by kernel_rfl))
 f266 := Tryz.func269.trans (congrArg some (by kernel_rfl))
 f267 := Tryz.func241.trans (congrArg some (by kernel_rfl))
 f314 := Tryz.func270.trans (congrArg some (by kernel_rfl))
 t3 := Tryz.underlying3
 a3 := Tryz.isAgg3
 z3 := Tryz.sizeOf3
 v3 := Tryz.zeroValue3
 t4 := Tryz.underlying4
 a4 := Tryz.isAgg4
 z4 := Tryz.sizeOf4
 v4 := Tryz.zeroValue4
 t5 := Tryz.underlying5
 a5 := Tryz.isAgg5
 z5 := Tryz.sizeOf5
 v5 := Tryz.zeroValue5
 t9 := Tryz.underlying9
 a9 := Tryz.isAgg9
 z9 := Tryz.sizeOf9
 v9 := Tryz.zeroValue9
 t46 := Tryz.underlying133
 a46 := Tryz.isAgg133
 z46 := Tryz.sizeOf133
 v46 := Tryz.zeroValue133
 t51 := Tryz.underlying113
 a51 := Tryz.isAgg113
 z51 := Tryz.sizeOf113
 v51 := Tryz.zeroValue113
 t146 := Tryz.underlying222
 a146 := Tryz.isAgg222
 z146 := Tryz.sizeOf222
 v146 := Tryz.zeroValue222
 g1 := by kernel_rfl }
open Go.RowKit Go.Lib in
theorem Tryz.stringslite_Index_one (s : ByteArray) (c : UInt8) (w : World) :
 Calls Tryz.prog 198 #[.string s, .string ⟨#[c]⟩] w fun e w' => e = .returned (.int .i64 (Lib.indexByte s.data.toList c)) ∧ w' = w := Any.stringslite_Index_one Tryz.lays219 s c w
def Tryz.lays138_ren : Go.Shelf.Ren := ⟨fun | 138 => 90 | 195 => 148 | 218 => 149 | 143 => 150 | 219 => 198 | 217 => 238 | 225 => 239 | 224 => 240 | 267 => 241 | 266 => 269 | 314 => 270 | n => n, fun | 9 => 9 | 3 => 3 | 4 => 4 | 5 => 5 | 0 => 0 | 46 => 133 | 146 => 222 | 51 => 113 | n => n, fun | 1 => 0 | n => n⟩
theorem Tryz.lays138 : Go.Proofs.Lays.n138 Tryz.prog Tryz.lays138_ren := {
 mixed := by kernel_rfl
 f138 := Tryz.func90.trans (congrArg some (by kernel_rfl))
 f143 := Tryz.func150.trans (congrArg some (by kernel_rfl))
 f195 := Tryz.func148.trans (congrArg some (by kernel_rfl))
 f217 := Tryz.func238.trans (congrArg some (by kernel_rfl))
 f218 := Tryz.func149.trans (congrArg some (by kernel_rfl))
 f219 := Tryz.func198.trans (congrArg some (by kernel_rfl))
 f224 := Tryz.func240.trans (congrArg some (by kernel_rfl))
 f225 := Tryz.func239.trans (congrArg some (by kernel_rfl))
 f266 := Tryz.func269.trans (congrArg some (by kernel_rfl))
 f267 := Tryz.func241.trans (congrArg some (by kernel_rfl))
 f314 := Tryz.func270.trans (congrArg some (by kernel_rfl))
 t0 := Tryz.underlying0
 a0 := Tryz.isAgg0
 z0 := Tryz.sizeOf0
 v0 := Tryz.zeroValue0
 t3 := Tryz.underlying3
 a3 := Tryz.isAgg3
 z3 := Tryz.sizeOf3
 v3 := Tryz.zeroValue3
 t4 := Tryz.underlying4
 a4 := Tryz.isAgg4
 z4 := Tryz.sizeOf4
 v4 := Tryz.zeroValue4
 t5 := Tryz.underlying5
 a5 := Tryz.isAgg5
 z5 := Tryz.sizeOf5
 v5 := Tryz.zeroValue5
 t9 := Tryz.underlying9
 a9 := Tryz.isAgg9
 z9 := Tryz.sizeOf9
 v9 := Tryz.zeroValue9
 t46 := Tryz.underlying133
 a46 := Tryz.isAgg133
 z46 := Tryz.sizeOf133
 v46 := Tryz.zeroValue133
 t51 := Tryz.underlying113
 a51 := Tryz.isAgg113
 z51 := Tryz.sizeOf113
 v51 := Tryz.zeroValue113
 t146 := Tryz.underlying222
 a146 := Tryz.isAgg222
 z146 := Tryz.sizeOf222
 v146 := Tryz.zeroValue222
 g1 := by kernel_rfl }
open Go.RowKit Go.Lib in
theorem Tryz.strings_Count_one (s : ByteArray) (c : UInt8) (w : World) :
 Calls Tryz.prog 90 #[.string s, .string ⟨#[c]⟩] w fun e w' => e = .returned (.int .i64 (Lib.countByte s.data.toList c)) ∧ w' = w := Any.strings_Count_one Tryz.lays138 s c w
def Tryz.lays190_ren : Go.Shelf.Ren := ⟨fun | 190 => 192 | 125 => 197 | 258 => 227 | 128 => 237 | 129 => 204 | 302 => 254 | 303 => 255 | 304 => 256 | 305 => 257 | 306 => 258 | 307 => 259 | 308 => 260 | 309 => 261 | 310 => 262 | 333 => 282 | 329 => 264 | 330 => 265 | 334 => 283 | 335 => 284 | 336 => 285 | 344 => 302 | n => n, fun | 31 => 147 | 9 => 9 | 3 => 3 | 46 => 133 | 0 => 0 | 51 => 113 | 53 => 112 | 4 => 4 | 183 => 329 | 182 => 328 | 131 => 307 | 5 => 5 | 218 => 352 | 222 => 283 | 228 => 373 | 229 => 26 | n => n, fun | n => n⟩
theorem Tryz.lays190 : Go.Proofs.Lays.n190 Tryz.prog Tryz.lays190_ren := {
 mixed := by kernel_rfl
 f125 := Tryz.func197.trans (congrArg some (by kernel_rfl))
 f128 := Tryz.func237.trans (congrArg some (by kernel_rfl))
 f129 := Tryz.func204.trans (congrArg some (by kernel_rfl))
 f190 := Tryz.func192.trans (congrArg some (by kernel_rfl))
 f258 := Tryz.func227.trans (congrArg some (by kernel_rfl))
 f302 := Tryz.func254.trans (congrArg some (by kernel_rfl))
 f303 := Tryz.func255.trans (congrArg some (by kernel_rfl))
 f304 := Tryz.func256.trans (congrArg some (by kernel_rfl))
 f305 := Tryz.func257.trans (congrArg some (by kernel_rfl))
 f306 := Tryz.func258.trans (congrArg some (by kernel_rfl))
 f307 := Tryz.func259.trans (congrArg some (by kernel_rfl))
 f308 := Tryz.func260.trans (congrArg some (by kernel_rfl))
 f309 := Tryz.func261.trans (congrArg some (by kernel_rfl))
 f310 := Tryz.func262.trans (congrArg some (by kernel_rfl))
 f329 := Tryz.func264.trans (congrArg some (by kernel_rfl))
 f330 := Tryz.func265.trans (congrArg some (by kernel_rfl))
 f333 := Tryz.func282.trans (congrArg some (by kernel_rfl))
 f334 := Tryz.func283.trans (congrArg some (by kernel_rfl))
 f335 := Tryz.func284.trans (congrArg some (by kernel_rfl))
 f336 := Tryz.func285.trans (congrArg some (by kernel_rfl))
 f344 := Tryz.func302.trans (congrArg some (by kernel_rfl))
 t0 := Tryz.underlying0
 a0 := Tryz.isAgg0
 z0 := Tryz.sizeOf0
 v0 := Tryz.zeroValue0
 t3 := Tryz.underlying3
 a3 := Tryz.isAgg3
 z3 := Tryz.sizeOf3
 v3 := Tryz.zeroValue3
 t4 := Tryz.underlying4
 a4 := Tryz.isAgg4
 z4 := Tryz.sizeOf4
 v4 := Tryz.zeroValue4
 t5 := Tryz.underlying5
 a5 := Tryz.isAgg5
 z5 := Tryz.sizeOf5
 v5 := Tryz.zeroValue5
 t9 := Tryz.underlying9
 a9 := Tryz.isAgg9
 z9 := Tryz.sizeOf9
 v9 := Tryz.zeroValue9
 t31 := Tryz.underlying147
 a31 := Tryz.isAgg147
 z31 := Tryz.sizeOf147
 v31 := Tryz.zeroValue147
 t46 := Tryz.underlying133
 a46 := Tryz.isAgg133
 z46 := Tryz.sizeOf133
 v46 := Tryz.zeroValue133
 t51 := Tryz.underlying113
 a51 := Tryz.isAgg113
 z51 := Tryz.sizeOf113
 v51 := Tryz.zeroValue113
 t53 := Tryz.underlying112
 a53 := Tryz.isAgg112
 z53 := Tryz.sizeOf112
 v53 := Tryz.zeroValue112
 t131 := Tryz.underlying307
 a131 := Tryz.isAgg307
 z131 := Tryz.sizeOf307
 v131 := Tryz.zeroValue307
 t182 := Tryz.underlying328
 a182 := Tryz.isAgg328
 z182 := Tryz.sizeOf328
 v182 := Tryz.zeroValue328
 t183 := Tryz.underlying329
 a183 := Tryz.isAgg329
 z183 := Tryz.sizeOf329
 v183 := Tryz.zeroValue329
 t218 := Tryz.underlying352
 a218 := Tryz.isAgg352
 z218 := Tryz.sizeOf352
 v218 := Tryz.zeroValue352
 t222 := Tryz.underlying283
 a222 := Tryz.isAgg283
 z222 := Tryz.sizeOf283
 v222 := Tryz.zeroValue283
 t228 := Tryz.underlying373
 a228 := Tryz.isAgg373
 z228 := Tryz.sizeOf373
 v228 := Tryz.zeroValue373
 t229 := Tryz.underlying26
 a229 := Tryz.isAgg26
 z229 := Tryz.sizeOf26
 v229 := Tryz.zeroValue26 }
open Go.Sort Go.RowKit in
theorem Tryz.slices_Sort_string (blk off cap : Nat) (ss : List (List UInt8)) (w : World) (hH : Holds encStr w blk off ss.toArray) (hblk : blk < w.heap.size) (hsz : ss.length < 4611686018427387904) :
 Calls Tryz.prog 192 #[.slice (some ⟨blk, off, none⟩) ss.length cap] w fun e w' =>
  e = .returned (.tuple #[]) ∧ ∃ n os, w' = grow (putRow encStr (Sort.ahead w n) blk off (ss.mergeSort fun x y => decide (x ≤ y)).toArray) os := Any.slices_Sort_string Tryz.lays190 blk off cap ss w hH hblk hsz
def Tryz.lays105_ren : Go.Shelf.Ren := ⟨fun | 105 => 20 | 212 => 69 | 99 => 70 | 165 => 71 | 166 => 72 | 170 => 73 | 169 => 74 | 263 => 129 | 264 => 130 | 206 => 131 | 240 => 132 | 241 => 133 | 276 => 187 | 277 => 188 | n => n, fun | 9 => 9 | 3 => 3 | 4 => 4 | 20 => 20 | 0 => 0 | 46 => 133 | 109 => 134 | 5 => 5 | 72 => 139 | 76 => 142 | 51 => 113 | 146 => 222 | 53 => 112 | 148 => 224 | 70 => 137 | 37 => 89 | 75 => 141 | 127 => 226 | 164 => 296 | 80 => 144 | n => n, fun | n => n⟩
theorem Tryz.lays105 : Go.Proofs.Lays.n105 Tryz.prog Tryz.lays105_ren := {
 mixed := by kernel_rfl
 f99 := Tryz.func70.trans (congrArg some (by kernel_rfl))
 f105 := Tryz.func20.trans (congrArg some (by kernel_rfl))
 f165 := Tryz.func71.trans (congrArg some (by kernel_rfl))
 f166 := Tryz.func72.trans (congrArg some (by kernel_rfl))
 f169 := Tryz.func74.trans (congrArg some (by kernel_rfl))
 f170 := Tryz.func73.trans (congrArg some (by kernel_rfl))
 f206 := Tryz.func131.trans (congrArg some (by kernel_rfl))
 f212 := Tryz.func69.trans (congrArg some (by kernel_rfl))
 f240 := Tryz.func132.trans (congrArg some (by kernel_rfl))
 f241 := Tryz.func133.trans (congrArg some (by kernel_rfl))
 f263 := Tryz.func129.trans (congrArg some (by kernel_rfl))
 f264 := Tryz.func130.trans (congrArg some (by kernel_rfl))
 f276 := Tryz.func187.trans (congrArg some (by kernel_rfl))
 f277 := Tryz.func188.trans (congrArg some (by kernel_rfl))
 t0 := Tryz.underlying0
 a0 := Tryz.isAgg0
 z0 := Tryz.sizeOf0
 v0 := Tryz.zeroValue0
 t3 := Tryz.underlying3
 a3 := Tryz.isAgg3
 z3 := Tryz.sizeOf3
 v3 := Tryz.zeroValue3
 t4 := Tryz.underlying4
 a4 := Tryz.isAgg4
 z4 := Tryz.sizeOf4
 v4 := Tryz.zeroValue4
 t5 := Tryz.underlying5
 a5 := Tryz.isAgg5
 z5 := Tryz.sizeOf5
 v5 := Tryz.zeroValue5
 t9 := Tryz.underlying9
 a9 := Tryz.isAgg9
 z9 := Tryz.sizeOf9
 v9 := Tryz.zeroValue9
 t20 := Tryz.underlying20
 a20 := Tryz.isAgg20
 z20 := Tryz.sizeOf20
 v20 := Tryz.zeroValue20
 t37 := Tryz.underlying89
 a37 := Tryz.isAgg89
 z37 := Tryz.sizeOf89
 v37 := Tryz.zeroValue89
 t46 := Tryz.underlying133
 a46 := Tryz.isAgg133
 z46 := Tryz.sizeOf133
 v46 := Tryz.zeroValue133
 t51 := Tryz.underlying113
 a51 := Tryz.isAgg113
 z51 := Tryz.sizeOf113
 v51 := Tryz.zeroValue113
 t53 := Tryz.underlying112
 a53 := Tryz.isAgg112
 z53 := Tryz.sizeOf112
 v53 := Tryz.zeroValue112
 t70 := Tryz.underlying137
 a70 := Tryz.isAgg137
 z70 := Tryz.sizeOf137
 v70 := Tryz.zeroValue137
 t72 := Tryz.underlying139
 a72 := Tryz.isAgg139
 z72 := Tryz.sizeOf139
 v72 := Tryz.zeroValue139
 t75 := Tryz.underlying141
 a75 := Tryz.isAgg141
 z75 := Tryz.sizeOf141
 v75 := Tryz.zeroValue141
 t76 := Tryz.underlying142
 a76 := Tryz.isAgg142
 z76 := Tryz.sizeOf142
 v76 := Tryz.zeroValue142
 t109 := Tryz.underlying134
 a109 := Tryz.isAgg134
 z109 := Tryz.sizeOf134
 v109 := Tryz.zeroValue134
 t127 := Tryz.underlying226
 a127 := Tryz.isAgg226
 z127 := Tryz.sizeOf226
 v127 := Tryz.zeroValue226
 t146 := Tryz.underlying222
 a146 := Tryz.isAgg222
 z146 := Tryz.sizeOf222
 v146 := Tryz.zeroValue222
 t148 := Tryz.underlying224
 a148 := Tryz.isAgg224
 z148 := Tryz.sizeOf224
 v148 := Tryz.zeroValue224
 t164 := Tryz.underlying296
 a164 := Tryz.isAgg296
 z164 := Tryz.sizeOf296
 v164 := Tryz.zeroValue296 }
theorem Tryz.Builder_Extra_105 : Builder.Extra Tryz.prog Tryz.lays105_ren := {
 sizeBuilder := by kernel_rfl
 liesBuilder := by kernel_rfl
 t5 := Tryz.underlying5
 a5 := Tryz.isAgg5
 z5 := Tryz.sizeOf5
 v5 := Tryz.zeroValue5
 infoByte := by kernel_rfl
 cellsByte := by kernel_rfl
 sizeByte := by kernel_rfl
 neB5 := by decide }
open Go.RowKit Go.Lib in
theorem Tryz.strings_Repeat (s : ByteArray) (c : Nat) (w : World) (hc : c ≤ 9223372036854775807) (hlen : s.size * c ≤ 140737488355328) :
 Calls Tryz.prog 20 #[.string s, .int .i64 c] w fun e w' => e = .returned (.string ⟨(Lib.repeatL s.data.toList c).toArray⟩) ∧ Below w.heap.size w w' := Any.strings_Repeat Tryz.lays105 Tryz.Builder_Extra_105 s c w hc hlen
open Go.RowKit Go.Sort in
theorem Tryz.slices_Sort_string_none (p : Option Addr) (cap : Nat) (w : World) :
 Calls Tryz.prog 192 #[.slice p 0 cap] w fun e w' => e = .returned (.tuple #[]) ∧ w' = w := Any.slices_Sort_string_none Tryz.lays190 p cap w
end Go.Proofs
namespace Go.Proofs.YtbhjgfibhegddaaGreat
section
open Go Go.RowKit
def str (l : List UInt8) : ByteArray := ⟨l.toArray⟩
theorem str_list (l : List UInt8) : (str l).data.toList = l := rfl
theorem str_size (l : List UInt8) : (str l).size = l.length := by simp [str, ByteArray.size]
theorem str_eta (s : ByteArray) : str s.data.toList = s := rfl
theorem str_inj {a b : List UInt8} (h : str a = str b) : a = b := by have := congrArg (fun s => s.data.toList) h; simpa [str] using this
section
variable {w : World}
theorem strOfNums_bytes (l : List UInt8) : strOfNums (l.map fun b => ((b.toNat : Nat) : Int)) = str l := by
 unfold strOfNums str;congr 2
 simp [List.map_map, Function.comp_def]
theorem run_to_string {v : Value} {n : Nat} {l : List UInt8} (h : Own w 5 1 v n (bytesV l)) : (convert 89 9 v).run Tryz.prog w = .ok (.string (str l)) w := by
 have hn : l.length = n := by have := h.1; simp [bytesV] at this; omega
 rcases h.2 with ⟨rfl, rfl⟩ | ⟨g, cap, cur, fr, rfl, _⟩
 ·have : l = [] := List.eq_nil_of_length_eq_zero hn
  subst this;exact run_convert_bytes_nil w _ _ Tryz.underlying89 Tryz.underlying5 0 0 _ Tryz.underlying9
 ·rw [← strOfNums_bytes]
  refine run_convert_bytes_arg w _ _ Tryz.underlying89 Tryz.underlying5 g 0 n cap _ (by simpa using hn) (fun i hi => ?_) _ Tryz.underlying9;rw [Nat.zero_add, h.cellAt i (by omega)];simp [bytesV, show i < l.length by omega]
theorem run_to_bytes (w : World) (s : ByteArray) (hs : s.size ≤ maxLen) :
 ∃ v' w', (convert 9 89 (.string s)).run Tryz.prog w = .ok v' w' ∧ Own w' 5 1 v' s.size (bytesV s.data.toList) ∧ Upd (fun _ => False) w w' ∧ v'.ownBlock = some w.heap.size ∧ w'.heap.size = w.heap.size + 1 := by
 refine ⟨_, _, Lib.run_convert_string_bytes w _ _ _ s Tryz.underlying9 Tryz.underlying89 Tryz.underlying5, ?_, ?_, rfl, Lib.bytesWorld_size w _ s⟩
 ·have hge := grownCap_ge w s.size 0 5
  refine ⟨by simp [bytesV], .inr ⟨w.heap.size, _, _, _, rfl, Lib.bytesWorld_at_new w _ s, .inr (Nat.le_refl _), hge, grownCap_le_maxLen w _ _ _ hs, ?_, ?_⟩⟩
  ·simp [Lib.bytesCells]
   omega
  ·have e : ∀ k, (bytesV s.data.toList ++ List.replicate k (Value.int .u8 0)).take (s.size * 1) = bytesV s.data.toList := by
    intro k;rw [List.take_append_of_le_length (by simp [bytesV]), List.take_of_length_le (by simp [bytesV])]
   simp only [Lib.bytesCells, Array.toList_append, Array.toList_map, Array.toList_replicate];exact e _
 ·refine ⟨rfl, rfl, rfl, ?_, fun k hk _ => Lib.bytesWorld_at_old w _ s k hk⟩
  rw [Lib.bytesWorld_size];omega
end
def closeL (l : List UInt8) : List UInt8 := l ++ leB (sumN l) 4
def lookL (l : List UInt8) : List UInt8 × Int :=
 if l.length ≠ 64 then ([], 2) else if l = List.replicate 64 0 then ([], 0) else if leN (l.drop 60) ≠ sumN (l.take 60) then ([], 2) else (l.take 60, 1)
theorem count_zero (l : List UInt8) : Lib.countByte l 0 = l.length ↔ l = List.replicate l.length 0 := by
 unfold Lib.countByte;rw [List.count_eq_length, List.eq_replicate_iff];simp [eq_comm]
theorem below_of_drew {w w' : World} (h : Below w.drew.heap.size w.drew w') : Below w.heap.size w w' := ⟨h.os, h.tape, h.output, h.size, h.block⟩
theorem look_test (s : ByteArray) (h : s.size = 64) : IntKind.u32.wrap (leN (List.take 4 (List.take (s.size - 60) (List.drop 60 s.data.toList))) : Int) = (leN (s.data.toList.drop 60) : Int) := by
 have hl : (s.data.toList.drop 60).length = 4 := by simp [h]
 rw [List.take_of_length_le (i := 4) (by simp; omega), List.take_of_length_le (by omega)];have := leN_lt (s.data.toList.drop 60);rw [hl] at this;rw [IntKind.wrap_u32'];omega
theorem extract_str (s : ByteArray) (n : Nat) : s.extract 0 n = str (s.data.toList.take n) := by
 have : (s.extract 0 n).data.toList = s.data.toList.take n := by simp
 rw [← this, str_eta]
theorem extract_str_from (s : ByteArray) (n m : Nat) : s.extract n m = str ((s.data.toList.drop n).take (m - n)) := by
 have : (s.extract n m).data.toList = (s.data.toList.drop n).take (m - n) := by simp [List.take_drop]
 rw [← this, str_eta]
theorem Close_c (s : ByteArray) (w : World) (hs : s.size = 60) :
 Calls Tryz.prog 157 #[.string s] w fun e w' => e = .returned (.tuple #[.string (str (closeL s.data.toList)), .int .i64 0]) ∧ Below w.heap.size w w' := by
 have hb : ((s.size : Int) != 60) = false := by rw [hs]; rfl
 have hlt := sumN_lt s.data.toList;have hs' : s.size ≤ 9223372036854775807 := by omega
 have HC : Hid (bytesV s.data.toList ++ bytesV (leB (sumN s.data.toList) 4) = bytesV (closeL s.data.toList)) := by unfold closeL; rw [bytesV_app]; rfl
 obtain ⟨v1, w1, hrun, hown, hU, hblk, hsz⟩ := run_to_bytes w s (by unfold maxLen; omega);have H1 := Lib.hid (And.intro hown (And.intro hU (And.intro hblk hsz)));clear hs hown hU hblk hsz;go_enter Tryz.func157, Tryz.ntmps157
 go_wp2_with fail
 refine (Sum_c _ _ hs').mono ?_;rintro e w2 ⟨rfl, hb2⟩;go_wp2_with fail
 obtain ⟨hown, hU, hblk, hsz⟩ := H1.out;have hown2 : Own w2 5 1 v1 s.size (bytesV s.data.toList) := hown.eqb (fun k hk => hb2.block k (hown.lt hk));refine (putLittle_disk v1 s.size _ (sumN s.data.toList) 4 w2 hown2 (by omega) (by simp at hb; omega)).mono ?_;rintro e w3 ⟨v3, rfl, hown3, hU3, hl3⟩;rw [HC.out] at hown3;have hs2 := hb2.size;have HB : Hid (Below w.heap.size w w3) := by
  refine ((hU.below (fun _ h => h.elim)).trans (hb2.mono (by omega))).trans ⟨hU3.os, hU3.tape, hU3.output, hU3.size, fun k hk => hU3.block k (by omega) (fun e => ?_)⟩;rw [hblk] at e;have := Option.some.inj e;omega
 have hrun3 := run_to_string hown3;clear hown hU hblk hsz hown2 hown3 hU3 hl3 hb2 hrun hlt hs2;go_wp2
 go_ret2
 exact ⟨rfl, HB.out⟩
theorem Look_c (s : ByteArray) (w : World) (hs : s.size ≤ 9223372036854775807) :
 Calls Tryz.prog 47 #[.string s] w fun e w' => e = .returned (.tuple #[.string (str (lookL s.data.toList).1), .int .i64 (lookL s.data.toList).2]) ∧ Below w.heap.size w w' := by
 by_cases h64 : s.size = 64
 ·have hb : ((s.size : Int) != 64) = false := by rw [h64]; rfl
  have hc := fun W => Tryz.strings_Count_one s 0 W
  by_cases hz : s.data.toList = List.replicate 64 0
  ·have hl : lookL s.data.toList = ([], 0) := by unfold lookL; rw [if_neg (by simp [h64]), if_pos hz]
   have hn : Lib.countByte s.data.toList 0 = 64 := by
    have := (count_zero s.data.toList).2 (by rw [hz]; simp)
    rw [this]; simp [h64]
   rw [hl];simp only [hn] at hc;have Hc := Lib.hid hc;clear hc hn hl hz h64;go_enter Tryz.func47, Tryz.ntmps47
   go_wp2_with (go_at_call 90; refine (Hc.out _).mono ?_; rintro e w' ⟨rfl, rfl⟩);go_ret2
   exact ⟨rfl, Below.refl _ _⟩
  ·have hn : ((Lib.countByte s.data.toList 0 : Int) == 64) = false := by
    rw [beq_eq_false_iff_ne];intro h;apply hz
    have h2 : Lib.countByte s.data.toList 0 = s.data.toList.length := by simp [h64]; omega
    have h3 := (count_zero _).1 h2;rw [h3];simp [h64]
   have Hc := Lib.hid hc;clear hc;have H64 := Lib.hid h64;have Hz := Lib.hid hz;clear hz h64;go_enter Tryz.func47, Tryz.ntmps47
   go_wp2_with (go_at_call 90; refine (Hc.out _).mono ?_; rintro e w' ⟨rfl, rfl⟩);have hge : 60 ≤ s.size := by rw [H64.out]; omega
   go_region_with (first
    | (go_at_call 91; refine (getLittle_disk _ 4 _ (by omega) (by rw [ByteArray.size_extract, H64.out]; omega)).mono ?_; rintro e w' ⟨rfl, rfl⟩)
    | (go_at_call 92; refine (Sum_c _ _ (by rw [ByteArray.size_extract, H64.out]; omega)).mono ?_; rintro e w' ⟨rfl, hb2⟩))
   all_goals go_wp2
   all_goals
    go_ret2
    first
     | (have ht : (IntKind.u32.wrap (leN (List.take 4 (List.take (s.size - 60) (List.drop 60 s.data.toList))) : Int) != (sumN (List.take 60 s.data.toList) : Int)) = true := by assumption
        rw [look_test s H64.out, bne_iff_ne] at ht;refine ⟨?_, by first | exact below_of_drew hb2 | exact hb2⟩;rw [show lookL s.data.toList = ([], 2) from by unfold lookL; rw [if_neg (by simp [H64.out]), if_neg Hz.out, if_pos (by omega)]];rfl)
     | (have ht : (IntKind.u32.wrap (leN (List.take 4 (List.take (s.size - 60) (List.drop 60 s.data.toList))) : Int) != (sumN (List.take 60 s.data.toList) : Int)) = false := by assumption
        rw [look_test s H64.out, bne_eq_false_iff_eq] at ht;refine ⟨?_, by first | exact below_of_drew hb2 | exact hb2⟩;rw [show lookL s.data.toList = (s.data.toList.take 60, 1) from by unfold lookL; rw [if_neg (by simp [H64.out]), if_neg Hz.out, if_neg (by omega)]];rw [← extract_str];rfl)
 ·have hb : ((s.size : Int) != 64) = true := by rw [bne_iff_ne]; omega
  have hl : lookL s.data.toList = ([], 2) := by unfold lookL; rw [if_pos (by simpa using h64)]
  rw [hl];clear hl h64;go_enter Tryz.func47, Tryz.ntmps47
  go_wp2
  go_ret2
  exact ⟨rfl, Below.refl _ _⟩
end
section
open Go Go.RowKit
theorem own_bytes (w : World) (l : List UInt8) (hl : l.length ≤ 1000000) : Own (w.alloc (.cells (bytesV l).toArray 5)) 5 1 (.slice (some ⟨w.heap.size, 0, none⟩) l.length l.length) l.length (bytesV l) := by
 refine ⟨by simp [bytesV], .inr ⟨w.heap.size, l.length, (bytesV l).toArray, (0, 0), rfl, heap_alloc_new w _, .inl rfl, Nat.le_refl _, by unfold maxLen; omega, by simp [bytesV], ?_⟩⟩;rw [List.take_of_length_le (by simp [bytesV])]
end
section
open Go Go.RowKit
end
section
open Go Go.RowKit
end
section
open Go Go.RowKit
theorem bitLen_64 (n : Nat) (h : n < 18446744073709551616) : Lib.bitLen n ≤ 64 := by
 by_cases h0 : n = 0
 ·subst h0; decide
 ·have h1 := (Lib.bitLenAux_bounds 64 n (by omega) h0).2.1
  apply Classical.byContradiction
  intro hc;have h2 : 2 ^ 64 ≤ 2 ^ (Lib.bitLen n - 1) := Nat.pow_le_pow_right (by omega) (by omega);have h3 : 2 ^ (Lib.bitLen n - 1) ≤ n := h1;have e : (2 : Nat) ^ 64 = 18446744073709551616 := by decide
  omega
theorem size_c (n : Nat) (w : World) (h : n < 18446744073709551616) : Calls Tryz.prog 155 #[.int .u64 (n : Int)] w fun e w' => e = .returned (.int .i64 (sizeN n : Int)) ∧ w = w' := by
 have hb := sizeN_bitLen n h;have hl := bitLen_64 n h;have HL := Lib.hid (fun W => Tryz.bits_Len64 (n : Int) W (by omega) (by omega));rw [Int.toNat_natCast] at HL;generalize Lib.bitLen n = b at *;have e1 : IntKind.i64.wrap ((b : Int) + 7) = ((b + 7 : Nat) : Int) := IntWalk.i64_in _ (by omega);go_enter Tryz.func155, Tryz.ntmps155
 go_wp2_with fail
 refine (HL.out _).mono ?_;rintro e w' ⟨rfl, rfl⟩;go_wp2_with fail
 go_ret
 refine ⟨?_, rfl⟩;have : max (1 : Int) (((b : Int) + 7 - 1) / 7) = (sizeN n : Int) := by omega
 rw [← this];rfl
theorem or_128 (k : Nat) : bits .or .u8 ((k : Int) % 256) 128 = ((k % 128 + 128 : Nat) : Int) := by
 have h : ∀ x : Fin 256, bits .or .u8 (x.val : Int) 128 = ((x.val % 128 + 128 : Nat) : Int) := by decide +kernel
 have h1 := h ⟨k % 256, by omega⟩;have e : ((k % 256 : Nat) : Int) = (k : Int) % 256 := by omega
 have e2 : k % 256 % 128 = k % 128 := by omega
 simp only [e, e2] at h1;exact h1
end
end Go.Proofs.YtbhjgfibhegddaaGreat
