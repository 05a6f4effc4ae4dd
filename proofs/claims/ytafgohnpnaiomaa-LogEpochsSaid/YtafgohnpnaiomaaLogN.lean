/-
  Open of a log: what its second loop has behind some records.
-/
import Derived.Test.YtafgohnpnaiomaaLogL
namespace Go.Proofs.Ytafgohnpnaiomaa
open Go Go.RowKit

theorem PartsAt.drop {w : World} {A : Option Addr} {n cap : Nat} {l : List Lp} (h : PartsAt w (.slice A n cap) l) (k : Nat) (hk : k ≤ l.length) : PartsAt w (.slice (if cap = k then A else A.map (·.add (k * 6))) (n - k) (cap - k)) (l.drop k) := by
  obtain ⟨A', cap', b, off, e, h1, h2, h3, h4⟩ := h.ex
  injection e with e1 e2 e3
  subst e1 e2 e3
  refine ⟨_, cap - k, b, off + k * 6, by rw [List.length_drop], by rw [List.length_drop]; omega, by omega, fun h0 => ?_, fun i hi j hj => ?_⟩
  · rw [List.length_drop] at h0
    obtain ⟨rfl, hb⟩ := h3 (by omega)
    rw [if_neg (by omega)]
    exact ⟨by simp [Addr.add], hb⟩
  · rw [List.length_drop] at hi
    have h5 := h4 (k + i) (by omega) j hj
    rw [List.getElem_drop, ← h5, show off + k * 6 + i * 6 + j = off + (k + i) * 6 + j by omega]
theorem part_add (b o k : Nat) : Option.map (fun x : Addr => x.add (k * 6)) (some ⟨b, o, none⟩) = some ⟨b, o + k * 6, none⟩ := by simp [Addr.add]
/-- What Open has behind some records. -/
structure RecLeft (w0 w' : World) (p b : Nat) (pv : Value) (l : List Lp) (v : Value) (row : List Lp) (g : Lg) (v1 : Value) : Prop where
  list : Own w' 135 6 pv l.length (partsG l)
  parts : ∀ W, Own W 135 6 pv l.length (partsG l) → PartsAt W v row
  log : Blk w' b 132 (g.cells p v1)
  own : Own w' 9 1 v1 g.l.length (strs g.l)
  new : ∀ q, v1.ownBlock = some q → w0.heap.size ≤ q
  old : ∀ q, pv.ownBlock = some q → q < w0.heap.size
  upd : Upd (· = b) w0 w'
section
variable {w0 w1 w2 : World} {p b : Nat} {pv v v1 v2 : Value} {l row : List Lp} {g : Lg}
theorem RecLeft.still (h : RecLeft w0 w1 p b pv l v row g v1) (hu : Upd (fun _ => False) w1 w2) : RecLeft w0 w2 p b pv l v row g v1 :=
  ⟨h.list.upd hu (fun _ _ e => e), h.parts, h.log.upd hu (fun e => e), h.own.upd hu (fun _ _ e => e), h.new, h.old, h.upd.then hu (fun _ e => e.elim)⟩
theorem RecLeft.drew (h : RecLeft w0 w1 p b pv l v row g v1) : RecLeft w0 w1.drew p b pv l v row g v1 := h.still (Upd.refl _ _).drew
theorem RecLeft.used (h : RecLeft w0 w1 p b pv l v row g v1) (m : Nat) : RecLeft w0 (w1.setCell ⟨b, 5, none⟩ (.int .i64 (m : Int))) p b pv l v row { g with used := m } v1 := by
  refine ⟨h.list.far (h.list.ne_blk h.log (by decide)) _, h.parts, ?_, h.own.far (h.own.ne_blk h.log (by decide)) _, h.new, h.old, h.upd.setCell (p := ⟨b, 5, none⟩) (.inl rfl) _⟩
  have := h.log.set_ 5 (.int .i64 (m : Int))
  simpa [Lg.cells] using this
/-- A record is appended, and the log told of it. -/
theorem RecLeft.app (h : RecLeft w0 w1 p b pv l v row g v1) (s : ByteArray) (m : Nat) (hO2 : Own w2 9 1 v2 (g.l.length + 1) (strs g.l ++ [.string s])) (hU2 : Upd (fun q => v1.ownBlock = some q) w1 w2)
    (hl2 : ∀ q, v2.ownBlock = some q → v1.ownBlock = some q ∨ w1.heap.size ≤ q) :
    RecLeft w0 ((w2.setCell ⟨b, 4, none⟩ v2).setCell ⟨b, 6, none⟩ (.int .u64 (m : Int))) p b pv l v row { g with l := g.l ++ [s], last := m } v2 := by
  have hB2 := h.log.upd hU2 (fun e => h.own.ne_blk h.log (by decide) e)
  have hL2 := h.list.upd hU2 (fun q hq e => by have h1 := h.new q e; have h2 := h.old q hq; omega)
  have hn1 := hO2.ne_blk hB2 (by decide)
  have hn2 := hL2.ne_blk hB2 (by decide)
  have hs := h.upd.size
  refine ⟨(hL2.far (p := ⟨b, 4, none⟩) hn2 _).far (p := ⟨b, 6, none⟩) hn2 _, h.parts, ?_, ?_, fun q hq => ?_, h.old, ?_⟩
  · have h3 := (hB2.set_ 4 v2).set_ 6 (.int .u64 (m : Int))
    simp only [Lg.cells, List.setIfInBounds_toArray, List.set_cons_zero, List.set_cons_succ] at h3
    simp only [Lg.cells]
    exact h3
  · have h3 := (hO2.far (p := ⟨b, 4, none⟩) hn1 v2).far (p := ⟨b, 6, none⟩) hn1 (.int .u64 (m : Int))
    simp only [List.length_append, List.length_cons, List.length_nil, strs, List.map_append, List.map_cons, List.map_nil] at h3 ⊢
    exact h3
  · rcases hl2 q hq with e | e
    · exact h.new q e
    · omega
  · exact ((h.upd.then hU2 (fun q e => .inr (h.new q e))).setCell (p := ⟨b, 4, none⟩) (.inl rfl) _).setCell (p := ⟨b, 6, none⟩) (.inl rfl) _
end
/-- The parts behind a record. -/
theorem RecLeft.drop {w0 w1 : World} {p b n cap : Nat} {A : Option Addr} {pv v1 : Value} {l row : List Lp} {g : Lg} (h : RecLeft w0 w1 p b pv l (.slice A n cap) row g v1) (k : Nat) (hk : k ≤ row.length) :
    RecLeft w0 w1 p b pv l (.slice (if cap = k then A else A.map (·.add (k * 6))) (n - k) (cap - k)) (row.drop k) g v1 :=
  ⟨h.list, fun W hW => (h.parts W hW).drop k hk, h.log, h.own, h.new, h.old, h.upd⟩
theorem RecLeft.begin {w0 : World} {p b : Nat} {v : Value} {l : List Lp} {g : Lg} (hL : Own w0 135 6 v l.length (partsG l)) (hB : Blk w0 b 132 (g.cells p (.slice none 0 0))) (hg : g.l = []) : RecLeft w0 w0 p b v l v l g (.slice none 0 0) :=
  ⟨hL, fun _ h => PartsAt.of_own h, hB, by rw [hg]; exact Own.nil _ _ _, by simp [Value.ownBlock], fun _ hq => hL.lt hq, Upd.refl _ _⟩
def lenOf : Value → Nat
  | .slice _ n _ => n
  | _ => 0
theorem RecLeft.sees {w0 w1 w2 : World} {p b b1 o1 n cap : Nat} {pv v1 : Value} {l r : List Lp} {q0 : Lp} {g : Lg} (h : RecLeft w0 w1 p b pv l (.slice (some ⟨b1, o1, none⟩) n cap) (q0 :: r) g v1) (hU : Upd (fun q => v1.ownBlock = some q) w1 w2) :
    w2.cell? ⟨b, 4, none⟩ = some v1 ∧ w2.cell? ⟨b1, o1 + 1, none⟩ = some (.int .u64 (q0.salt : Int)) := by
  have hB2 := h.log.upd hU (fun e => h.own.ne_blk h.log (by decide) e)
  have hL2 := h.list.upd hU (fun q hq e => by have h1 := h.new q e; have h2 := h.old q hq; omega)
  obtain ⟨A, c, b', o', e, -, -, h3, h4⟩ := (h.parts _ hL2).ex
  injection e with e1 e2 e3
  obtain ⟨hA, -⟩ := h3 (by simp)
  subst hA
  injection e1 with e1
  injection e1 with e4 e5
  subst e4 e5
  refine ⟨hB2.cell 4, ?_⟩
  have h5 := h4 0 (by simp) 1 (by omega)
  simpa [Lp.cells] using h5
theorem firstG_parts {epoch last : Nat} {row : List Lp} (h : (firstG epoch last row).2 = true) : 0 < row.length ∧ 1 ≤ partsOf (firstG epoch last row).1.length ∧ partsOf (firstG epoch last row).1.length ≤ row.length ∧ (firstG epoch last row).1.length ≤ 1024 := by
  unfold firstG at h ⊢
  split at h
  · simp at h
  · split at h
    · simp at h
    · split at h
      · simp at h
      · rename_i p r h1 h2
        simp only [decide_eq_true_eq] at h
        rw [if_neg h1, if_neg h2]
        exact ⟨by simp, by unfold partsOf; omega, h.1, by show (textG _).length ≤ 1024; omega⟩
theorem loopG_fuel (n m : Nat) (g : Lg) (row : List Lp) (hn : row.length < n) (hm : row.length < m) : loopG n g row = loopG m g row := by
  induction n generalizing m g row with
  | zero => omega
  | succ n ih =>
    cases m with
    | zero => omega
    | succ m =>
      rw [loopG, loopG]
      split
      · rename_i h
        have hp := firstG_parts h
        exact ih m _ _ (by rw [List.length_drop]; omega) (by rw [List.length_drop]; omega)
      · rfl
end Go.Proofs.Ytafgohnpnaiomaa
