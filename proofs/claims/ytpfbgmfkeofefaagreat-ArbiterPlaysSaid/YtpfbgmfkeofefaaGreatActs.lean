/-
  What a law is handed: lists of acts.
-/
import Derived.Test.YtpfbgmfkeofefaaGreatArgs
import Derived.Deep.Slices
import Derived.Deep.Fields
import Derived.ChangeSame
namespace Go.Proofs.YtpfbgmfkeofefaaGreat
open Go Go.RowKit Go.ChangeShapes Go.WideShapes Go.ChangeAt Go.Deep

section
variable {H : Type} {enc : TypeId × Value → H} {P : Program} {w : World} {base : Nat} {spare : Nat → Bool} {held : Bool}
theorem open_slice_fields {t e : TypeId} {fs : Array Field} {fuel : Nat} {cs : List Value} {x : DataW H × List MemPlace} (ht : P.underlying t = some (.slice e)) (he : P.underlying e = some (.struct fs))
    (hone : oneCellFields P fs = true) (hC : P.cellsOf e = fs.size) (h : DataW.trod enc P w base spare held fuel t cs = some x) :
    (cs = [.slice none 0 0] ∧ x = (.nil, [])) ∨
    ∃ (a : Addr) (len cap m : Nat) (D : Nat → DataW H) (Pl : Nat → List MemPlace), cs = [.slice (some a) len cap] ∧ base ≤ a.block ∧ len ≤ cap ∧ cap ≤ maxLen ∧ m = (if spare a.block then cap else len) ∧
      x = (.slice ((List.range len).map D) ((List.range (m - len)).map fun j => D (len + j)), MemPlace.row a (m * fs.size) ++ (List.range m).flatMap Pl) ∧
      ∀ i, i < m → ∃ (ys : List (DataW H × List MemPlace)) (n : Nat), D i = .agg (ys.map (·.1)) ∧ Pl i = ys.flatMap (·.2) ∧ ys.length = fs.size ∧
        ∀ (j : Nat) (f : Field), fs[j]? = some f → ∃ (v : Value) (y : DataW H × List MemPlace), w.cell? (a.add (i * fs.size + j)) = some v ∧ ys[j]? = some y ∧ DataW.trod enc P w base spare held n f.type [v] = some y := by
  rcases open_slice ht h with h0 | ⟨a, len, cap, m, n, D, Pl, hcs, hb, hl, hm, hmm, hx, hi⟩
  · exact .inl h0
  · refine .inr ⟨a, len, cap, m, D, Pl, hcs, hb, hl, hm, hmm, by rw [hC] at hx; exact hx, fun i him => ?_⟩
    obtain ⟨cs', hc, ht'⟩ := hi i him
    rw [hC] at hc
    obtain ⟨ys, n', hn', hy, hlen, hyl, hf⟩ := DataW.trod_struct he ht'
    obtain ⟨_, hcl, hat⟩ := World.cells?_some hc
    simp only [Prod.mk.injEq] at hy
    refine ⟨ys, n', hy.1, hy.2, hyl, fun j f hj => ?_⟩
    obtain ⟨ho, hk⟩ := hone_of hone j f hj
    have hjl : j < fs.size := (Array.getElem?_eq_some_iff.1 hj).1
    have hcell := hat j hjl
    have hv : cs'[j]? = some (cs'[j]'(by omega)) := List.getElem?_eq_getElem (by omega)
    have h1 := hf j f hj
    rw [ho, hk] at h1
    have hone' : (cs'.drop j).take 1 = [cs'[j]'(by omega)] := by
      rw [List.drop_eq_getElem_cons (by omega)]
      rfl
    rw [hone'] at h1
    have hys : ys[j]? = some (ys[j]'(by omega)) := List.getElem?_eq_getElem (by omega)
    refine ⟨_, _, ?_, hys, h1.trans hys⟩
    rw [← Go.Deep.add_add, hcell, hv]
end

/-- An act of the chapters 09 and 10. -/
structure Act9 where
  do_ : Int
  text : ByteArray
  n : Int
  at_ : Int
  x : ByteArray
  keep : Value
  keeps : List Int
def Act9.cells (a : Act9) : List Value := [.int .i64 a.do_, .string a.text, .int .i64 a.n, .int .i64 a.at_, .string a.x, a.keep]
def i64ok (n : Int) : Prop := -9223372036854775808 ≤ n ∧ n ≤ 9223372036854775807
theorem i64ok_of {n : Int} (h : (Lit.int .i64 n).wf = true) : i64ok n := by
  simp only [Lit.wf, Bool.and_eq_true, decide_eq_true_eq] at h
  have h1 : IntKind.i64.min = -9223372036854775808 := rfl
  have h2 : IntKind.i64.max = 9223372036854775807 := rfl
  unfold i64ok
  omega
structure Act9.ok (w : World) (a : Act9) : Prop where
  do_ : i64ok a.do_
  text : a.text.size ≤ 9223372036854775807
  n : i64ok a.n
  at_ : i64ok a.at_
  x : a.x.size ≤ 9223372036854775807
  keep : IsInts w a.keep a.keeps
/-- A row of records of k cells each that came in. -/
def Recs (w : World) (v : Value) (k : Nat) (rs : List (List Value)) : Prop :=
  ∃ A cap b off, v = .slice A rs.length cap ∧ rs.length ≤ 9223372036854775807 ∧ (0 < rs.length → A = some ⟨b, off, none⟩) ∧
    ∀ w', Upd (fun _ => False) w w' → ∀ i (_ : i < rs.length) (j : Nat), j < k → w'.cell? ⟨b, off + (i * k + j), none⟩ = rs[i][j]?
def IsActs9 (w : World) (v : Value) (l : List Act9) : Prop := Recs w v 6 (l.map Act9.cells) ∧ ∀ a ∈ l, a.ok w
abbrev IsActs09 := IsActs9
abbrev IsActs10 := IsActs9
theorem add_plain2 (b off i : Nat) : (⟨b, off, none⟩ : Addr).add i = ⟨b, off + i, none⟩ := by unfold Addr.add; simp
theorem pick_list {β : Type} (Q : Nat → β → Prop) (n : Nat) (h : ∀ i, i < n → ∃ r, Q i r) : ∃ l : List β, l.length = n ∧ ∀ i (hi : i < l.length), Q i l[i] := by
  induction n with
  | zero => exact ⟨[], rfl, fun i hi => absurd hi (by simp)⟩
  | succ n ih =>
    obtain ⟨l, h1, h2⟩ := ih (fun i hi => h i (by omega))
    obtain ⟨r, hr⟩ := h n (by omega)
    refine ⟨l ++ [r], by simp [h1], fun i hi => ?_⟩
    by_cases hil : i < l.length
    · rw [List.getElem_append_left hil]
      exact h2 i hil
    · have : i = n := by simp at hi; omega
      subst this
      rw [List.getElem_append_right (by omega)]
      simpa [h1] using hr
theorem recs_of {w : World} {a : Addr} {cap k : Nat} {rs : List (List Value)} (hk : 0 < k) (hl : ∀ r ∈ rs, r.length = k) (hm : rs.length ≤ maxLen) (hc : ∀ i (h : i < rs.length) j, j < k → w.cell? (a.add (i * k + j)) = rs[i][j]?) : Recs w (.slice (some a) rs.length cap) k rs := by
  obtain ⟨b, off, spot⟩ := a
  by_cases h0 : 0 < rs.length
  · have h1 := hc 0 h0 0 hk
    have hg : (rs[0])[0]? = some ((rs[0])[0]'(by rw [hl _ (List.getElem_mem _)]; exact hk)) := List.getElem?_eq_getElem _
    rw [hg] at h1
    have hs : spot = none := by simpa [Addr.add] using World.cell?_spot h1
    subst hs
    refine ⟨_, cap, b, off, rfl, by unfold maxLen at hm; omega, fun _ => rfl, fun w' hu i hi j hj => ?_⟩
    have h2 := hc i hi j hj
    rw [add_plain2] at h2
    have hb : b < w.heap.size := by
      rw [add_plain2] at h1
      exact World.block_lt_of_cell? _ _ h1
    rw [World.cell?_of_block (w := w) (a := ⟨b, off + (i * k + j), none⟩) (hu.block b hb (fun e => e))]
    exact h2
  · exact ⟨_, cap, 0, 0, rfl, by unfold maxLen at hm; omega, fun h => absurd h h0, fun w' hu i hi => absurd hi (by omega)⟩
section
variable {H : Type} {enc : TypeId × Value → H} {w : World} {base : Nat} {spare : Nat → Bool} {held : Bool}
theorem acts9_of {t e ti : TypeId} {fs : Array Field} {fuel : Nat} {v : Value} {x : DataW H × List MemPlace} (ht : Tryz.prog.underlying t = some (.slice e)) (he : Tryz.prog.underlying e = some (.struct fs)) (hone : oneCellFields Tryz.prog fs = true) (hC : Tryz.prog.cellsOf e = fs.size)
    (hf : fs.toList.map (·.type) = [3, 9, 3, 3, 9, ti]) (hti : Tryz.prog.underlying ti = some (.slice 3))
    (h : DataW.trod enc Tryz.prog w base spare held fuel t [v] = some x) : ∃ l, IsActs9 w v l := by
  have hsz : fs.size = 6 := by
    have := congrArg List.length hf
    simpa using this
  have hty : ∀ j (hj : j < 6), (fs[j]?).map (·.type) = ([3, 9, 3, 3, 9, ti] : List TypeId)[j]? := by
    intro j hj
    rw [← hf, List.getElem?_map]
    simp
  rcases open_slice_fields ht he hone hC h with ⟨hcs, _⟩ | ⟨a, len, cap, m, D, Pl, hcs, _, hl, hm, hmm, _, hi⟩
  · simp only [List.cons.injEq, and_true] at hcs
    subst hcs
    exact ⟨[], ⟨none, 0, 0, 0, rfl, by simp, fun h => absurd h (by simp), fun w' hu i hi => absurd hi (by simp)⟩, by simp⟩
  · simp only [List.cons.injEq, and_true] at hcs
    subst hcs
    have hlm : len ≤ m := by rw [hmm]; split <;> omega
    have each : ∀ i, i < len → ∃ r : Act9, r.ok w ∧ ∀ j, j < 6 → w.cell? (a.add (i * 6 + j)) = (Act9.cells r)[j]? := by
      intro i hil
      obtain ⟨ys, n, _, _, _, hff⟩ := hi i (by omega)
      rw [hsz] at hff
      have fld : ∀ j (hj : j < 6), ∃ (f : Field) (u : Value) (y : DataW H × List MemPlace), f.type = ([3, 9, 3, 3, 9, ti] : List TypeId)[j]'(by simpa using hj) ∧ w.cell? (a.add (i * 6 + j)) = some u ∧ DataW.trod enc Tryz.prog w base spare held n f.type [u] = some y := by
        intro j hj
        have h1 := hty j hj
        cases hfj : fs[j]? with
        | none =>
          rw [hfj] at h1
          rw [List.getElem?_eq_getElem (by simpa using hj)] at h1
          simp at h1
        | some f =>
          rw [hfj, List.getElem?_eq_getElem (by simpa using hj)] at h1
          obtain ⟨u, y, c1, _, c3⟩ := hff j f hfj
          exact ⟨f, u, y, by simpa using h1, c1, c3⟩
      obtain ⟨f0, u0, y0, e0, c0, t0⟩ := fld 0 (by omega)
      obtain ⟨f1, u1, y1, e1, c1, t1⟩ := fld 1 (by omega)
      obtain ⟨f2, u2, y2, e2, c2, t2⟩ := fld 2 (by omega)
      obtain ⟨f3, u3, y3, e3, c3, t3⟩ := fld 3 (by omega)
      obtain ⟨f4, u4, y4, e4, c4, t4⟩ := fld 4 (by omega)
      obtain ⟨f5, u5, y5, e5, c5, t5⟩ := fld 5 (by omega)
      simp only [List.getElem_cons_zero, List.getElem_cons_succ] at e0 e1 e2 e3 e4 e5
      rw [e0] at t0; rw [e1] at t1; rw [e2] at t2; rw [e3] at t3; rw [e4] at t4; rw [e5] at t5
      obtain ⟨n0, q0, _, w0⟩ := DataW.trod_int Tryz.underlying3 t0
      obtain ⟨s1, q1, _, w1⟩ := DataW.trod_string Tryz.underlying9 t1
      obtain ⟨n2, q2, _, w2⟩ := DataW.trod_int Tryz.underlying3 t2
      obtain ⟨n3, q3, _, w3⟩ := DataW.trod_int Tryz.underlying3 t3
      obtain ⟨s4, q4, _, w4⟩ := DataW.trod_string Tryz.underlying9 t4
      obtain ⟨zs, w5⟩ := ints_of hti Tryz.underlying3 (by kernel_rfl) t5
      simp only [List.cons.injEq, and_true] at q0 q1 q2 q3 q4
      subst q0 q1 q2 q3 q4
      refine ⟨⟨n0, s1, n2, n3, s4, u5, zs⟩, ⟨i64ok_of w0, w1, i64ok_of w2, i64ok_of w3, w4, w5⟩, fun j hj => ?_⟩
      match j, hj with
      | 0, _ => exact c0
      | 1, _ => exact c1
      | 2, _ => exact c2
      | 3, _ => exact c3
      | 4, _ => exact c4
      | 5, _ => exact c5
    have pick := pick_list (fun i (r : Act9) => r.ok w ∧ ∀ j, j < 6 → w.cell? (a.add (i * 6 + j)) = (Act9.cells r)[j]?) len each
    obtain ⟨l, h1, h2⟩ := pick
    refine ⟨l, ?_, fun r hr => ?_⟩
    · have hr := recs_of (w := w) (a := a) (cap := cap) (k := 6) (rs := l.map Act9.cells) (by omega) (fun r hr => by obtain ⟨q, _, rfl⟩ := List.mem_map.1 hr; rfl) (by rw [List.length_map]; omega) (fun i hi j hj => ?_)
      · rw [List.length_map, h1] at hr
        exact hr
      · rw [List.getElem_map]
        exact (h2 i (by simpa using hi)).2 j hj
    · obtain ⟨i, hi, rfl⟩ := List.mem_iff_getElem.1 hr
      exact (h2 i hi).1
end
theorem IsActs9.open_ {w : World} {v : Value} {l : List Act9} (h : IsActs9 w v l) : ∃ A cap b off, v = .slice A l.length cap ∧ l.length ≤ 9223372036854775807 ∧ (0 < l.length → A = some ⟨b, off, none⟩) ∧
    (∀ w', Upd (fun _ => False) w w' → ∀ i (_ : i < l.length), w'.cell? ⟨b, off + i * 6, none⟩ = some (.int .i64 l[i].do_) ∧ w'.cell? ⟨b, off + i * 6 + 1, none⟩ = some (.string l[i].text) ∧ w'.cell? ⟨b, off + i * 6 + 2, none⟩ = some (.int .i64 l[i].n) ∧
      w'.cell? ⟨b, off + i * 6 + 3, none⟩ = some (.int .i64 l[i].at_) ∧ w'.cell? ⟨b, off + i * 6 + 4, none⟩ = some (.string l[i].x) ∧ w'.cell? ⟨b, off + i * 6 + 5, none⟩ = some l[i].keep) ∧ ∀ a ∈ l, a.ok w := by
  obtain ⟨A, cap, b, off, h1, h2, h3, h4⟩ := h.1
  simp only [List.length_map] at h1 h2 h3 h4
  refine ⟨A, cap, b, off, h1, h2, h3, fun w' hu i hi => ?_, h.2⟩
  have g := h4 w' hu i hi
  simp only [List.getElem_map, ← Nat.add_assoc] at g
  exact ⟨g 0 (by omega), g 1 (by omega), g 2 (by omega), g 3 (by omega), g 4 (by omega), g 5 (by omega)⟩
end Go.Proofs.YtpfbgmfkeofefaaGreat
