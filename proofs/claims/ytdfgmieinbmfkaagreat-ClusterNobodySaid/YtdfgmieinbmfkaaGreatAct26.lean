/-
  One act of chapter 26, handed in by value.
-/
import Derived.Test.YtdfgmieinbmfkaaGreatGreat26
import Derived.Deep.Slices
import Derived.Deep.Fields
import Derived.ChangeSame
namespace Go.Proofs.YtdfgmieinbmfkaaGreat
open Go Go.RowKit Go.ChangeShapes Go.WideShapes Go.ChangeAt Go.Deep

section
variable {H : Type} {enc : TypeId × Value → H} {w : World} {base : Nat} {spare : Nat → Bool} {held : Bool}
theorem add_26 (b off i : Nat) : (⟨b, off, none⟩ : Addr).add i = ⟨b, off + i, none⟩ := by unfold Addr.add; simp
theorem pick_26 {β : Type} (Q : Nat → β → Prop) : ∀ (n : Nat), (∀ i, i < n → ∃ r, Q i r) → ∃ l : List β, l.length = n ∧ ∀ i r, l[i]? = some r → Q i r := by
  intro n
  induction n with
  | zero => intro _; exact ⟨[], rfl, fun i r h => by simp at h⟩
  | succ n ih =>
    intro h
    obtain ⟨l, h1, h2⟩ := ih fun i hi => h i (by omega)
    obtain ⟨r, hr⟩ := h n (by omega)
    refine ⟨l ++ [r], by simp [h1], fun i r' hi => ?_⟩
    by_cases e : i < l.length
    · rw [List.getElem?_append_left e] at hi
      exact h2 i r' hi
    · rw [List.getElem?_append_right (by omega)] at hi
      have : i - l.length = 0 := by
        have := (List.getElem?_eq_some_iff.1 hi).1
        simp at this
        omega
      rw [this] at hi
      simp at hi
      subst hi
      rw [show i = n by omega]
      exact hr
/-- Rows out of a slice's reading. -/
theorem two_of {P : Program} {t e : TypeId} {k a b : Nat} {fuel : Nat} {v : Value} {x : DataW H × List MemPlace} (ht : P.underlying t = some (.slice e)) (hk : P.cellsOf e = k) (hak : a < k) (hbk : b < k)
    (hR : ∀ n cs y, DataW.trod enc P w base spare held n e cs = some y → ∃ s u : ByteArray, cs[a]? = some (.string s) ∧ cs[b]? = some (.string u)) (h : DataW.trod enc P w base spare held fuel t [v] = some x) : ∃ l, TwoS w v k a b l := by
  rcases open_slice ht h with ⟨hcs, _⟩ | ⟨a0, len, cap, m, n, D, Pl, hcs, _, hl, hm, hmm, _, hi⟩
  · simp only [List.cons.injEq, and_true] at hcs
    subst hcs
    exact ⟨[], none, 0, 0, 0, rfl, by simp, fun h => by simp at h, fun i p h => by simp at h⟩
  · simp only [List.cons.injEq, and_true] at hcs
    subst hcs
    have hlm : len ≤ m := by rw [hmm]; split <;> omega
    have each : ∀ i, i < len → ∃ p : ByteArray × ByteArray, (∃ u, w.cell? (a0.add (i * k + 0)) = some u) ∧ w.cell? (a0.add (i * k + a)) = some (.string p.1) ∧ w.cell? (a0.add (i * k + b)) = some (.string p.2) := by
      intro i hil
      obtain ⟨cs', hc, hy⟩ := hi i (by omega)
      rw [hk] at hc
      obtain ⟨_, hcl, hat⟩ := World.cells?_some hc
      obtain ⟨s, u, h1, h2⟩ := hR _ _ _ hy
      refine ⟨(s, u), ⟨cs'[0]'(by omega), ?_⟩, ?_, ?_⟩
      · rw [← Go.Deep.add_add, ← List.getElem?_eq_getElem (show 0 < cs'.length by omega)]; exact hat 0 (by omega)
      · rw [← Go.Deep.add_add, ← h1]; exact hat a hak
      · rw [← Go.Deep.add_add, ← h2]; exact hat b hbk
    obtain ⟨l, h1, h2⟩ := pick_26 (fun i (p : ByteArray × ByteArray) => (∃ u, w.cell? (a0.add (i * k + 0)) = some u) ∧ w.cell? (a0.add (i * k + a)) = some (.string p.1) ∧ w.cell? (a0.add (i * k + b)) = some (.string p.2)) len each
    obtain ⟨bA, off, sp⟩ := a0
    have hml : len ≤ 9223372036854775807 := by have : maxLen = 9223372036854775807 := rfl; omega
    by_cases h0 : 0 < len
    · obtain ⟨p, hp⟩ : ∃ p, l[0]? = some p := ⟨_, List.getElem?_eq_getElem (by omega)⟩
      obtain ⟨⟨u0, c0⟩, -⟩ := h2 0 p hp
      have hsp : sp = none := by simpa [Addr.add] using World.cell?_spot c0
      subst hsp
      rw [add_26] at c0
      have hlt : bA < w.heap.size := by
        unfold World.cell? at c0
        cases hb : w.heap[bA]? with
        | none => simp [hb] at c0
        | some o => exact (Array.getElem?_eq_some_iff.1 hb).1
      refine ⟨l, some ⟨bA, off, none⟩, cap, bA, off, by rw [h1], by omega, fun _ => ⟨rfl, hlt⟩, fun i p hp => ?_⟩
      have := (h2 i p hp).2
      rw [add_26, add_26] at this
      rw [Nat.add_assoc, Nat.add_assoc]
      exact this
    · obtain rfl : l = [] := List.length_eq_zero_iff.1 (by omega)
      obtain rfl : len = 0 := by omega
      exact ⟨[], some ⟨bA, off, sp⟩, cap, 0, 0, rfl, by simp, fun h => by simp at h, fun i p h => by simp at h⟩
theorem strs_26 {P : Program} {t ts : TypeId} {fs : Array Field} {n : Nat} {cs : List Value} {y : DataW H × List MemPlace} {i j : Nat} {f g : Field} (ht : P.underlying t = some (.struct fs)) (hts : P.underlying ts = some .string) (h1 : P.cellsOf ts = 1) (hi : fs[i]? = some f) (hj : fs[j]? = some g)
    (hf : f.type = ts) (hg : g.type = ts) (h : DataW.trod enc P w base spare held n t cs = some y) : ∃ s u : ByteArray, cs[f.offset]? = some (.string s) ∧ cs[g.offset]? = some (.string u) := by
  obtain ⟨xs, m, _, _, hl, hlen, hall⟩ := DataW.trod_struct ht h
  have one : ∀ (i : Nat) (f : Field), fs[i]? = some f → f.type = ts → ∃ s : ByteArray, cs[f.offset]? = some (.string s) := by
    intro i f hi hf
    have hx := hall i f hi
    rw [hf, h1] at hx
    have hlt : i < xs.length := by rw [hlen]; exact (Array.getElem?_eq_some_iff.1 hi).1
    rw [List.getElem?_eq_getElem hlt] at hx
    obtain ⟨s, q, _, _⟩ := DataW.trod_string hts hx
    refine ⟨s, ?_⟩
    have := congrArg (fun l => l[0]?) q
    simpa [List.getElem?_take, List.getElem?_drop] using this
  obtain ⟨s, hs⟩ := one i f hi hf
  obtain ⟨u, hu⟩ := one j g hj hg
  exact ⟨s, u, hs, hu⟩
/-- An act that came in. -/
structure IsAct26 (w : World) (v : Value) (R : Array Value) (ov mv qv pv : Value) (P S : ByteArray) (lo lm lq lp : List (ByteArray × ByteArray)) : Prop where
  is : v = .agg R
  size : R.size = 113
  ops : R[1]? = some ov
  path : R[2]? = some (.string P)
  mts : R[3]? = some mv
  seed : R[4]? = some (.string S)
  bat : R[12]? = some qv
  prs : R[112]? = some pv
  ho : TwoS w ov 3 1 2 lo
  hm : TwoS w mv 2 0 0 lm
  hq : TwoS w qv 3 1 2 lq
  hp : TwoS w pv 2 0 1 lp
theorem slice_two {v : Value} {k a b : Nat} {l : List (ByteArray × ByteArray)} (h : TwoS w v k a b l) : v.oneCell' = true ∧ v ≠ .nilIface := by
  obtain ⟨A, cap, bA, off, rfl, _⟩ := h.ex
  exact ⟨rfl, by simp⟩
theorem ops_26 {n : Nat} {v : Value} {y : DataW H × List MemPlace} (h : DataW.trod enc Tryz.prog w base spare held n 49 [v] = some y) : ∃ l, TwoS w v 3 1 2 l :=
  two_of Tryz.underlying49 (by kernel_rfl) (by omega) (by omega) (fun _ _ _ hy => strs_26 (i := 1) (j := 2) Tryz.underlying48 Tryz.underlying9 (by kernel_rfl) rfl rfl rfl rfl hy) h
theorem prs_26 {n : Nat} {v : Value} {y : DataW H × List MemPlace} (h : DataW.trod enc Tryz.prog w base spare held n 71 [v] = some y) : ∃ l, TwoS w v 2 0 1 l :=
  two_of Tryz.underlying71 (by kernel_rfl) (by omega) (by omega) (fun _ _ _ hy => strs_26 (i := 0) (j := 1) Tryz.underlying301 Tryz.underlying9 (by kernel_rfl) rfl rfl rfl rfl hy) h
theorem mts_26 {n : Nat} {v : Value} {y : DataW H × List MemPlace} (h : DataW.trod enc Tryz.prog w base spare held n 26 [v] = some y) : ∃ l, TwoS w v 2 0 0 l :=
  two_of Tryz.underlying26 (by kernel_rfl) (by omega) (by omega) (fun _ _ _ hy => strs_26 (i := 0) (j := 0) Tryz.underlying120 Tryz.underlying9 (by kernel_rfl) rfl rfl rfl rfl hy) h
/-- The cell of a field of one cell. -/
theorem field_26 {P : Program} {t : TypeId} {fs : Array Field} {n : Nat} {cs : List Value} {y : DataW H × List MemPlace} (ht : P.underlying t = some (.struct fs)) (h : DataW.trod enc P w base spare held n t cs = some y) :
    ∃ m, cs.length = P.cellsOf t ∧ ∀ (i : Nat) (f : Field), fs[i]? = some f → ∃ z, DataW.trod enc P w base spare held m f.type ((cs.drop f.offset).take (P.cellsOf f.type)) = some z := by
  obtain ⟨xs, m, _, _, hl, hlen, hall⟩ := DataW.trod_struct ht h
  refine ⟨m, hl, fun i f hi => ?_⟩
  have hx := hall i f hi
  have hlt : i < xs.length := by rw [hlen]; exact (Array.getElem?_eq_some_iff.1 hi).1
  rw [List.getElem?_eq_getElem hlt] at hx
  exact ⟨_, hx⟩
theorem cell_26 {cs : List Value} {o n : Nat} (h : o < n) (hn : cs.length = n) : ∃ u, (cs.drop o).take 1 = [u] ∧ cs[o]? = some u :=
  ⟨cs[o]'(by omega), by rw [List.drop_eq_getElem_cons (by omega)]; rfl, List.getElem?_eq_getElem (by omega)⟩
set_option maxRecDepth 100000 in
theorem act26_of {r : Reach} {b0 : Nat} {v : Value} {d : DataW H} {p : List MemPlace} (hv : Value.okWide Tryz.prog w r b0 75 v) (h : DataW.Trod enc Tryz.prog w base spare held 75 v d p) :
    ∃ R ov mv qv pv P S lo lm lq lp, IsAct26 w v R ov mv qv pv P S lo lm lq lp := by
  obtain ⟨R, rfl, hsz⟩ := okWide_struct Tryz.underlying75 hv
  have hC : (Tryz.prog).cellsOf 75 = 113 := by kernel_rfl
  rw [hC] at hsz
  obtain ⟨fuel, hf⟩ := h
  have hf : DataW.trod enc Tryz.prog w base spare held fuel 75 R.toList = some (d, p) := hf
  obtain ⟨m, hl, hall⟩ := field_26 Tryz.underlying75 hf
  have hl : R.toList.length = 113 := by simpa using hsz
  have c1 : (Tryz.prog).cellsOf 49 = 1 := by kernel_rfl
  have c2 : (Tryz.prog).cellsOf 9 = 1 := by kernel_rfl
  have c3 : (Tryz.prog).cellsOf 26 = 1 := by kernel_rfl
  have c4 : (Tryz.prog).cellsOf 71 = 1 := by kernel_rfl
  have c5 : (Tryz.prog).cellsOf 73 = 107 := by kernel_rfl
  have c6 : (Tryz.prog).cellsOf 68 = 3 := by kernel_rfl
  obtain ⟨u1, d1, e1⟩ := cell_26 (show 1 < 113 by omega) hl
  obtain ⟨u2, d2, e2⟩ := cell_26 (show 2 < 113 by omega) hl
  obtain ⟨u3, d3, e3⟩ := cell_26 (show 3 < 113 by omega) hl
  obtain ⟨u4, d4, e4⟩ := cell_26 (show 4 < 113 by omega) hl
  obtain ⟨z1, t1⟩ := hall 1 _ rfl
  obtain ⟨z2, t2⟩ := hall 2 _ rfl
  obtain ⟨z3, t3⟩ := hall 3 _ rfl
  obtain ⟨z4, t4⟩ := hall 4 _ rfl
  obtain ⟨z6, t6⟩ := hall 6 _ rfl
  have t1 : DataW.trod enc Tryz.prog w base spare held m 49 ((R.toList.drop 1).take ((Tryz.prog).cellsOf 49)) = some z1 := t1
  have t2 : DataW.trod enc Tryz.prog w base spare held m 9 ((R.toList.drop 2).take ((Tryz.prog).cellsOf 9)) = some z2 := t2
  have t3 : DataW.trod enc Tryz.prog w base spare held m 26 ((R.toList.drop 3).take ((Tryz.prog).cellsOf 26)) = some z3 := t3
  have t4 : DataW.trod enc Tryz.prog w base spare held m 9 ((R.toList.drop 4).take ((Tryz.prog).cellsOf 9)) = some z4 := t4
  have t6 : DataW.trod enc Tryz.prog w base spare held m 73 ((R.toList.drop 6).take ((Tryz.prog).cellsOf 73)) = some z6 := t6
  rw [c1, d1] at t1
  rw [c2, d2] at t2
  rw [c3, d3] at t3
  rw [c2, d4] at t4
  rw [c5] at t6
  obtain ⟨lo, ho⟩ := ops_26 t1
  obtain ⟨lm, hm⟩ := mts_26 t3
  obtain ⟨P, q2, _, _⟩ := DataW.trod_string Tryz.underlying9 t2
  obtain ⟨S, q4, _, _⟩ := DataW.trod_string Tryz.underlying9 t4
  simp only [List.cons.injEq, and_true] at q2 q4
  subst q2 q4
  obtain ⟨m2, hl2, hall2⟩ := field_26 Tryz.underlying73 t6
  have hM : ((R.toList.drop 6).take 107).length = 107 := by rw [List.length_take, List.length_drop]; omega
  obtain ⟨u5, d5, e5⟩ := cell_26 (show 106 < 107 by omega) hM
  obtain ⟨z7, t7⟩ := hall2 11 _ rfl
  obtain ⟨z8, t8⟩ := hall2 4 _ rfl
  have t7 : DataW.trod enc Tryz.prog w base spare held m2 71 ((((R.toList.drop 6).take 107).drop 106).take ((Tryz.prog).cellsOf 71)) = some z7 := t7
  have t8 : DataW.trod enc Tryz.prog w base spare held m2 68 ((((R.toList.drop 6).take 107).drop 4).take ((Tryz.prog).cellsOf 68)) = some z8 := t8
  rw [c4, d5] at t7
  rw [c6] at t8
  obtain ⟨lp, hp⟩ := prs_26 t7
  obtain ⟨m3, hl3, hall3⟩ := field_26 Tryz.underlying68 t8
  have hB : ((((R.toList.drop 6).take 107).drop 4).take 3).length = 3 := by rw [List.length_take, List.length_drop, hM]; omega
  obtain ⟨u6, d6, e6⟩ := cell_26 (show 2 < 3 by omega) hB
  obtain ⟨z9, t9⟩ := hall3 2 _ rfl
  have t9 : DataW.trod enc Tryz.prog w base spare held m3 49 ((((((R.toList.drop 6).take 107).drop 4).take 3).drop 2).take ((Tryz.prog).cellsOf 49)) = some z9 := t9
  rw [c1, d6] at t9
  obtain ⟨lq, hq⟩ := ops_26 t9
  have g5 : R[112]? = some u5 := by
    rw [List.getElem?_take_of_lt (by omega), List.getElem?_drop, Array.getElem?_toList] at e5
    exact e5
  have g6 : R[12]? = some u6 := by
    rw [List.getElem?_take_of_lt (by omega), List.getElem?_drop, List.getElem?_take_of_lt (by omega), List.getElem?_drop, Array.getElem?_toList] at e6
    exact e6
  rw [Array.getElem?_toList] at e1 e2 e3 e4
  exact ⟨R, u1, u3, u6, u5, P, S, lo, lm, lq, lp, ⟨rfl, hsz, e1, e2, e3, e4, g6, g5, ho, hm, hq, hp⟩⟩
end
end Go.Proofs.YtdfgmieinbmfkaaGreat
