/-
  What a law of chapter 10 is handed: sectors that stand on a disk. (Printed by mk_given.py.)
-/
import Derived.Test.YtpfbgmfkeofefaaGreatActs
namespace Go.Proofs.YtpfbgmfkeofefaaGreat
open Go Go.RowKit Go.ChangeShapes Go.WideShapes Go.ChangeAt Go.Deep

structure Given10 where
  do_ : Int
  text : ByteArray
  epoch : Nat
  salt : Nat
  ahead : Nat
  part : Nat
def Given10.cells (a : Given10) : List Value := [.int .i64 a.do_, .string a.text, .int .u64 (a.epoch : Int), .int .u64 (a.salt : Int), .int .u64 (a.ahead : Int), .int .u8 (a.part : Int)]
structure Given10.ok (a : Given10) : Prop where
  do_ : i64ok a.do_
  text : a.text.size ≤ 9223372036854775807
  epoch : a.epoch < 18446744073709551616
  salt : a.salt < 18446744073709551616
  ahead : a.ahead < 18446744073709551616
  part : a.part < 256
def IsGiven10 (w : World) (v : Value) (l : List Given10) : Prop := Recs w v 6 (l.map Given10.cells) ∧ ∀ a ∈ l, a.ok
theorem given10_u64 {n : Int} (h : (Lit.int .u64 n).wf = true) : ∃ m : Nat, n = m ∧ m < 18446744073709551616 := by
  simp only [Lit.wf, Bool.and_eq_true, decide_eq_true_eq] at h
  have h1 : IntKind.u64.min = 0 := rfl
  have h2 : IntKind.u64.max = 18446744073709551615 := rfl
  exact ⟨n.toNat, by omega, by omega⟩
theorem given10_u8 {n : Int} (h : (Lit.int .u8 n).wf = true) : ∃ m : Nat, n = m ∧ m < 256 := by
  simp only [Lit.wf, Bool.and_eq_true, decide_eq_true_eq] at h
  have h1 : IntKind.u8.min = 0 := rfl
  have h2 : IntKind.u8.max = 255 := rfl
  exact ⟨n.toNat, by omega, by omega⟩
section
variable {H : Type} {enc : TypeId × Value → H} {w : World} {base : Nat} {spare : Nat → Bool} {held : Bool}
theorem given10s_of {t e : TypeId} {fs : Array Field} {fuel : Nat} {v : Value} {x : DataW H × List MemPlace} (ht : Tryz.prog.underlying t = some (.slice e)) (he : Tryz.prog.underlying e = some (.struct fs)) (hone : oneCellFields Tryz.prog fs = true) (hC : Tryz.prog.cellsOf e = fs.size)
    (hf : fs.toList.map (·.type) = [3, 9, 22, 22, 22, 5]) (h : DataW.trod enc Tryz.prog w base spare held fuel t [v] = some x) : ∃ l, IsGiven10 w v l := by
  have hsz : fs.size = 6 := by
    have := congrArg List.length hf
    simpa using this
  have hty : ∀ j (hj : j < 6), (fs[j]?).map (·.type) = ([3, 9, 22, 22, 22, 5] : List TypeId)[j]? := by
    intro j hj
    rw [← hf, List.getElem?_map]
    simp
  rcases open_slice_fields ht he hone hC h with ⟨hcs, _⟩ | ⟨a, len, cap, m, D, Pl, hcs, _, hl, hm, hmm, _, hi⟩
  · simp only [List.cons.injEq, and_true] at hcs
    subst hcs
    exact ⟨[], ⟨none, 0, 0, 0, rfl, by simp, fun h => absurd h (by simp), fun w' hu i hi => absurd hi (by simp)⟩, by simp⟩
  · simp only [List.cons.injEq, and_true] at hcs
    subst hcs
    have hlm : len ≤ m := by rw [hmm]; split <;> omega
    have each : ∀ i, i < len → ∃ r : Given10, r.ok ∧ ∀ j, j < 6 → w.cell? (a.add (i * 6 + j)) = (Given10.cells r)[j]? := by
      intro i hil
      obtain ⟨ys, n, _, _, _, hff⟩ := hi i (by omega)
      rw [hsz] at hff
      have fld : ∀ j (hj : j < 6), ∃ (f : Field) (u : Value) (y : DataW H × List MemPlace), f.type = ([3, 9, 22, 22, 22, 5] : List TypeId)[j]'(by simpa using hj) ∧ w.cell? (a.add (i * 6 + j)) = some u ∧ DataW.trod enc Tryz.prog w base spare held n f.type [u] = some y := by
        intro j hj
        have h1 := hty j hj
        cases hfj : fs[j]? with
        | none =>
          rw [hfj] at h1
          rw [List.getElem?_eq_getElem (by simpa using hj)] at h1
          simp at h1
        | some f =>
          rw [hfj, List.getElem?_eq_getElem (by simpa using hj)] at h1
          obtain ⟨u, y, c1, _, c3⟩ := hff j f hfj
          exact ⟨f, u, y, by simpa using h1, c1, c3⟩
      obtain ⟨f0, u0, y0, e0, c0, t0⟩ := fld 0 (by omega)
      obtain ⟨f1, u1, y1, e1, c1, t1⟩ := fld 1 (by omega)
      obtain ⟨f2, u2, y2, e2, c2, t2⟩ := fld 2 (by omega)
      obtain ⟨f3, u3, y3, e3, c3, t3⟩ := fld 3 (by omega)
      obtain ⟨f4, u4, y4, e4, c4, t4⟩ := fld 4 (by omega)
      obtain ⟨f5, u5, y5, e5, c5, t5⟩ := fld 5 (by omega)
      simp only [List.getElem_cons_zero, List.getElem_cons_succ] at e0 e1 e2 e3 e4 e5
      rw [e0] at t0
      rw [e1] at t1
      rw [e2] at t2
      rw [e3] at t3
      rw [e4] at t4
      rw [e5] at t5
      obtain ⟨n0, q0, _, w0⟩ := DataW.trod_int Tryz.underlying3 t0
      obtain ⟨s1, q1, _, w1⟩ := DataW.trod_string Tryz.underlying9 t1
      obtain ⟨n2, q2, _, w2⟩ := DataW.trod_int Tryz.underlying22 t2
      obtain ⟨m2, rfl, l2⟩ := given10_u64 w2
      obtain ⟨n3, q3, _, w3⟩ := DataW.trod_int Tryz.underlying22 t3
      obtain ⟨m3, rfl, l3⟩ := given10_u64 w3
      obtain ⟨n4, q4, _, w4⟩ := DataW.trod_int Tryz.underlying22 t4
      obtain ⟨m4, rfl, l4⟩ := given10_u64 w4
      obtain ⟨n5, q5, _, w5⟩ := DataW.trod_int Tryz.underlying5 t5
      obtain ⟨m5, rfl, l5⟩ := given10_u8 w5
      simp only [List.cons.injEq, and_true] at q0 q1 q2 q3 q4 q5
      subst q0 q1 q2 q3 q4 q5
      refine ⟨⟨n0, s1, m2, m3, m4, m5⟩, ⟨i64ok_of w0, w1, l2, l3, l4, l5⟩, fun j hj => ?_⟩
      match j, hj with
      | 0, _ => exact c0
      | 1, _ => exact c1
      | 2, _ => exact c2
      | 3, _ => exact c3
      | 4, _ => exact c4
      | 5, _ => exact c5
    obtain ⟨l, h1, h2⟩ := pick_list (fun i (r : Given10) => r.ok ∧ ∀ j, j < 6 → w.cell? (a.add (i * 6 + j)) = (Given10.cells r)[j]?) len each
    refine ⟨l, ?_, fun r hr => ?_⟩
    · have hr := recs_of (w := w) (a := a) (cap := cap) (k := 6) (rs := l.map Given10.cells) (by omega) (fun r hr => by obtain ⟨q, _, rfl⟩ := List.mem_map.1 hr; rfl) (by rw [List.length_map]; omega) (fun i hi j hj => ?_)
      · rw [List.length_map, h1] at hr
        exact hr
      · rw [List.getElem_map]
        exact (h2 i (by simpa using hi)).2 j hj
    · obtain ⟨i, hi, rfl⟩ := List.mem_iff_getElem.1 hr
      exact (h2 i hi).1
theorem given10_of {fuel : Nat} {v : Value} {x : DataW H × List MemPlace} (h : DataW.trod enc Tryz.prog w base spare held fuel 48 [v] = some x) : ∃ l, IsGiven10 w v l :=
  given10s_of Tryz.underlying48 Tryz.underlying50 (by kernel_rfl) (by kernel_rfl) rfl h
end
theorem IsGiven10.open_ {w : World} {v : Value} {l : List Given10} (h : IsGiven10 w v l) : ∃ A cap b off, v = .slice A l.length cap ∧ l.length ≤ 9223372036854775807 ∧ (0 < l.length → A = some ⟨b, off, none⟩) ∧
    (∀ w', Upd (fun _ => False) w w' → ∀ i (_ : i < l.length), w'.cell? ⟨b, off + i * 6, none⟩ = some (.int .i64 l[i].do_) ∧ w'.cell? ⟨b, off + i * 6 + 1, none⟩ = some (.string l[i].text) ∧ w'.cell? ⟨b, off + i * 6 + 2, none⟩ = some (.int .u64 (l[i].epoch : Int)) ∧ w'.cell? ⟨b, off + i * 6 + 3, none⟩ = some (.int .u64 (l[i].salt : Int)) ∧ w'.cell? ⟨b, off + i * 6 + 4, none⟩ = some (.int .u64 (l[i].ahead : Int)) ∧ w'.cell? ⟨b, off + i * 6 + 5, none⟩ = some (.int .u8 (l[i].part : Int))) ∧ ∀ a ∈ l, a.ok := by
  obtain ⟨A, cap, b, off, h1, h2, h3, h4⟩ := h.1
  simp only [List.length_map] at h1 h2 h3 h4
  refine ⟨A, cap, b, off, h1, h2, h3, fun w' hu i hi => ?_, h.2⟩
  have g := h4 w' hu i hi
  simp only [List.getElem_map, ← Nat.add_assoc] at g
  exact ⟨g 0 (by omega), g 1 (by omega), g 2 (by omega), g 3 (by omega), g 4 (by omega), g 5 (by omega)⟩
end Go.Proofs.YtpfbgmfkeofefaaGreat
