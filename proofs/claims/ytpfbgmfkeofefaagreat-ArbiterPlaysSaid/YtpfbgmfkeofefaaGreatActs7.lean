/-
  What a law is handed: acts of chapter 07.
-/
import Derived.Test.YtpfbgmfkeofefaaGreatActs
namespace Go.Proofs.YtpfbgmfkeofefaaGreat
open Go Go.RowKit Go.ChangeShapes Go.WideShapes Go.ChangeAt Go.Deep

/-- An act of chapter 07. -/
structure Act7 where
  do_ : Int
  i : Int
  n : Int
  b : ByteArray
  x : ByteArray
  byte : Nat
  keep : Value
  keeps : List Int
def Act7.cells (a : Act7) : List Value := [.int .i64 a.do_, .int .i64 a.i, .int .i64 a.n, .string a.b, .string a.x, .int .u8 (a.byte : Int), a.keep]
theorem u8_of {n : Int} (h : (Lit.int .u8 n).wf = true) : ∃ m : Nat, n = m ∧ m < 256 := by
  simp only [Lit.wf, Bool.and_eq_true, decide_eq_true_eq] at h
  have h1 : IntKind.u8.min = 0 := rfl
  have h2 : IntKind.u8.max = 255 := rfl
  exact ⟨n.toNat, by omega, by omega⟩
structure Act7.ok (w : World) (a : Act7) : Prop where
  do_ : i64ok a.do_
  i : i64ok a.i
  n : i64ok a.n
  b : a.b.size ≤ 9223372036854775807
  x : a.x.size ≤ 9223372036854775807
  byte : a.byte < 256
  keep : IsInts w a.keep a.keeps
def CapOk (v : Value) : Prop := match v with | .slice _ n c => n ≤ c | _ => True
def IsActs07 (w : World) (v : Value) (l : List Act7) : Prop := Recs w v 7 (l.map Act7.cells) ∧ (∀ a ∈ l, a.ok w) ∧ CapOk v
section
variable {H : Type} {enc : TypeId × Value → H} {w : World} {base : Nat} {spare : Nat → Bool} {held : Bool}
theorem acts7_of {t e ti : TypeId} {fs : Array Field} {fuel : Nat} {v : Value} {x : DataW H × List MemPlace} (ht : Tryz.prog.underlying t = some (.slice e)) (he : Tryz.prog.underlying e = some (.struct fs)) (hone : oneCellFields Tryz.prog fs = true) (hC : Tryz.prog.cellsOf e = fs.size)
    (hf : fs.toList.map (·.type) = [3, 3, 3, 9, 9, 5, ti]) (hti : Tryz.prog.underlying ti = some (.slice 3))
    (h : DataW.trod enc Tryz.prog w base spare held fuel t [v] = some x) : ∃ l, IsActs07 w v l := by
  have hsz : fs.size = 7 := by
    have := congrArg List.length hf
    simpa using this
  have hty : ∀ j (hj : j < 7), (fs[j]?).map (·.type) = ([3, 3, 3, 9, 9, 5, ti] : List TypeId)[j]? := by
    intro j hj
    rw [← hf, List.getElem?_map]
    simp
  rcases open_slice_fields ht he hone hC h with ⟨hcs, _⟩ | ⟨a, len, cap, m, D, Pl, hcs, _, hl, hm, hmm, _, hi⟩
  · simp only [List.cons.injEq, and_true] at hcs
    subst hcs
    exact ⟨[], ⟨none, 0, 0, 0, rfl, by simp, fun h => absurd h (by simp), fun w' hu i hi => absurd hi (by simp)⟩, by simp, Nat.le_refl 0⟩
  · simp only [List.cons.injEq, and_true] at hcs
    subst hcs
    have hlm : len ≤ m := by rw [hmm]; split <;> omega
    have each : ∀ i, i < len → ∃ r : Act7, r.ok w ∧ ∀ j, j < 7 → w.cell? (a.add (i * 7 + j)) = (Act7.cells r)[j]? := by
      intro i hil
      obtain ⟨ys, n, _, _, _, hff⟩ := hi i (by omega)
      rw [hsz] at hff
      have fld : ∀ j (hj : j < 7), ∃ (f : Field) (u : Value) (y : DataW H × List MemPlace), f.type = ([3, 3, 3, 9, 9, 5, ti] : List TypeId)[j]'(by simpa using hj) ∧ w.cell? (a.add (i * 7 + j)) = some u ∧ DataW.trod enc Tryz.prog w base spare held n f.type [u] = some y := by
        intro j hj
        have h1 := hty j hj
        cases hfj : fs[j]? with
        | none =>
          rw [hfj] at h1
          rw [List.getElem?_eq_getElem (by simpa using hj)] at h1
          simp at h1
        | some f =>
          rw [hfj, List.getElem?_eq_getElem (by simpa using hj)] at h1
          obtain ⟨u, y, c1, _, c3⟩ := hff j f hfj
          exact ⟨f, u, y, by simpa using h1, c1, c3⟩
      obtain ⟨f0, u0, y0, e0, c0, t0⟩ := fld 0 (by omega)
      obtain ⟨f1, u1, y1, e1, c1, t1⟩ := fld 1 (by omega)
      obtain ⟨f2, u2, y2, e2, c2, t2⟩ := fld 2 (by omega)
      obtain ⟨f3, u3, y3, e3, c3, t3⟩ := fld 3 (by omega)
      obtain ⟨f4, u4, y4, e4, c4, t4⟩ := fld 4 (by omega)
      obtain ⟨f5, u5, y5, e5, c5, t5⟩ := fld 5 (by omega)
      obtain ⟨f6, u6, y6, e6, c6, t6⟩ := fld 6 (by omega)
      simp only [List.getElem_cons_zero, List.getElem_cons_succ] at e0 e1 e2 e3 e4 e5 e6
      rw [e0] at t0; rw [e1] at t1; rw [e2] at t2; rw [e3] at t3; rw [e4] at t4; rw [e5] at t5; rw [e6] at t6
      obtain ⟨n0, q0, _, w0⟩ := DataW.trod_int Tryz.underlying3 t0
      obtain ⟨n1, q1, _, w1⟩ := DataW.trod_int Tryz.underlying3 t1
      obtain ⟨n2, q2, _, w2⟩ := DataW.trod_int Tryz.underlying3 t2
      obtain ⟨s3, q3, _, w3⟩ := DataW.trod_string Tryz.underlying9 t3
      obtain ⟨s4, q4, _, w4⟩ := DataW.trod_string Tryz.underlying9 t4
      obtain ⟨n5, q5, _, w5⟩ := DataW.trod_int Tryz.underlying5 t5
      obtain ⟨zs, w6⟩ := ints_of hti Tryz.underlying3 (by kernel_rfl) t6
      simp only [List.cons.injEq, and_true] at q0 q1 q2 q3 q4 q5
      subst q0 q1 q2 q3 q4 q5
      obtain ⟨m5, rfl, h5⟩ := u8_of w5
      refine ⟨⟨n0, n1, n2, s3, s4, m5, u6, zs⟩, ⟨i64ok_of w0, i64ok_of w1, i64ok_of w2, w3, w4, h5, w6⟩, fun j hj => ?_⟩
      match j, hj with
      | 0, _ => exact c0
      | 1, _ => exact c1
      | 2, _ => exact c2
      | 3, _ => exact c3
      | 4, _ => exact c4
      | 5, _ => exact c5
      | 6, _ => exact c6
    have pick := pick_list (fun i (r : Act7) => r.ok w ∧ ∀ j, j < 7 → w.cell? (a.add (i * 7 + j)) = (Act7.cells r)[j]?) len each
    obtain ⟨l, h1, h2⟩ := pick
    refine ⟨l, ?_, fun r hr => ?_, hl⟩
    · have hr := recs_of (w := w) (a := a) (cap := cap) (k := 7) (rs := l.map Act7.cells) (by omega) (fun r hr => by obtain ⟨q, _, rfl⟩ := List.mem_map.1 hr; rfl) (by rw [List.length_map]; omega) (fun i hi j hj => ?_)
      · rw [List.length_map, h1] at hr
        exact hr
      · rw [List.getElem_map]
        exact (h2 i (by simpa using hi)).2 j hj
    · obtain ⟨i, hi, rfl⟩ := List.mem_iff_getElem.1 hr
      exact (h2 i hi).1
end
/-- The cells of an act, as its value. -/
def Act7.val (a : Act7) : Value := .agg #[.int .i64 a.do_, .int .i64 a.i, .int .i64 a.n, .string a.b, .string a.x, .int .u8 (a.byte : Int), a.keep]
theorem IsActs07.open_ {w : World} {v : Value} {l : List Act7} (h : IsActs07 w v l) : ∃ A cap b off, v = .slice A l.length cap ∧ l.length ≤ 9223372036854775807 ∧ (0 < l.length → A = some ⟨b, off, none⟩) ∧
    (∀ w', Upd (fun _ => False) w w' → ∀ i (_ : i < l.length), w'.cell? ⟨b, off + i * 7, none⟩ = some (.int .i64 l[i].do_) ∧ w'.cell? ⟨b, off + i * 7 + 1, none⟩ = some (.int .i64 l[i].i) ∧ w'.cell? ⟨b, off + i * 7 + 2, none⟩ = some (.int .i64 l[i].n) ∧
      w'.cell? ⟨b, off + i * 7 + 3, none⟩ = some (.string l[i].b) ∧ w'.cell? ⟨b, off + i * 7 + 4, none⟩ = some (.string l[i].x) ∧ w'.cell? ⟨b, off + i * 7 + 5, none⟩ = some (.int .u8 (l[i].byte : Int)) ∧ w'.cell? ⟨b, off + i * 7 + 6, none⟩ = some l[i].keep) ∧ ∀ a ∈ l, a.ok w := by
  obtain ⟨A, cap, b, off, h1, h2, h3, h4⟩ := h.1
  simp only [List.length_map] at h1 h2 h3 h4
  refine ⟨A, cap, b, off, h1, h2, h3, fun w' hu i hi => ?_, h.2.1⟩
  have g := h4 w' hu i hi
  simp only [List.getElem_map, ← Nat.add_assoc] at g
  exact ⟨g 0 (by omega), g 1 (by omega), g 2 (by omega), g 3 (by omega), g 4 (by omega), g 5 (by omega), g 6 (by omega)⟩
theorem IsActs07.still {w w' : World} {v : Value} {l : List Act7} (h : IsActs07 w v l) (hu : Upd (fun _ => False) w w') : IsActs07 w' v l := by
  obtain ⟨⟨A, cap, b, off, h1, h2, h3, h4⟩, h5, h6⟩ := h
  exact ⟨⟨A, cap, b, off, h1, h2, h3, fun w2 hu2 => h4 w2 (hu.then hu2 (fun _ e => e.elim))⟩, fun a ha => ⟨(h5 a ha).do_, (h5 a ha).i, (h5 a ha).n, (h5 a ha).b, (h5 a ha).x, (h5 a ha).byte, ⟨(h5 a ha).keep.1.upd hu, (h5 a ha).keep.2⟩⟩, h6⟩
theorem IsActs07.cap {w : World} {A : Option Addr} {n c : Nat} {l : List Act7} (h : IsActs07 w (.slice A n c) l) : n ≤ c := h.2.2
theorem IsActs07.sub {w : World} {b off n c c' k : Nat} {l : List Act7} (h : IsActs07 w (.slice (some ⟨b, off, none⟩) n c) l) (hk : k < l.length) (hc : 1 ≤ c') : IsActs07 w (.slice (some ⟨b, off + k * 7, none⟩) 1 c') [l[k]] := by
  obtain ⟨⟨A, cap, b', off', h1, h2, h3, h4⟩, h5, h6⟩ := h
  simp only [List.length_map] at h1 h2 h3 h4
  injection h1 with e1 e2 e3
  have e4 := h3 (by omega)
  rw [← e1] at e4
  injection e4 with e4
  injection e4 with e5 e6
  subst e5 e6
  refine ⟨⟨_, c', b, off + k * 7, rfl, by simp, fun _ => rfl, fun w' hu i hi j hj => ?_⟩, fun a ha => ?_, hc⟩
  · have hi0 : i = 0 := by simp at hi; exact hi
    subst hi0
    have := h4 w' hu k hk j hj
    simp only [List.map_cons, List.map_nil, List.getElem_cons_zero, Nat.zero_mul, Nat.zero_add, List.getElem_map] at this ⊢
    rw [← this, Nat.add_assoc]
  · rw [List.mem_singleton.1 ha]
    exact h5 _ (List.getElem_mem hk)
end Go.Proofs.YtpfbgmfkeofefaaGreat
