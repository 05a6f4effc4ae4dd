/-
  What a law of chapter 23 is handed: a list of acts; and Great of it.
-/
import Derived.Test.YtpfbgmfkeofefaaGreatActs
import Derived.Test.YtpfbgmfkeofefaaGreatOps
import Derived.Outline
namespace Go.Proofs.YtpfbgmfkeofefaaGreat
open Go Go.RowKit Go.ChangeShapes Go.WideShapes Go.ChangeAt Go.Deep

/-- An act of chapter 23. -/
structure Act23 where
  do_ : Int
  c : Int
  n : Int
  keep : Value
  keeps : List Int
def Act23.cells (a : Act23) : List Value := [.int .i64 a.do_, .int .i64 a.c, .int .i64 a.n, a.keep]
structure Act23.ok (w : World) (a : Act23) : Prop where
  do_ : i64ok a.do_
  c : i64ok a.c
  n : i64ok a.n
  keep : IsInts w a.keep a.keeps
def IsActs23 (w : World) (v : Value) (l : List Act23) : Prop := Recs w v 4 (l.map Act23.cells) ∧ ∀ a ∈ l, a.ok w
section
variable {H : Type} {enc : TypeId × Value → H} {w : World} {base : Nat} {spare : Nat → Bool} {held : Bool}
theorem acts23'_of {t e ti : TypeId} {fs : Array Field} {fuel : Nat} {v : Value} {x : DataW H × List MemPlace} (ht : Tryz.prog.underlying t = some (.slice e)) (he : Tryz.prog.underlying e = some (.struct fs)) (hone : oneCellFields Tryz.prog fs = true) (hC : Tryz.prog.cellsOf e = fs.size)
    (hf : fs.toList.map (·.type) = [3, 3, 3, ti]) (hti : Tryz.prog.underlying ti = some (.slice 3))
    (h : DataW.trod enc Tryz.prog w base spare held fuel t [v] = some x) : ∃ l, IsActs23 w v l := by
  have hsz : fs.size = 4 := by
    have := congrArg List.length hf
    simpa using this
  have hty : ∀ j (hj : j < 4), (fs[j]?).map (·.type) = ([3, 3, 3, ti] : List TypeId)[j]? := by
    intro j hj
    rw [← hf, List.getElem?_map]
    simp
  rcases open_slice_fields ht he hone hC h with ⟨hcs, _⟩ | ⟨a, len, cap, m, D, Pl, hcs, _, hl, hm, hmm, _, hi⟩
  · simp only [List.cons.injEq, and_true] at hcs
    subst hcs
    exact ⟨[], ⟨none, 0, 0, 0, rfl, by simp, fun h => absurd h (by simp), fun w' hu i hi => absurd hi (by simp)⟩, by simp⟩
  · simp only [List.cons.injEq, and_true] at hcs
    subst hcs
    have hlm : len ≤ m := by rw [hmm]; split <;> omega
    have each : ∀ i, i < len → ∃ r : Act23, r.ok w ∧ ∀ j, j < 4 → w.cell? (a.add (i * 4 + j)) = (Act23.cells r)[j]? := by
      intro i hil
      obtain ⟨ys, n, _, _, _, hff⟩ := hi i (by omega)
      rw [hsz] at hff
      have fld : ∀ j (hj : j < 4), ∃ (f : Field) (u : Value) (y : DataW H × List MemPlace), f.type = ([3, 3, 3, ti] : List TypeId)[j]'(by simpa using hj) ∧ w.cell? (a.add (i * 4 + j)) = some u ∧ DataW.trod enc Tryz.prog w base spare held n f.type [u] = some y := by
        intro j hj
        have h1 := hty j hj
        cases hfj : fs[j]? with
        | none =>
          rw [hfj] at h1
          rw [List.getElem?_eq_getElem (by simpa using hj)] at h1
          simp at h1
        | some f =>
          rw [hfj, List.getElem?_eq_getElem (by simpa using hj)] at h1
          obtain ⟨u, y, c1, _, c3⟩ := hff j f hfj
          exact ⟨f, u, y, by simpa using h1, c1, c3⟩
      obtain ⟨f0, u0, y0, e0, c0, t0⟩ := fld 0 (by omega)
      obtain ⟨f1, u1, y1, e1, c1, t1⟩ := fld 1 (by omega)
      obtain ⟨f2, u2, y2, e2, c2, t2⟩ := fld 2 (by omega)
      obtain ⟨f3, u3, y3, e3, c3, t3⟩ := fld 3 (by omega)
      simp only [List.getElem_cons_zero, List.getElem_cons_succ] at e0 e1 e2 e3
      rw [e0] at t0; rw [e1] at t1; rw [e2] at t2; rw [e3] at t3
      obtain ⟨n0, q0, _, w0⟩ := DataW.trod_int Tryz.underlying3 t0
      obtain ⟨n1, q1, _, w1⟩ := DataW.trod_int Tryz.underlying3 t1
      obtain ⟨n2, q2, _, w2⟩ := DataW.trod_int Tryz.underlying3 t2
      obtain ⟨zs, w3⟩ := ints_of hti Tryz.underlying3 (by kernel_rfl) t3
      simp only [List.cons.injEq, and_true] at q0 q1 q2
      subst q0 q1 q2
      refine ⟨⟨n0, n1, n2, u3, zs⟩, ⟨i64ok_of w0, i64ok_of w1, i64ok_of w2, w3⟩, fun j hj => ?_⟩
      match j, hj with
      | 0, _ => exact c0
      | 1, _ => exact c1
      | 2, _ => exact c2
      | 3, _ => exact c3
    have pick := pick_list (fun i (r : Act23) => r.ok w ∧ ∀ j, j < 4 → w.cell? (a.add (i * 4 + j)) = (Act23.cells r)[j]?) len each
    obtain ⟨l, h1, h2⟩ := pick
    refine ⟨l, ?_, fun r hr => ?_⟩
    · have hr := recs_of (w := w) (a := a) (cap := cap) (k := 4) (rs := l.map Act23.cells) (by omega) (fun r hr => by obtain ⟨q, _, rfl⟩ := List.mem_map.1 hr; rfl) (by rw [List.length_map]; omega) (fun i hi j hj => ?_)
      · rw [List.length_map, h1] at hr
        exact hr
      · rw [List.getElem_map]
        exact (h2 i (by simpa using hi)).2 j hj
    · obtain ⟨i, hi, rfl⟩ := List.mem_iff_getElem.1 hr
      exact (h2 i hi).1
theorem acts23_of {fuel : Nat} {v : Value} {x : DataW H × List MemPlace} (h : DataW.trod enc Tryz.prog w base spare held fuel 55 [v] = some x) : ∃ l, IsActs23 w v l :=
  acts23'_of Tryz.underlying55 Tryz.underlying74 (by kernel_rfl) (by kernel_rfl) rfl Tryz.underlying44 h
end
theorem IsActs23.open_ {w : World} {v : Value} {l : List Act23} (h : IsActs23 w v l) : ∃ A cap b off, v = .slice A l.length cap ∧ l.length ≤ 9223372036854775807 ∧ (0 < l.length → A = some ⟨b, off, none⟩) ∧
    (∀ w', Upd (fun _ => False) w w' → ∀ i (_ : i < l.length), w'.cell? ⟨b, off + i * 4, none⟩ = some (.int .i64 l[i].do_) ∧ w'.cell? ⟨b, off + i * 4 + 1, none⟩ = some (.int .i64 l[i].c) ∧ w'.cell? ⟨b, off + i * 4 + 2, none⟩ = some (.int .i64 l[i].n) ∧
      w'.cell? ⟨b, off + i * 4 + 3, none⟩ = some l[i].keep) ∧ ∀ a ∈ l, a.ok w := by
  obtain ⟨A, cap, b, off, h1, h2, h3, h4⟩ := h.1
  simp only [List.length_map] at h1 h2 h3 h4
  refine ⟨A, cap, b, off, h1, h2, h3, fun w' hu i hi => ?_, h.2⟩
  have g := h4 w' hu i hi
  simp only [List.getElem_map, ← Nat.add_assoc] at g
  exact ⟨g 0 (by omega), g 1 (by omega), g 2 (by omega), g 3 (by omega)⟩
structure GreatEnd23 (l : List Act23) (b : Bool) : Prop where
  ok : b = false → l.length ≤ 60 ∧ ∀ a ∈ l, a.keeps.length ≤ 60
def GreatPost23 (l : List Act23) (w : World) (e : Ending) (w' : World) : Prop := ∃ b, e = .returned (.bool b) ∧ w = w' ∧ GreatEnd23 l b
set_option maxRecDepth 100000 in
set_option maxHeartbeats 800000 in
theorem great_23 {v : Value} {l : List Act23} (w w1 : World) (hA : IsActs23 w v l) (hu : Upd (fun _ => False) w w1) :
    Calls Tryz.prog 19 #[v] w1 (GreatPost23 l w1) := by
  obtain ⟨A, cap, bA, off, rfl, hm, hA0, hcells, hok⟩ := hA.open_
  have HC := Lib.hid (hcells w1 hu)
  have HK := Lib.hid hok
  clear hcells hok hA hu
  go_enter Tryz.func19, Tryz.ntmps19
  go_wp2_with fail
  go_loopw [3] (fun i wr => ∃ k : Nat, k ≤ l.length ∧ k ≤ 61 ∧ i = .int .i64 k ∧ wr = w1 ∧ ∀ j (h : j < l.length), j < k → l[j].keeps.length ≤ 60) (fun i _ => l.length - (intOf i).toNat)
  case atStart => exact ⟨0, by omega, by omega, rfl, rfl, fun j h hj => by omega⟩
  case round =>
    obtain ⟨k, hk, hk61, rfl, rfl, hall⟩ := hrel
    by_cases hlt : k < l.length
    · by_cases h60 : k ≤ 60
      · obtain rfl := hA0 (by omega)
        obtain ⟨-, -, -, c5⟩ := HC.out k hlt
        have ho := HK.out _ (List.getElem_mem hlt)
        have HS : Hid (∀ r, l[k] = r → r.keeps.length ≤ 60 → ∀ j (h : j < l.length), j < k + 1 → l[j].keeps.length ≤ 60) := by
          intro r hr hs j h hj
          by_cases e : j = k
          · subst e; rw [hr]; exact hs
          · exact hall j h (by omega)
        clear hall
        obtain ⟨r, hr⟩ : ∃ r, l[k] = r := ⟨_, rfl⟩
        rw [hr] at c5 ho
        have HS := Lib.hid (HS.out r hr)
        clear hr
        obtain ⟨d, t, n, kp, ks⟩ := r
        obtain ⟨A5, cap5, b5, off5, e5, m5, -, -⟩ := ho.keep.open_
        simp only at c5 e5 m5
        subst e5
        clear ho
        have h60' : (k : Int) ≤ 60 := by omega
        by_cases g3 : 60 < ks.length
        · have g3' : (60 : Int) < (ks.length : Int) := by omega
          go_wp2_with fail
          go_ret
          exact ⟨true, rfl, rfl, ⟨by simp⟩⟩
        · have g3' : ¬ (60 : Int) < (ks.length : Int) := by omega
          go_wp2_with fail
          go_roundw
          case rel => exact ⟨k + 1, by omega, by omega, by go_num, trivial, HS.out (by show ks.length ≤ 60; omega)⟩
          case measure => simp [intOf]; omega
      · have h60' : ¬ (k : Int) ≤ 60 := by omega
        have hl : (60 : Int) < (l.length : Int) := by omega
        clear hall
        go_wp2_with fail
        go_ret
        exact ⟨true, rfl, rfl, ⟨by simp⟩⟩
    · have Hall := Lib.hid hall
      clear hall
      by_cases h60 : 60 < l.length
      · have hl : (60 : Int) < (l.length : Int) := by omega
        go_wp2_with fail
        go_ret
        exact ⟨true, rfl, rfl, ⟨by simp⟩⟩
      · have hl : ¬ (60 : Int) < (l.length : Int) := by omega
        go_wp2_with fail
        go_ret
        refine ⟨false, rfl, rfl, ⟨fun _ => ⟨by omega, fun a ha => ?_⟩⟩⟩
        obtain ⟨j, hj, rfl⟩ := List.mem_iff_getElem.1 ha
        exact Hall.out j hj (by omega)
end Go.Proofs.YtpfbgmfkeofefaaGreat
