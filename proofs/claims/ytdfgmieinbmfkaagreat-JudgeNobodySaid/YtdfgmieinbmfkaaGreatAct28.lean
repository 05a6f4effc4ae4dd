/-
  One act of chapter 28, handed in by value; what chapter 28 calls great of it.
-/
import Derived.Test.YtdfgmieinbmfkaaGreatArgs
import Derived.Lib.SmallJoins
import Derived.Outline
namespace Go.Proofs.YtdfgmieinbmfkaaGreat
open Go Go.Joins Go.ChangeShapes Go.WideShapes Go.RowKit Go.Deep

section
variable {H : Type} {enc : TypeId × Value → H} {P : Program} {w : World} {base : Nat} {spare : Nat → Bool} {held : Bool}
theorem open_agg28 {r : Reach} {b0 : Nat} {t : TypeId} {f0 f1 f2 f3 f4 f5 f6 : Field} {v : Value} {d : DataW H} {p : List MemPlace} (hs : P.underlying t = some (.struct #[f0, f1, f2, f3, f4, f5, f6])) (hone : oneCellFields P #[f0, f1, f2, f3, f4, f5, f6] = true) (hC : P.cellsOf t = 7)
    (hv : Value.okWide P w r b0 t v) (h : DataW.Trod enc P w base spare held t v d p) :
    ∃ (v0 v1 v2 v3 v4 v5 v6 : Value) (y0 y1 y2 y3 y4 y5 y6 : DataW H × List MemPlace) (n : Nat), v = .agg #[v0, v1, v2, v3, v4, v5, v6] ∧
      DataW.trod enc P w base spare held n f0.type [v0] = some y0 ∧ DataW.trod enc P w base spare held n f1.type [v1] = some y1 ∧ DataW.trod enc P w base spare held n f2.type [v2] = some y2 ∧ DataW.trod enc P w base spare held n f3.type [v3] = some y3 ∧ DataW.trod enc P w base spare held n f4.type [v4] = some y4 ∧ DataW.trod enc P w base spare held n f5.type [v5] = some y5 ∧ DataW.trod enc P w base spare held n f6.type [v6] = some y6 := by
  obtain ⟨cs, rfl, hsz⟩ := okWide_struct hs hv
  obtain ⟨l⟩ := cs
  match l, hsz.trans hC with
  | [c0, c1, c2, c3, c4, c5, c6], _ =>
    obtain ⟨fuel, hf⟩ := h
    obtain ⟨xs, n, _, hx, _, hlen, hg⟩ := DataW.trod_struct hs hf
    obtain ⟨o0, k0⟩ := hone_of hone 0 f0 rfl
    obtain ⟨o1, k1⟩ := hone_of hone 1 f1 rfl
    obtain ⟨o2, k2⟩ := hone_of hone 2 f2 rfl
    obtain ⟨o3, k3⟩ := hone_of hone 3 f3 rfl
    obtain ⟨o4, k4⟩ := hone_of hone 4 f4 rfl
    obtain ⟨o5, k5⟩ := hone_of hone 5 f5 rfl
    obtain ⟨o6, k6⟩ := hone_of hone 6 f6 rfl
    match xs, hlen with
    | [y0, y1, y2, y3, y4, y5, y6], _ =>
      exact ⟨c0, c1, c2, c3, c4, c5, c6, y0, y1, y2, y3, y4, y5, y6, n, rfl, by simpa [Value.cells, o0, k0] using hg 0 f0 rfl, by simpa [Value.cells, o1, k1] using hg 1 f1 rfl, by simpa [Value.cells, o2, k2] using hg 2 f2 rfl, by simpa [Value.cells, o3, k3] using hg 3 f3 rfl, by simpa [Value.cells, o4, k4] using hg 4 f4 rfl, by simpa [Value.cells, o5, k5] using hg 5 f5 rfl, by simpa [Value.cells, o6, k6] using hg 6 f6 rfl⟩
end
/-- An act that came in: its seven cells. -/
structure IsAct28 (w : World) (v : Value) (c : Fin 7 → Value) : Prop where
  is : v = .agg #[c 0, c 1, c 2, c 3, c 4, c 5, c 6]
  nums : ∃ k a b n : Int, c 0 = .int .u8 k ∧ c 1 = .int .i64 a ∧ c 2 = .int .i64 b ∧ c 3 = .int .i64 n
  path : ∃ s : ByteArray, c 4 = .string s
  text : ∃ s : ByteArray, c 5 = .string s
  keep : ∃ A n k, c 6 = .slice A n k
set_option maxRecDepth 100000 in
theorem act28_of {H : Type} {enc : TypeId × Value → H} {w : World} {base : Nat} {spare : Nat → Bool} {held : Bool} {r : Reach} {b0 : Nat} {v : Value} {d : DataW H} {p : List MemPlace}
    (hv : Value.okWide Tryz.prog w r b0 92 v) (h : DataW.Trod enc Tryz.prog w base spare held 92 v d p) : ∃ c, IsAct28 w v c := by
  obtain ⟨v0, v1, v2, v3, v4, v5, v6, y0, y1, y2, y3, y4, y5, y6, n, rfl, t0, t1, t2, t3, t4, t5, t6⟩ := open_agg28 Tryz.underlying92 (by kernel_rfl) (by kernel_rfl) hv h
  obtain ⟨n0, q0, _, w0⟩ := DataW.trod_int Tryz.underlying5 t0
  obtain ⟨n1, q1, _, w1⟩ := DataW.trod_int Tryz.underlying3 t1
  obtain ⟨n2, q2, _, w2⟩ := DataW.trod_int Tryz.underlying3 t2
  obtain ⟨n3, q3, _, w3⟩ := DataW.trod_int Tryz.underlying3 t3
  obtain ⟨s4, q4, _, w4⟩ := DataW.trod_string Tryz.underlying9 t4
  obtain ⟨s5, q5, _, w5⟩ := DataW.trod_string Tryz.underlying9 t5
  obtain ⟨zs, w6⟩ := ints_of Tryz.underlying90 Tryz.underlying3 (by kernel_rfl) t6
  obtain ⟨A6, cap6, e6, -, -⟩ := w6.1.ex
  simp only [List.cons.injEq, and_true] at q0 q1 q2 q3 q4 q5
  subst q0 q1 q2 q3 q4 q5
  exact ⟨fun i => (#[.int .u8 n0, .int .i64 n1, .int .i64 n2, .int .i64 n3, .string s4, .string s5, v6] : Array Value)[i.1]!, ⟨rfl, ⟨_, _, _, _, rfl, rfl, rfl, rfl⟩, ⟨_, rfl⟩, ⟨_, rfl⟩, ⟨_, _, _, e6⟩⟩⟩
/-- What Great of chapter 28 tells of one act. -/
def great28 (s t : ByteArray) (n : Nat) : Bool := decide (200 < s.size) || (decide (200 < t.size) || decide (200 < n))
set_option maxRecDepth 100000 in
theorem great28_c {w : World} {b o n c : Nat} {A : Option Addr} {s t : ByteArray} (hs : w.cell? ⟨b, o + 4, none⟩ = some (.string s)) (ht : w.cell? ⟨b, o + 5, none⟩ = some (.string t)) (hn : w.cell? ⟨b, o + 6, none⟩ = some (.slice A n c)) :
    Calls Tryz.prog 41 #[.slice (some ⟨b, o, none⟩) 1 1] w (fun e w' => e = .returned (.bool (great28 s t n)) ∧ w = w') := by
  go_enter Tryz.func41, Tryz.ntmps41
  go_wp2_with fail
  go_loopw [3] (fun i wr => ∃ k : Nat, k ≤ 1 ∧ i = .int .i64 k ∧ wr = w ∧ (k = 1 → great28 s t n = false)) (fun i _ => 1 - (intOf i).toNat)
  case atStart => exact ⟨0, by omega, rfl, rfl, fun h => by omega⟩
  case round =>
    obtain ⟨k, hk, rfl, rfl, hall⟩ := hrel
    by_cases hlt : k = 0
    · have c4 : wr.cell? ⟨b, o + k * 7 + 4, none⟩ = some (.string s) := by rw [hlt]; exact hs
      have c5 : wr.cell? ⟨b, o + k * 7 + 5, none⟩ = some (.string t) := by rw [hlt]; exact ht
      have c6 : wr.cell? ⟨b, o + k * 7 + 6, none⟩ = some (.slice A n c) := by rw [hlt]; exact hn
      have j1 : (k : Int) < 1 := by omega
      have j1n : k < 1 := by omega
      have hwk : IntKind.i64.wrap ((k : Int) + 1) = (k : Int) + 1 := IntWalk.i64_in _ (by omega)
      have HL := Lib.hid hlt
      clear hall hlt hs ht hn
      by_cases g1 : 200 < s.size
      · have g1' : (200 : Int) < (s.size : Int) := by omega
        have HE : Hid (great28 s t n = true) := Lib.hid (by simp [great28, g1])
        clear g1
        go_wp2_with fail
        go_ret
        exact ⟨by rw [HE.out]; rfl, rfl⟩
      · have g1' : ¬ (200 : Int) < (s.size : Int) := by omega
        by_cases g2 : 200 < t.size
        · have g2' : (200 : Int) < (t.size : Int) := by omega
          have HE : Hid (great28 s t n = true) := Lib.hid (by simp [great28, g2])
          clear g1 g2
          go_wp2_with fail
          go_ret
          exact ⟨by rw [HE.out]; rfl, rfl⟩
        · have g2' : ¬ (200 : Int) < (t.size : Int) := by omega
          by_cases g3 : 200 < n
          · have g3' : (200 : Int) < (n : Int) := by omega
            have HE : Hid (great28 s t n = true) := Lib.hid (by simp [great28, g3])
            clear g1 g2 g3
            go_wp2_with fail
            go_ret
            exact ⟨by rw [HE.out]; rfl, rfl⟩
          · have g3' : ¬ (200 : Int) < (n : Int) := by omega
            have HE : Hid (great28 s t n = false) := Lib.hid (by simp [great28, g1, g2, g3])
            clear g1 g2 g3
            go_wp2_with fail
            go_roundw
            case rel => exact ⟨k + 1, by omega, by simp, trivial, fun _ => HE.out⟩
            case measure => simp [intOf]; omega
    · have HE : Hid (great28 s t n = false) := Lib.hid (hall (by omega))
      have j1 : ¬ ((k : Int) < 1) := by omega
      clear hall hs ht hn hk hlt
      go_wp2_with fail
      go_ret
      exact ⟨by rw [HE.out]; rfl, rfl⟩
set_option maxRecDepth 100000 in
theorem great28_d {w : World} {b o n c : Nat} {A : Option Addr} {s t : ByteArray} (hs : w.cell? ⟨b, o + 4, none⟩ = some (.string s)) (ht : w.cell? ⟨b, o + 5, none⟩ = some (.string t)) (hn : w.cell? ⟨b, o + 6, none⟩ = some (.slice A n c)) :
    CallsD Tryz.prog 41 #[.slice (some ⟨b, o, none⟩) 1 1] .returning w (fun e u w' => u = .returning ∧ e = .returned (.bool (great28 s t n)) ∧ w = w') := by
  refine CallsD.mono (?_ : CallsD Tryz.prog 41 #[.slice (some ⟨b, o, none⟩) 1 1] .returning w (fun e u w' => u = .returning ∧ (fun e w' => e = .returned (.bool (great28 s t n)) ∧ w = w') e w')) (fun _ _ _ h => h)
  go_enter_d Tryz.func41, Tryz.ntmps41
  go_wp2_with fail
  go_loopw [3] (fun i wr => ∃ k : Nat, k ≤ 1 ∧ i = .int .i64 k ∧ wr = w ∧ (k = 1 → great28 s t n = false)) (fun i _ => 1 - (intOf i).toNat)
  case atStart => exact ⟨0, by omega, rfl, rfl, fun h => by omega⟩
  case round =>
    obtain ⟨k, hk, rfl, rfl, hall⟩ := hrel
    by_cases hlt : k = 0
    · have c4 : wr.cell? ⟨b, o + k * 7 + 4, none⟩ = some (.string s) := by rw [hlt]; exact hs
      have c5 : wr.cell? ⟨b, o + k * 7 + 5, none⟩ = some (.string t) := by rw [hlt]; exact ht
      have c6 : wr.cell? ⟨b, o + k * 7 + 6, none⟩ = some (.slice A n c) := by rw [hlt]; exact hn
      have j1 : (k : Int) < 1 := by omega
      have j1n : k < 1 := by omega
      have hwk : IntKind.i64.wrap ((k : Int) + 1) = (k : Int) + 1 := IntWalk.i64_in _ (by omega)
      have HL := Lib.hid hlt
      clear hall hlt hs ht hn
      by_cases g1 : 200 < s.size
      · have g1' : (200 : Int) < (s.size : Int) := by omega
        have HE : Hid (great28 s t n = true) := Lib.hid (by simp [great28, g1])
        clear g1
        go_wp2_with fail
        go_ret
        exact ⟨by rw [HE.out]; rfl, rfl⟩
      · have g1' : ¬ (200 : Int) < (s.size : Int) := by omega
        by_cases g2 : 200 < t.size
        · have g2' : (200 : Int) < (t.size : Int) := by omega
          have HE : Hid (great28 s t n = true) := Lib.hid (by simp [great28, g2])
          clear g1 g2
          go_wp2_with fail
          go_ret
          exact ⟨by rw [HE.out]; rfl, rfl⟩
        · have g2' : ¬ (200 : Int) < (t.size : Int) := by omega
          by_cases g3 : 200 < n
          · have g3' : (200 : Int) < (n : Int) := by omega
            have HE : Hid (great28 s t n = true) := Lib.hid (by simp [great28, g3])
            clear g1 g2 g3
            go_wp2_with fail
            go_ret
            exact ⟨by rw [HE.out]; rfl, rfl⟩
          · have g3' : ¬ (200 : Int) < (n : Int) := by omega
            have HE : Hid (great28 s t n = false) := Lib.hid (by simp [great28, g1, g2, g3])
            clear g1 g2 g3
            go_wp2_with fail
            go_roundw
            case rel => exact ⟨k + 1, by omega, by simp, trivial, fun _ => HE.out⟩
            case measure => simp [intOf]; omega
    · have HE : Hid (great28 s t n = false) := Lib.hid (hall (by omega))
      have j1 : ¬ ((k : Int) < 1) := by omega
      clear hall hs ht hn hk hlt
      go_wp2_with fail
      go_ret
      exact ⟨by rw [HE.out]; rfl, rfl⟩
end Go.Proofs.YtdfgmieinbmfkaaGreat
