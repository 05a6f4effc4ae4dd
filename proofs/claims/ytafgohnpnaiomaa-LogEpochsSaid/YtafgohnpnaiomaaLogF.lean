/-
  Parts compared: slices.Equal.
-/
import Derived.Test.YtafgohnpnaiomaaKeptC
import Derived.Test.YtafgohnpnaiomaaLogB
namespace Go.Proofs.Ytafgohnpnaiomaa
open Go Go.RowKit

theorem fields_lp : (Try.prog.fieldsOf 135).toList.map (fun f => (f.name == "_", f.type, f.offset)) = [(false, 53, 0), (false, 53, 1), (false, 53, 2), (false, 3, 3), (false, 3, 4), (false, 9, 5)] := by kernel_rfl
theorem lp_neq (p q : Lp) (W : World) : (binOp .neq 135 p.val q.val).run Try.prog W = .ok (.bool (!decide (p = q))) W := by
  rw [Lp.val, Lp.val, run_neq_struct, run_equalIn_agg _ _ _ _ _ (by kernel_rfl) (by kernel_rfl)]
  have hf := fields_lp
  generalize (Try.prog.fieldsOf 135).toList = fs at hf
  obtain ⟨f0, f1, f2, f3, f4, f5, rfl⟩ : ∃ f0 f1 f2 f3 f4 f5, fs = [f0, f1, f2, f3, f4, f5] := by
    have hl := congrArg List.length hf
    match fs, hl with
    | [a, b, c, d, e, f], _ => exact ⟨a, b, c, d, e, f, rfl⟩
  simp only [List.map_cons, List.map_nil, List.cons.injEq, Prod.mk.injEq, beq_eq_false_iff_ne, and_true] at hf
  obtain ⟨⟨a0, b0, c0⟩, ⟨a1, b1, c1⟩, ⟨a2, b2, c2⟩, ⟨a3, b3, c3⟩, ⟨a4, b4, c4⟩, ⟨a5, b5, c5⟩⟩ := hf
  obtain ⟨x0, x1, x2, x3, x4, t1⟩ := p
  obtain ⟨y0, y1, y2, y3, y4, t2⟩ := q
  have hq (n m : Nat) : ((n : Int) == (m : Int)) = decide (n = m) := by
    by_cases h : n = m
    · simp [h]
    · rw [decide_eq_false h, beq_eq_false_iff_ne]; omega
  have e1 (x y : Int) (W : World) : (Op.equalIn 9999 53 (.int .u64 x) (.int .u64 y)).run Try.prog W = .ok (x == y) W := run_equalIn_int W 9998 53 .u64 .u64 x y Try.underlying53
  have e2 (x y : Int) (W : World) : (Op.equalIn 9999 3 (.int .i64 x) (.int .i64 y)).run Try.prog W = .ok (x == y) W := run_equalIn_int W 9998 3 .i64 .i64 x y Try.underlying3
  have e3 (x y : ByteArray) (W : World) : (Op.equalIn 9999 9 (.string x) (.string y)).run Try.prog W = .ok (x.toList == y.toList) W := run_equalIn_string W 9998 9 x y Try.underlying9
  have q1 (k : Nat) (xs : Array Value) (v : Value) (W : World) (h : xs[k]? = some v) : (part 53 xs k).run Try.prog W = .ok v W := run_part_plain (w := W) (by kernel_rfl) h
  have q2 (k : Nat) (xs : Array Value) (v : Value) (W : World) (h : xs[k]? = some v) : (part 3 xs k).run Try.prog W = .ok v W := run_part_plain (w := W) (by kernel_rfl) h
  have q3 (k : Nat) (xs : Array Value) (v : Value) (W : World) (h : xs[k]? = some v) : (part 9 xs k).run Try.prog W = .ok v W := run_part_plain (w := W) (by kernel_rfl) h
  simp only [Op.eqFields, a0, a1, a2, a3, a4, a5, b0, b1, b2, b3, b4, b5, c0, c1, c2, c3, c4, c5, Sem.run_bind, ne_eq, not_false_eq_true, if_true]
  rw [q1 0 _ (.int .u64 x0) _ rfl, Result.andThen_ok, q1 0 _ (.int .u64 y0) _ rfl, Result.andThen_ok, e1, Result.andThen_ok, hq]
  by_cases h0 : x0 = y0
  · rw [decide_eq_true h0]
    simp only [Bool.not_true, Bool.false_eq_true, if_false, Sem.run_bind]
    rw [q1 1 _ (.int .u64 x1) _ rfl, Result.andThen_ok, q1 1 _ (.int .u64 y1) _ rfl, Result.andThen_ok, e1, Result.andThen_ok, hq]
    by_cases h1 : x1 = y1
    · rw [decide_eq_true h1]
      simp only [Bool.not_true, Bool.false_eq_true, if_false, Sem.run_bind]
      rw [q1 2 _ (.int .u64 x2) _ rfl, Result.andThen_ok, q1 2 _ (.int .u64 y2) _ rfl, Result.andThen_ok, e1, Result.andThen_ok, hq]
      by_cases h2 : x2 = y2
      · rw [decide_eq_true h2]
        simp only [Bool.not_true, Bool.false_eq_true, if_false, Sem.run_bind]
        rw [q2 3 _ (.int .i64 x3) _ rfl, Result.andThen_ok, q2 3 _ (.int .i64 y3) _ rfl, Result.andThen_ok, e2, Result.andThen_ok, hq]
        by_cases h3 : x3 = y3
        · rw [decide_eq_true h3]
          simp only [Bool.not_true, Bool.false_eq_true, if_false, Sem.run_bind]
          rw [q2 4 _ (.int .i64 x4) _ rfl, Result.andThen_ok, q2 4 _ (.int .i64 y4) _ rfl, Result.andThen_ok, e2, Result.andThen_ok, hq]
          by_cases h4 : x4 = y4
          · rw [decide_eq_true h4]
            simp only [Bool.not_true, Bool.false_eq_true, if_false, Sem.run_bind]
            rw [q3 5 _ (.string (str t1)) _ rfl, Result.andThen_ok, q3 5 _ (.string (str t2)) _ rfl, Result.andThen_ok, e3, Result.andThen_ok, str_beq]
            by_cases h5 : t1 = t2 <;> simp [h0, h1, h2, h3, h4, h5]
          · simp [h4]
        · simp [h3]
      · simp [h2]
    · simp [h1]
  · simp [h0]

theorem partsG_get (l : List Lp) (i : Nat) (hi : i < l.length) (j : Nat) (hj : j < 6) : (partsG l)[i * 6 + j]? = (Lp.cells l[i])[j]? := by
  induction l generalizing i with
  | nil => simp at hi
  | cons p l ih =>
    have hp : (Lp.cells p).length = 6 := rfl
    have e : partsG (p :: l) = Lp.cells p ++ partsG l := rfl
    rw [e]
    cases i with
    | zero => rw [List.getElem?_append_left (by omega)]; simp
    | succ i =>
      rw [List.getElem?_append_right (by omega), hp, show (i + 1) * 6 + j - 6 = i * 6 + j by omega, ih i (by simpa using hi)]
      rfl
/-- A slice of parts, wherever in its array it begins. -/
structure PartsAt (w : World) (v : Value) (l : List Lp) : Prop where
  ex : ∃ A cap b off, v = .slice A l.length cap ∧ l.length ≤ cap ∧ cap ≤ maxLen ∧ (0 < l.length → A = some ⟨b, off, none⟩ ∧ b < w.heap.size) ∧ ∀ i (_ : i < l.length) (j : Nat), j < 6 → w.cell? ⟨b, off + i * 6 + j, none⟩ = (Lp.cells l[i])[j]?
theorem PartsAt.of_own {w : World} {v : Value} {l : List Lp} (h : Own w 135 6 v l.length (partsG l)) : PartsAt w v l := by
  by_cases h0 : l.length = 0
  · obtain ⟨A, cap, e, h1, h2⟩ := h.shape
    exact ⟨A, cap, 0, 0, e, h1, h2, fun h => by omega, fun i hi => by omega⟩
  · obtain ⟨g, cap, rfl, h1, h2⟩ := h.head (by omega)
    refine ⟨_, cap, g, 0, rfl, h1, h2, fun _ => ⟨rfl, h.lt rfl⟩, fun i hi j hj => ?_⟩
    rw [Nat.zero_add, h.cellAt (i * 6 + j) (by omega), partsG_get l i hi j hj]
theorem PartsAt.eqb {w w' : World} {v : Value} {l : List Lp} (h : PartsAt w v l) (hs : w.heap.size ≤ w'.heap.size) (hb : ∀ A n cap b off, v = .slice (some ⟨b, off, none⟩) n cap → A = b → w'.heap[b]? = w.heap[b]?) : PartsAt w' v l := by
  obtain ⟨A, cap, b, off, e, h1, h2, h3, h4⟩ := h.ex
  refine ⟨A, cap, b, off, e, h1, h2, fun h0 => ⟨(h3 h0).1, Nat.lt_of_lt_of_le (h3 h0).2 hs⟩, fun i hi j hj => ?_⟩
  have h5 := (h3 (by omega)).1
  subst h5
  rw [World.cell?_of_block (w := w) (a := ⟨b, off + i * 6 + j, none⟩) (hb b _ cap b off e rfl)]
  exact h4 i hi j hj
theorem PartsAt.still {w w' : World} {v : Value} {l : List Lp} (h : PartsAt w v l) (hu : Upd (fun _ => False) w w') : PartsAt w' v l := by
  obtain ⟨A, cap, b, off, e, h1, h2, h3, h4⟩ := h.ex
  refine ⟨A, cap, b, off, e, h1, h2, fun h0 => ⟨(h3 h0).1, Nat.lt_of_lt_of_le (h3 h0).2 hu.size⟩, fun i hi j hj => ?_⟩
  have h5 := (h3 (by omega)).2
  rw [World.cell?_of_block (w := w) (a := ⟨b, off + i * 6 + j, none⟩) (hu.block b h5 (fun e => e))]
  exact h4 i hi j hj
set_option maxRecDepth 100000 in
set_option maxHeartbeats 800000 in
theorem equal_parts {v1 v2 : Value} {l1 l2 : List Lp} (w : World) (h1 : PartsAt w v1 l1) (h2 : PartsAt w v2 l2) :
    Calls Try.prog 120 #[v1, v2] w fun e w' => e = .returned (.bool (decide (l1 = l2))) ∧ Upd (fun _ => False) w w' := by
  have H1 := Lib.hid h1
  have H2 := Lib.hid h2
  obtain ⟨A1, cap1, b1, o1, rfl, m1, m2, a1, -⟩ := h1.ex
  obtain ⟨A2, cap2, b2, o2, rfl, n1, n2, a2, -⟩ := h2.ex
  have hm1 : l1.length ≤ 9223372036854775807 := by unfold maxLen at m2; omega
  have hm2 : l2.length ≤ 9223372036854775807 := by unfold maxLen at n2; omega
  clear h1 h2 a1 a2 m1 m2 n1 n2
  by_cases hl : l1.length = l2.length
  · have hl' : ((l1.length : Int) != (l2.length : Int)) = false := by rw [hl]; simp
    have HL := Lib.hid hl
    clear hl
    go_enter Try.func120, Try.ntmps120
    go_wp2_with fail
    go_loopw [13] (fun i wr => ∃ k : Nat, k ≤ l1.length ∧ i = .int .i64 k ∧ l1.take k = l2.take k ∧ Upd (fun _ => False) w wr) (fun i _ => l1.length - (intOf i).toNat)
    case atStart => exact ⟨0, by omega, rfl, rfl, Upd.refl _ _⟩
    case round =>
      obtain ⟨k, hk, rfl, heq, hu⟩ := hrel
      by_cases hlt : k < l1.length
      · have hlt2 : k < l2.length := by rw [← HL.out]; exact hlt
        obtain ⟨A1', cap1', b1', o1', e1, -, -, g1, c1⟩ := (H1.out.still hu).ex
        obtain ⟨A2', cap2', b2', o2', e2, -, -, g2, c2⟩ := (H2.out.still hu).ex
        injection e1 with e1a e1b e1c
        injection e2 with e2a e2b e2c
        subst e1a e2a e1c e2c
        obtain ⟨rfl, -⟩ := g1 (by omega)
        obtain ⟨rfl, -⟩ := g2 (by omega)
        have x0 := c1 k hlt 0 (by omega)
        have x1 := c1 k hlt 1 (by omega)
        have x2 := c1 k hlt 2 (by omega)
        have x3 := c1 k hlt 3 (by omega)
        have x4 := c1 k hlt 4 (by omega)
        have x5 := c1 k hlt 5 (by omega)
        have y0 := c2 k hlt2 0 (by omega)
        have y1 := c2 k hlt2 1 (by omega)
        have y2 := c2 k hlt2 2 (by omega)
        have y3 := c2 k hlt2 3 (by omega)
        have y4 := c2 k hlt2 4 (by omega)
        have y5 := c2 k hlt2 5 (by omega)
        simp only [Nat.add_zero, Lp.cells, List.getElem?_cons_zero, List.getElem?_cons_succ] at x0 x1 x2 x3 x4 x5 y0 y1 y2 y3 y4 y5
        have hne := lp_neq l1[k] l2[k]
        simp only [Lp.val] at hne
        have HX := Lib.hid (And.intro heq (And.intro hu hlt2))
        have hlt2' : (k : Int) < (l2.length : Int) := by omega
        clear c1 c2 g1 g2 e1b e2b heq hu
        by_cases hpq : l1[k] = l2[k]
        · rw [decide_eq_true hpq] at hne
          simp only [Bool.not_true] at hne
          have HP := Lib.hid hpq
          clear hpq
          go_wp2_with fail
          go_region
          all_goals
            go_wp2_with fail
            go_roundw
            case rel =>
              refine ⟨k + 1, by omega, by go_num, ?_, HX.out.2.1.drew⟩
              have z1 := HX.out.1
              have z2 := HP.out
              rw [List.take_succ_eq_append_getElem hlt, List.take_succ_eq_append_getElem hlt2, z1, z2]
            case measure => simp [intOf]; omega
        · rw [decide_eq_false hpq] at hne
          simp only [Bool.not_false] at hne
          have hd : decide (l1 = l2) = false := by
            rw [decide_eq_false_iff_not]
            intro e
            subst e
            exact hpq rfl
          have Hd := Lib.hid hd
          clear hpq hd
          go_wp2_with fail
          go_region
          all_goals
            go_wp2_with fail
            go_ret
            rw [Hd.out]
            exact ⟨rfl, HX.out.2.1.drew⟩
      · obtain rfl : k = l1.length := by omega
        have hd : decide (l1 = l2) = true := by
          rw [decide_eq_true_eq]
          rw [List.take_of_length_le (Nat.le_refl _), List.take_of_length_le (by rw [HL.out]; exact Nat.le_refl _)] at heq
          exact heq
        have Hd := Lib.hid hd
        have HU := Lib.hid hu
        clear hd heq hu
        go_wp2_with fail
        go_ret
        rw [Hd.out]
        exact ⟨rfl, HU.out⟩
  · have hl' : ((l1.length : Int) != (l2.length : Int)) = true := by rw [bne_iff_ne]; omega
    have hd : decide (l1 = l2) = false := by
      rw [decide_eq_false_iff_not]
      intro e
      subst e
      exact hl rfl
    rw [hd]
    clear hl hd
    go_enter Try.func120, Try.ntmps120
    go_wp2_with fail
    go_ret
    exact ⟨rfl, Upd.refl _ _⟩
end Go.Proofs.Ytafgohnpnaiomaa
