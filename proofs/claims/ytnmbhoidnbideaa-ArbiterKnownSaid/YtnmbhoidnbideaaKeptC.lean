/-
  What a slot's parts hold.
-/
import Derived.Test.YtnmbhoidnbideaaKeptB
import Derived.ChangeKeysEq
namespace Go.Proofs.Ytnmbhoidnbideaa
open Go Go.RowKit

def textL (l : List Pt) : List UInt8 := l.flatMap Pt.text
def firstAll (l : List Pt) : Nat := (l.head?.map Pt.all).getD 0
def firstGen (l : List Pt) : Nat := (l.head?.map Pt.gen).getD 0
/-- What a slot's parts hold. -/
def holdL (l : List Pt) : List UInt8 × Nat :=
  if firstGen l = 0 then ([], 0) else
  if 400 < (textL (l.take (firstAll l))).length then ([], 0) else
  if cutL (textL (l.take (firstAll l))) (firstGen l) = l.take (allOf (textL (l.take (firstAll l))).length) then (textL (l.take (firstAll l)), firstGen l) else ([], 0)

theorem partsV_get (l : List Pt) (i : Nat) (hi : i < l.length) (j : Nat) (hj : j < 4) : (partsV l)[i * 4 + j]? = (Pt.cells l[i])[j]? := by
  induction l generalizing i with
  | nil => simp at hi
  | cons p l ih =>
    cases i with
    | zero =>
      simp only [partsV, List.flatMap_cons]
      rw [List.getElem?_append_left (by simp [Pt.cells]; omega)]
      simp
    | succ i =>
      simp only [partsV, List.flatMap_cons]
      rw [List.getElem?_append_right (by simp [Pt.cells]; omega)]
      have e : (i + 1) * 4 + j - (Pt.cells p).length = i * 4 + j := by simp [Pt.cells]; omega
      rw [e]
      have := ih i (by simpa using hi)
      simpa [partsV] using this

theorem textL_len (l : List Pt) (ht : ∀ p ∈ l, p.text.length ≤ 48) : (textL l).length ≤ 48 * l.length := by
  induction l with
  | nil => simp [textL]
  | cons p l ih =>
    have h1 := ih fun q hq => ht q (by simp [hq])
    have h2 := ht p (by simp)
    simp only [textL, List.flatMap_cons, List.length_append, List.length_cons] at h1 ⊢
    omega
theorem textL_take_succ (l : List Pt) (k : Nat) (hk : k < l.length) : textL (l.take (k + 1)) = textL (l.take k) ++ l[k].text := by
  rw [List.take_succ_eq_append_getElem hk, textL, List.flatMap_append]
  simp [textL]

theorem str_beq (a b : List UInt8) : ((str a).toList == (str b).toList) = decide (a = b) := by
  rw [ByteArray.toList_eq, ByteArray.toList_eq]
  simp only [str]
  by_cases h : a = b <;> simp [h]
theorem fields_part : (Try.prog.fieldsOf 81).toList.map (fun f => (f.name == "_", f.type, f.offset)) = [(false, 52, 0), (false, 3, 1), (false, 3, 2), (false, 9, 3)] := by kernel_rfl
theorem part_neq (p q : Pt) (W : World) : (binOp .neq 81 p.val q.val).run Try.prog W = .ok (.bool (!decide (p = q))) W := by
  rw [Pt.val, Pt.val, run_neq_struct, run_equalIn_agg _ _ _ _ _ (by kernel_rfl) (by kernel_rfl)]
  have hf := fields_part
  generalize (Try.prog.fieldsOf 81).toList = fs at hf
  obtain ⟨f0, f1, f2, f3, rfl⟩ : ∃ f0 f1 f2 f3, fs = [f0, f1, f2, f3] := by
    have hl := congrArg List.length hf
    match fs, hl with
    | [a, b, c, d], _ => exact ⟨a, b, c, d, rfl⟩
  simp only [List.map_cons, List.map_nil, List.cons.injEq, Prod.mk.injEq, beq_eq_false_iff_ne, and_true] at hf
  obtain ⟨⟨a0, b0, c0⟩, ⟨a1, b1, c1⟩, ⟨a2, b2, c2⟩, ⟨a3, b3, c3⟩⟩ := hf
  obtain ⟨g1, n1, l1, t1⟩ := p
  obtain ⟨g2, n2, l2, t2⟩ := q
  have hq (n m : Nat) : ((n : Int) == (m : Int)) = decide (n = m) := by
    by_cases h : n = m
    · simp [h]
    · rw [decide_eq_false h, beq_eq_false_iff_ne]; omega
  have e1 (x y : Int) (W : World) : (Op.equalIn 9999 52 (.int .u64 x) (.int .u64 y)).run Try.prog W = .ok (x == y) W := run_equalIn_int W 9998 52 .u64 .u64 x y Try.underlying52
  have e2 (x y : Int) (W : World) : (Op.equalIn 9999 3 (.int .i64 x) (.int .i64 y)).run Try.prog W = .ok (x == y) W := run_equalIn_int W 9998 3 .i64 .i64 x y Try.underlying3
  have e3 (x y : ByteArray) (W : World) : (Op.equalIn 9999 9 (.string x) (.string y)).run Try.prog W = .ok (x.toList == y.toList) W := run_equalIn_string W 9998 9 x y Try.underlying9
  have q1 (k : Nat) (xs : Array Value) (v : Value) (W : World) (h : xs[k]? = some v) : (part 52 xs k).run Try.prog W = .ok v W := run_part_plain (w := W) (by kernel_rfl) h
  have q2 (k : Nat) (xs : Array Value) (v : Value) (W : World) (h : xs[k]? = some v) : (part 3 xs k).run Try.prog W = .ok v W := run_part_plain (w := W) (by kernel_rfl) h
  have q3 (k : Nat) (xs : Array Value) (v : Value) (W : World) (h : xs[k]? = some v) : (part 9 xs k).run Try.prog W = .ok v W := run_part_plain (w := W) (by kernel_rfl) h
  simp only [Op.eqFields, a0, a1, a2, a3, b0, b1, b2, b3, c0, c1, c2, c3, Sem.run_bind, ne_eq, not_false_eq_true, if_true]
  rw [q1 0 _ (.int .u64 g1) _ rfl, Result.andThen_ok, q1 0 _ (.int .u64 g2) _ rfl, Result.andThen_ok, e1, Result.andThen_ok, hq]
  by_cases h0 : g1 = g2
  · rw [decide_eq_true h0]
    simp only [Bool.not_true, Bool.false_eq_true, if_false, Sem.run_bind]
    rw [q2 1 _ (.int .i64 n1) _ rfl, Result.andThen_ok, q2 1 _ (.int .i64 n2) _ rfl, Result.andThen_ok, e2, Result.andThen_ok, hq]
    by_cases h1 : n1 = n2
    · rw [decide_eq_true h1]
      simp only [Bool.not_true, Bool.false_eq_true, if_false, Sem.run_bind]
      rw [q2 2 _ (.int .i64 l1) _ rfl, Result.andThen_ok, q2 2 _ (.int .i64 l2) _ rfl, Result.andThen_ok, e2, Result.andThen_ok, hq]
      by_cases h2 : l1 = l2
      · rw [decide_eq_true h2]
        simp only [Bool.not_true, Bool.false_eq_true, if_false, Sem.run_bind]
        rw [q3 3 _ (.string (str t1)) _ rfl, Result.andThen_ok, q3 3 _ (.string (str t2)) _ rfl, Result.andThen_ok, e3, Result.andThen_ok, str_beq]
        by_cases h3 : t1 = t2 <;> simp [h0, h1, h2, h3]
      · simp [h2]
    · simp [h1]
  · simp [h0]
theorem part_one (p : Pt) : (#[Value.int .u64 (p.gen : Int), .int .i64 (p.number : Int), .int .i64 (p.all : Int), .string (str p.text)]).all (·.oneCell') = true := by simp [Value.oneCell']
theorem below_drew' {n : Nat} {w w' : World} (h : Below n w w') : Below n w w'.drew := h.trans (Below.drew (Below.refl _ _))
theorem held_one (t : ByteArray) (n : Int) : (#[Value.string t, .int .u64 n]).all (·.oneCell') = true := by simp [Value.oneCell']

set_option maxRecDepth 100000 in
set_option maxHeartbeats 800000 in
theorem hold_c (v : Value) (l : List Pt) (w : World) (hO : Own w 81 4 v l.length (partsV l)) (hl : l.length ≤ 1000) (ht : ∀ p ∈ l, p.text.length ≤ 48) (ha : ∀ p ∈ l, p.all < 256) :
    Calls Try.prog 31 #[v] w fun e w' => e = .returned (.agg #[.string (str (holdL l).1), .int .u64 ((holdL l).2 : Int)]) ∧ Below w.heap.size w w' := by
  by_cases hn : l.length = 0
  · obtain ⟨A, c, hv, _⟩ := hO.shape
    have hl0 : l = [] := List.length_eq_zero_iff.1 hn
    subst hl0
    simp only [List.length_nil] at hv
    subst hv
    clear hO hn
    have hr : holdL [] = ([], 0) := rfl
    rw [hr]
    go_enter Try.func31, Try.ntmps31
    go_wp2
    exact bodyPost_ret (results_cell_row rfl _ _ w.heap.size _ _ _ _ rfl ((Blk.new w _ _).alloc _) Try.underlying72 rfl rfl) rfl ⟨rfl, ((Below.refl _ w).alloc (Nat.le_refl _) _).alloc (by simp) _⟩
  · obtain ⟨g, cap, rfl, _, _⟩ := hO.head (by omega)
    have h0 : 0 < l.length := by omega
    have hOw := (hO.alloc (.cells #[.string ⟨#[]⟩, .int .u64 0] 72)).alloc (.cells #[.string ⟨#[]⟩, .int .u64 0] 72)
    have hcell : ∀ (i j : Nat) (hi : i < l.length) (hj : j < 4), ((w.alloc (.cells #[.string ⟨#[]⟩, .int .u64 0] 72)).alloc (.cells #[.string ⟨#[]⟩, .int .u64 0] 72)).cell? ⟨g, i * 4 + j, none⟩ = (Pt.cells l[i])[j]? := by
      intro i j hi hj
      rw [hOw.cellAt (i * 4 + j) (by omega), partsV_get l i hi j hj]
    have hg0 := hcell 0 0 h0 (by omega)
    have ha0 := hcell 0 2 h0 (by omega)
    simp only [Nat.zero_mul, Nat.zero_add, Pt.cells, List.getElem?_cons_zero, List.getElem?_cons_succ] at hg0 ha0
    have hlt0 : (0 : Int) < (l.length : Int) := by omega
    have hne0 : ((l.length : Int) == 0) = false := by rw [beq_eq_false_iff_ne]; omega
    have HC := Lib.hid hcell
    have HOw := Lib.hid hOw
    clear hcell hOw hO
    by_cases hz : l[0].gen = 0
    · have hr : holdL l = ([], 0) := by
        have e : firstGen l = l[0].gen := by cases l with | nil => simp at h0 | cons p l => rfl
        simp [holdL, e, hz]
      rw [hr]
      rw [hz] at hg0
      go_enter Try.func31, Try.ntmps31
      go_wp2
      exact bodyPost_ret (results_cell_row rfl _ _ w.heap.size _ _ _ _ rfl ((Blk.new w _ _).alloc _) Try.underlying72 rfl rfl) rfl ⟨rfl, ((Below.refl _ w).alloc (Nat.le_refl _) _).alloc (by simp) _⟩
    · have hz' : ((l[0].gen : Int) == 0) = false := by rw [beq_eq_false_iff_ne]; omega
      go_enter Try.func31, Try.ntmps31
      go_wp2
      have hBb : Blk ((w.alloc (.cells #[.string ⟨#[]⟩, .int .u64 0] 72)).alloc (.cells #[.string ⟨#[]⟩, .int .u64 0] 72)) (w.heap.size + 1) 72 #[.string ⟨#[]⟩, .int .u64 0] := by
        have h := Blk.new (w.alloc (.cells #[.string ⟨#[]⟩, .int .u64 0] 72)) 72 #[.string ⟨#[]⟩, .int .u64 0]
        simpa using h
      have hBa : Blk ((w.alloc (.cells #[.string ⟨#[]⟩, .int .u64 0] 72)).alloc (.cells #[.string ⟨#[]⟩, .int .u64 0] 72)) w.heap.size 72 #[.string ⟨#[]⟩, .int .u64 0] := (Blk.new w _ _).alloc _
      have hbw : Below w.heap.size w ((w.alloc (.cells #[.string ⟨#[]⟩, .int .u64 0] 72)).alloc (.cells #[.string ⟨#[]⟩, .int .u64 0] 72)) := ((Below.refl _ w).alloc (Nat.le_refl _) _).alloc (by simp) _
      have hsW : ((w.alloc (.cells #[.string ⟨#[]⟩, .int .u64 0] 72)).alloc (.cells #[.string ⟨#[]⟩, .int .u64 0] 72)).heap.size = w.heap.size + 2 := by simp
      have HB := Lib.hid (And.intro hBa (And.intro hBb (And.intro hbw hsW)))
      clear hBa hBb hbw hsW
      clear hg0 ha0
      generalize ((w.alloc (.cells #[.string ⟨#[]⟩, .int .u64 0] 72)).alloc (.cells #[.string ⟨#[]⟩, .int .u64 0] 72)) = W at *
      have hmn : min (l[0].all : Int) (l.length : Int) = ((min l[0].all l.length : Nat) : Int) := by omega
      have HT := Lib.hid (textL_take_succ l)
      have HL : Hid (∀ k, k ≤ l.length → (textL (l.take k)).length ≤ 48 * k) := by
        intro k hk
        have h := textL_len (l.take k) fun p hp => ht p (List.mem_of_mem_take hp)
        rw [List.length_take, Nat.min_eq_left hk] at h
        exact h
      have hmr := Nat.min_le_right l[0].all l.length
      go_loopw [4, 27] (fun t i wr => ∃ k : Nat, k ≤ min l[0].all l.length ∧ t = .string (str (textL (l.take k))) ∧ i = .int .i64 k ∧ wr = W) (fun _ i _ => min l[0].all l.length - (intOf i).toNat)
      case atStart => exact ⟨0, by omega, rfl, rfl, rfl⟩
      case round =>
        obtain ⟨k, hk, rfl, rfl, rfl⟩ := hrel
        by_cases hlt : k < min l[0].all l.length
        · have hkl : k < l.length := by omega
          have hc := HC.out k 3 hkl (by omega)
          simp only [Pt.cells, List.getElem?_cons_zero, List.getElem?_cons_succ] at hc
          have hs := Lib.hid (HL.out k (by omega))
          have hsk := HL.out k (by omega)
          have htk := ht l[k] (List.getElem_mem _)
          have hz1 : (str (textL (l.take k))).size ≤ 48 * k := by rw [str_size]; exact hsk
          have hz2 : (str l[k].text).size ≤ 48 := by rw [str_size]; exact htk
          have hcat := str_app (textL (l.take k)) l[k].text
          clear hsk htk
          go_wp2
          go_roundw
          case rel => exact ⟨k + 1, by omega, by rw [HT.out k hkl], by go_num, trivial⟩
          case measure => simp [intOf]; omega
        · obtain rfl : k = min l[0].all l.length := by omega
          have htl : l.take (min l[0].all l.length) = l.take (firstAll l) := by
            have e : firstAll l = l[0].all := by cases l with | nil => simp at h0 | cons p l => rfl
            rw [e]
            by_cases h : l[0].all ≤ l.length
            · rw [Nat.min_eq_left h]
            · rw [Nat.min_eq_right (by omega), List.take_of_length_le (Nat.le_refl _), List.take_of_length_le (by omega)]
          have hfg : firstGen l = l[0].gen := by cases l with | nil => simp at h0 | cons p l => rfl
          have hTl : (textL (l.take (firstAll l))).length ≤ 48 * l.length := by
            rw [← htl]
            have h := HL.out (min l[0].all l.length) hmr
            omega
          rw [htl]
          have HH : Hid (holdL l = if 400 < (textL (l.take (firstAll l))).length then ([], 0) else
              if cutL (textL (l.take (firstAll l))) (firstGen l) = l.take (allOf (textL (l.take (firstAll l))).length) then (textL (l.take (firstAll l)), firstGen l) else ([], 0)) := by
            show _ = _
            rw [holdL, if_neg (by rw [hfg]; exact hz)]
          generalize textL (l.take (firstAll l)) = T at HH hTl ⊢
          have hTs : (str T).size = T.length := str_size T
          by_cases h4 : 400 < T.length
          · have h4' : (400 : Int) < (str T).size := by omega
            go_wp2_with (first | (refine wpList_load_all rfl _ _ rfl (w.heap.size + 1) rfl _ _ _ HB.out.2.1 Try.underlying72 rfl rfl ?_) | (refine wpList_store_all rfl 72 _ _ rfl w.heap.size #[.string ⟨#[]⟩, .int .u64 0] rfl rfl _ _ HB.out.1 rfl (held_one _ _) (by kernel_rfl) ?_; intro w2 hB2 hU2 hs2))
            refine bodyPost_ret (results_cell_row rfl _ _ w.heap.size _ _ _ _ rfl hB2 Try.underlying72 rfl rfl) rfl ⟨?_, HB.out.2.2.1.trans ⟨hU2.os, hU2.tape, hU2.output, hU2.size, fun b hb => hU2.block b (Nat.lt_of_lt_of_le hb HB.out.2.2.1.size) (by omega)⟩⟩
            rw [HH.out, if_pos h4]
            rfl
          · have h4' : ¬ (400 : Int) < (str T).size := by omega
            rw [if_neg h4] at HH
            have HCut : Hid (∀ W, Calls Try.prog 32 #[.string (str T), .int .u64 (l[0].gen : Int)] W fun e w' => ∃ v, e = .returned v ∧ Own w' 81 4 v (allOf T.length) (partsV (cutL T l[0].gen)) ∧ Below W.heap.size W w' ∧ (∀ q, v.ownBlock = some q → W.heap.size ≤ q)) := by
              intro W
              have h := cut_c (str T) l[0].gen W (by omega)
              rw [hTs] at h
              have e : (str T).data.toList = T := by simp [str]
              rw [e] at h
              exact h
            have hg0 := HC.out 0 0 h0 (by omega)
            simp only [Nat.zero_mul, Nat.zero_add, Pt.cells, List.getElem?_cons_zero] at hg0
            have hb2l := HB.out.2.2.2
            have hA : allOf T.length ≤ 9 := by unfold allOf; omega
            have hA' : 1 ≤ allOf T.length := by unfold allOf; omega
            by_cases h5 : l.length < allOf T.length
            · have h5' : (l.length : Int) < (allOf T.length : Int) := by omega
              go_wp2_with (first
                | (go_at_call 32
                   refine (HCut.out _).mono ?_
                   rintro e w2 ⟨v2, rfl, hO2, hb2, hl2⟩
                   obtain ⟨g2, cap2, rfl, hx1, hx2⟩ := hO2.head (by omega)
                   have hBa := HB.out.1.eqb (hb2.block _ (by omega))
                   have hBb := HB.out.2.1.eqb (hb2.block _ (by omega))
                   have H2 := Lib.hid (And.intro hO2 (And.intro hb2 (And.intro hl2 (And.intro hBa hBb))))
                   clear hO2 hb2 hl2 hBa hBb)
                | (refine wpList_load_all rfl _ _ rfl (w.heap.size + 1) rfl _ _ _ H2.out.2.2.2.2 Try.underlying72 rfl rfl ?_)
                | (refine wpList_store_all rfl 72 _ _ rfl w.heap.size #[.string ⟨#[]⟩, .int .u64 0] rfl rfl _ _ H2.out.2.2.2.1 rfl (held_one _ _) (by kernel_rfl) ?_
                   intro w3 hB3 hU3 hs3))
              refine bodyPost_ret (results_cell_row rfl _ _ w.heap.size _ _ _ _ rfl hB3 Try.underlying72 rfl rfl) rfl ⟨?_, ?_⟩
              · rw [HH.out, if_neg]
                · rfl
                · intro h
                  have h := congrArg List.length h
                  rw [cutL_len, List.length_take] at h
                  omega
              · have hb2 := H2.out.2.1
                rw [hb2l] at hb2
                have hb := HB.out.2.2.1.trans (hb2.mono (by omega))
                exact hb.trans ⟨hU3.os, hU3.tape, hU3.output, hU3.size, fun b hbl => hU3.block b (Nat.lt_of_lt_of_le hbl hb.size) (by omega)⟩
            · have h5' : ¬ (l.length : Int) < (allOf T.length : Int) := by omega
              go_wp2_with (first
                | (go_at_call 32
                   refine (HCut.out _).mono ?_
                   rintro e w2 ⟨v2, rfl, hO2, hb2, hl2⟩
                   obtain ⟨g2, cap2, rfl, hx1, hx2⟩ := hO2.head (by omega)
                   have hBa := HB.out.1.eqb (hb2.block _ (by omega))
                   have hBb := HB.out.2.1.eqb (hb2.block _ (by omega))
                   have H2 := Lib.hid (And.intro hO2 (And.intro hb2 (And.intro hl2 (And.intro hBa hBb))))
                   clear hO2 hb2 hl2 hBa hBb))
              have hCl := cutL_len T l[0].gen
              generalize hCd : cutL T l[0].gen = C at *
              go_loopw [56] (fun i wx => ∃ k : Nat, k ≤ allOf T.length ∧ i = .int .i64 k ∧ Below w2.heap.size w2 wx ∧ C.take k = l.take k) (fun i _ => allOf T.length - (intOf i).toNat)
              case atStart => exact ⟨0, by omega, rfl, Below.refl _ _, rfl⟩
              case round =>
                obtain ⟨k, hk2, rfl, hbx, heq⟩ := hrel
                by_cases hlt2 : k < allOf T.length
                · have hkl : k < l.length := by omega
                  have hkC : k < C.length := by omega
                  have hc0 : ∀ j, j < 4 → wr.cell? ⟨g2, k * 4 + j, none⟩ = (Pt.cells C[k])[j]? := by
                    intro j hj
                    have hO2 := (H2.out.1).eqb (w' := wr) fun q hq => hbx.block q (H2.out.1.lt hq)
                    rw [hO2.cellAt (k * 4 + j) (by omega), partsV_get C k hkC j hj]
                  have hd0 := hc0 0 (by omega)
                  have hd1 := hc0 1 (by omega)
                  have hd2 := hc0 2 (by omega)
                  have hd3 := hc0 3 (by omega)
                  simp only [Nat.add_zero, Pt.cells, List.getElem?_cons_zero, List.getElem?_cons_succ] at hd0 hd1 hd2 hd3
                  clear hc0
                  have hbW := hb2l
                  have HX := Lib.hid (And.intro hbx (And.intro heq hkC))
                  clear hbx heq
                  have hpd := part_neq l[k] C[k]
                  simp only [Pt.val] at hpd
                  by_cases hpq : l[k] = C[k]
                  · rw [decide_eq_true hpq] at hpd
                    simp only [Bool.not_true] at hpd
                    go_wp2_with (first
                      | (refine wpList_store_all rfl 81 _ _ rfl wr.heap.size #[.int .u64 C[k].gen, .int .i64 C[k].number, .int .i64 C[k].all, .string (str C[k].text)] rfl rfl _ _ (Blk.new wr 81 #[.int .u64 0, .int .i64 0, .int .i64 0, .string ⟨#[]⟩]) rfl (part_one _) (by kernel_rfl) ?_
                         intro w3 hB3 hU3 hs3
                         have hc3 := hB3.cells4
                         have hUx : Below wr.heap.size wr w3 := ⟨hU3.os, hU3.tape, hU3.output, by simp at hs3; omega, fun q hq => (hU3.block q (by simp; omega) (by omega)).trans (Below.heap_alloc wr _ q hq)⟩
                         have hbZ : Below w2.heap.size w2 w3 := HX.out.1.trans (hUx.mono HX.out.1.size)
                         have hbY := HB.out.2.2.1.size
                         have hp0 : ∀ j, j < 4 → w3.cell? ⟨g, k * 4 + j, none⟩ = (Pt.cells l[k])[j]? := by
                           intro j hj
                           have hgl := HOw.out.lt (k := g) (by simp [Value.ownBlock])
                           rw [← HC.out k j hkl hj, hbZ.cell (p := ⟨g, k * 4 + j, none⟩) (Nat.lt_of_lt_of_le hgl H2.out.2.1.size), H2.out.2.1.cell (p := ⟨g, k * 4 + j, none⟩) hgl]
                         have hp4 := hp0 0 (by omega)
                         have hp1 := hp0 1 (by omega)
                         have hp2 := hp0 2 (by omega)
                         have hp3 := hp0 3 (by omega)
                         simp only [Nat.add_zero, Pt.cells, List.getElem?_cons_zero, List.getElem?_cons_succ] at hp4 hp1 hp2 hp3
                         have H3 := Lib.hid (And.intro hbZ hB3)
                         clear hp0 hbZ hbY hUx hU3 hs3 hB3 hd0 hd1 hd2 hd3))
                    go_region
                    all_goals
                      go_wp2
                      go_roundw
                      case rel =>
                        refine ⟨k + 1, by omega, by go_num, below_drew' H3.out.1, ?_⟩
                        rw [List.take_succ_eq_append_getElem hkC, List.take_succ_eq_append_getElem hkl, HX.out.2.1, hpq]
                      case measure => simp [intOf]; omega
                  · rw [decide_eq_false hpq] at hpd
                    simp only [Bool.not_false] at hpd
                    go_wp2_with (first
                      | (refine wpList_store_all rfl 81 _ _ rfl wr.heap.size #[.int .u64 C[k].gen, .int .i64 C[k].number, .int .i64 C[k].all, .string (str C[k].text)] rfl rfl _ _ (Blk.new wr 81 #[.int .u64 0, .int .i64 0, .int .i64 0, .string ⟨#[]⟩]) rfl (part_one _) (by kernel_rfl) ?_
                         intro w3 hB3 hU3 hs3
                         have hc3 := hB3.cells4
                         have hUx : Below wr.heap.size wr w3 := ⟨hU3.os, hU3.tape, hU3.output, by simp at hs3; omega, fun q hq => (hU3.block q (by simp; omega) (by omega)).trans (Below.heap_alloc wr _ q hq)⟩
                         have hbZ : Below w2.heap.size w2 w3 := HX.out.1.trans (hUx.mono HX.out.1.size)
                         have hbY := HB.out.2.2.1.size
                         have hp0 : ∀ j, j < 4 → w3.cell? ⟨g, k * 4 + j, none⟩ = (Pt.cells l[k])[j]? := by
                           intro j hj
                           have hgl := HOw.out.lt (k := g) (by simp [Value.ownBlock])
                           rw [← HC.out k j hkl hj, hbZ.cell (p := ⟨g, k * 4 + j, none⟩) (Nat.lt_of_lt_of_le hgl H2.out.2.1.size), H2.out.2.1.cell (p := ⟨g, k * 4 + j, none⟩) hgl]
                         have hp4 := hp0 0 (by omega)
                         have hp1 := hp0 1 (by omega)
                         have hp2 := hp0 2 (by omega)
                         have hp3 := hp0 3 (by omega)
                         simp only [Nat.add_zero, Pt.cells, List.getElem?_cons_zero, List.getElem?_cons_succ] at hp4 hp1 hp2 hp3
                         have H3 := Lib.hid (And.intro hbZ hB3)
                         clear hp0 hbZ hbY hUx hU3 hs3 hB3 hd0 hd1 hd2 hd3))
                    go_region
                    all_goals
                      have hB4 : Blk w3.drew (w.heap.size + 1) 72 #[.string ⟨#[]⟩, .int .u64 0] := (H2.out.2.2.2.2).eqb (H3.out.1.block _ H2.out.2.2.2.2.lt)
                      have hB5 : Blk w3.drew w.heap.size 72 #[.string ⟨#[]⟩, .int .u64 0] := (H2.out.2.2.2.1).eqb (H3.out.1.block _ H2.out.2.2.2.1.lt)
                      have H5 := Lib.hid (And.intro hB4 hB5)
                      clear hB4 hB5
                      go_wp2_with (first
                        | (refine wpList_load_all rfl _ _ rfl (w.heap.size + 1) rfl _ _ _ H5.out.1 Try.underlying72 rfl rfl ?_)
                        | (refine wpList_store_all rfl 72 _ _ rfl w.heap.size #[.string ⟨#[]⟩, .int .u64 0] rfl rfl _ _ H5.out.2 rfl (held_one _ _) (by kernel_rfl) ?_
                           intro w6 hB6 hU6 hs6))
                      refine bodyPost_ret (results_cell_row rfl _ _ w.heap.size _ _ _ _ rfl hB6 Try.underlying72 rfl rfl) rfl ⟨?_, ?_⟩
                      · rw [HH.out, if_neg]
                        · rfl
                        · intro h
                          apply hpq
                          have hh := congrArg (fun x => x[k]?) h
                          rw [hfg] at hh
                          simp only [hCd] at hh
                          rw [List.getElem?_take_of_lt hlt2, List.getElem?_eq_getElem hkC, List.getElem?_eq_getElem hkl] at hh
                          exact (Option.some.inj hh).symm
                      · have hb2 := H2.out.2.1
                        rw [hb2l] at hb2
                        have hb := (HB.out.2.2.1.trans (hb2.mono (by omega))).trans ((below_drew' (H3.out.1)).mono (Nat.le_trans (HB.out.2.2.1.size) (H2.out.2.1.size)))
                        exact hb.trans ⟨hU6.os, hU6.tape, hU6.output, hU6.size, fun b hbl => hU6.block b (Nat.lt_of_lt_of_le hbl hb.size) (by omega)⟩
                · obtain rfl : k = allOf T.length := by omega
                  have HX := Lib.hid (And.intro hbx heq)
                  clear hbx heq
                  have hg1 : wr.cell? ⟨g, 0, none⟩ = some (.int .u64 (l[0].gen : Int)) := by
                    have hgl := HOw.out.lt (k := g) (by simp [Value.ownBlock])
                    have hbY := HB.out.2.2.1.size
                    rw [HX.out.1.cell (p := ⟨g, 0, none⟩) (Nat.lt_of_lt_of_le hgl H2.out.2.1.size), H2.out.2.1.cell (p := ⟨g, 0, none⟩) hgl]
                    exact hg0
                  have hB5 : Blk wr w.heap.size 72 #[.string ⟨#[]⟩, .int .u64 0] := (H2.out.2.2.2.1).eqb (HX.out.1.block _ H2.out.2.2.2.1.lt)
                  have H5 := Lib.hid hB5
                  clear hB5 hg0
                  go_wp2_with (first
                    | (refine wpList_store_all rfl 72 _ _ rfl w.heap.size #[.string (str T), .int .u64 l[0].gen] rfl rfl _ _ H5.out rfl (held_one _ _) (by kernel_rfl) ?_
                       intro w6 hB6 hU6 hs6))
                  refine bodyPost_ret (results_cell_row rfl _ _ w.heap.size _ _ _ _ rfl hB6 Try.underlying72 rfl rfl) rfl ⟨?_, ?_⟩
                  · rw [HH.out, if_pos, hfg]
                    rw [hfg, hCd, ← HX.out.2, List.take_of_length_le (by omega)]
                  · have hb2 := H2.out.2.1
                    rw [hb2l] at hb2
                    have hb := (HB.out.2.2.1.trans (hb2.mono (by omega))).trans (HX.out.1.mono (Nat.le_trans (HB.out.2.2.1.size) (H2.out.2.1.size)))
                    exact hb.trans ⟨hU6.os, hU6.tape, hU6.output, hU6.size, fun b hbl => hU6.block b (Nat.lt_of_lt_of_le hbl hb.size) (by omega)⟩
end Go.Proofs.Ytnmbhoidnbideaa
