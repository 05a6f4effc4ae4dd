/-
  A log's parts: their sectors.
-/
import Derived.Test.YtpfbgmfkeofefaaGreatLogPart
import Derived.Deep.RegionHeld3
import Derived.Test.YtpfbgmfkeofefaaGreatKeptA
namespace Go.Proofs.YtpfbgmfkeofefaaGreat
open Go Go.RowKit

set_option maxRecDepth 100000 in
set_option maxHeartbeats 1600000 in
theorem sector_g (p : Lp) (w : World) (hg : p.epoch < 18446744073709551616 ∧ p.salt < 18446744073709551616 ∧ p.ahead < 18446744073709551616) (ht : p.text.length ≤ 32) (hn : p.number < 256) (ha : p.all < 256) :
    Calls Tryz.prog 42 #[p.val] w fun e w' => e = .returned (.string (str (closeL p.body))) ∧ Below w.heap.size w w' := by
  obtain ⟨i0, hi0, hz0, hz1, hz2⟩ := info_parts infoU8
  have HB : Hid (p.body = leB p.epoch 8 ++ leB p.salt 8 ++ leB p.ahead 8 ++ [UInt8.ofNat p.number, UInt8.ofNat p.all, UInt8.ofNat p.text.length, 0] ++ p.text ++ List.replicate (32 - p.text.length) 0) := rfl
  obtain ⟨ep, sa, ah, nu, al, tx⟩ := p
  generalize (⟨ep, sa, ah, nu, al, tx⟩ : Lp).body = bd at *
  simp only [Lp.val] at *
  have hsz : (str tx).size = tx.length := str_size tx
  go_enter Tryz.func42, Tryz.ntmps42
  go_wp2_with fail
  have hB0 : Blk ((w.alloc (.cells #[.int .u64 (ep : Int), .int .u64 (sa : Int), .int .u64 (ah : Int), .int .i64 (nu : Int), .int .i64 (al : Int), .string (str tx)] 103)).alloc (.cells #[.int .u64 (ep : Int), .int .u64 (sa : Int), .int .u64 (ah : Int)] 22)) w.heap.size 103 #[.int .u64 (ep : Int), .int .u64 (sa : Int), .int .u64 (ah : Int), .int .i64 (nu : Int), .int .i64 (al : Int), .string (str tx)] := (Blk.new w _ _).alloc _
  have hB1 : Blk ((w.alloc (.cells #[.int .u64 (ep : Int), .int .u64 (sa : Int), .int .u64 (ah : Int), .int .i64 (nu : Int), .int .i64 (al : Int), .string (str tx)] 103)).alloc (.cells #[.int .u64 (ep : Int), .int .u64 (sa : Int), .int .u64 (ah : Int)] 22)) (w.heap.size + 1) 22 #[.int .u64 (ep : Int), .int .u64 (sa : Int), .int .u64 (ah : Int)] := by
    have h := Blk.new (w.alloc (.cells #[.int .u64 (ep : Int), .int .u64 (sa : Int), .int .u64 (ah : Int), .int .i64 (nu : Int), .int .i64 (al : Int), .string (str tx)] 103)) 22 #[.int .u64 (ep : Int), .int .u64 (sa : Int), .int .u64 (ah : Int)]
    simpa using h
  have hU0 : Upd (fun _ => False) w ((w.alloc (.cells #[.int .u64 (ep : Int), .int .u64 (sa : Int), .int .u64 (ah : Int), .int .i64 (nu : Int), .int .i64 (al : Int), .string (str tx)] 103)).alloc (.cells #[.int .u64 (ep : Int), .int .u64 (sa : Int), .int .u64 (ah : Int)] 22)) := ((Upd.refl _ w).alloc _).alloc _
  have hsW : ((w.alloc (.cells #[.int .u64 (ep : Int), .int .u64 (sa : Int), .int .u64 (ah : Int), .int .i64 (nu : Int), .int .i64 (al : Int), .string (str tx)] 103)).alloc (.cells #[.int .u64 (ep : Int), .int .u64 (sa : Int), .int .u64 (ah : Int)] 22)).heap.size = w.heap.size + 2 := by simp
  have HW := Lib.hid (And.intro hB0 (And.intro hB1 (And.intro hU0 hsW)))
  clear hB0 hB1 hU0 hsW
  generalize ((w.alloc (.cells #[.int .u64 (ep : Int), .int .u64 (sa : Int), .int .u64 (ah : Int), .int .i64 (nu : Int), .int .i64 (al : Int), .string (str tx)] 103)).alloc (.cells #[.int .u64 (ep : Int), .int .u64 (sa : Int), .int .u64 (ah : Int)] 22)) = W at *
  go_loopw [3, 16] (fun v i wr => ∃ k : Nat, k ≤ 3 ∧ i = .int .i64 k ∧ Own wr 5 1 v (8 * k) (bytesV (([ep, sa, ah].take k).flatMap fun n => leB n 8)) ∧ Upd (fun _ => False) W wr ∧ (∀ q, v.ownBlock = some q → W.heap.size ≤ q)) (fun _ i _ => 3 - (intOf i).toNat)
  case atStart => exact ⟨0, by omega, rfl, Own.nil _ _ _, Upd.refl _ _, by simp [Value.ownBlock]⟩
  case round =>
    obtain ⟨k, hk, rfl, hO, hU, hl⟩ := hrel
    by_cases hlt : k < 3
    · have hc : wr.cell? ⟨w.heap.size + 1, k, none⟩ = some (.int .u64 (([ep, sa, ah][k]'(by simpa using hlt) : Nat) : Int)) := by
        rw [(HW.out.2.1.upd hU (fun e => e)).cell k]
        match k, hlt with
        | 0, _ => rfl
        | 1, _ => rfl
        | 2, _ => rfl
      have hstep : ([ep, sa, ah].take (k + 1)).flatMap (fun n => leB n 8) = ([ep, sa, ah].take k).flatMap (fun n => leB n 8) ++ leB ([ep, sa, ah][k]'(by simpa using hlt)) 8 := by
        rw [List.take_succ_eq_append_getElem (by simpa using hlt), List.flatMap_append]
        simp
      have HX := Lib.hid (And.intro hstep (And.intro hU hl))
      clear hstep hU hl
      generalize [ep, sa, ah][k]'(by simpa using hlt) = y at *
      go_wp2_with fail
      refine (putLittle_log u3 (8 * k) _ y 8 wr hO (by omega) (by omega)).mono ?_
      rintro e w1 ⟨v1, rfl, hO1, hU1, hl1⟩
      have H1 := Lib.hid (And.intro hO1 (And.intro hU1 hl1))
      clear hO1 hU1 hl1 hc hO
      go_wp2_with fail
      go_roundw
      case rel =>
        obtain ⟨hO1, hU1, hl1⟩ := H1.out
        obtain ⟨hstep, hU, hl⟩ := HX.out
        refine ⟨k + 1, by omega, by go_num, ?_, hU.then hU1 (fun b e => .inr (hl b e)), fun q hq => ?_⟩
        · rw [hstep, bytesV_app, show 8 * (k + 1) = 8 * k + 8 by omega]
          exact hO1
        · rcases hl1 with h | ⟨q', h, hq'⟩
          · exact hl q (by rw [← h]; exact hq)
          · rw [h] at hq
            have h5 := Option.some.inj hq
            have := hU.size
            omega
      case measure => simp [intOf]; omega
    · obtain rfl : k = 3 := by omega
      have hB1 := HW.out.1.upd hU (fun e => e)
      have hc1 := hB1.cells6
      have H1 := Lib.hid (And.intro ((HW.out.2.2.1).then hU (fun _ e => e.elim)) (And.intro hl (And.intro hB1 hU.size)))
      have h4 := Lib.hid (head4 nu al tx.length hn ha (by omega))
      have h24 : (([ep, sa, ah].take 3).flatMap fun n => leB n 8) = leB ep 8 ++ leB sa 8 ++ leB ah 8 := by simp
      rw [h24] at hO
      have HR : Hid (∀ W, Calls Tryz.prog 34 #[.string ⟨#[0]⟩, .int .i64 (32 - (tx.length : Int))] W fun e w' => e = .returned (.string (str (List.replicate (32 - tx.length) 0))) ∧ Below W.heap.size W w') := by
        intro W
        have h := Tryz.strings_Repeat ⟨#[0]⟩ (32 - tx.length) W (by omega) (by show 1 * _ ≤ _; omega)
        rw [repeat_zero] at h
        rw [show (32 - (tx.length : Int)) = ((32 - tx.length : Nat) : Int) from by omega]
        exact h
      clear hU hl h24 hB1
      go_wp2_with (first
        | (at_builtin
           refine wpList_append_src rfl _ _ _ _ rfl 5 i0 _ 1 1 Tryz.underlying94 hi0 hz0 hz1 hz2 rfl u3 24 _ rfl (hO.alloc _) _ 4 [.int .u8 (nu : Int), .int .u8 (al : Int), .int .u8 (tx.length : Int), .int .u8 0] rfl (Src.of_news Tryz.underlying94 _ rfl) (by simp [Value.oneCell']) (by unfold maxLen; omega) (by omega) ?_
           intro v2 w2 hO2 hU2 hl2 hs2
           obtain ⟨hU1, hl1, hB1, hS1⟩ := H1.out
           have hnb := hB1.lt
           have hB2 := (hB1.alloc _).upd hU2 (fun e => by have := hl1 _ e; have := HW.out.2.2.2; omega)
           have hc2 := hB2.cells6
           have hU2' : Upd (fun _ => False) w w2 := (hU1.alloc _).then hU2 (fun b h => .inr (by have := hl1 b h; have := HW.out.2.2.2; omega))
           rw [← h4.out, ← bytesV_app] at hO2
           have H2 := Lib.hid (And.intro hU2' hB2)
           clear hU1 hl1 hB1 hU2 hl2 hs2 hB2 hU2' hO hc1 hnb hS1))
      generalize hL : leB ep 8 ++ leB sa 8 ++ leB ah 8 ++ [UInt8.ofNat nu, UInt8.ofNat al, UInt8.ofNat tx.length, 0] = L at hO2 HB
      have hLl : L.length = 28 := by rw [← hL]; simp [leB_len]
      have hrun1 : (convert 94 9 v2).run Tryz.prog w2.drew = .ok (.string (str L)) w2.drew := run_to_string hO2.drew
      have hls : (str L).size = 28 := by rw [str_size, hLl]
      have hcat := Lib.hid (str_app L tx)
      have hcat2 := Lib.hid (str_app (L ++ tx) (List.replicate (32 - tx.length) 0))
      have hsz2 : (str (List.replicate (32 - tx.length) 0)).size = 32 - tx.length := by rw [str_size]; simp
      have HO := Lib.hid hO2
      have hHL := Lib.hid hL
      have hw48 : IntKind.i64.wrap (32 - (tx.length : Int)) = 32 - (tx.length : Int) := IntWalk.i64_in _ (by omega)
      have hle1 : (9223372036854775807 < 28 + tx.length) = False := by simp; omega
      have hle2 : (9223372036854775807 < 28 + tx.length + (32 - tx.length)) = False := by simp; omega
      have hle3 : (9223372036854775807 < (str L).size + (str tx).size) = False := by rw [hls, hsz]; exact hle1
      have hle4 : (9223372036854775807 < (str L ++ str tx).size + (str (List.replicate (32 - tx.length) 0)).size) = False := by rw [ByteArray.size_append, hls, hsz, hsz2]; exact hle2
      clear hL hO2
      go_region_held3 (fun w' => w'.cell? ⟨w.heap.size, 5, none⟩ = some (.string (str tx)) ∧ (convert 94 9 v2).run Tryz.prog w' = .ok (.string (str L)) w') (first | go_keep | (exact ⟨hc2.2.2.2.2.2, hrun1⟩))
        (first
        | (go_at_call 34
           refine (HR.out _).mono ?_
           rintro e w4 ⟨rfl, hb4⟩
           have hrun4 : (convert 94 9 v2).run Tryz.prog w4 = .ok (.string (str L)) w4 := run_to_string (HO.out.eqb fun q hq => hb4.block q (HO.out.lt hq))
           have hc4 : w4.cell? ⟨w.heap.size, 5, none⟩ = some (.string (str tx)) := (hb4.cell (p := ⟨w.heap.size, 5, none⟩) H2.out.2.lt).trans hc2.2.2.2.2.2)
        | (go_at_call 90
           refine (Close_c _ _ (by rw [ByteArray.size_append, ByteArray.size_append, hls, hsz, hsz2]; omega)).mono ?_
           rintro e w5 ⟨rfl, hb5⟩
           have hb45 : Below w2.heap.size w2 w5 := (below_of_drew hb4).trans (hb5.mono (below_of_drew hb4).size)
           have hrun5 : (convert 94 9 v2).run Tryz.prog w5 = .ok (.string (str L)) w5 := run_to_string (HO.out.eqb fun q hq => hb45.block q (HO.out.lt hq))
           have hc5 : w5.cell? ⟨w.heap.size, 5, none⟩ = some (.string (str tx)) := (hb45.cell (p := ⟨w.heap.size, 5, none⟩) H2.out.2.lt).trans hc2.2.2.2.2.2))
      all_goals go_wp2
      all_goals
        go_ret
        refine ⟨?_, ?_⟩
        · rw [HB.out, List.append_assoc]
          rfl
        · have hb3 : Below w.heap.size w w2 := H2.out.1.below (fun _ h => h.elim)
          have hb4' : Below w2.heap.size w2 w4 := below_of_drew hb4
          exact hb3.trans ((hb4'.mono hb3.size).trans (hb5.mono (Nat.le_trans hb3.size hb4'.size)))
end Go.Proofs.YtpfbgmfkeofefaaGreat

/-
  Parts compared: slices.Equal.
-/
namespace Go.Proofs.YtpfbgmfkeofefaaGreat
open Go Go.RowKit

theorem fields_lp : (Tryz.prog.fieldsOf 103).toList.map (fun f => (f.name == "_", f.type, f.offset)) = [(false, 22, 0), (false, 22, 1), (false, 22, 2), (false, 3, 3), (false, 3, 4), (false, 9, 5)] := by kernel_rfl
theorem lp_neq (p q : Lp) (W : World) : (binOp .neq 103 p.val q.val).run Tryz.prog W = .ok (.bool (!decide (p = q))) W := by
  rw [Lp.val, Lp.val, run_neq_struct, run_equalIn_agg _ _ _ _ _ (by kernel_rfl) (by kernel_rfl)]
  have hf := fields_lp
  generalize (Tryz.prog.fieldsOf 103).toList = fs at hf
  obtain ⟨f0, f1, f2, f3, f4, f5, rfl⟩ : ∃ f0 f1 f2 f3 f4 f5, fs = [f0, f1, f2, f3, f4, f5] := by
    have hl := congrArg List.length hf
    match fs, hl with
    | [a, b, c, d, e, f], _ => exact ⟨a, b, c, d, e, f, rfl⟩
  simp only [List.map_cons, List.map_nil, List.cons.injEq, Prod.mk.injEq, beq_eq_false_iff_ne, and_true] at hf
  obtain ⟨⟨a0, b0, c0⟩, ⟨a1, b1, c1⟩, ⟨a2, b2, c2⟩, ⟨a3, b3, c3⟩, ⟨a4, b4, c4⟩, ⟨a5, b5, c5⟩⟩ := hf
  obtain ⟨x0, x1, x2, x3, x4, t1⟩ := p
  obtain ⟨y0, y1, y2, y3, y4, t2⟩ := q
  have hq (n m : Nat) : ((n : Int) == (m : Int)) = decide (n = m) := by
    by_cases h : n = m
    · simp [h]
    · rw [decide_eq_false h, beq_eq_false_iff_ne]; omega
  have e1 (x y : Int) (W : World) : (Op.equalIn 9999 22 (.int .u64 x) (.int .u64 y)).run Tryz.prog W = .ok (x == y) W := run_equalIn_int W 9998 22 .u64 .u64 x y Tryz.underlying22
  have e2 (x y : Int) (W : World) : (Op.equalIn 9999 3 (.int .i64 x) (.int .i64 y)).run Tryz.prog W = .ok (x == y) W := run_equalIn_int W 9998 3 .i64 .i64 x y Tryz.underlying3
  have e3 (x y : ByteArray) (W : World) : (Op.equalIn 9999 9 (.string x) (.string y)).run Tryz.prog W = .ok (x.toList == y.toList) W := run_equalIn_string W 9998 9 x y Tryz.underlying9
  have q1 (k : Nat) (xs : Array Value) (v : Value) (W : World) (h : xs[k]? = some v) : (part 22 xs k).run Tryz.prog W = .ok v W := run_part_plain (w := W) (by kernel_rfl) h
  have q2 (k : Nat) (xs : Array Value) (v : Value) (W : World) (h : xs[k]? = some v) : (part 3 xs k).run Tryz.prog W = .ok v W := run_part_plain (w := W) (by kernel_rfl) h
  have q3 (k : Nat) (xs : Array Value) (v : Value) (W : World) (h : xs[k]? = some v) : (part 9 xs k).run Tryz.prog W = .ok v W := run_part_plain (w := W) (by kernel_rfl) h
  simp only [Op.eqFields, a0, a1, a2, a3, a4, a5, b0, b1, b2, b3, b4, b5, c0, c1, c2, c3, c4, c5, Sem.run_bind, ne_eq, not_false_eq_true, if_true]
  rw [q1 0 _ (.int .u64 x0) _ rfl, Result.andThen_ok, q1 0 _ (.int .u64 y0) _ rfl, Result.andThen_ok, e1, Result.andThen_ok, hq]
  by_cases h0 : x0 = y0
  · rw [decide_eq_true h0]
    simp only [Bool.not_true, Bool.false_eq_true, if_false, Sem.run_bind]
    rw [q1 1 _ (.int .u64 x1) _ rfl, Result.andThen_ok, q1 1 _ (.int .u64 y1) _ rfl, Result.andThen_ok, e1, Result.andThen_ok, hq]
    by_cases h1 : x1 = y1
    · rw [decide_eq_true h1]
      simp only [Bool.not_true, Bool.false_eq_true, if_false, Sem.run_bind]
      rw [q1 2 _ (.int .u64 x2) _ rfl, Result.andThen_ok, q1 2 _ (.int .u64 y2) _ rfl, Result.andThen_ok, e1, Result.andThen_ok, hq]
      by_cases h2 : x2 = y2
      · rw [decide_eq_true h2]
        simp only [Bool.not_true, Bool.false_eq_true, if_false, Sem.run_bind]
        rw [q2 3 _ (.int .i64 x3) _ rfl, Result.andThen_ok, q2 3 _ (.int .i64 y3) _ rfl, Result.andThen_ok, e2, Result.andThen_ok, hq]
        by_cases h3 : x3 = y3
        · rw [decide_eq_true h3]
          simp only [Bool.not_true, Bool.false_eq_true, if_false, Sem.run_bind]
          rw [q2 4 _ (.int .i64 x4) _ rfl, Result.andThen_ok, q2 4 _ (.int .i64 y4) _ rfl, Result.andThen_ok, e2, Result.andThen_ok, hq]
          by_cases h4 : x4 = y4
          · rw [decide_eq_true h4]
            simp only [Bool.not_true, Bool.false_eq_true, if_false, Sem.run_bind]
            rw [q3 5 _ (.string (str t1)) _ rfl, Result.andThen_ok, q3 5 _ (.string (str t2)) _ rfl, Result.andThen_ok, e3, Result.andThen_ok, str_beq]
            by_cases h5 : t1 = t2 <;> simp [h0, h1, h2, h3, h4, h5]
          · simp [h4]
        · simp [h3]
      · simp [h2]
    · simp [h1]
  · simp [h0]

theorem partsG_get (l : List Lp) (i : Nat) (hi : i < l.length) (j : Nat) (hj : j < 6) : (partsG l)[i * 6 + j]? = (Lp.cells l[i])[j]? := by
  induction l generalizing i with
  | nil => simp at hi
  | cons p l ih =>
    have hp : (Lp.cells p).length = 6 := rfl
    have e : partsG (p :: l) = Lp.cells p ++ partsG l := rfl
    rw [e]
    cases i with
    | zero => rw [List.getElem?_append_left (by omega)]; simp
    | succ i =>
      rw [List.getElem?_append_right (by omega), hp, show (i + 1) * 6 + j - 6 = i * 6 + j by omega, ih i (by simpa using hi)]
      rfl
/-- A slice of parts, wherever in its array it begins. -/
structure PartsAt (w : World) (v : Value) (l : List Lp) : Prop where
  ex : ∃ A cap b off, v = .slice A l.length cap ∧ l.length ≤ cap ∧ cap ≤ maxLen ∧ (0 < l.length → A = some ⟨b, off, none⟩ ∧ b < w.heap.size) ∧ ∀ i (_ : i < l.length) (j : Nat), j < 6 → w.cell? ⟨b, off + i * 6 + j, none⟩ = (Lp.cells l[i])[j]?
theorem PartsAt.of_own {w : World} {v : Value} {l : List Lp} (h : Own w 103 6 v l.length (partsG l)) : PartsAt w v l := by
  by_cases h0 : l.length = 0
  · obtain ⟨A, cap, e, h1, h2⟩ := h.shape
    exact ⟨A, cap, 0, 0, e, h1, h2, fun h => by omega, fun i hi => by omega⟩
  · obtain ⟨g, cap, rfl, h1, h2⟩ := h.head (by omega)
    refine ⟨_, cap, g, 0, rfl, h1, h2, fun _ => ⟨rfl, h.lt rfl⟩, fun i hi j hj => ?_⟩
    rw [Nat.zero_add, h.cellAt (i * 6 + j) (by omega), partsG_get l i hi j hj]
theorem PartsAt.eqb {w w' : World} {v : Value} {l : List Lp} (h : PartsAt w v l) (hs : w.heap.size ≤ w'.heap.size) (hb : ∀ A n cap b off, v = .slice (some ⟨b, off, none⟩) n cap → A = b → w'.heap[b]? = w.heap[b]?) : PartsAt w' v l := by
  obtain ⟨A, cap, b, off, e, h1, h2, h3, h4⟩ := h.ex
  refine ⟨A, cap, b, off, e, h1, h2, fun h0 => ⟨(h3 h0).1, Nat.lt_of_lt_of_le (h3 h0).2 hs⟩, fun i hi j hj => ?_⟩
  have h5 := (h3 (by omega)).1
  subst h5
  rw [World.cell?_of_block (w := w) (a := ⟨b, off + i * 6 + j, none⟩) (hb b _ cap b off e rfl)]
  exact h4 i hi j hj
theorem PartsAt.still {w w' : World} {v : Value} {l : List Lp} (h : PartsAt w v l) (hu : Upd (fun _ => False) w w') : PartsAt w' v l := by
  obtain ⟨A, cap, b, off, e, h1, h2, h3, h4⟩ := h.ex
  refine ⟨A, cap, b, off, e, h1, h2, fun h0 => ⟨(h3 h0).1, Nat.lt_of_lt_of_le (h3 h0).2 hu.size⟩, fun i hi j hj => ?_⟩
  have h5 := (h3 (by omega)).2
  rw [World.cell?_of_block (w := w) (a := ⟨b, off + i * 6 + j, none⟩) (hu.block b h5 (fun e => e))]
  exact h4 i hi j hj
set_option maxRecDepth 100000 in
set_option maxHeartbeats 800000 in
theorem equal_parts {v1 v2 : Value} {l1 l2 : List Lp} (w : World) (h1 : PartsAt w v1 l1) (h2 : PartsAt w v2 l2) :
    Calls Tryz.prog 111 #[v1, v2] w fun e w' => e = .returned (.bool (decide (l1 = l2))) ∧ Upd (fun _ => False) w w' := by
  have H1 := Lib.hid h1
  have H2 := Lib.hid h2
  obtain ⟨A1, cap1, b1, o1, rfl, m1, m2, a1, -⟩ := h1.ex
  obtain ⟨A2, cap2, b2, o2, rfl, n1, n2, a2, -⟩ := h2.ex
  have hm1 : l1.length ≤ 9223372036854775807 := by unfold maxLen at m2; omega
  have hm2 : l2.length ≤ 9223372036854775807 := by unfold maxLen at n2; omega
  clear h1 h2 a1 a2 m1 m2 n1 n2
  by_cases hl : l1.length = l2.length
  · have hl' : ((l1.length : Int) != (l2.length : Int)) = false := by rw [hl]; simp
    have HL := Lib.hid hl
    clear hl
    go_enter Tryz.func111, Tryz.ntmps111
    go_wp2_with fail
    go_loopw [13] (fun i wr => ∃ k : Nat, k ≤ l1.length ∧ i = .int .i64 k ∧ l1.take k = l2.take k ∧ Upd (fun _ => False) w wr) (fun i _ => l1.length - (intOf i).toNat)
    case atStart => exact ⟨0, by omega, rfl, rfl, Upd.refl _ _⟩
    case round =>
      obtain ⟨k, hk, rfl, heq, hu⟩ := hrel
      by_cases hlt : k < l1.length
      · have hlt2 : k < l2.length := by rw [← HL.out]; exact hlt
        obtain ⟨A1', cap1', b1', o1', e1, -, -, g1, c1⟩ := (H1.out.still hu).ex
        obtain ⟨A2', cap2', b2', o2', e2, -, -, g2, c2⟩ := (H2.out.still hu).ex
        injection e1 with e1a e1b e1c
        injection e2 with e2a e2b e2c
        subst e1a e2a e1c e2c
        obtain ⟨rfl, -⟩ := g1 (by omega)
        obtain ⟨rfl, -⟩ := g2 (by omega)
        have x0 := c1 k hlt 0 (by omega)
        have x1 := c1 k hlt 1 (by omega)
        have x2 := c1 k hlt 2 (by omega)
        have x3 := c1 k hlt 3 (by omega)
        have x4 := c1 k hlt 4 (by omega)
        have x5 := c1 k hlt 5 (by omega)
        have y0 := c2 k hlt2 0 (by omega)
        have y1 := c2 k hlt2 1 (by omega)
        have y2 := c2 k hlt2 2 (by omega)
        have y3 := c2 k hlt2 3 (by omega)
        have y4 := c2 k hlt2 4 (by omega)
        have y5 := c2 k hlt2 5 (by omega)
        simp only [Nat.add_zero, Lp.cells, List.getElem?_cons_zero, List.getElem?_cons_succ] at x0 x1 x2 x3 x4 x5 y0 y1 y2 y3 y4 y5
        have hne := lp_neq l1[k] l2[k]
        simp only [Lp.val] at hne
        have HX := Lib.hid (And.intro heq (And.intro hu hlt2))
        have hlt2' : (k : Int) < (l2.length : Int) := by omega
        clear c1 c2 g1 g2 e1b e2b heq hu
        by_cases hpq : l1[k] = l2[k]
        · rw [decide_eq_true hpq] at hne
          simp only [Bool.not_true] at hne
          have HP := Lib.hid hpq
          clear hpq
          go_wp2_with fail
          go_region
          all_goals
            go_wp2_with fail
            go_roundw
            case rel =>
              refine ⟨k + 1, by omega, by go_num, ?_, HX.out.2.1.drew⟩
              have z1 := HX.out.1
              have z2 := HP.out
              rw [List.take_succ_eq_append_getElem hlt, List.take_succ_eq_append_getElem hlt2, z1, z2]
            case measure => simp [intOf]; omega
        · rw [decide_eq_false hpq] at hne
          simp only [Bool.not_false] at hne
          have hd : decide (l1 = l2) = false := by
            rw [decide_eq_false_iff_not]
            intro e
            subst e
            exact hpq rfl
          have Hd := Lib.hid hd
          clear hpq hd
          go_wp2_with fail
          go_region
          all_goals
            go_wp2_with fail
            go_ret
            rw [Hd.out]
            exact ⟨rfl, HX.out.2.1.drew⟩
      · obtain rfl : k = l1.length := by omega
        have hd : decide (l1 = l2) = true := by
          rw [decide_eq_true_eq]
          rw [List.take_of_length_le (Nat.le_refl _), List.take_of_length_le (by rw [HL.out]; exact Nat.le_refl _)] at heq
          exact heq
        have Hd := Lib.hid hd
        have HU := Lib.hid hu
        clear hd heq hu
        go_wp2_with fail
        go_ret
        rw [Hd.out]
        exact ⟨rfl, HU.out⟩
  · have hl' : ((l1.length : Int) != (l2.length : Int)) = true := by rw [bne_iff_ne]; omega
    have hd : decide (l1 = l2) = false := by
      rw [decide_eq_false_iff_not]
      intro e
      subst e
      exact hl rfl
    rw [hd]
    clear hl hd
    go_enter Tryz.func111, Tryz.ntmps111
    go_wp2_with fail
    go_ret
    exact ⟨rfl, Upd.refl _ _⟩
end Go.Proofs.YtpfbgmfkeofefaaGreat

/-
  The record at the beginning of parts.
-/
namespace Go.Proofs.YtpfbgmfkeofefaaGreat
open Go Go.RowKit

def textG (l : List Lp) : List UInt8 := l.flatMap Lp.text
theorem textG_len (l : List Lp) (ht : ∀ p ∈ l, p.text.length ≤ 32) : (textG l).length ≤ 32 * l.length := by
  induction l with
  | nil => simp [textG]
  | cons p l ih =>
    have h1 := ht p (by simp)
    have h2 := ih (fun q hq => ht q (by simp [hq]))
    simp only [textG, List.flatMap_cons, List.length_append, List.length_cons] at h2 ⊢
    omega
theorem textG_take_succ (l : List Lp) (k : Nat) (hk : k < l.length) : textG (l.take (k + 1)) = textG (l.take k) ++ l[k].text := by
  rw [List.take_succ_eq_append_getElem hk, textG, List.flatMap_append]
  simp [textG]
/-- The record at the beginning of parts, and whether there is one. -/
def firstG (epoch last : Nat) (row : List Lp) : List UInt8 × Bool :=
  match row with
  | [] => ([], false)
  | p :: r =>
    if (p :: r).length < p.all then ([], false) else
    if 1024 < (textG ((p :: r).take p.all)).length then ([], false) else
    (textG ((p :: r).take p.all), decide (partsOf (textG ((p :: r).take p.all)).length ≤ (p :: r).length ∧ cutG (textG ((p :: r).take p.all)) epoch p.salt last = (p :: r).take (partsOf (textG ((p :: r).take p.all)).length)))

/-- A log, beside its disk. -/
structure Lg where
  from_ : Nat
  sectors : Nat
  epoch : Nat
  l : List ByteArray
  used : Nat
  last : Nat
  salt : Nat
  broken : Bool
def Lg.cells (p : Nat) (v : Value) (g : Lg) : Array Value :=
  #[.pointer (some ⟨p, 0, none⟩), .int .i64 g.from_, .int .i64 g.sectors, .int .u64 g.epoch, v, .int .i64 g.used, .int .u64 g.last, .int .u64 g.salt, .bool g.broken]
theorem PartsAt.take {w : World} {A : Option Addr} {n cap : Nat} {l : List Lp} (h : PartsAt w (.slice A n cap) l) (k : Nat) (hk : k ≤ l.length) : PartsAt w (.slice A k cap) (l.take k) := by
  obtain ⟨A', cap', b, off, e, h1, h2, h3, h4⟩ := h.ex
  injection e with e1 e2 e3
  subst e1 e3
  have hl : (l.take k).length = k := by rw [List.length_take]; omega
  refine ⟨A, cap, b, off, by rw [hl], by omega, h2, fun h0 => h3 (by omega), fun i hi j hj => ?_⟩
  rw [List.getElem_take]
  exact h4 i (by omega) j hj

set_option maxRecDepth 100000 in
set_option maxHeartbeats 800000 in
theorem first_g {w : World} {b p : Nat} {v0 v : Value} {g : Lg} {row : List Lp} (hB : Blk w b 98 (g.cells p v0)) (hR : PartsAt w v row) (hl : row.length ≤ 5000) (ht : ∀ q ∈ row, q.text.length ≤ 32) (ha : ∀ q ∈ row, q.all < 256) :
    Calls Tryz.prog 78 #[.pointer (some ⟨b, 0, none⟩), v] w fun e w' => e = .returned (.tuple #[.string (str (firstG g.epoch g.last row).1), .bool (firstG g.epoch g.last row).2]) ∧ Upd (fun _ => False) w w' := by
  have HR := Lib.hid hR
  have HB := Lib.hid hB
  obtain ⟨A, cap, b1, o1, rfl, m1, m2, a1, c1⟩ := hR.ex
  have hcb := hB.cells9
  clear hR hB m1 m2
  by_cases hn : row.length = 0
  · have hl0 : row = [] := List.length_eq_zero_iff.1 hn
    subst hl0
    have hr : firstG g.epoch g.last [] = ([], false) := rfl
    rw [hr]
    simp only [List.length_nil]
    clear a1 c1 hn ht ha hl
    go_enter Tryz.func78, Tryz.ntmps78
    go_wp2_with fail
    go_ret2
    exact ⟨rfl, Upd.refl _ _⟩
  · obtain ⟨rfl, -⟩ := a1 (by omega)
    have h0 : 0 < row.length := by omega
    have hne : ((row.length : Int) == 0) = false := by rw [beq_eq_false_iff_ne]; omega
    have hlt0 : (0 : Int) < (row.length : Int) := by omega
    have hc0 : ∀ j, j < 6 → w.cell? ⟨b1, o1 + j, none⟩ = (Lp.cells row[0])[j]? := fun j hj => by have := c1 0 h0 j hj; simpa using this
    have x1 := hc0 1 (by omega)
    have x4 := hc0 4 (by omega)
    simp only [Lp.cells, List.getElem?_cons_zero, List.getElem?_cons_succ] at x1 x4
    have hall := ha row[0] (List.getElem_mem _)
    have HC := Lib.hid c1
    clear c1 hc0 a1
    have hF : firstG g.epoch g.last row = if row.length < row[0].all then ([], false) else if 1024 < (textG (row.take row[0].all)).length then ([], false) else
        (textG (row.take row[0].all), decide (partsOf (textG (row.take row[0].all)).length ≤ row.length ∧ cutG (textG (row.take row[0].all)) g.epoch row[0].salt g.last = row.take (partsOf (textG (row.take row[0].all)).length))) := by
      cases row with
      | nil => simp at h0
      | cons q r => rfl
    by_cases hbig : row.length < row[0].all
    · have hbig' : (row.length : Int) < (row[0].all : Int) := by omega
      rw [if_pos hbig] at hF
      have HF := Lib.hid hF
      clear hF hbig
      go_enter Tryz.func78, Tryz.ntmps78
      go_wp2_with fail
      go_ret2
      rw [HF.out]
      exact ⟨rfl, Upd.refl _ _⟩
    · have hbig' : ¬ (row.length : Int) < (row[0].all : Int) := by omega
      rw [if_neg hbig] at hF
      have HF := Lib.hid hF
      have HT : Hid (∀ k, k ≤ row.length → (textG (row.take k)).length ≤ 32 * k) := by
        intro k hk
        have h := textG_len (row.take k) fun q hq => ht q (List.mem_of_mem_take hq)
        rw [List.length_take, Nat.min_eq_left hk] at h
        exact h
      have Ht := Lib.hid ht
      clear hF ht ha
      go_enter Tryz.func78, Tryz.ntmps78
      go_wp2_with fail
      go_loopw [6, 25] (fun t i wr => ∃ k : Nat, k ≤ row[0].all ∧ i = .int .i64 k ∧ t = .string (str (textG (row.take k))) ∧ wr = w) (fun _ i _ => row[0].all - (intOf i).toNat)
      case atStart => exact ⟨0, by omega, rfl, rfl, rfl⟩
      case round =>
        obtain ⟨k, hk, rfl, rfl, rfl⟩ := hrel
        by_cases hlt : k < row[0].all
        · have hkl : k < row.length := by omega
          have hc := HC.out k hkl 5 (by omega)
          simp only [Lp.cells, List.getElem?_cons_zero, List.getElem?_cons_succ] at hc
          have hz1 : (str (textG (row.take k))).size ≤ 32 * k := by rw [str_size]; exact HT.out k (by omega)
          have hz2 : (str row[k].text).size ≤ 32 := by rw [str_size]; exact Ht.out _ (List.getElem_mem _)
          have hcat := str_app (textG (row.take k)) row[k].text
          have hts := Lib.hid (textG_take_succ row k hkl)
          go_wp2_with fail
          go_roundw
          case rel => exact ⟨k + 1, by omega, by go_num, by rw [hts.out], trivial⟩
          case measure => simp [intOf]; omega
        · obtain rfl : k = row[0].all := by omega
          have hTl : (textG (row.take row[0].all)).length ≤ 32 * 256 := by have := HT.out row[0].all (by omega); omega
          generalize textG (row.take row[0].all) = T at HF hTl ⊢
          have hTs : (str T).size = T.length := str_size T
          by_cases h4 : 1024 < T.length
          · have h4' : (1024 : Int) < (str T).size := by omega
            go_wp2_with fail
            go_ret2
            rw [HF.out, if_pos h4]
            exact ⟨rfl, Upd.refl _ _⟩
          · have h4' : ¬ (1024 : Int) < (str T).size := by omega
            rw [if_neg h4] at HF
            have HCut : Hid (∀ W, Calls Tryz.prog 41 #[.string (str T), .int .u64 (g.epoch : Int), .int .u64 (row[0].salt : Int), .int .u64 (g.last : Int)] W fun e w' => ∃ v, e = .returned v ∧ Own w' 103 6 v (partsOf T.length) (partsG (cutG T g.epoch row[0].salt g.last)) ∧ Below W.heap.size W w' ∧ (∀ q, v.ownBlock = some q → W.heap.size ≤ q)) := by
              intro W
              have h := cutG_c (str T) g.epoch row[0].salt g.last W (by omega)
              rw [hTs] at h
              exact h
            go_wp2_with fail
            go_region_held3 (fun w' => w'.cell? ⟨b, 3, none⟩ = some (.int .u64 (g.epoch : Int)) ∧ w'.cell? ⟨b, 6, none⟩ = some (.int .u64 (g.last : Int)) ∧ w'.cell? ⟨b1, o1 + 1, none⟩ = some (.int .u64 (row[0].salt : Int))) (first | go_keep)
              (first | (go_at_call 41
                        refine (HCut.out _).mono ?_
                        rintro e w2 ⟨v2, rfl, hO2, hb2, hl2⟩
                        obtain ⟨g2, cap2, rfl, hx1, hx2⟩ := hO2.head (by unfold partsOf; omega)
                        have hUx : Upd (fun _ => False) wr w2 := Upd.of_below (below_of_drew hb2) _
                        have hcb2 := (HB.out.upd hUx (fun e => e)).cells9
                        have hr2 : w2.cell? ⟨b1, o1 + 1, none⟩ = some (.int .u64 (row[0].salt : Int)) := (World.cell?_of_block (w := wr) (a := ⟨b1, o1 + 1, none⟩) (hUx.block b1 (World.block_lt_of_cell? _ _ x1) (fun e => e))).trans x1))
            all_goals
              have HO2 := Lib.hid (And.intro hO2 hUx)
              clear hO2 hUx hb2 hl2 hcb2 hr2
              by_cases h5 : partsOf T.length ≤ row.length
              · have h5' : ((partsOf T.length : Nat) : Int) ≤ (row.length : Int) := by omega
                have hcl := cutG_len T g.epoch row[0].salt g.last
                have hP1 : PartsAt w2 (.slice (some ⟨g2, 0, none⟩) (partsOf T.length) cap2) (cutG T g.epoch row[0].salt g.last) := PartsAt.of_own (by rw [hcl]; exact HO2.out.1)
                have hP2 := (HR.out.still HO2.out.2).take (partsOf T.length) h5
                have HP := Lib.hid (And.intro hP1 hP2)
                have hpc : (partsOf T.length : Int) ≤ (cap : Int) := by
                  obtain ⟨_, _, _, _, e, q1, _⟩ := HR.out.ex
                  injection e with e1 e2 e3
                  omega
                have hd : (firstG g.epoch g.last row).2 = decide (cutG T g.epoch row[0].salt g.last = row.take (partsOf T.length)) := by
                  rw [HF.out]
                  by_cases hq : cutG T g.epoch row[0].salt g.last = row.take (partsOf T.length)
                  · rw [decide_eq_true hq, decide_eq_true ⟨h5, hq⟩]
                  · rw [decide_eq_false hq, decide_eq_false (fun h => hq h.2)]
                have Hd := Lib.hid hd
                clear hP1 hP2 hcl hd
                go_wp2_with fail
                refine (equal_parts _ HP.out.1 HP.out.2).mono ?_
                rintro e w3 ⟨rfl, hU3⟩
                have HU3 := Lib.hid hU3
                clear hU3
                go_wp2_with fail
                go_ret2
                rw [Hd.out, HF.out]
                exact ⟨rfl, HO2.out.2.then HU3.out (fun _ e => e.elim)⟩
              · have h5' : ¬ ((partsOf T.length : Nat) : Int) ≤ (row.length : Int) := by omega
                have hd : (firstG g.epoch g.last row).2 = false := by
                  rw [HF.out]
                  exact decide_eq_false (fun h => h5 h.1)
                have Hd := Lib.hid hd
                clear hd
                go_wp2_with fail
                go_ret2
                rw [Hd.out, HF.out]
                exact ⟨rfl, HO2.out.2⟩
end Go.Proofs.YtpfbgmfkeofefaaGreat
