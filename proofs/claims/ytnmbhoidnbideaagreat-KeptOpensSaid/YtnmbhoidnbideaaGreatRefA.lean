/-
  The document's disk: act, Write.
-/
import Derived.Test.YtnmbhoidnbideaaGreatRefW
namespace Go.Proofs.YtnmbhoidnbideaaGreat
open Go Go.RowKit

abbrev zeroRd : Array Value := #[.slice none 0 0, .slice none 0 0, .int .i64 0, .bool false]
theorem row_one (a b : Value) (ha : a.oneCell' = true) (hb : b.oneCell' = true) (n : Int) (o : Bool) : (#[a, b, .int .i64 n, .bool o] : Array Value).all (·.oneCell') = true := by
  rw [Array.all_eq_true']
  intro x hx
  simp only [List.mem_toArray, List.mem_cons, List.not_mem_nil, or_false] at hx
  rcases hx with rfl | rfl | rfl | rfl
  · exact ha
  · exact hb
  · rfl
  · rfl
set_option maxRecDepth 100000 in
set_option maxHeartbeats 800000 in
theorem ract_c {w : World} {vl vw : Value} {r : Rd} (h : RdAt w vl vw r) (hf : r.fits) :
    Calls Tryz.prog 50 #[.agg #[vl, vw, .int .i64 r.fuse, .bool r.off]] w fun e w' => e = .returned (.tuple #[.agg #[vl, vw, .int .i64 r.act.1.fuse, .bool r.act.1.off], .bool r.act.2]) ∧ Upd (fun _ => False) w w' := by
  have ha := h.lasts.one
  have hb := h.ws.one
  have hfu := hf.fuse
  have hact : r.act = if r.fuse = 0 then ({ r with off := true }, false) else if 0 < r.fuse then ({ r with fuse := r.fuse - 1 }, true) else (r, true) := rfl
  obtain ⟨la, ws, fl, fo⟩ := r
  simp only at ha hb hfu hact ⊢
  have hB0 := (Blk.new w 32 #[vl, vw, .int .i64 fl, .bool fo]).alloc (.cells zeroRd 32)
  have hB1 : Blk ((w.alloc (.cells #[vl, vw, .int .i64 fl, .bool fo] 32)).alloc (.cells zeroRd 32)) (w.heap.size + 1) 32 zeroRd := by
    have := Blk.new (w.alloc (.cells #[vl, vw, .int .i64 fl, .bool fo] 32)) 32 zeroRd
    simpa using this
  have hc0 := hB0.cells4
  have hz2 := hB0.frozen 2
  have hz3 := hB0.frozen 3
  have HB := Lib.hid (And.intro hB0 hB1)
  have HU := Lib.hid (show Upd (fun q => w.heap.size ≤ q) w ((w.alloc (.cells #[vl, vw, .int .i64 fl, .bool fo] 32)).alloc (.cells zeroRd 32)) from ((Upd.refl _ w).alloc _).alloc _)
  clear h hf hB0 hB1
  by_cases h0 : fl = 0
  · subst h0
    rw [if_pos rfl] at hact
    rw [hact]
    clear hact
    go_enter Tryz.func50, Tryz.ntmps50
    go_wp2_with (first
      | (refine wpList_store_one rfl 4 _ _ rfl w.heap.size 3 (.bool true) rfl rfl _ _ HB.out.1 (by simp) rfl (by kernel_rfl) ?_
         intro w3 hB3 hU3 hs3
         simp only [List.setIfInBounds_toArray, List.set_cons_succ, List.set_cons_zero] at hB3
         have hB13 := HB.out.2.upd hU3 (by omega)
         have hc3 := hB3.cells4
         clear hc0 hz2 hz3)
      | (refine wpList_load_all rfl _ _ rfl w.heap.size rfl _ _ _ hB3 Tryz.underlying32 rfl rfl ?_)
      | (refine wpList_store_all rfl 32 _ _ rfl (w.heap.size + 1) #[vl, vw, .int .i64 0, .bool true] rfl rfl _ _ hB13 rfl (row_one _ _ ha hb _ _) (by kernel_rfl) ?_
         intro w4 hB4 hU4 hs4))
    refine bodyPost_ret (results_cell_slot rfl _ _ (w.heap.size + 1) _ _ _ _ rfl hB4 Tryz.underlying32 rfl rfl (.bool false) rfl) rfl ⟨rfl, ?_⟩
    exact ((HU.out.then hU3 (fun q e => .inl (by omega))).then hU4 (fun q e => .inl (by omega))).mono (fun q e => .inr e)
  · have h0' : (fl == 0) = false := by rw [beq_eq_false_iff_ne]; exact h0
    rw [if_neg h0] at hact
    by_cases h1 : 0 < fl
    · rw [if_pos h1] at hact
      rw [hact]
      clear hact h0
      have hsub : IntKind.i64.wrap (fl - 1) = fl - 1 := IntWalk.i64_in _ (by omega)
      go_enter Tryz.func50, Tryz.ntmps50
      go_wp2_with (first
        | (refine wpList_store_one rfl 3 _ _ rfl w.heap.size 2 (.int .i64 (fl - 1)) rfl rfl _ _ HB.out.1 (by simp) rfl (by kernel_rfl) ?_
           intro w3 hB3 hU3 hs3
           simp only [List.setIfInBounds_toArray, List.set_cons_succ, List.set_cons_zero] at hB3
           have hB13 := HB.out.2.upd hU3 (by omega)
           have hc3 := hB3.cells4
           clear hc0 hz2 hz3)
        | (refine wpList_load_all rfl _ _ rfl w.heap.size rfl _ _ _ hB3 Tryz.underlying32 rfl rfl ?_)
        | (refine wpList_store_all rfl 32 _ _ rfl (w.heap.size + 1) #[vl, vw, .int .i64 (fl - 1), .bool fo] rfl rfl _ _ hB13 rfl (row_one _ _ ha hb _ _) (by kernel_rfl) ?_
           intro w4 hB4 hU4 hs4))
      refine bodyPost_ret (results_cell_slot rfl _ _ (w.heap.size + 1) _ _ _ _ rfl hB4 Tryz.underlying32 rfl rfl (.bool true) rfl) rfl ⟨rfl, ?_⟩
      exact ((HU.out.then hU3 (fun q e => .inl (by omega))).then hU4 (fun q e => .inl (by omega))).mono (fun q e => .inr e)
    · rw [if_neg h1] at hact
      rw [hact]
      clear hact h0
      go_enter Tryz.func50, Tryz.ntmps50
      go_wp2_with (first
        | (refine wpList_load_all rfl _ _ rfl w.heap.size rfl _ _ _ HB.out.1 Tryz.underlying32 rfl rfl ?_)
        | (refine wpList_store_all rfl 32 _ _ rfl (w.heap.size + 1) #[vl, vw, .int .i64 fl, .bool fo] rfl rfl _ _ HB.out.2 rfl (row_one _ _ ha hb _ _) (by kernel_rfl) ?_
           intro w4 hB4 hU4 hs4))
      refine bodyPost_ret (results_cell_slot rfl _ _ (w.heap.size + 1) _ _ _ _ rfl hB4 Tryz.underlying32 rfl rfl (.bool true) rfl) rfl ⟨rfl, ?_⟩
      exact (HU.out.then hU4 (fun q e => .inl (by omega))).mono (fun q e => .inr e)
set_option maxRecDepth 100000 in
set_option maxHeartbeats 1600000 in
theorem rwrite_c {w : World} {vl vw : Value} {r : Rd} (h : RdAt w vl vw r) (hf : r.fits) (i : Int) (b : ByteArray) (hp : r.ws.length + 1 ≤ 1000000) :
    Calls Tryz.prog 18 #[.agg #[vl, vw, .int .i64 r.fuse, .bool r.off], .int .i64 i, .string b] w fun e w' => ∃ vw', e = .returned (.tuple #[.agg #[vl, vw', .int .i64 (r.write i b).1.fuse, .bool (r.write i b).1.off], .int .i64 (r.write i b).2]) ∧ RdLeft w w' vl vw vl vw' (r.write i b).1 := by
  have hl1 := hf.lasts
  have hl2 := hf.ws
  have hRd := Lib.hid h
  have ha := h.lasts.one
  have hb := h.ws.one
  obtain ⟨A, cap, rfl, -, -⟩ := h.lasts.shape
  have hwr : r.write i b = if r.off then (r, 14) else if r.out i || !decide (b.size = 64) then (r, 1) else if r.act.2 then (r.act.1.push i b, 0) else (r.act.1, 14) := rfl
  have hact : r.act.1.lasts = r.lasts ∧ r.act.1.ws = r.ws := by
    unfold Rd.act
    split
    · exact ⟨rfl, rfl⟩
    · split <;> exact ⟨rfl, rfl⟩
  have HAct := Lib.hid (fun W (hU : Upd (fun _ => False) w W) => ract_c (h.upd hU) hf)
  have HA2 := Lib.hid hact
  clear h hf hact
  obtain ⟨la, ws, fl, fo⟩ := r
  simp only at hl1 hl2 ha hb hwr HAct HA2 ⊢
  have hB0 := (Blk.new w 32 #[.slice A la.length cap, vw, .int .i64 fl, .bool fo]).alloc (.cells zeroRd 32)
  have hB1 : Blk ((w.alloc (.cells #[.slice A la.length cap, vw, .int .i64 fl, .bool fo] 32)).alloc (.cells zeroRd 32)) (w.heap.size + 1) 32 zeroRd := by
    have := Blk.new (w.alloc (.cells #[.slice A la.length cap, vw, .int .i64 fl, .bool fo] 32)) 32 zeroRd
    simpa using this
  have hc0 := hB0.cells4
  have hU0 : Upd (fun _ => False) w ((w.alloc (.cells #[.slice A la.length cap, vw, .int .i64 fl, .bool fo] 32)).alloc (.cells zeroRd 32)) := ((Upd.refl _ w).alloc _).alloc _
  have HB := Lib.hid (And.intro hB0 hB1)
  have HU := Lib.hid hU0
  have HAc := Lib.hid (HAct.out _ hU0)
  clear hB0 hB1 hU0 HAct
  cases fo
  · rw [if_neg (by simp)] at hwr
    by_cases hbad : ((⟨la, ws, fl, false⟩ : Rd).out i || !decide (b.size = 64)) = true
    · rw [if_pos hbad] at hwr
      rw [hwr]
      have hcase : i < 0 ∨ (0 ≤ i ∧ (la.length : Int) ≤ i) ∨ (0 ≤ i ∧ i < (la.length : Int) ∧ ((b.size : Int) != 64) = true) := by
        rw [Bool.or_eq_true, Rd.out, decide_eq_true_eq] at hbad
        simp only at hbad
        by_cases c0 : i < 0
        · exact .inl c0
        · by_cases c1 : (la.length : Int) ≤ i
          · exact .inr (.inl ⟨by omega, c1⟩)
          · refine .inr (.inr ⟨by omega, by omega, ?_⟩)
            rcases hbad with e | e
            · omega
            · rw [bne_iff_ne]
              simp at e
              omega
      clear hwr hbad
      rcases hcase with c0 | ⟨c0, c1⟩ | ⟨c0, c1, c2⟩
      all_goals
        go_enter Tryz.func18, Tryz.ntmps18
        go_wp2_with (first
          | (refine wpList_load_all rfl _ _ rfl w.heap.size rfl _ _ _ HB.out.1 Tryz.underlying32 rfl rfl ?_)
          | (refine wpList_store_all rfl 32 _ _ rfl (w.heap.size + 1) #[.slice A la.length cap, vw, .int .i64 fl, .bool false] rfl rfl _ _ HB.out.2 rfl (row_one _ _ ha hb _ _) (by kernel_rfl) ?_
             intro w4 hB4 hU4 hs4))
        refine bodyPost_ret (results_cell_slot rfl _ _ (w.heap.size + 1) _ _ _ _ rfl hB4 Tryz.underlying32 rfl rfl (.int .i64 1) rfl) rfl ⟨vw, rfl, ?_⟩
        have hU := HU.out.then hU4 (fun q e => .inr (by omega))
        exact ⟨hRd.out.upd hU, hU, fun q hq => .inl hq⟩
    · rw [if_neg hbad] at hwr
      have hi : 0 ≤ i ∧ i < (la.length : Int) ∧ ((b.size : Int) != 64) = false := by
        rw [Bool.or_eq_true, Rd.out, decide_eq_true_eq] at hbad
        simp only [not_or] at hbad
        refine ⟨by omega, by omega, ?_⟩
        have := hbad.2
        simp at this
        rw [this]
        rfl
      clear hbad
      obtain ⟨c0, c1, c2⟩ := hi
      generalize hra : (⟨la, ws, fl, false⟩ : Rd).act = ra at *
      obtain ⟨⟨la2, ws2, fl2, fo2⟩, ok⟩ := ra
      simp only at hwr HAc HA2
      obtain ⟨e1, e2⟩ := HA2.out
      have e1 := e1.symm
      have e2 := e2.symm
      subst e1 e2
      clear hra HA2
      cases ok
      · rw [if_neg (by simp)] at hwr
        rw [hwr]
        clear hwr
        go_enter Tryz.func18, Tryz.ntmps18
        go_wp2_with (first
          | (refine wpList_load_all rfl _ _ rfl w.heap.size rfl _ _ _ HB.out.1 Tryz.underlying32 rfl rfl ?_))
        refine HAc.out.mono ?_
        rintro e w2 ⟨rfl, hU2⟩
        have hB2 := HB.out.1.upd hU2 (fun e => e)
        have hB12 := HB.out.2.upd hU2 (fun e => e)
        have hU02 := HU.out.then hU2 (fun _ e => e.elim)
        have hws2 := hRd.out.ws.upd hU02 (fun _ _ e => e)
        have H2 := Lib.hid (And.intro hB2 (And.intro hB12 (And.intro hU02 hws2)))
        clear hB2 hB12 hU02 hws2 hU2 hc0
        go_wp2_with (first
          | (refine wpList_store_all rfl 32 _ _ rfl w.heap.size #[.slice A la.length cap, vw, .int .i64 fl2, .bool fo2] rfl rfl _ _ H2.out.1 rfl (row_one _ _ ha hb _ _) (by kernel_rfl) ?_
             intro w3 hB3 hU3 hs3
             have hB13 := H2.out.2.1.upd hU3 (by omega)
             have hc3 := hB3.cells4)
          | (refine wpList_load_all rfl _ _ rfl w.heap.size rfl _ _ _ hB3 Tryz.underlying32 rfl rfl ?_)
          | (refine wpList_store_all rfl 32 _ _ rfl (w.heap.size + 1) #[.slice A la.length cap, vw, .int .i64 fl2, .bool fo2] rfl rfl _ _ hB13 rfl (row_one _ _ ha hb _ _) (by kernel_rfl) ?_
             intro w4 hB4 hU4 hs4))
        refine bodyPost_ret (results_cell_slot rfl _ _ (w.heap.size + 1) _ _ _ _ rfl hB4 Tryz.underlying32 rfl rfl (.int .i64 14) rfl) rfl ⟨vw, rfl, ?_⟩
        have hU := (H2.out.2.2.1.then hU3 (fun q e => .inr (by omega))).then hU4 (fun q e => .inr (by omega))
        exact ⟨⟨(hRd.out.upd hU).lasts, (hRd.out.upd hU).ws⟩, hU, fun q hq => .inl hq⟩
      · rw [if_pos rfl] at hwr
        rw [hwr]
        clear hwr
        go_enter Tryz.func18, Tryz.ntmps18
        go_wp2_with (first
          | (refine wpList_load_all rfl _ _ rfl w.heap.size rfl _ _ _ HB.out.1 Tryz.underlying32 rfl rfl ?_))
        refine HAc.out.mono ?_
        rintro e w2 ⟨rfl, hU2⟩
        have hB2 := HB.out.1.upd hU2 (fun e => e)
        have hB12 := HB.out.2.upd hU2 (fun e => e)
        have hU02 := HU.out.then hU2 (fun _ e => e.elim)
        have hws2 := hRd.out.ws.upd hU02 (fun _ _ e => e)
        have H2 := Lib.hid (And.intro hB2 (And.intro hB12 (And.intro hU02 hws2)))
        clear hB2 hB12 hU02 hws2 hU2 hc0
        obtain ⟨i1, hi1, hz0, hz1, hz2⟩ := info_parts infoWr
        have hwl := wrs_len ws
        have HWo := Lib.hid (wrs_one ws)
        obtain ⟨A2, cap2, rfl, -, -⟩ := H2.out.2.2.2.shape
        go_wp2_with (first
          | (refine wpList_store_all rfl 32 _ _ rfl w.heap.size #[.slice A la.length cap, .slice A2 ws.length cap2, .int .i64 fl2, .bool fo2] rfl rfl _ _ H2.out.1 rfl (row_one _ _ ha hb _ _) (by kernel_rfl) ?_
             intro w3 hB3 hU3 hs3
             have hB13 := H2.out.2.1.upd hU3 (by omega)
             have hU03 := H2.out.2.2.1.then hU3 (fun q e => .inr (by omega))
             have hws3 := hRd.out.ws.upd hU03 (fun _ _ e => e)
             have hc3 := hB3.cells4)
          | (at_builtin
             refine wpList_append_src rfl _ _ _ _ rfl 126 i1 _ 2 24 Tryz.underlying30 hi1 hz0 hz1 hz2 rfl v5 (0 + ws.length) _ rfl (hO5.alloc _) _ 1 [.int .i64 i, .string b] rfl (Src.of_news Tryz.underlying30 [.int .i64 i, .string b] rfl) (by simp [Value.oneCell']) (by unfold maxLen; omega) (by omega) ?_
             intro v6 w6 hO6 hU6 hl6 hs6
             have hv6 := hO6.one
             have hB6 := (hB5.alloc (.cells #[.int .i64 i, .string b] 126)).upd hU6 hn5
             have hB16 := (hB15.alloc (.cells #[.int .i64 i, .string b] 126)).upd hU6 hn15
             have hc6 := hB6.cells4
             have hz6 := hB6.frozen 1)
          | (at_builtin
             refine wpList_append_src rfl _ _ _ _ rfl 126 i1 _ 2 24 Tryz.underlying30 hi1 hz0 hz1 hz2 rfl (.slice none 0 0) 0 [] rfl (Own.nil _ _ _) _ ws.length (wrs ws) rfl (Src.of_own Tryz.underlying30 hws3) HWo.out (by unfold maxLen; omega) (by omega) ?_
             intro v5 w5 hO5 hU5 hl5 hs5
             have hU35 : Upd (fun _ => False) w3 w5 := hU5.mono (fun q e => by simp [Value.ownBlock] at e)
             have hn5 : v5.ownBlock ≠ some w.heap.size := fun e => by
               rcases hl5 with c | c
               · rw [c] at e; simp [Value.ownBlock] at e
               · rw [c] at e; have := Option.some.inj e; have := hB3.lt; omega
             have hn15 : v5.ownBlock ≠ some (w.heap.size + 1) := fun e => by
               rcases hl5 with c | c
               · rw [c] at e; simp [Value.ownBlock] at e
               · rw [c] at e; have := Option.some.inj e; have := hB13.lt; omega
             have hnew5 : ∀ q, v5.ownBlock = some q → w3.heap.size ≤ q := fun q hq => by
               rcases hl5 with c | c
               · rw [c] at hq; simp [Value.ownBlock] at hq
               · rw [c] at hq; have := Option.some.inj hq; omega
             have hB5 := hB3.upd hU35 (fun e => e)
             have hB15 := hB13.upd hU35 (fun e => e)
             have hc5 := hB5.cells4)
          | (refine wpList_store_one rfl 30 _ _ rfl w.heap.size 1 v6 rfl rfl _ _ hB6 (by simp) hv6 (by kernel_rfl) ?_
             intro w7 hB7 hU7 hs7
             simp only [List.setIfInBounds_toArray, List.set_cons_succ, List.set_cons_zero] at hB7
             have hB17 := hB16.upd hU7 (by omega)
             have hc7 := hB7.cells4)
          | (refine wpList_load_all rfl _ _ rfl w.heap.size rfl _ _ _ hB7 Tryz.underlying32 rfl rfl ?_)
          | (refine wpList_store_all rfl 32 _ _ rfl (w.heap.size + 1) #[.slice A la.length cap, v6, .int .i64 fl2, .bool fo2] rfl rfl _ _ hB17 rfl (row_one _ _ ha hv6 _ _) (by kernel_rfl) ?_
             intro w8 hB8 hU8 hs8))
        refine bodyPost_ret (results_cell_slot rfl _ _ (w.heap.size + 1) _ _ _ _ rfl hB8 Tryz.underlying32 rfl rfl (.int .i64 0) rfl) rfl ⟨v6, rfl, ?_⟩
        have hs0 := hU03.size
        have hs35 := hU35.size
        have hU06 : Upd (fun _ => False) w w6 := (hU03.then (hU35.alloc _) (fun _ e => e.elim)).then hU6 (fun q e => .inr (by have := hnew5 q e; omega))
        have hU := (hU06.then hU7 (fun q e => .inr (by omega))).then hU8 (fun q e => .inr (by omega))
        have hnew6 : ∀ q, v6.ownBlock = some q → w3.heap.size ≤ q := fun q hq => by
          rcases hl6 with c | c
          · exact hnew5 q (by rw [← c]; exact hq)
          · rw [c] at hq
            have h5 := Option.some.inj hq
            simp at h5
            omega
        have hlt3 := hB3.lt
        have hlt13 := hB13.lt
        refine ⟨⟨hRd.out.lasts.upd hU (fun _ _ e => e), ?_⟩, hU, fun q hq => ?_⟩
        · have h6 : Own w8 126 2 v6 (0 + ws.length + 1) ([] ++ wrs ws ++ [.int .i64 i, .string b]) := (hO6.upd hU7 (fun q hq e => by have := hnew6 q hq; omega)).upd hU8 (fun q hq e => by have := hnew6 q hq; omega)
          have e1 : (ws ++ [(i, b)]).length = 0 + ws.length + 1 := by simp
          have e2 : wrs (ws ++ [(i, b)]) = [] ++ wrs ws ++ [.int .i64 i, .string b] := by simp [wrs]
          show Own w8 _ 2 v6 (ws ++ [(i, b)]).length (wrs (ws ++ [(i, b)]))
          rw [e1, e2]
          exact h6
        · rcases hq with hq | hq
          · exact .inl (.inl hq)
          · exact .inr (by have := hnew6 q hq; omega)
  · rw [if_pos rfl] at hwr
    rw [hwr]
    clear hwr
    go_enter Tryz.func18, Tryz.ntmps18
    go_wp2_with (first
      | (refine wpList_load_all rfl _ _ rfl w.heap.size rfl _ _ _ HB.out.1 Tryz.underlying32 rfl rfl ?_)
      | (refine wpList_store_all rfl 32 _ _ rfl (w.heap.size + 1) #[.slice A la.length cap, vw, .int .i64 fl, .bool true] rfl rfl _ _ HB.out.2 rfl (row_one _ _ ha hb _ _) (by kernel_rfl) ?_
         intro w4 hB4 hU4 hs4))
    refine bodyPost_ret (results_cell_slot rfl _ _ (w.heap.size + 1) _ _ _ _ rfl hB4 Tryz.underlying32 rfl rfl (.int .i64 14) rfl) rfl ⟨vw, rfl, ?_⟩
    have hU := HU.out.then hU4 (fun q e => .inr (by omega))
    exact ⟨hRd.out.upd hU, hU, fun q hq => .inl hq⟩
end Go.Proofs.YtnmbhoidnbideaaGreat
