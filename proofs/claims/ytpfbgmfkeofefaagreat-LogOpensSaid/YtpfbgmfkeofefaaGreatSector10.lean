/-
  A sector that stands on a disk, of chapter 10's law. (Turned from XSector9.)
-/
import Derived.Test.YtpfbgmfkeofefaaGreatRef10
import Derived.Test.YtpfbgmfkeofefaaGreatCopy
import Derived.Test.YtpfbgmfkeofefaaGreatTakeT
import Derived.BigQuiet
namespace Go.Proofs.YtpfbgmfkeofefaaGreat
open Go Go.RowKit

section
variable {P : Program} {ops : Array Oper} {Q : Exit → Act → World → Prop}
/-- An operation whose run is known, as one step of a region that draws. -/
theorem step_run {o : Oper} {a : Act} {w W' : World} {K : Act → World → Prop} {E : Prop} {v : Value} (hg : o.guard = none) (hx : (execOp a.eval o).run P w = .ok (.value v) W') (h : K (a.put o.dst v) W') : if Region.wanted o (yielded ops a.tmps) = true then Oper.wp P o a w K Q else E := by
  have hw : Region.wanted o (yielded ops a.tmps) = true := by simp [Region.wanted, hg]
  rw [if_pos hw]
  unfold Oper.wp
  rw [hx]
  exact h
end
set_option maxRecDepth 100000 in
set_option maxHeartbeats 3200000 in
theorem sector_10 (w : World) (do_ : Int) (t : ByteArray) (ep sa ah part : Nat) (ht : t.size ≤ 2000) (hp : part < 256) :
    Calls Tryz.prog 15 #[.agg #[.int .i64 do_, .string t, .int .u64 (ep : Int), .int .u64 (sa : Int), .int .u64 (ah : Int), .int .u8 (part : Int)]] w fun e w' => ∃ s : ByteArray, e = .returned (.string s) ∧ Upd (fun _ => False) w w' := by
  by_cases h0 : do_ = 0
  · subst h0
    have hB1 : Blk (w.alloc (.cells #[.int .i64 0, .string t, .int .u64 (ep : Int), .int .u64 (sa : Int), .int .u64 (ah : Int), .int .u8 (part : Int)] 50)) w.heap.size 50 #[.int .i64 0, .string t, .int .u64 (ep : Int), .int .u64 (sa : Int), .int .u64 (ah : Int), .int .u8 (part : Int)] := Blk.new w _ _
    have hc := hB1.cells6
    go_enter Tryz.func15, Tryz.ntmps15
    go_upto_region 1 with fail
    go_upto_region 2 with fail
    generalize hW : (World.alloc _ (Obj.cells _ 111)) = W
    have hU : Upd (fun _ => False) w W := by rw [← hW]; exact ((Upd.refl _ w).alloc _).alloc _
    have hBg : Blk W w.heap.size 50 #[.int .i64 0, .string t, .int .u64 (ep : Int), .int .u64 (sa : Int), .int .u64 (ah : Int), .int .u8 (part : Int)] := by rw [← hW]; exact hB1.alloc _
    have hBz : Blk W (w.heap.size + 1) 111 (bytesV (List.replicate 64 0)).toArray := by
      rw [← hW]
      have := Blk.new (w.alloc (.cells #[.int .i64 0, .string t, .int .u64 (ep : Int), .int .u64 (sa : Int), .int .u64 (ah : Int), .int .u8 (part : Int)] 50)) 111 (bytesV (List.replicate 64 0)).toArray
      rw [show (w.alloc (.cells #[.int .i64 0, .string t, .int .u64 (ep : Int), .int .u64 (sa : Int), .int .u64 (ah : Int), .int .u8 (part : Int)] 50)).heap.size = w.heap.size + 1 by simp] at this
      exact this
    have H := Lib.hid (And.intro hU (And.intro hBg hBz))
    have hcg := hBg.cells6
    clear hW hU hBg hBz hB1 hc
    have HS := Lib.hid (fun W => refSectorsG_c t ep sa ah W ht)
    go_wp2_with fail
    refine (HS.out _).mono ?_
    rintro e w4 ⟨v4, rfl, hG⟩
    obtain ⟨n, hn⟩ : ∃ n, partsOf t.size = n := ⟨_, rfl⟩
    rw [hn] at hG
    have hn1 : 1 ≤ n := by rw [← hn]; unfold partsOf; omega
    have hn2 : n ≤ 63 := by rw [← hn]; unfold partsOf; omega
    obtain ⟨g4, cap4, rfl, -, -⟩ := hG.own.head (by omega)
    obtain ⟨q, hq⟩ : ∃ q, part % n = q := ⟨_, rfl⟩
    have hql : q < n := by rw [← hq]; exact Nat.mod_lt _ (by omega)
    have hqi : (part : Int) % (n : Int) = (q : Int) := by rw [← hq]; rfl
    have hl : ((cutG t.data.toList ep sa ah).map Lp.sec).length = n := by rw [List.length_map, cutG_len]; simpa using hn
    have hcell : w4.cell? ⟨g4, q, none⟩ = some (.string (((cutG t.data.toList ep sa ah).map Lp.sec)[q]'(by omega))) := by
      rw [hG.own.cellAt q (by omega), strs_get, List.getElem?_eq_getElem (by omega)]
      rfl
    obtain ⟨s, hs⟩ : ∃ s, ((cutG t.data.toList ep sa ah).map Lp.sec)[q]'(by omega) = s := ⟨_, rfl⟩
    rw [hs] at hcell
    have hcg4 := (H.out.2.1.upd hG.upd (fun e => e)).cells6
    have H4 := Lib.hid (H.out.1.then hG.upd (fun _ e => e.elim))
    have hni : ((n : Int) == 0) = false := by rw [beq_eq_false_iff_ne]; omega
    clear hG hs hl hq hn hcg
    go_wp2_with fail
    go_ret
    exact ⟨s, rfl, H4.out⟩
  · have hne0 : (do_ == 0) = false := by rw [beq_eq_false_iff_ne]; exact h0
    by_cases h1 : do_ = 1
    · subst h1
      have hB1 : Blk (w.alloc (.cells #[.int .i64 1, .string t, .int .u64 (ep : Int), .int .u64 (sa : Int), .int .u64 (ah : Int), .int .u8 (part : Int)] 50)) w.heap.size 50 #[.int .i64 1, .string t, .int .u64 (ep : Int), .int .u64 (sa : Int), .int .u64 (ah : Int), .int .u8 (part : Int)] := Blk.new w _ _
      have hc := hB1.cells6
      go_enter Tryz.func15, Tryz.ntmps15
      go_upto_region 1 with fail
      go_upto_region 2 with fail
      generalize hW : (World.alloc _ (Obj.cells _ 111)) = W
      have hU : Upd (fun _ => False) w W := by rw [← hW]; exact ((Upd.refl _ w).alloc _).alloc _
      have hBg : Blk W w.heap.size 50 #[.int .i64 1, .string t, .int .u64 (ep : Int), .int .u64 (sa : Int), .int .u64 (ah : Int), .int .u8 (part : Int)] := by rw [← hW]; exact hB1.alloc _
      have hBz : Blk W (w.heap.size + 1) 111 (bytesV (List.replicate 64 0)).toArray := by
        rw [← hW]
        have := Blk.new (w.alloc (.cells #[.int .i64 1, .string t, .int .u64 (ep : Int), .int .u64 (sa : Int), .int .u64 (ah : Int), .int .u8 (part : Int)] 50)) 111 (bytesV (List.replicate 64 0)).toArray
        rw [show (w.alloc (.cells #[.int .i64 1, .string t, .int .u64 (ep : Int), .int .u64 (sa : Int), .int .u64 (ah : Int), .int .u8 (part : Int)] 50)).heap.size = w.heap.size + 1 by simp] at this
        exact this
      have H := Lib.hid (And.intro hU (And.intro hBg hBz))
      have hcg := hBg.cells6
      clear hW hU hBg hBz hB1 hc
      go_upto_region 7 with fail
      obtain ⟨W2, vc, l2, hcp, hl2, hB2, hU2⟩ := run_copy64 H.out.2.2.drew (by simp) 60 64 (by omega) t
      have hcv : ∀ W : World, _ := fun W => trivial
      clear hcv
      refine wp_region_noPanic ?_
      refine wp_region_T (S := fun w' => Blk w' w.heap.size 50 #[.int .i64 1, .string t, .int .u64 (ep : Int), .int .u64 (sa : Int), .int .u64 (ah : Int), .int .u8 (part : Int)]) (T := fun _ => false) (by kernel_rfl) ?_
      have hS0 := H.out.2.1.drew
      have HC2 := Lib.hid (And.intro hcp (And.intro hl2 (And.intro hB2 hU2)))
      clear hcp hl2 hB2 hU2
      refine wpAnyT_take (i := 0) (v := ?_) rfl (by kernel_rfl) (by kernel_rfl) (by kernel_rfl) (by kernel_rfl) (fun _ _ _ h => h) (takes_yield rfl (Or.inl ⟨by rfl, ?_⟩)) (by assumption) (by kernel_rfl) ?_
      rotate_left 1
      · intro w' hSw; have hca := hSw.cells6; go_split_ands; first | (go_simp; done) | (go_simp; rfl) | rfl
      simp only [Act.put, List.getElem_toArray, List.getElem_cons_zero, List.setIfInBounds_toArray, List.set_cons_zero, List.set_cons_succ]
      refine wpAnyT_take (i := 1) (v := ?_) rfl (by kernel_rfl) (by kernel_rfl) (by kernel_rfl) (by kernel_rfl) (fun _ _ _ h => h) (takes_yield rfl (Or.inl ⟨by rfl, ?_⟩)) (by assumption) (by kernel_rfl) ?_
      rotate_left 1
      · intro w' hSw; have hca := hSw.cells6; go_split_ands; first | (go_simp; done) | (go_simp; rfl) | rfl
      simp only [Act.put, List.getElem_toArray, List.getElem_cons_zero, List.getElem_cons_succ, List.setIfInBounds_toArray, List.set_cons_zero, List.set_cons_succ]
      refine wpAnyT_take (i := 2) (v := ?_) rfl (by kernel_rfl) (by kernel_rfl) (by kernel_rfl) (by kernel_rfl) (fun _ _ _ h => h) (takes_yield rfl (Or.inl ⟨by rfl, ?_⟩)) (by assumption) (by kernel_rfl) ?_
      rotate_left 1
      · intro w' hSw; have hca := hSw.cells6; go_split_ands; first | (go_simp; done) | (go_simp; rfl) | rfl
      simp only [Act.put, List.getElem_toArray, List.getElem_cons_zero, List.getElem_cons_succ, List.setIfInBounds_toArray, List.set_cons_zero, List.set_cons_succ]
      refine wpAnyT_one (i := 3) (by kernel_rfl) rfl (fun K hK => ?_)
      refine step_run (v := vc) (W' := W2) (by rfl) (by have := HC2.out.1; go_simp) ?_
      have hS2 := hS0.upd HC2.out.2.2.2 (by omega)
      refine hK.out _ _ hS2 ?_
      clear hK hS0
      refine wpAnyT_done (by kernel_rfl) ?_ _
      refine NoPanic.normal ?_
      have hU2 : Hid (Upd (fun _ => False) w W2) := Lib.hid ((H.out.1.drew).then HC2.out.2.2.2 (fun q e => .inr (by omega)))
      have hcv := run_text64 HC2.out.2.2.1 HC2.out.2.1 60 64 (by omega)
      have hs60 : (str (l2.take 60)).size ≤ 4000 := by rw [str_size, List.length_take]; omega
      obtain ⟨S, hS⟩ : ∃ S, str (l2.take 60) = S := ⟨_, rfl⟩
      rw [hS] at hcv hs60
      have HCl := Lib.hid (fun W => refClose_c S W hs60)
      clear hS hs60 hS2 hcg
      go_wp2_with fail
      refine (HCl.out _).mono ?_
      rintro e w4 ⟨rfl, hU4⟩
      have H4 := Lib.hid (hU2.out.then hU4 (fun _ e => e.elim))
      clear hU4
      go_wp2_with fail
      go_ret
      exact ⟨_, rfl, H4.out⟩
    · have hne1 : (do_ == 1) = false := by rw [beq_eq_false_iff_ne]; exact h1
      by_cases h2 : do_ = 2
      · subst h2
        have hB1 : Blk (w.alloc (.cells #[.int .i64 2, .string t, .int .u64 (ep : Int), .int .u64 (sa : Int), .int .u64 (ah : Int), .int .u8 (part : Int)] 50)) w.heap.size 50 #[.int .i64 2, .string t, .int .u64 (ep : Int), .int .u64 (sa : Int), .int .u64 (ah : Int), .int .u8 (part : Int)] := Blk.new w _ _
        have hc := hB1.cells6
        go_enter Tryz.func15, Tryz.ntmps15
        go_upto_region 1 with fail
        go_upto_region 2 with fail
        generalize hW : (World.alloc _ (Obj.cells _ 111)) = W
        have hU : Upd (fun _ => False) w W := by rw [← hW]; exact ((Upd.refl _ w).alloc _).alloc _
        have hBg : Blk W w.heap.size 50 #[.int .i64 2, .string t, .int .u64 (ep : Int), .int .u64 (sa : Int), .int .u64 (ah : Int), .int .u8 (part : Int)] := by rw [← hW]; exact hB1.alloc _
        have hBz : Blk W (w.heap.size + 1) 111 (bytesV (List.replicate 64 0)).toArray := by
          rw [← hW]
          have := Blk.new (w.alloc (.cells #[.int .i64 2, .string t, .int .u64 (ep : Int), .int .u64 (sa : Int), .int .u64 (ah : Int), .int .u8 (part : Int)] 50)) 111 (bytesV (List.replicate 64 0)).toArray
          rw [show (w.alloc (.cells #[.int .i64 2, .string t, .int .u64 (ep : Int), .int .u64 (sa : Int), .int .u64 (ah : Int), .int .u8 (part : Int)] 50)).heap.size = w.heap.size + 1 by simp] at this
          exact this
        have H := Lib.hid (And.intro hU (And.intro hBg hBz))
        have hcg := hBg.cells6
        clear hW hU hBg hBz hB1 hc
        go_upto_region 10 with fail
        obtain ⟨W2, vc, l2, hcp, hl2, hB2, hU2⟩ := run_copy64 H.out.2.2.drew (by simp) 64 64 (by omega) t
        have hcv : ∀ W : World, _ := fun W => trivial
        clear hcv
        refine wp_region_noPanic ?_
        refine wp_region_T (S := fun w' => Blk w' w.heap.size 50 #[.int .i64 2, .string t, .int .u64 (ep : Int), .int .u64 (sa : Int), .int .u64 (ah : Int), .int .u8 (part : Int)]) (T := fun _ => false) (by kernel_rfl) ?_
        have hS0 := H.out.2.1.drew
        have HC2 := Lib.hid (And.intro hcp (And.intro hl2 (And.intro hB2 hU2)))
        clear hcp hl2 hB2 hU2
        refine wpAnyT_take (i := 0) (v := ?_) rfl (by kernel_rfl) (by kernel_rfl) (by kernel_rfl) (by kernel_rfl) (fun _ _ _ h => h) (takes_yield rfl (Or.inl ⟨by rfl, ?_⟩)) (by assumption) (by kernel_rfl) ?_
        rotate_left 1
        · intro w' hSw; have hca := hSw.cells6; go_split_ands; first | (go_simp; done) | (go_simp; rfl) | rfl
        simp only [Act.put, List.getElem_toArray, List.getElem_cons_zero, List.setIfInBounds_toArray, List.set_cons_zero, List.set_cons_succ]
        refine wpAnyT_take (i := 1) (v := ?_) rfl (by kernel_rfl) (by kernel_rfl) (by kernel_rfl) (by kernel_rfl) (fun _ _ _ h => h) (takes_yield rfl (Or.inl ⟨by rfl, ?_⟩)) (by assumption) (by kernel_rfl) ?_
        rotate_left 1
        · intro w' hSw; have hca := hSw.cells6; go_split_ands; first | (go_simp; done) | (go_simp; rfl) | rfl
        simp only [Act.put, List.getElem_toArray, List.getElem_cons_zero, List.getElem_cons_succ, List.setIfInBounds_toArray, List.set_cons_zero, List.set_cons_succ]
        refine wpAnyT_take (i := 2) (v := ?_) rfl (by kernel_rfl) (by kernel_rfl) (by kernel_rfl) (by kernel_rfl) (fun _ _ _ h => h) (takes_yield rfl (Or.inl ⟨by rfl, ?_⟩)) (by assumption) (by kernel_rfl) ?_
        rotate_left 1
        · intro w' hSw; have hca := hSw.cells6; go_split_ands; first | (go_simp; done) | (go_simp; rfl) | rfl
        simp only [Act.put, List.getElem_toArray, List.getElem_cons_zero, List.getElem_cons_succ, List.setIfInBounds_toArray, List.set_cons_zero, List.set_cons_succ]
        refine wpAnyT_one (i := 3) (by kernel_rfl) rfl (fun K hK => ?_)
        refine step_run (v := vc) (W' := W2) (by rfl) (by have := HC2.out.1; go_simp) ?_
        have hS2 := hS0.upd HC2.out.2.2.2 (by omega)
        refine hK.out _ _ hS2 ?_
        clear hK hS0
        refine wpAnyT_done (by kernel_rfl) ?_ _
        refine NoPanic.normal ?_
        have hU2 : Hid (Upd (fun _ => False) w W2) := Lib.hid ((H.out.1.drew).then HC2.out.2.2.2 (fun q e => .inr (by omega)))
        have hcv := run_text64 HC2.out.2.2.1 HC2.out.2.1 64 64 (by omega)
        clear hS2 hcg
        go_wp2_with fail
        go_ret
        exact ⟨_, rfl, hU2.out⟩
      · have hne2 : (do_ == 2) = false := by rw [beq_eq_false_iff_ne]; exact h2
        clear h0 h1 h2
        have hB1 : Blk (w.alloc (.cells #[.int .i64 do_, .string t, .int .u64 (ep : Int), .int .u64 (sa : Int), .int .u64 (ah : Int), .int .u8 (part : Int)] 50)) w.heap.size 50 #[.int .i64 do_, .string t, .int .u64 (ep : Int), .int .u64 (sa : Int), .int .u64 (ah : Int), .int .u8 (part : Int)] := Blk.new w _ _
        have hc := hB1.cells6
        go_enter Tryz.func15, Tryz.ntmps15
        go_upto_region 1 with fail
        go_upto_region 2 with fail
        generalize hW : (World.alloc _ (Obj.cells _ 111)) = W
        have hU : Upd (fun _ => False) w W := by rw [← hW]; exact ((Upd.refl _ w).alloc _).alloc _
        have hBg : Blk W w.heap.size 50 #[.int .i64 do_, .string t, .int .u64 (ep : Int), .int .u64 (sa : Int), .int .u64 (ah : Int), .int .u8 (part : Int)] := by rw [← hW]; exact hB1.alloc _
        have hBz : Blk W (w.heap.size + 1) 111 (bytesV (List.replicate 64 0)).toArray := by
          rw [← hW]
          have := Blk.new (w.alloc (.cells #[.int .i64 do_, .string t, .int .u64 (ep : Int), .int .u64 (sa : Int), .int .u64 (ah : Int), .int .u8 (part : Int)] 50)) 111 (bytesV (List.replicate 64 0)).toArray
          rw [show (w.alloc (.cells #[.int .i64 do_, .string t, .int .u64 (ep : Int), .int .u64 (sa : Int), .int .u64 (ah : Int), .int .u8 (part : Int)] 50)).heap.size = w.heap.size + 1 by simp] at this
          exact this
        have H := Lib.hid (And.intro hU (And.intro hBg hBz))
        have hcg := hBg.cells6
        clear hW hU hBg hBz hB1 hc
        have hcv := run_text64 H.out.2.2 (by simp) 64 64 (by omega)
        go_wp2_with fail
        go_ret
        exact ⟨_, rfl, H.out.1⟩
end Go.Proofs.YtpfbgmfkeofefaaGreat
