/-
  A law's world of chapter 09: a spoilt sector; any act. (Printed by mk_law9d.py.)
-/
import Derived.Test.YtnmbhoidnbideaaGreatLaw9C
namespace Go.Proofs.YtnmbhoidnbideaaGreat
open Go Go.RowKit

/-- The sector that is spoilt. -/
def spoilI (f n : Int) : Int := if 0 ≤ n ∧ n < 100 then f + n % 20 else n
structure Spoilt9 (wa wx : World) (vl vw vl' : Value) (r2 : Rd) (g2 : Nat) : Prop where
  blk : Blk wx g2 32 #[vl', vw, .int .i64 r2.fuse, .bool r2.off]
  left : RdLeft wa wx vl vw vl' vw r2
section
variable {w0 w w' : World} {x p : Nat} {d : Dk} {vl vw kv : Value} {r : Rd} {V : Kp} {n : Int}
theorem spoil_same (d : Dk) (i a : Int) (x : ByteArray) : (d.spoil i a x).1.pend = d.pend ∧ (d.spoil i a x).1.lasts.length = d.lasts.length := by
  unfold Dk.spoil
  split
  · exact ⟨rfl, by simp⟩
  · exact ⟨rfl, rfl⟩
set_option maxRecDepth 100000 in
set_option maxHeartbeats 3200000 in
theorem d9_spoil (hW : W9 w0 w x p d vl vw r kv V n) (t : ByteArray) (n_ a_ : Int) (x_ : ByteArray) (kp : Value) (f : Int) (hn_ : i64ok n_) (ha_ : i64ok a_) (hx_ : x_.size ≤ 9223372036854775807) (hf0 : 0 ≤ f) (hf1 : f ≤ 4096) :
    Calls Tryz.prog 15 #[.pointer (some ⟨x, 0, none⟩), .agg (act9 3 t n_ a_ x_ kp), .int .i64 f] w fun e w' => e = .returned (.bool true) ∧ Done9 w0 x p d w' := by
  have hwf := (hW.play.disks.one 0 rfl).wf
  obtain ⟨w3, hw3⟩ : ∃ w3, w.alloc (.cells (act9 3 t n_ a_ x_ kp) 47) = w3 := ⟨_, rfl⟩
  have hU3 : Upd (fun _ => False) w w3 := by rw [← hw3]; exact (Upd.refl _ w).alloc _
  have hB3 : Blk w3 w.heap.size 47 (act9 3 t n_ a_ x_ kp) := by rw [← hw3]; exact Blk.new w _ _
  have H3 := Lib.hid (And.intro (hW.still hU3) hB3)
  have Hw := Lib.hid hw3
  have Hwf := Lib.hid hwf
  have hc := hB3.cells6
  have hcx := H3.out.1.blk.cells13
  obtain ⟨J, hJ⟩ : ∃ J, spoilI f n_ = J := ⟨_, rfl⟩
  obtain ⟨hi1, hi2⟩ := hW.play.is.spoil J a_ x_
  obtain ⟨⟨r2, E⟩, hR2⟩ : ∃ q, r.spoil J a_ x_ = q := ⟨_, rfl⟩
  obtain ⟨⟨d2, E2⟩, hD2⟩ : ∃ q, d.spoil J a_ x_ = q := ⟨_, rfl⟩
  rw [hR2, hD2] at hi1 hi2
  simp only at hi1 hi2
  subst hi2
  have hsm := spoil_same d J a_ x_
  rw [hD2] at hsm
  simp only at hsm
  have hrp : Hid (∀ W, Upd (fun _ => False) w3 W → Calls Tryz.prog 46 #[.agg #[vl, vw, .int .i64 r.fuse, .bool r.off], .int .i64 J, .int .i64 a_, .string x_] W fun e w' => ∃ vl', e = .returned (.tuple #[.agg #[vl', vw, .int .i64 r2.fuse, .bool r2.off], .int .i64 E]) ∧ RdLeft W w' vl vw vl' vw r2) := Lib.hid fun W hu => by
    have := rspoil_c (H3.out.1.play.rd.upd hu) hW.play.fits J a_ x_ ha_ hx_
    rw [hR2] at this
    exact this
  have hsp : Hid (∀ W X, DksX w0 W [(p, d)] X → Calls Tryz.prog 47 #[.pointer (some ⟨p, 0, none⟩), .int .i64 J, .int .i64 a_, .string x_] W fun e w' => e = .returned (.int .i64 E) ∧ DksX w0 w' [(p, d2)] X ∧ BlkKept W w' ∧ XKept X W w') := Lib.hid fun W X hX => by
    have := spoil_v hX (i := 0) rfl J a_ x_ ha_ hx_
    rw [hD2] at this
    exact this
  have HI := Lib.hid (And.intro hi1 hsm)
  have HAx : Hid (w.heap.size ≠ x) := fun e => hB3.ne_ H3.out.1.blk (by decide) e
  have HJ := Lib.hid hJ
  obtain ⟨hn1, hn2⟩ := hn_
  clear hU3 hB3 hw3 hW hwf hJ hi1 hR2 hD2 hsm ha_ hx_
  go_enter Tryz.func15, Tryz.ntmps15
  go_upto_region 1 with fail
  rw [Hw.out]
  clear Hw
  go_upto_region 19 with fail
  obtain ⟨B, hB⟩ : ∃ B, decide (0 ≤ n_ ∧ n_ < 100) = B := ⟨_, rfl⟩
  have HB := Lib.hid hB
  clear hB
  go_cut [105] (fun t105 wx => t105 = .bool B ∧ w3 = wx)
  case first =>
    have hcs : (0 ≤ n_ ∧ n_ < 100 ∧ B = true) ∨ (n_ < 0 ∧ B = false) ∨ (0 ≤ n_ ∧ ¬ n_ < 100 ∧ B = false) := by
      have := HB.out
      cases B
      · have := of_decide_eq_false this
        simp
        omega
      · have := of_decide_eq_true this
        simp
        omega
    rcases hcs with ⟨c1, c2, rfl⟩ | ⟨c1, rfl⟩ | ⟨c1, c2, rfl⟩
    all_goals
      go_wp2_with fail
      go_meet
      exact ⟨rfl, rfl⟩
  case rest =>
  obtain ⟨rfl, rfl⟩ := hcut
  go_upto_if 105 with fail
  go_cut [11] (fun t11 wx => t11 = .int .i64 J ∧ w3 = wx)
  case first =>
    cases B
    · have c := of_decide_eq_false HB.out
      obtain rfl : n_ = J := by
        have := HJ.out
        unfold spoilI at this
        rw [if_neg c] at this
        exact this
      clear c
      go_wp2_with fail
      go_meet
      exact ⟨rfl, rfl⟩
    · have c := of_decide_eq_true HB.out
      obtain ⟨c1, c2⟩ := c
      have c3 : f + n_ % 20 = J := by
        have := HJ.out
        unfold spoilI at this
        rw [if_pos ⟨c1, c2⟩] at this
        exact this
      have hm : n_ % 20 ≤ 19 := by omega
      have hm0 : 0 ≤ n_ % 20 := by omega
      go_wp2_with fail
      go_meet
      exact ⟨rfl, rfl⟩
  case rest =>
    obtain ⟨rfl, rfl⟩ := hcut
    clear hn1 hn2 HJ
    go_upto_region 21 with fail
    go_cut [12, 13] (fun t12 t13 wx => ∃ (g2 : Nat) (vl' : Value), t12 = .pointer (some ⟨g2, 0, none⟩) ∧ t13 = .int .i64 E ∧ Spoilt9 w3 wx vl vw vl' r2 g2)
    case first =>
      refine wp_region_noPanic ?_
      refine wp_region_T (S := fun w' => Blk w' x 41 (row9 p kv vl vw r V n) ∧ Blk w' w.heap.size 47 (act9 3 t n_ a_ x_ kp)) (T := fun _ => false) (by kernel_rfl) ?_
      have hS0 := And.intro H3.out.1.blk.drew H3.out.2.drew
      have hU0 : Upd (fun _ => False) w3 w3.drew := (Upd.refl _ _).drew
      refine wpAnyT_take (i := 0) (v := ?_) rfl (by kernel_rfl) (by kernel_rfl) (by kernel_rfl) (by kernel_rfl) (fun _ _ _ h => h) (takes_yield rfl (Or.inl ⟨by rfl, ?_⟩)) (by assumption) (by kernel_rfl) ?_
      rotate_left 1
      · intro w' hSw; have hcw := hSw.1.cells13; have hca := hSw.2.cells6; go_split_ands; first | (go_simp; done) | (go_simp; rfl) | rfl
      simp only [Act.put, List.getElem_toArray, List.getElem_cons_zero, List.setIfInBounds_toArray, List.set_cons_zero, List.set_cons_succ]
      refine wpAnyT_take (i := 1) (v := ?_) rfl (by kernel_rfl) (by kernel_rfl) (by kernel_rfl) (by kernel_rfl) (fun _ _ _ h => h) (takes_yield rfl (Or.inl ⟨by rfl, ?_⟩)) (by assumption) (by kernel_rfl) ?_
      rotate_left 1
      · intro w' hSw; have hcw := hSw.1.cells13; have hca := hSw.2.cells6; go_split_ands; first | (go_simp; done) | (go_simp; rfl) | rfl
      simp only [Act.put, List.getElem_toArray, List.getElem_cons_zero, List.getElem_cons_succ, List.setIfInBounds_toArray, List.set_cons_zero, List.set_cons_succ]
      refine wpAnyT_take (i := 2) (v := ?_) rfl (by kernel_rfl) (by kernel_rfl) (by kernel_rfl) (by kernel_rfl) (fun _ _ _ h => h) (takes_yield rfl (Or.inl ⟨by rfl, ?_⟩)) (by assumption) (by kernel_rfl) ?_
      rotate_left 1
      · intro w' hSw; have hcw := hSw.1.cells13; have hca := hSw.2.cells6; go_split_ands; first | (go_simp; done) | (go_simp; rfl) | rfl
      simp only [Act.put, List.getElem_toArray, List.getElem_cons_zero, List.getElem_cons_succ, List.setIfInBounds_toArray, List.set_cons_zero, List.set_cons_succ]
      refine wpAnyT_take (i := 3) (v := ?_) rfl (by kernel_rfl) (by kernel_rfl) (by kernel_rfl) (by kernel_rfl) (fun _ _ _ h => h) (takes_yield rfl (Or.inl ⟨by rfl, ?_⟩)) (by assumption) (by kernel_rfl) ?_
      rotate_left 1
      · intro w' hSw; have hcw := hSw.1.cells13; have hca := hSw.2.cells6; go_split_ands; first | (go_simp; done) | (go_simp; rfl) | rfl
      simp only [Act.put, List.getElem_toArray, List.getElem_cons_zero, List.getElem_cons_succ, List.setIfInBounds_toArray, List.set_cons_zero, List.set_cons_succ]
      refine wpAnyT_take (i := 4) (v := ?_) rfl (by kernel_rfl) (by kernel_rfl) (by kernel_rfl) (by kernel_rfl) (fun _ _ _ h => h) (takes_yield rfl (Or.inl ⟨by rfl, ?_⟩)) (by assumption) (by kernel_rfl) ?_
      rotate_left 1
      · intro w' hSw; have hcw := hSw.1.cells13; have hca := hSw.2.cells6; go_split_ands; first | (go_simp; done) | (go_simp; rfl) | rfl
      simp only [Act.put, List.getElem_toArray, List.getElem_cons_zero, List.getElem_cons_succ, List.setIfInBounds_toArray, List.set_cons_zero, List.set_cons_succ]
      refine wpAnyT_take (i := 5) (v := ?_) rfl (by kernel_rfl) (by kernel_rfl) (by kernel_rfl) (by kernel_rfl) (fun _ _ _ h => h) (takes_yield rfl (Or.inl ⟨by rfl, ?_⟩)) (by assumption) (by kernel_rfl) ?_
      rotate_left 1
      · intro w' hSw; have hcw := hSw.1.cells13; have hca := hSw.2.cells6; go_split_ands; first | (go_simp; done) | (go_simp; rfl) | rfl
      simp only [Act.put, List.getElem_toArray, List.getElem_cons_zero, List.getElem_cons_succ, List.setIfInBounds_toArray, List.set_cons_zero, List.set_cons_succ]
      refine wpAnyT_take (i := 6) (v := ?_) rfl (by kernel_rfl) (by kernel_rfl) (by kernel_rfl) (by kernel_rfl) (fun _ _ _ h => h) (takes_yield rfl (Or.inl ⟨by rfl, ?_⟩)) (by assumption) (by kernel_rfl) ?_
      rotate_left 1
      · intro w' hSw; have hcw := hSw.1.cells13; have hca := hSw.2.cells6; go_split_ands; first | (go_simp; done) | (go_simp; rfl) | rfl
      simp only [Act.put, List.getElem_toArray, List.getElem_cons_zero, List.getElem_cons_succ, List.setIfInBounds_toArray, List.set_cons_zero, List.set_cons_succ]
      refine wpAnyT_take (i := 7) (v := ?_) rfl (by kernel_rfl) (by kernel_rfl) (by kernel_rfl) (by kernel_rfl) (fun _ _ _ h => h) (takes_yield rfl (Or.inl ⟨by rfl, ?_⟩)) (by assumption) (by kernel_rfl) ?_
      rotate_left 1
      · intro w' hSw; have hcw := hSw.1.cells13; have hca := hSw.2.cells6; go_split_ands; first | (go_simp; done) | (go_simp; rfl) | rfl
      simp only [Act.put, List.getElem_toArray, List.getElem_cons_zero, List.getElem_cons_succ, List.setIfInBounds_toArray, List.set_cons_zero, List.set_cons_succ]
      refine wpAnyT_take (i := 8) (v := ?_) rfl (by kernel_rfl) (by kernel_rfl) (by kernel_rfl) (by kernel_rfl) (fun _ _ _ h => h) (takes_yield rfl (Or.inl ⟨by rfl, ?_⟩)) (by assumption) (by kernel_rfl) ?_
      rotate_left 1
      · intro w' hSw; have hcw := hSw.1.cells13; have hca := hSw.2.cells6; go_split_ands; first | (go_simp; done) | (go_simp; rfl) | rfl
      simp only [Act.put, List.getElem_toArray, List.getElem_cons_zero, List.getElem_cons_succ, List.setIfInBounds_toArray, List.set_cons_zero, List.set_cons_succ]
      refine wpAnyT_two (i := 9) (j := 13) (by kernel_rfl) rfl rfl (fun K hK => ?_) (fun K hK => ?_)
      · skip
        go_simp
        refine (hrp.out _ hU0).mono ?_
        rintro e wc1 ⟨vl', rfl, hl1⟩
        have hs1 := And.intro (hS0.1.upd hl1.upd (fun e => e)) (hS0.2.upd hl1.upd (fun e => e))
        have hu1 := hU0.then hl1.upd (fun _ e => e.elim)
        refine hK.out _ _ hs1 ?_
        have hl1b := hl1.pre hU0
        clear hK
        refine wpAnyT_take (i := 10) (v := ?_) rfl (by kernel_rfl) (by kernel_rfl) (by kernel_rfl) (by kernel_rfl) (fun _ _ _ h => h) (takes_yield rfl (Or.inl ⟨by rfl, ?_⟩)) (by assumption) (by kernel_rfl) ?_
        rotate_left 1
        · intro w' hSw; go_split_ands; first | (go_simp; done) | (go_simp; rfl) | rfl
        simp only [Act.put, List.getElem_toArray, List.getElem_cons_zero, List.getElem_cons_succ, List.setIfInBounds_toArray, List.set_cons_zero, List.set_cons_succ]
        refine wpAnyT_take (i := 11) (v := ?_) rfl (by kernel_rfl) (by kernel_rfl) (by kernel_rfl) (by kernel_rfl) (fun _ _ _ h => h) (takes_yield rfl (Or.inl ⟨by rfl, ?_⟩)) (by assumption) (by kernel_rfl) ?_
        rotate_left 1
        · intro w' hSw; go_split_ands; first | (go_simp; done) | (go_simp; rfl) | rfl
        simp only [Act.put, List.getElem_toArray, List.getElem_cons_zero, List.getElem_cons_succ, List.setIfInBounds_toArray, List.set_cons_zero, List.set_cons_succ]
        refine wpAnyT_take (i := 12) (v := ?_) rfl (by kernel_rfl) (by kernel_rfl) (by kernel_rfl) (by kernel_rfl) (fun _ _ _ h => h) (takes_yield rfl (Or.inl ⟨by rfl, ?_⟩)) (by assumption) (by kernel_rfl) ?_
        rotate_left 1
        · intro w' hSw; go_split_ands; first | (go_simp; done) | (go_simp; rfl) | rfl
        simp only [Act.put, List.getElem_toArray, List.getElem_cons_zero, List.getElem_cons_succ, List.setIfInBounds_toArray, List.set_cons_zero, List.set_cons_succ]
        refine wpAnyT_one (i := 13) (by kernel_rfl) rfl (fun K hK => ?_)
        go_simp
        have hs2 := And.intro (hs1.1.alloc (.cells zeroRd 32)) (hs1.2.alloc (.cells zeroRd 32))
        have hu2 := hu1.alloc (.cells zeroRd 32)
        refine hK.out _ _ hs2 ?_
        have b12_2 := Blk.new (wc1) 32 zeroRd
        have n12_2 := hu1.size
        have hl2 := hl1b.post ((Upd.refl (fun _ => False) (wc1)).alloc (.cells zeroRd 32))
        clear hK
        refine wpAnyT_one (i := 14) (by kernel_rfl) rfl (fun K hK => ?_)
        refine step_store_all (by rfl) 32 _ _ (by rfl) (wc1).heap.size #[vl', vw, .int .i64 r2.fuse, .bool r2.off] (by rfl) (by rfl) _ _ b12_2 rfl (rdrow_one r2 hl2.at_) (by kernel_rfl) ?_
        intro y2 hB2 hU2 hz2
        have hg : w3.heap.size ≤ (wc1).heap.size := n12_2
        have hy2 := And.intro (hs2.1.upd hU2 (fun e => hs2.1.ne_ b12_2 (by decide) e)) (hs2.2.upd hU2 (fun e => hs2.2.ne_ b12_2 (by decide) e))
        refine hK.out _ _ hy2 ?_
        have hly := hl2.store hU2 (fun q hq e => hl2.at_.ne b12_2 (by decide) (by decide) (e ▸ hq)) hg
        have HZ := Lib.hid (show Spoilt9 w3 y2 vl vw vl' r2 (wc1).heap.size from ⟨hB2, hly⟩)
        clear hK hB2 hU2 hz2 hly
        refine wpAnyT_take (i := 15) (v := ?_) rfl (by kernel_rfl) (by kernel_rfl) (by kernel_rfl) (by kernel_rfl) (fun _ _ _ h => h) (takes_yield rfl (Or.inl ⟨by rfl, ?_⟩)) (by assumption) (by kernel_rfl) ?_
        rotate_left 1
        · intro w' hSw; go_split_ands; first | (go_simp; done) | (go_simp; rfl) | rfl
        simp only [Act.put, List.getElem_toArray, List.getElem_cons_zero, List.getElem_cons_succ, List.setIfInBounds_toArray, List.set_cons_zero, List.set_cons_succ]
        refine wpAnyT_done (by kernel_rfl) ?_ _
        refine NoPanic.normal ?_
        go_wp2_with fail
        go_meet
        exact ⟨_, vl', rfl, rfl, HZ.out⟩
      · skip
        go_simp
        have hs3 := And.intro (hS0.1.alloc (.cells zeroRd 32)) (hS0.2.alloc (.cells zeroRd 32))
        have hu3 := hU0.alloc (.cells zeroRd 32)
        refine hK.out _ _ hs3 ?_
        have b12_3 := Blk.new (w3.drew) 32 zeroRd
        have n12_3 := hU0.size
        clear hK
        refine wpAnyT_one (i := 9) (by kernel_rfl) rfl (fun K hK => ?_)
        go_simp
        refine (hrp.out _ hu3).mono ?_
        rintro e wc4 ⟨vl', rfl, hl4⟩
        have hs4 := And.intro (hs3.1.upd hl4.upd (fun e => e)) (hs3.2.upd hl4.upd (fun e => e))
        have hu4 := hu3.then hl4.upd (fun _ e => e.elim)
        refine hK.out _ _ hs4 ?_
        have b12_4 := b12_3.upd hl4.upd (fun e => e)
        have hl4b := hl4.pre hu3
        clear hK
        refine wpAnyT_take (i := 10) (v := ?_) rfl (by kernel_rfl) (by kernel_rfl) (by kernel_rfl) (by kernel_rfl) (fun _ _ _ h => h) (takes_yield rfl (Or.inl ⟨by rfl, ?_⟩)) (by assumption) (by kernel_rfl) ?_
        rotate_left 1
        · intro w' hSw; go_split_ands; first | (go_simp; done) | (go_simp; rfl) | rfl
        simp only [Act.put, List.getElem_toArray, List.getElem_cons_zero, List.getElem_cons_succ, List.setIfInBounds_toArray, List.set_cons_zero, List.set_cons_succ]
        refine wpAnyT_take (i := 11) (v := ?_) rfl (by kernel_rfl) (by kernel_rfl) (by kernel_rfl) (by kernel_rfl) (fun _ _ _ h => h) (takes_yield rfl (Or.inl ⟨by rfl, ?_⟩)) (by assumption) (by kernel_rfl) ?_
        rotate_left 1
        · intro w' hSw; go_split_ands; first | (go_simp; done) | (go_simp; rfl) | rfl
        simp only [Act.put, List.getElem_toArray, List.getElem_cons_zero, List.getElem_cons_succ, List.setIfInBounds_toArray, List.set_cons_zero, List.set_cons_succ]
        refine wpAnyT_take (i := 12) (v := ?_) rfl (by kernel_rfl) (by kernel_rfl) (by kernel_rfl) (by kernel_rfl) (fun _ _ _ h => h) (takes_yield rfl (Or.inl ⟨by rfl, ?_⟩)) (by assumption) (by kernel_rfl) ?_
        rotate_left 1
        · intro w' hSw; go_split_ands; first | (go_simp; done) | (go_simp; rfl) | rfl
        simp only [Act.put, List.getElem_toArray, List.getElem_cons_zero, List.getElem_cons_succ, List.setIfInBounds_toArray, List.set_cons_zero, List.set_cons_succ]
        refine wpAnyT_one (i := 14) (by kernel_rfl) rfl (fun K hK => ?_)
        refine step_store_all (by rfl) 32 _ _ (by rfl) (w3.drew).heap.size #[vl', vw, .int .i64 r2.fuse, .bool r2.off] (by rfl) (by rfl) _ _ b12_4 rfl (rdrow_one r2 hl4b.at_) (by kernel_rfl) ?_
        intro y2 hB2 hU2 hz2
        have hg : w3.heap.size ≤ (w3.drew).heap.size := n12_3
        have hy2 := And.intro (hs4.1.upd hU2 (fun e => hs4.1.ne_ b12_4 (by decide) e)) (hs4.2.upd hU2 (fun e => hs4.2.ne_ b12_4 (by decide) e))
        refine hK.out _ _ hy2 ?_
        have hly := hl4b.store hU2 (fun q hq e => hl4b.at_.ne b12_4 (by decide) (by decide) (e ▸ hq)) hg
        have HZ := Lib.hid (show Spoilt9 w3 y2 vl vw vl' r2 (w3.drew).heap.size from ⟨hB2, hly⟩)
        clear hK hB2 hU2 hz2 hly
        refine wpAnyT_take (i := 15) (v := ?_) rfl (by kernel_rfl) (by kernel_rfl) (by kernel_rfl) (by kernel_rfl) (fun _ _ _ h => h) (takes_yield rfl (Or.inl ⟨by rfl, ?_⟩)) (by assumption) (by kernel_rfl) ?_
        rotate_left 1
        · intro w' hSw; go_split_ands; first | (go_simp; done) | (go_simp; rfl) | rfl
        simp only [Act.put, List.getElem_toArray, List.getElem_cons_zero, List.getElem_cons_succ, List.setIfInBounds_toArray, List.set_cons_zero, List.set_cons_succ]
        refine wpAnyT_done (by kernel_rfl) ?_ _
        refine NoPanic.normal ?_
        go_wp2_with fail
        go_meet
        exact ⟨_, vl', rfl, rfl, HZ.out⟩
    case rest =>
      obtain ⟨g2, vl', rfl, rfl, hSp⟩ := hcut
      have HSp := Lib.hid hSp
      clear hSp hc hcx
      rename World => wx
      have hbx := H3.out.1.blk.upd HSp.out.left.upd (fun e => e)
      have hdx := H3.out.1.play.disks.ref HSp.out.left
      have HX := Lib.hid (And.intro hbx (And.intro hdx (And.intro (H3.out.2.upd HSp.out.left.upd (fun e => e)) (H3.out.1.kept.kept fun _ _ hB => hB.upd HSp.out.left.upd (fun e => e)))))
      have HL := Lib.hid H3.out.1.low
      clear hbx hdx hrp H3
      go_upto_region 22 with fail
      go_upto_region 23 with (first
        | (refine wpList_load_all rfl _ _ rfl g2 rfl _ _ _ HSp.out.blk Tryz.underlying32 rfl rfl ?_)
        | (refine wpList_store_part rfl 32 _ _ rfl x 2 #[vl', vw, .int .i64 r2.fuse, .bool r2.off] rfl rfl _ _ (row9 p kv vl' vw r2 V n) HX.out.1 (by simp) rfl (rdrow_one r2 HSp.out.left.at_) (by kernel_rfl) ?_
           intro wy hBy hUy hsy))
      have hx0 := hBy.cell 0
      have hay := HX.out.2.2.1.upd hUy (fun e => HX.out.1.ne_ HX.out.2.2.1 (by decide) e.symm)
      have hdy := HX.out.2.1.off HX.out.1 (by decide) (by decide) HL.out hUy
      have hry : RdAt wy vl' vw r2 := ⟨HSp.out.left.at_.lasts.upd hUy (fun _ hq e => HSp.out.left.at_.ne HX.out.1 (by decide) (by decide) (.inl (e ▸ hq))), HSp.out.left.at_.ws.upd hUy (fun _ hq e => HSp.out.left.at_.ne HX.out.1 (by decide) (by decide) (.inr (e ▸ hq)))⟩
      have hky : Keeps9 w0 wy p kv V n := HX.out.2.2.2.kept fun _ _ hb => hb.upd hUy (fun e => HX.out.1.ne_ hb (by decide) e.symm)
      have HY := Lib.hid (And.intro hBy (And.intro hay (And.intro hdy (And.intro hry hky))))
      clear hx0 hay hdy hry hky hBy hUy hsy HX HSp
      refine wp_region_noPanic ?_
      refine wp_region_T (S := fun w' => w'.cell? ⟨x, 0, none⟩ = some (.pointer (some ⟨p, 0, none⟩)) ∧ Blk w' w.heap.size 47 (act9 3 t n_ a_ x_ kp)) (T := fun _ => false) (by kernel_rfl) ?_
      have hS0 := And.intro (show wy.drew.cell? ⟨x, 0, none⟩ = some (.pointer (some ⟨p, 0, none⟩)) from HY.out.1.drew.cell 0) HY.out.2.1.drew
      refine wpAnyT_take (i := 0) (v := ?_) rfl (by kernel_rfl) (by kernel_rfl) (by kernel_rfl) (by kernel_rfl) (fun _ _ _ h => h) (takes_yield rfl (Or.inl ⟨by rfl, ?_⟩)) (by assumption) (by kernel_rfl) ?_
      rotate_left 1
      · intro w' hSw; have hca := hSw.2.cells6; have hcw := hSw.1; go_split_ands; first | (go_simp; done) | (go_simp; rfl) | rfl
      simp only [Act.put, List.getElem_toArray, List.getElem_cons_zero, List.setIfInBounds_toArray, List.set_cons_zero, List.set_cons_succ]
      refine wpAnyT_take (i := 1) (v := ?_) rfl (by kernel_rfl) (by kernel_rfl) (by kernel_rfl) (by kernel_rfl) (fun _ _ _ h => h) (takes_yield rfl (Or.inl ⟨by rfl, ?_⟩)) (by assumption) (by kernel_rfl) ?_
      rotate_left 1
      · intro w' hSw; have hca := hSw.2.cells6; have hcw := hSw.1; go_split_ands; first | (go_simp; done) | (go_simp; rfl) | rfl
      simp only [Act.put, List.getElem_toArray, List.getElem_cons_zero, List.getElem_cons_succ, List.setIfInBounds_toArray, List.set_cons_zero, List.set_cons_succ]
      refine wpAnyT_take (i := 2) (v := ?_) rfl (by kernel_rfl) (by kernel_rfl) (by kernel_rfl) (by kernel_rfl) (fun _ _ _ h => h) (takes_yield rfl (Or.inl ⟨by rfl, ?_⟩)) (by assumption) (by kernel_rfl) ?_
      rotate_left 1
      · intro w' hSw; have hca := hSw.2.cells6; have hcw := hSw.1; go_split_ands; first | (go_simp; done) | (go_simp; rfl) | rfl
      simp only [Act.put, List.getElem_toArray, List.getElem_cons_zero, List.getElem_cons_succ, List.setIfInBounds_toArray, List.set_cons_zero, List.set_cons_succ]
      refine wpAnyT_take (i := 3) (v := ?_) rfl (by kernel_rfl) (by kernel_rfl) (by kernel_rfl) (by kernel_rfl) (fun _ _ _ h => h) (takes_yield rfl (Or.inl ⟨by rfl, ?_⟩)) (by assumption) (by kernel_rfl) ?_
      rotate_left 1
      · intro w' hSw; have hca := hSw.2.cells6; have hcw := hSw.1; go_split_ands; first | (go_simp; done) | (go_simp; rfl) | rfl
      simp only [Act.put, List.getElem_toArray, List.getElem_cons_zero, List.getElem_cons_succ, List.setIfInBounds_toArray, List.set_cons_zero, List.set_cons_succ]
      refine wpAnyT_take (i := 4) (v := ?_) rfl (by kernel_rfl) (by kernel_rfl) (by kernel_rfl) (by kernel_rfl) (fun _ _ _ h => h) (takes_yield rfl (Or.inl ⟨by rfl, ?_⟩)) (by assumption) (by kernel_rfl) ?_
      rotate_left 1
      · intro w' hSw; have hca := hSw.2.cells6; have hcw := hSw.1; go_split_ands; first | (go_simp; done) | (go_simp; rfl) | rfl
      simp only [Act.put, List.getElem_toArray, List.getElem_cons_zero, List.getElem_cons_succ, List.setIfInBounds_toArray, List.set_cons_zero, List.set_cons_succ]
      refine wpAnyT_take (i := 5) (v := ?_) rfl (by kernel_rfl) (by kernel_rfl) (by kernel_rfl) (by kernel_rfl) (fun _ _ _ h => h) (takes_yield rfl (Or.inl ⟨by rfl, ?_⟩)) (by assumption) (by kernel_rfl) ?_
      rotate_left 1
      · intro w' hSw; have hca := hSw.2.cells6; have hcw := hSw.1; go_split_ands; first | (go_simp; done) | (go_simp; rfl) | rfl
      simp only [Act.put, List.getElem_toArray, List.getElem_cons_zero, List.getElem_cons_succ, List.setIfInBounds_toArray, List.set_cons_zero, List.set_cons_succ]
      refine wpAnyT_take (i := 6) (v := ?_) rfl (by kernel_rfl) (by kernel_rfl) (by kernel_rfl) (by kernel_rfl) (fun _ _ _ h => h) (takes_yield rfl (Or.inl ⟨by rfl, ?_⟩)) (by assumption) (by kernel_rfl) ?_
      rotate_left 1
      · intro w' hSw; have hca := hSw.2.cells6; have hcw := hSw.1; go_split_ands; first | (go_simp; done) | (go_simp; rfl) | rfl
      simp only [Act.put, List.getElem_toArray, List.getElem_cons_zero, List.getElem_cons_succ, List.setIfInBounds_toArray, List.set_cons_zero, List.set_cons_succ]
      refine wpAnyT_take (i := 7) (v := ?_) rfl (by kernel_rfl) (by kernel_rfl) (by kernel_rfl) (by kernel_rfl) (fun _ _ _ h => h) (takes_yield rfl (Or.inl ⟨by rfl, ?_⟩)) (by assumption) (by kernel_rfl) ?_
      rotate_left 1
      · intro w' hSw; have hca := hSw.2.cells6; have hcw := hSw.1; go_split_ands; first | (go_simp; done) | (go_simp; rfl) | rfl
      simp only [Act.put, List.getElem_toArray, List.getElem_cons_zero, List.getElem_cons_succ, List.setIfInBounds_toArray, List.set_cons_zero, List.set_cons_succ]
      refine wpAnyT_take (i := 8) (v := ?_) rfl (by kernel_rfl) (by kernel_rfl) (by kernel_rfl) (by kernel_rfl) (fun _ _ _ h => h) (takes_yield rfl (Or.inl ⟨by rfl, ?_⟩)) (by assumption) (by kernel_rfl) ?_
      rotate_left 1
      · intro w' hSw; have hca := hSw.2.cells6; have hcw := hSw.1; go_split_ands; first | (go_simp; done) | (go_simp; rfl) | rfl
      simp only [Act.put, List.getElem_toArray, List.getElem_cons_zero, List.getElem_cons_succ, List.setIfInBounds_toArray, List.set_cons_zero, List.set_cons_succ]
      refine wpAnyT_take (i := 10) (v := ?_) rfl (by kernel_rfl) (by kernel_rfl) (by kernel_rfl) (by kernel_rfl) (fun _ _ _ h => h) (takes_yield rfl (Or.inl ⟨by rfl, ?_⟩)) (by assumption) (by kernel_rfl) ?_
      rotate_left 1
      · intro w' hSw; have hca := hSw.2.cells6; have hcw := hSw.1; go_split_ands; first | (go_simp; done) | (go_simp; rfl) | rfl
      simp only [Act.put, List.getElem_toArray, List.getElem_cons_zero, List.getElem_cons_succ, List.setIfInBounds_toArray, List.set_cons_zero, List.set_cons_succ]
      refine wpAnyT_one (i := 9) (by kernel_rfl) rfl (fun K hK => ?_)
      go_simp
      refine (hsp.out _ _ (HY.out.2.2.1.still (Upd.refl _ wy).drew)).mono ?_
      rintro e w8 ⟨rfl, hDx, hBk, hXk⟩
      have hbx8 := hBk _ _ _ HY.out.1.drew (by decide) (by decide)
      have hS8 := And.intro (show w8.cell? ⟨x, 0, none⟩ = some (.pointer (some ⟨p, 0, none⟩)) from hbx8.cell 0) (hBk _ _ _ hS0.2 (by decide) (by decide))
      refine hK.out _ _ hS8 ?_
      have hW8 : W9 w0 w8 x p d2 vl' vw r2 kv V n := ⟨⟨hDx, (HY.out.2.2.2.1.upd (Upd.refl _ wy).drew).kept hXk, HI.out.1⟩, hbx8, HL.out, HY.out.2.2.2.2.kept fun _ _ hB => hBk _ _ _ hB.drew (by decide) (by decide)⟩
      have HO := Lib.hid (open_9u hW8 f)
      clear hK hS0 hDx hBk hXk hbx8 hW8 hsp
      refine wpAnyT_take (i := 11) (v := ?_) rfl (by kernel_rfl) (by kernel_rfl) (by kernel_rfl) (by kernel_rfl) (fun _ _ _ h => h) (takes_yield rfl (Or.inl ⟨by rfl, ?_⟩)) (by assumption) (by kernel_rfl) ?_
      rotate_left 1
      · intro w' hSw; go_split_ands; first | (go_simp; done) | (go_simp; rfl) | rfl
      simp only [Act.put, List.getElem_toArray, List.getElem_cons_zero, List.getElem_cons_succ, List.setIfInBounds_toArray, List.set_cons_zero, List.set_cons_succ]
      refine wpAnyT_take (i := 12) (v := ?_) rfl (by kernel_rfl) (by kernel_rfl) (by kernel_rfl) (by kernel_rfl) (fun _ _ _ h => h) (takes_yield rfl (Or.inl ⟨by rfl, ?_⟩)) (by assumption) (by kernel_rfl) ?_
      rotate_left 1
      · intro w' hSw; go_split_ands; first | (go_simp; done) | (go_simp; rfl) | rfl
      simp only [Act.put, List.getElem_toArray, List.getElem_cons_zero, List.getElem_cons_succ, List.setIfInBounds_toArray, List.set_cons_zero, List.set_cons_succ]
      refine wpAnyT_take (i := 13) (v := ?_) rfl (by kernel_rfl) (by kernel_rfl) (by kernel_rfl) (by kernel_rfl) (fun _ _ _ h => h) (takes_yield rfl (Or.inl ⟨by rfl, ?_⟩)) (by assumption) (by kernel_rfl) ?_
      rotate_left 1
      · intro w' hSw; go_split_ands; first | (go_simp; done) | (go_simp; rfl) | rfl
      simp only [Act.put, List.getElem_toArray, List.getElem_cons_zero, List.getElem_cons_succ, List.setIfInBounds_toArray, List.set_cons_zero, List.set_cons_succ]
      refine wpAnyT_take (i := 14) (v := ?_) rfl (by kernel_rfl) (by kernel_rfl) (by kernel_rfl) (by kernel_rfl) (fun _ _ _ h => h) (takes_yield rfl (Or.inl ⟨by rfl, ?_⟩)) (by assumption) (by kernel_rfl) ?_
      rotate_left 1
      · intro w' hSw; go_split_ands; first | (go_simp; done) | (go_simp; rfl) | rfl
      simp only [Act.put, List.getElem_toArray, List.getElem_cons_zero, List.getElem_cons_succ, List.setIfInBounds_toArray, List.set_cons_zero, List.set_cons_succ]
      refine wpAnyT_one (i := 15) (by kernel_rfl) rfl (fun K hK => ?_)
      go_simp
      refine HO.out.mono ?_
      rintro e w9 ⟨rfl, kv', V', hW9, hU9⟩
      have hxl := hS8.2
      have hS9 := And.intro (show w9.cell? ⟨x, 0, none⟩ = some (.pointer (some ⟨p, 0, none⟩)) from hW9.blk.cell 0) (hS8.2.upd hU9 (fun e => HAx.out e))
      refine hK.out _ _ hS9 ?_
      have H9 := Lib.hid hW9
      clear hK hS8 hW9 hU9 hxl
      refine wpAnyT_take (i := 16) (v := ?_) rfl (by kernel_rfl) (by kernel_rfl) (by kernel_rfl) (by kernel_rfl) (fun _ _ _ h => h) (takes_yield rfl (Or.inl ⟨by rfl, ?_⟩)) (by assumption) (by kernel_rfl) ?_
      rotate_left 1
      · intro w' hSw; go_split_ands; first | (go_simp; done) | (go_simp; rfl) | rfl
      simp only [Act.put, List.getElem_toArray, List.getElem_cons_zero, List.getElem_cons_succ, List.setIfInBounds_toArray, List.set_cons_zero, List.set_cons_succ]
      refine wpAnyT_take (i := 17) (v := ?_) rfl (by kernel_rfl) (by kernel_rfl) (by kernel_rfl) (by kernel_rfl) (fun _ _ _ h => h) (takes_yield rfl (Or.inl ⟨by rfl, ?_⟩)) (by assumption) (by kernel_rfl) ?_
      rotate_left 1
      · intro w' hSw; go_split_ands; first | (go_simp; done) | (go_simp; rfl) | rfl
      simp only [Act.put, List.getElem_toArray, List.getElem_cons_zero, List.getElem_cons_succ, List.setIfInBounds_toArray, List.set_cons_zero, List.set_cons_succ]
      refine wpAnyT_done (by kernel_rfl) ?_ _
      refine NoPanic.normal ?_
      go_wp2_with fail
      go_ret
      exact ⟨rfl, d2, vl', vw, r2, kv', V', _, H9.out, by have := HI.out.2.1; omega, HI.out.2.2⟩
/-- Any act. -/
theorem does_9 (hW : W9 w0 w x p d vl vw r kv V n) (a : Act9) (ho : a.ok w0) (f : Int) (hf0 : 0 ≤ f) (hf1 : f ≤ 4096) (hp : d.pend + 20 < 1000000) :
    Calls Tryz.prog 15 #[.pointer (some ⟨x, 0, none⟩), .agg #[.int .i64 a.do_, .string a.text, .int .i64 a.n, .int .i64 a.at_, .string a.x, a.keep], .int .i64 f] w fun e w' => e = .returned (.bool true) ∧ Done9 w0 x p d w' := by
  obtain ⟨do_, t, n_, a_, x_, kp, ks⟩ := a
  obtain ⟨o1, o2, o3, o4, o5, o6⟩ := ho
  simp only at o1 o2 o3 o4 o5 o6 ⊢
  by_cases h0 : do_ = 0
  · subst h0
    rcases hW.kept with ⟨h1, _, b, h3, _⟩ | ⟨h1, h2, _⟩
    · subst h1 h3
      exact d9_put hW hp t n_ a_ x_ kp f
    · subst h2
      exact d9_no hW h1 t n_ a_ x_ kp f
  · by_cases h1 : do_ = 1
    · subst h1; exact d9_fuse hW t n_ a_ x_ kp f o3
    · by_cases h2 : do_ = 2
      · subst h2; exact d9_crash hW t n_ a_ x_ kp f ks o6
      · by_cases h3 : do_ = 3
        · subst h3; exact d9_spoil hW t n_ a_ x_ kp f o3 o4 o5 hf0 hf1
        · by_cases h4 : do_ = 4
          · subst h4; exact d9_open hW t n_ a_ x_ kp f
          · exact d9_none hW t n_ a_ x_ kp f do_ (by omega)
end
end Go.Proofs.YtnmbhoidnbideaaGreat
