/-
  A law's world of chapter 09: the other acts. (Printed by mk_law9c.py.)
-/
import Derived.Test.YtnmbhoidnbideaaGreatLaw9B
import Derived.Test.YtnmbhoidnbideaaGreatPlayE
namespace Go.Proofs.YtnmbhoidnbideaaGreat
open Go Go.RowKit

section
variable {w0 w w' : World} {x p : Nat} {d : Dk} {vl vw kv : Value} {r : Rd} {V : Kp} {n : Int}
theorem setFuse_pend (d : Dk) (m : Int) : (d.setFuse m).pend = d.pend := rfl
set_option maxRecDepth 100000 in
set_option maxHeartbeats 3200000 in
theorem d9_none (hW : W9 w0 w x p d vl vw r kv V n) (t : ByteArray) (n_ a_ : Int) (x_ : ByteArray) (kp : Value) (f do_ : Int) (hdo : do_ < 0 ∨ 4 < do_) :
    Calls Tryz.prog 15 #[.pointer (some ⟨x, 0, none⟩), .agg (act9 do_ t n_ a_ x_ kp), .int .i64 f] w fun e w' => e = .returned (.bool true) ∧ Done9 w0 x p d w' := by
  have hwf := (hW.play.disks.one 0 rfl).wf
  obtain ⟨w3, hw3⟩ : ∃ w3, w.alloc (.cells (act9 do_ t n_ a_ x_ kp) 47) = w3 := ⟨_, rfl⟩
  have hU3 : Upd (fun _ => False) w w3 := by rw [← hw3]; exact (Upd.refl _ w).alloc _
  have hB3 : Blk w3 w.heap.size 47 (act9 do_ t n_ a_ x_ kp) := by rw [← hw3]; exact Blk.new w _ _
  have H3 := Lib.hid (And.intro (hW.still hU3) hB3)
  have Hw := Lib.hid hw3
  have Hwf := Lib.hid hwf
  have hc := hB3.cells6
  have hcx := H3.out.1.blk.cells13
  have hne0 : (do_ == 0) = false := by rw [beq_eq_false_iff_ne]; omega
  have hne1 : (do_ == 1) = false := by rw [beq_eq_false_iff_ne]; omega
  have hne2 : (do_ == 2) = false := by rw [beq_eq_false_iff_ne]; omega
  have hne3 : (do_ == 3) = false := by rw [beq_eq_false_iff_ne]; omega
  have hne4 : (do_ == 4) = false := by rw [beq_eq_false_iff_ne]; omega
  clear hU3 hB3 hw3 hW hwf hdo
  go_enter Tryz.func15, Tryz.ntmps15
  go_upto_region 1 with fail
  rw [Hw.out]
  clear Hw
  go_wp2_with fail
  go_ret
  exact ⟨rfl, d, vl, vw, r, kv, V, n, H3.out.1, by omega, rfl⟩
set_option maxRecDepth 100000 in
set_option maxHeartbeats 3200000 in
theorem d9_open (hW : W9 w0 w x p d vl vw r kv V n) (t : ByteArray) (n_ a_ : Int) (x_ : ByteArray) (kp : Value) (f : Int) :
    Calls Tryz.prog 15 #[.pointer (some ⟨x, 0, none⟩), .agg (act9 4 t n_ a_ x_ kp), .int .i64 f] w fun e w' => e = .returned (.bool true) ∧ Done9 w0 x p d w' := by
  have hwf := (hW.play.disks.one 0 rfl).wf
  obtain ⟨w3, hw3⟩ : ∃ w3, w.alloc (.cells (act9 4 t n_ a_ x_ kp) 47) = w3 := ⟨_, rfl⟩
  have hU3 : Upd (fun _ => False) w w3 := by rw [← hw3]; exact (Upd.refl _ w).alloc _
  have hB3 : Blk w3 w.heap.size 47 (act9 4 t n_ a_ x_ kp) := by rw [← hw3]; exact Blk.new w _ _
  have H3 := Lib.hid (And.intro (hW.still hU3) hB3)
  have Hw := Lib.hid hw3
  have Hwf := Lib.hid hwf
  have hc := hB3.cells6
  have hcx := H3.out.1.blk.cells13
  have HO := Lib.hid (open_9 H3.out.1 f)
  clear hU3 hB3 hw3 hW hwf hcx
  go_enter Tryz.func15, Tryz.ntmps15
  go_upto_region 1 with fail
  rw [Hw.out]
  clear Hw
  go_wp2_with fail
  refine HO.out.mono ?_
  rintro e w4 ⟨rfl, kv', V', hW4⟩
  have H4 := Lib.hid hW4
  clear hW4 hc
  go_wp2_with fail
  go_ret
  exact ⟨rfl, d, vl, vw, r, kv', V', _, H4.out, by omega, rfl⟩
set_option maxRecDepth 100000 in
set_option maxHeartbeats 3200000 in
theorem d9_fuse (hW : W9 w0 w x p d vl vw r kv V n) (t : ByteArray) (n_ a_ : Int) (x_ : ByteArray) (kp : Value) (f : Int) (hn_ : i64ok n_) :
    Calls Tryz.prog 15 #[.pointer (some ⟨x, 0, none⟩), .agg (act9 1 t n_ a_ x_ kp), .int .i64 f] w fun e w' => e = .returned (.bool true) ∧ Done9 w0 x p d w' := by
  have hwf := (hW.play.disks.one 0 rfl).wf
  obtain ⟨w3, hw3⟩ : ∃ w3, w.alloc (.cells (act9 1 t n_ a_ x_ kp) 47) = w3 := ⟨_, rfl⟩
  have hU3 : Upd (fun _ => False) w w3 := by rw [← hw3]; exact (Upd.refl _ w).alloc _
  have hB3 : Blk w3 w.heap.size 47 (act9 1 t n_ a_ x_ kp) := by rw [← hw3]; exact Blk.new w _ _
  have H3 := Lib.hid (And.intro (hW.still hU3) hB3)
  have Hw := Lib.hid hw3
  have Hwf := Lib.hid hwf
  have hc := hB3.cells6
  have hcx := H3.out.1.blk.cells13
  have hF0 : ∀ W, Upd (fun _ => False) w3 W → Calls Tryz.prog 39 #[.pointer (some ⟨p, 0, none⟩), .int .i64 n_] W fun e w' => e = .returned (.tuple #[]) ∧ DksX w0 w' [(p, d.setFuse n_)] (RdX vl vw) ∧ BlkKept W w' ∧ XKept (RdX vl vw) W w' := fun W hu =>
    fuse_v ((hW.play.still hU3).still hu).disks (i := 0) rfl n_ hn_.2
  have hF := Lib.hid hF0
  have HI := Lib.hid (hW.play.is.setFuse n_)
  clear hU3 hB3 hw3 hW hwf hF0 hn_
  go_enter Tryz.func15, Tryz.ntmps15
  go_upto_region 1 with fail
  rw [Hw.out]
  clear Hw
  go_upto_region 10 with fail
  refine wp_region_noPanic ?_
  refine wp_region_T (S := fun w' => Blk w' x 41 (row9 p kv vl vw r V n) ∧ Blk w' w.heap.size 47 (act9 1 t n_ a_ x_ kp)) (T := fun _ => false) (by kernel_rfl) ?_
  have hS0 := And.intro H3.out.1.blk.drew H3.out.2.drew
  refine wpAnyT_take (i := 0) (v := ?_) rfl (by kernel_rfl) (by kernel_rfl) (by kernel_rfl) (by kernel_rfl) (fun _ _ _ h => h) (takes_yield rfl (Or.inl ⟨by rfl, ?_⟩)) (by assumption) (by kernel_rfl) ?_
  rotate_left 1
  · intro w' hSw; have hcw := hSw.1.cells13; have hca := hSw.2.cells6; go_split_ands; first | (go_simp; done) | (go_simp; rfl) | rfl
  simp only [Act.put, List.getElem_toArray, List.getElem_cons_zero, List.setIfInBounds_toArray, List.set_cons_zero, List.set_cons_succ]
  refine wpAnyT_take (i := 1) (v := ?_) rfl (by kernel_rfl) (by kernel_rfl) (by kernel_rfl) (by kernel_rfl) (fun _ _ _ h => h) (takes_yield rfl (Or.inl ⟨by rfl, ?_⟩)) (by assumption) (by kernel_rfl) ?_
  rotate_left 1
  · intro w' hSw; have hcw := hSw.1.cells13; have hca := hSw.2.cells6; go_split_ands; first | (go_simp; done) | (go_simp; rfl) | rfl
  simp only [Act.put, List.getElem_toArray, List.getElem_cons_zero, List.getElem_cons_succ, List.setIfInBounds_toArray, List.set_cons_zero, List.set_cons_succ]
  refine wpAnyT_take (i := 2) (v := ?_) rfl (by kernel_rfl) (by kernel_rfl) (by kernel_rfl) (by kernel_rfl) (fun _ _ _ h => h) (takes_yield rfl (Or.inl ⟨by rfl, ?_⟩)) (by assumption) (by kernel_rfl) ?_
  rotate_left 1
  · intro w' hSw; have hcw := hSw.1.cells13; have hca := hSw.2.cells6; go_split_ands; first | (go_simp; done) | (go_simp; rfl) | rfl
  simp only [Act.put, List.getElem_toArray, List.getElem_cons_zero, List.getElem_cons_succ, List.setIfInBounds_toArray, List.set_cons_zero, List.set_cons_succ]
  refine wpAnyT_take (i := 3) (v := ?_) rfl (by kernel_rfl) (by kernel_rfl) (by kernel_rfl) (by kernel_rfl) (fun _ _ _ h => h) (takes_yield rfl (Or.inl ⟨by rfl, ?_⟩)) (by assumption) (by kernel_rfl) ?_
  rotate_left 1
  · intro w' hSw; have hcw := hSw.1.cells13; have hca := hSw.2.cells6; go_split_ands; first | (go_simp; done) | (go_simp; rfl) | rfl
  simp only [Act.put, List.getElem_toArray, List.getElem_cons_zero, List.getElem_cons_succ, List.setIfInBounds_toArray, List.set_cons_zero, List.set_cons_succ]
  refine wpAnyT_take (i := 4) (v := ?_) rfl (by kernel_rfl) (by kernel_rfl) (by kernel_rfl) (by kernel_rfl) (fun _ _ _ h => h) (takes_yield rfl (Or.inl ⟨by rfl, ?_⟩)) (by assumption) (by kernel_rfl) ?_
  rotate_left 1
  · intro w' hSw; have hcw := hSw.1.cells13; have hca := hSw.2.cells6; go_split_ands; first | (go_simp; done) | (go_simp; rfl) | rfl
  simp only [Act.put, List.getElem_toArray, List.getElem_cons_zero, List.getElem_cons_succ, List.setIfInBounds_toArray, List.set_cons_zero, List.set_cons_succ]
  refine wpAnyT_take (i := 5) (v := ?_) rfl (by kernel_rfl) (by kernel_rfl) (by kernel_rfl) (by kernel_rfl) (fun _ _ _ h => h) (takes_yield rfl (Or.inl ⟨by rfl, ?_⟩)) (by assumption) (by kernel_rfl) ?_
  rotate_left 1
  · intro w' hSw; have hcw := hSw.1.cells13; have hca := hSw.2.cells6; go_split_ands; first | (go_simp; done) | (go_simp; rfl) | rfl
  simp only [Act.put, List.getElem_toArray, List.getElem_cons_zero, List.getElem_cons_succ, List.setIfInBounds_toArray, List.set_cons_zero, List.set_cons_succ]
  refine wpAnyT_one (i := 6) (by kernel_rfl) rfl (fun K hK => ?_)
  go_simp
  refine (hF.out _ (Upd.refl _ _).drew).mono ?_
  rintro e w4 ⟨rfl, hDx, hBk, hXk⟩
  have hS4 := And.intro (hBk _ _ _ hS0.1 (by decide) (by decide)) (hBk _ _ _ hS0.2 (by decide) (by decide))
  refine hK.out _ _ hS4 ?_
  have hrd4 : RdAt w4 vl vw r := (H3.out.1.play.rd.upd (Upd.refl _ w3).drew).kept hXk
  have hkp4 : Keeps9 w0 w4 p kv V n := H3.out.1.kept.kept fun _ _ hB => hBk _ _ _ hB.drew (by decide) (by decide)
  have H4 := Lib.hid (And.intro hS4 (And.intro hDx (And.intro hkp4 (And.intro hrd4 H3.out.1.low))))
  clear hK hS0 hDx hBk hXk hrd4 hkp4 hc hcx
  refine wpAnyT_done (by kernel_rfl) ?_ _
  refine NoPanic.normal ?_
  have hc4 := H4.out.1.1.cells13
  have hca4 := H4.out.1.2.cells6
  have hf4 := H4.out.1.1.frozen 4
  clear hS4 H3
  obtain ⟨z, hz⟩ : ∃ z, max n_ (-1) = z := ⟨_, rfl⟩
  have hset := H4.out.1.1.set_ 4 (.int .i64 z)
  simp at hset
  have hUx : Upd (· = x) w4 (w4.setCell ⟨x, 4, none⟩ (.int .i64 z)) := (Upd.refl (· = x) w4).setCell (p := ⟨x, 4, none⟩) (.inl rfl) _
  have hP : PlayAt w0 w4 p (d.setFuse n_) vl vw (r.setFuse n_) := ⟨H4.out.2.1, ⟨H4.out.2.2.2.1.lasts, H4.out.2.2.2.1.ws⟩, HI.out⟩
  have hE : W9 w0 (w4.setCell ⟨x, 4, none⟩ (.int .i64 z)) x p (d.setFuse n_) vl vw (r.setFuse n_) kv V n :=
    ⟨hP.own H4.out.1.1 (by decide) (by decide) (by decide) H4.out.2.2.2.2 hUx, by rw [← hz] at hset ⊢; exact hset, H4.out.2.2.2.2, H4.out.2.2.1.kept fun _ _ hb => hb.upd hUx (fun e => H4.out.1.1.ne_ hb (by decide) e.symm)⟩
  have HE := Lib.hid hE
  clear hset hUx hP hE
  go_wp2_with fail
  go_ret
  exact ⟨rfl, d.setFuse n_, vl, vw, r.setFuse n_, kv, V, n, HE.out, by rw [setFuse_pend]; omega, rfl⟩
set_option maxRecDepth 100000 in
set_option maxHeartbeats 3200000 in
theorem d9_crash (hW : W9 w0 w x p d vl vw r kv V n) (t : ByteArray) (n_ a_ : Int) (x_ : ByteArray) (kp : Value) (f : Int) (ks : List Int) (hA : IsInts w0 kp ks) :
    Calls Tryz.prog 15 #[.pointer (some ⟨x, 0, none⟩), .agg (act9 2 t n_ a_ x_ kp), .int .i64 f] w fun e w' => e = .returned (.bool true) ∧ Done9 w0 x p d w' := by
  have hwf := (hW.play.disks.one 0 rfl).wf
  obtain ⟨w3, hw3⟩ : ∃ w3, w.alloc (.cells (act9 2 t n_ a_ x_ kp) 47) = w3 := ⟨_, rfl⟩
  have hU3 : Upd (fun _ => False) w w3 := by rw [← hw3]; exact (Upd.refl _ w).alloc _
  have hB3 : Blk w3 w.heap.size 47 (act9 2 t n_ a_ x_ kp) := by rw [← hw3]; exact Blk.new w _ _
  have H3 := Lib.hid (And.intro (hW.still hU3) hB3)
  have Hw := Lib.hid hw3
  have Hwf := Lib.hid hwf
  have hc := hB3.cells6
  have hcx := H3.out.1.blk.cells13
  have hF0 : ∀ W, Upd (fun _ => False) w3 W → Calls Tryz.prog 40 #[.pointer (some ⟨p, 0, none⟩), kp] W fun e w' => e = .returned (.tuple #[]) ∧ DksX w0 w' [(p, d.crash ks)] (RdX vl vw) ∧ BlkKept W w' ∧ XKept (RdX vl vw) W w' := fun W hu =>
    crash_v ((hW.play.still hU3).still hu).disks (i := 0) rfl hA
  have hF := Lib.hid hF0
  have HI := Lib.hid (hW.play.is.crash hwf ks)
  have HA := Lib.hid (And.intro hA.1 hA)
  have Hpe : Hid ((d.crash ks).pend ≤ d.pend + 20 ∧ (d.crash ks).lasts.length = d.lasts.length) := ⟨by rw [Dk.crash_pend hwf]; omega, Dk.crash_len' d ks⟩
  have Hfi := Lib.hid hW.play.fits
  clear hU3 hB3 hw3 hW hwf hF0 hA
  go_enter Tryz.func15, Tryz.ntmps15
  go_upto_region 1 with fail
  rw [Hw.out]
  clear Hw
  go_upto_region 14 with fail
  refine wp_region_noPanic ?_
  refine wp_region_T (S := fun w' => Blk w' x 41 (row9 p kv vl vw r V n) ∧ Blk w' w.heap.size 47 (act9 2 t n_ a_ x_ kp)) (T := fun _ => false) (by kernel_rfl) ?_
  have hS0 := And.intro H3.out.1.blk.drew H3.out.2.drew
  refine wpAnyT_take (i := 0) (v := ?_) rfl (by kernel_rfl) (by kernel_rfl) (by kernel_rfl) (by kernel_rfl) (fun _ _ _ h => h) (takes_yield rfl (Or.inl ⟨by rfl, ?_⟩)) (by assumption) (by kernel_rfl) ?_
  rotate_left 1
  · intro w' hSw; have hcw := hSw.1.cells13; have hca := hSw.2.cells6; go_split_ands; first | (go_simp; done) | (go_simp; rfl) | rfl
  simp only [Act.put, List.getElem_toArray, List.getElem_cons_zero, List.setIfInBounds_toArray, List.set_cons_zero, List.set_cons_succ]
  refine wpAnyT_take (i := 1) (v := ?_) rfl (by kernel_rfl) (by kernel_rfl) (by kernel_rfl) (by kernel_rfl) (fun _ _ _ h => h) (takes_yield rfl (Or.inl ⟨by rfl, ?_⟩)) (by assumption) (by kernel_rfl) ?_
  rotate_left 1
  · intro w' hSw; have hcw := hSw.1.cells13; have hca := hSw.2.cells6; go_split_ands; first | (go_simp; done) | (go_simp; rfl) | rfl
  simp only [Act.put, List.getElem_toArray, List.getElem_cons_zero, List.getElem_cons_succ, List.setIfInBounds_toArray, List.set_cons_zero, List.set_cons_succ]
  refine wpAnyT_take (i := 2) (v := ?_) rfl (by kernel_rfl) (by kernel_rfl) (by kernel_rfl) (by kernel_rfl) (fun _ _ _ h => h) (takes_yield rfl (Or.inl ⟨by rfl, ?_⟩)) (by assumption) (by kernel_rfl) ?_
  rotate_left 1
  · intro w' hSw; have hcw := hSw.1.cells13; have hca := hSw.2.cells6; go_split_ands; first | (go_simp; done) | (go_simp; rfl) | rfl
  simp only [Act.put, List.getElem_toArray, List.getElem_cons_zero, List.getElem_cons_succ, List.setIfInBounds_toArray, List.set_cons_zero, List.set_cons_succ]
  refine wpAnyT_take (i := 3) (v := ?_) rfl (by kernel_rfl) (by kernel_rfl) (by kernel_rfl) (by kernel_rfl) (fun _ _ _ h => h) (takes_yield rfl (Or.inl ⟨by rfl, ?_⟩)) (by assumption) (by kernel_rfl) ?_
  rotate_left 1
  · intro w' hSw; have hcw := hSw.1.cells13; have hca := hSw.2.cells6; go_split_ands; first | (go_simp; done) | (go_simp; rfl) | rfl
  simp only [Act.put, List.getElem_toArray, List.getElem_cons_zero, List.getElem_cons_succ, List.setIfInBounds_toArray, List.set_cons_zero, List.set_cons_succ]
  refine wpAnyT_take (i := 4) (v := ?_) rfl (by kernel_rfl) (by kernel_rfl) (by kernel_rfl) (by kernel_rfl) (fun _ _ _ h => h) (takes_yield rfl (Or.inl ⟨by rfl, ?_⟩)) (by assumption) (by kernel_rfl) ?_
  rotate_left 1
  · intro w' hSw; have hcw := hSw.1.cells13; have hca := hSw.2.cells6; go_split_ands; first | (go_simp; done) | (go_simp; rfl) | rfl
  simp only [Act.put, List.getElem_toArray, List.getElem_cons_zero, List.getElem_cons_succ, List.setIfInBounds_toArray, List.set_cons_zero, List.set_cons_succ]
  refine wpAnyT_take (i := 5) (v := ?_) rfl (by kernel_rfl) (by kernel_rfl) (by kernel_rfl) (by kernel_rfl) (fun _ _ _ h => h) (takes_yield rfl (Or.inl ⟨by rfl, ?_⟩)) (by assumption) (by kernel_rfl) ?_
  rotate_left 1
  · intro w' hSw; have hcw := hSw.1.cells13; have hca := hSw.2.cells6; go_split_ands; first | (go_simp; done) | (go_simp; rfl) | rfl
  simp only [Act.put, List.getElem_toArray, List.getElem_cons_zero, List.getElem_cons_succ, List.setIfInBounds_toArray, List.set_cons_zero, List.set_cons_succ]
  refine wpAnyT_one (i := 6) (by kernel_rfl) rfl (fun K hK => ?_)
  go_simp
  refine (hF.out _ (Upd.refl _ _).drew).mono ?_
  rintro e w4 ⟨rfl, hDx, hBk, hXk⟩
  have hS4 := And.intro (hBk _ _ _ hS0.1 (by decide) (by decide)) (hBk _ _ _ hS0.2 (by decide) (by decide))
  refine hK.out _ _ hS4 ?_
  have hrd4 : RdAt w4 vl vw r := (H3.out.1.play.rd.upd (Upd.refl _ w3).drew).kept hXk
  have hkp4 : Keeps9 w0 w4 p kv V n := H3.out.1.kept.kept fun _ _ hB => hBk _ _ _ hB.drew (by decide) (by decide)
  have H4 := Lib.hid (And.intro hS4 (And.intro hDx (And.intro hkp4 (And.intro hrd4 H3.out.1.low))))
  clear hK hS0 hDx hBk hXk hrd4 hkp4 hc hcx
  refine wpAnyT_done (by kernel_rfl) ?_ _
  refine NoPanic.normal ?_
  have hc4 := H4.out.1.1.cells13
  have hca4 := H4.out.1.2.cells6
  have hrc : Hid (∀ W, Upd (fun _ => False) w4 W → Calls Tryz.prog 45 #[.agg #[vl, vw, .int .i64 r.fuse, .bool r.off], kp] W fun e w' => ∃ vl' vw', e = .returned (.agg #[vl', vw', .int .i64 (-1), .bool false]) ∧ RdLeft W w' vl vw vl' vw' (r.crash ks)) := Lib.hid fun W hu => by
    have hu0 : Upd (fun _ => False) w0 W := H4.out.2.1.upd.then hu (fun _ e => e.elim)
    exact rcrash_c (H4.out.2.2.2.1.upd hu) Hfi.out ⟨HA.out.2.1.upd hu0, HA.out.2.2⟩
  clear hS4 H3
  go_upto_region 15 with fail
  refine wp_region_noPanic ?_
  refine wp_region_T (S := fun w' => Blk w' x 41 (row9 p kv vl vw r V n) ∧ Blk w' w.heap.size 47 (act9 2 t n_ a_ x_ kp)) (T := fun k => k == 10) (by kernel_rfl) ?_
  have hS0 := And.intro H4.out.1.1.drew H4.out.1.2.drew
  refine wpAnyT_take (i := 0) (v := ?_) rfl (by kernel_rfl) (by kernel_rfl) (by kernel_rfl) (by kernel_rfl) (fun _ _ _ h => h) (takes_yield rfl (Or.inl ⟨by rfl, ?_⟩)) (by assumption) (by kernel_rfl) ?_
  rotate_left 1
  · intro w' hSw; have hcw := hSw.1.cells13; have hca := hSw.2.cells6; go_split_ands; first | (go_simp; done) | (go_simp; rfl) | rfl
  simp only [Act.put, List.getElem_toArray, List.getElem_cons_zero, List.setIfInBounds_toArray, List.set_cons_zero, List.set_cons_succ]
  refine wpAnyT_take (i := 1) (v := ?_) rfl (by kernel_rfl) (by kernel_rfl) (by kernel_rfl) (by kernel_rfl) (fun _ _ _ h => h) (takes_yield rfl (Or.inl ⟨by rfl, ?_⟩)) (by assumption) (by kernel_rfl) ?_
  rotate_left 1
  · intro w' hSw; have hcw := hSw.1.cells13; have hca := hSw.2.cells6; go_split_ands; first | (go_simp; done) | (go_simp; rfl) | rfl
  simp only [Act.put, List.getElem_toArray, List.getElem_cons_zero, List.getElem_cons_succ, List.setIfInBounds_toArray, List.set_cons_zero, List.set_cons_succ]
  refine wpAnyT_take (i := 2) (v := ?_) rfl (by kernel_rfl) (by kernel_rfl) (by kernel_rfl) (by kernel_rfl) (fun _ _ _ h => h) (takes_yield rfl (Or.inl ⟨by rfl, ?_⟩)) (by assumption) (by kernel_rfl) ?_
  rotate_left 1
  · intro w' hSw; have hcw := hSw.1.cells13; have hca := hSw.2.cells6; go_split_ands; first | (go_simp; done) | (go_simp; rfl) | rfl
  simp only [Act.put, List.getElem_toArray, List.getElem_cons_zero, List.getElem_cons_succ, List.setIfInBounds_toArray, List.set_cons_zero, List.set_cons_succ]
  refine wpAnyT_take (i := 3) (v := ?_) rfl (by kernel_rfl) (by kernel_rfl) (by kernel_rfl) (by kernel_rfl) (fun _ _ _ h => h) (takes_yield rfl (Or.inl ⟨by rfl, ?_⟩)) (by assumption) (by kernel_rfl) ?_
  rotate_left 1
  · intro w' hSw; have hcw := hSw.1.cells13; have hca := hSw.2.cells6; go_split_ands; first | (go_simp; done) | (go_simp; rfl) | rfl
  simp only [Act.put, List.getElem_toArray, List.getElem_cons_zero, List.getElem_cons_succ, List.setIfInBounds_toArray, List.set_cons_zero, List.set_cons_succ]
  refine wpAnyT_take (i := 4) (v := ?_) rfl (by kernel_rfl) (by kernel_rfl) (by kernel_rfl) (by kernel_rfl) (fun _ _ _ h => h) (takes_yield rfl (Or.inl ⟨by rfl, ?_⟩)) (by assumption) (by kernel_rfl) ?_
  rotate_left 1
  · intro w' hSw; have hcw := hSw.1.cells13; have hca := hSw.2.cells6; go_split_ands; first | (go_simp; done) | (go_simp; rfl) | rfl
  simp only [Act.put, List.getElem_toArray, List.getElem_cons_zero, List.getElem_cons_succ, List.setIfInBounds_toArray, List.set_cons_zero, List.set_cons_succ]
  refine wpAnyT_take (i := 5) (v := ?_) rfl (by kernel_rfl) (by kernel_rfl) (by kernel_rfl) (by kernel_rfl) (fun _ _ _ h => h) (takes_yield rfl (Or.inl ⟨by rfl, ?_⟩)) (by assumption) (by kernel_rfl) ?_
  rotate_left 1
  · intro w' hSw; have hcw := hSw.1.cells13; have hca := hSw.2.cells6; go_split_ands; first | (go_simp; done) | (go_simp; rfl) | rfl
  simp only [Act.put, List.getElem_toArray, List.getElem_cons_zero, List.getElem_cons_succ, List.setIfInBounds_toArray, List.set_cons_zero, List.set_cons_succ]
  refine wpAnyT_take (i := 6) (v := ?_) rfl (by kernel_rfl) (by kernel_rfl) (by kernel_rfl) (by kernel_rfl) (fun _ _ _ h => h) (takes_yield rfl (Or.inl ⟨by rfl, ?_⟩)) (by assumption) (by kernel_rfl) ?_
  rotate_left 1
  · intro w' hSw; have hcw := hSw.1.cells13; have hca := hSw.2.cells6; go_split_ands; first | (go_simp; done) | (go_simp; rfl) | rfl
  simp only [Act.put, List.getElem_toArray, List.getElem_cons_zero, List.getElem_cons_succ, List.setIfInBounds_toArray, List.set_cons_zero, List.set_cons_succ]
  refine wpAnyT_one (i := 7) (by kernel_rfl) rfl (fun K hK => ?_)
  go_simp
  refine (hrc.out _ (Upd.refl _ _).drew).mono ?_
  rintro e w5 ⟨vl', vw', rfl, hL⟩
  have hS5 := And.intro (hS0.1.upd hL.upd (fun e => e)) (hS0.2.upd hL.upd (fun e => e))
  refine hK.out _ _ hS5 ?_
  have hLp := hL.pre (Upd.refl _ w4).drew
  have hP : PlayAt w0 w5 p (d.crash ks) vl' vw' (r.crash ks) := ⟨H4.out.2.1.ref hLp, hL.at_, HI.out⟩
  have H5 := Lib.hid (And.intro hS5 (And.intro hP (H4.out.2.2.1.kept fun _ _ hB => hB.upd hLp.upd (fun e => e))))
  clear hK hS0 hL hLp hP hc4 hca4
  refine wpAnyT_take (i := 8) (v := ?_) rfl (by kernel_rfl) (by kernel_rfl) (by kernel_rfl) (by kernel_rfl) (fun _ _ _ h => h) (takes_yield rfl (Or.inl ⟨by rfl, ?_⟩)) (by assumption) (by kernel_rfl) ?_
  rotate_left 1
  · intro w' hSw; go_split_ands; first | (go_simp; done) | (go_simp; rfl) | rfl
  simp only [Act.put, List.getElem_toArray, List.getElem_cons_zero, List.getElem_cons_succ, List.setIfInBounds_toArray, List.set_cons_zero, List.set_cons_succ]
  refine wpAnyT_take (i := 9) (v := ?_) rfl (by kernel_rfl) (by kernel_rfl) (by kernel_rfl) (by kernel_rfl) (fun _ _ _ h => h) (takes_yield rfl (Or.inl ⟨by rfl, ?_⟩)) (by assumption) (by kernel_rfl) ?_
  rotate_left 1
  · intro w' hSw; go_split_ands; first | (go_simp; done) | (go_simp; rfl) | rfl
  simp only [Act.put, List.getElem_toArray, List.getElem_cons_zero, List.getElem_cons_succ, List.setIfInBounds_toArray, List.set_cons_zero, List.set_cons_succ]
  refine wpAnyT_oneT (i := 10) (by kernel_rfl) rfl (by kernel_rfl) (fun K hK => ?_)
  refine step_store_part (by rfl) 32 _ _ (by rfl) x 2 #[vl', vw', .int .i64 (-1), .bool false] (by rfl) (by rfl) _ _ (row9 p kv vl' vw' (r.crash ks) V n) H5.out.1.1 (by simp) rfl (row_one _ _ H5.out.2.1.rd.lasts.one H5.out.2.1.rd.ws.one _ _) (by kernel_rfl) ?_
  intro w6 hB6 hU6 hz6
  refine hK.out _ _ ?_
  have hE : W9 w0 w6 x p (d.crash ks) vl' vw' (r.crash ks) kv V n :=
    ⟨H5.out.2.1.own H5.out.1.1 (by decide) (by decide) (by decide) H4.out.2.2.2.2 hU6, hB6, H4.out.2.2.2.2, H5.out.2.2.kept fun _ _ hb => hb.upd hU6 (fun e => H5.out.1.1.ne_ hb (by decide) e.symm)⟩
  have HO := Lib.hid (open_9 hE f)
  clear hK hS5 hB6 hU6 hz6 hE
  refine wpAnyT_done (by kernel_rfl) ?_ _
  refine NoPanic.normal ?_
  go_wp2_with fail
  refine HO.out.mono ?_
  rintro e w7 ⟨rfl, kv', V', hW7⟩
  have H7 := Lib.hid hW7
  clear hW7
  go_wp2_with fail
  go_ret
  exact ⟨rfl, d.crash ks, vl', vw', r.crash ks, kv', V', _, H7.out, Hpe.out.1, Hpe.out.2⟩
end
end Go.Proofs.YtnmbhoidnbideaaGreat
