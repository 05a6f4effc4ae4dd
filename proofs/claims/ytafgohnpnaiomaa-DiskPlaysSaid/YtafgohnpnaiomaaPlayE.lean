/-
  DiskPlays: an act of the disk beside the document's: Write. (Printed by mk_play.py.)
-/
import Derived.Test.YtafgohnpnaiomaaPlayD
namespace Go.Proofs.Ytafgohnpnaiomaa
open Go Go.RowKit

set_option maxRecDepth 100000 in
set_option maxHeartbeats 3200000 in
theorem does_write {w0 w : World} {p : Nat} {d : Dk} {vl vw : Value} {r : Rd} (hP : PlayAt w0 w p d vl vw r) (i_ n_ : Int) (b_ x_ : ByteArray) (y_ : Nat) (kp : Value) (ks : List Int) (hy : y_ < 256) (hp : d.pend + 1 < 1000000) :
    Calls Try.prog 57 #[.pointer (some ⟨p, 0, none⟩), .agg #[vl, vw, .int .i64 r.fuse, .bool r.off], .agg #[.int .i64 0, .int .i64 i_, .int .i64 n_, .string b_, .string x_, .int .u8 (y_ : Int), kp]] w fun e w' =>
      ∃ vl' vw' r', e = .returned (.tuple #[.agg #[vl', vw', .int .i64 r'.fuse, .bool r'.off], .bool true]) ∧ PlayAt w0 w' p (d.act ⟨0, i_, n_, b_, x_, y_, kp, ks⟩) vl' vw' r' ∧ BlkKept w w' := by
  obtain ⟨D, hDd⟩ : ∃ D, (⟨0, i_, n_, b_, x_, y_, kp, ks⟩ : Act7).data = D := ⟨_, rfl⟩
  have hdat0 := fun W => data_c ⟨0, i_, n_, b_, x_, y_, kp, ks⟩ W hy
  have hact : d.act ⟨0, i_, n_, b_, x_, y_, kp, ks⟩ = (d.write i_ D).1 := by rw [← hDd]; rfl
  rw [hDd] at hdat0
  simp only [Act7.val] at hdat0
  have hdat := Lib.hid hdat0
  rw [hact]
  have ho1 := Lib.hid hP.rd.lasts.one
  have hw0 := Lib.hid hP.disks.upd.size
  have hpw : Hid (r.ws.length + 1 ≤ 1000000) := by have := hP.is.pend; show _ ≤ _; omega
  obtain ⟨w3, hw3⟩ : ∃ w3, ((w.alloc (.cells #[vl, vw, .int .i64 r.fuse, .bool r.off] 79)).alloc (.cells #[.int .i64 0, .int .i64 i_, .int .i64 n_, .string b_, .string x_, .int .u8 (y_ : Int), kp] 66)).alloc (.cells zeroRd 79) = w3 := ⟨_, rfl⟩
  obtain ⟨hU3, hB4, hB5, hB6, hsz0⟩ := three_new w3 hw3
  have hsz : Hid (w3.heap.size = w.heap.size + 3) := hsz0
  have HB := Lib.hid (And.intro hB4 (And.intro hB5 hB6))
  have HU3 := Lib.hid hU3
  have hP3 := Lib.hid (hP.still hU3)
  have hwr : Hid (∀ W, Upd (fun _ => False) w3 W → Calls Try.prog 99 #[.agg #[vl, vw, .int .i64 r.fuse, .bool r.off], .int .i64 i_, .string D] W fun e w' => ∃ vw', e = .returned (.tuple #[.agg #[vl, vw', .int .i64 (r.write i_ D).1.fuse, .bool (r.write i_ D).1.off], .int .i64 (r.write i_ D).2]) ∧ RdLeft W w' vl vw vl vw' (r.write i_ D).1) := fun W hW => rwrite_c (hP3.out.rd.upd hW) hP3.out.fits i_ D hpw.out
  have hc5 := hB5.cells7
  have Hw3 := Lib.hid hw3
  clear hdat0 hact hDd hP hB4 hB5 hB6 hU3 hw3 hsz0
  go_enter Try.func57, Try.ntmps57
  go_upto_region 1 with fail
  rw [Hw3.out]
  go_upto_region 3 with fail
  clear Hw3 hc5
  go_cut [8, 9] (fun t8 t9 wx => ∃ (g : Nat) (vw' : Value), t8 = .pointer (some ⟨g, 0, none⟩) ∧ t9 = .int .i64 (r.write i_ D).2 ∧ Blk wx g 79 #[vl, vw', .int .i64 (r.write i_ D).1.fuse, .bool (r.write i_ D).1.off] ∧ w3.heap.size ≤ g ∧ RdLeft w3 wx vl vw vl vw' (r.write i_ D).1)
  case first =>
    refine wp_region_noPanic ?_
    refine wp_region_T (S := fun w' => Upd (fun _ => False) w3 w') (T := fun _ => false) (by kernel_rfl) ?_
    have hS3 : Upd (fun _ => False) w3 w3.drew := (Upd.refl _ w3).drew
    refine wpAnyT_take (i := 0) (v := .agg #[vl, vw, .int .i64 r.fuse, .bool r.off]) rfl (by kernel_rfl) (by kernel_rfl) (by kernel_rfl) (by kernel_rfl) (fun _ _ _ h => h) (takes_yield rfl (Or.inl ⟨by rfl, ?_⟩)) (by assumption) (by kernel_rfl) ?_
    · intro w' hSw; have hcw := (HB.out.1.upd hSw (fun e => e)).cells4; go_split_ands; go_simp
    simp only [Act.put, List.getElem_toArray, List.getElem_cons_zero, List.setIfInBounds_toArray, List.set_cons_zero, List.set_cons_succ]
    refine wpAnyT_takeW (i := 1) (v := .pointer (some ⟨w.heap.size + 1, 1, none⟩)) rfl (by kernel_rfl) (by kernel_rfl) (by kernel_rfl) (by kernel_rfl) (fun _ _ _ h => h) (takes_yield rfl (Or.inl ⟨by rfl, ?_⟩)) (Or.inr (by assumption)) ?_
    · intro w' hSw; go_simp
    simp only [Act.put, List.getElem_toArray, List.getElem_cons_zero, List.getElem_cons_succ, List.setIfInBounds_toArray, List.set_cons_zero, List.set_cons_succ]
    refine wpAnyT_take (i := 2) (v := .int .i64 i_) rfl (by kernel_rfl) (by kernel_rfl) (by kernel_rfl) (by kernel_rfl) (fun _ _ _ h => h) (takes_yield rfl (Or.inl ⟨by rfl, ?_⟩)) (by assumption) (by kernel_rfl) ?_
    · intro w' hSw; have hcw := (HB.out.2.1.upd hSw (fun e => e)).cells7; go_split_ands; go_simp
    simp only [Act.put, List.getElem_toArray, List.getElem_cons_zero, List.getElem_cons_succ, List.setIfInBounds_toArray, List.set_cons_zero, List.set_cons_succ]
    refine wpAnyT_take (i := 3) (v := .agg #[.int .i64 0, .int .i64 i_, .int .i64 n_, .string b_, .string x_, .int .u8 (y_ : Int), kp]) rfl (by kernel_rfl) (by kernel_rfl) (by kernel_rfl) (by kernel_rfl) (fun _ _ _ h => h) (takes_yield rfl (Or.inl ⟨by rfl, ?_⟩)) (by assumption) (by kernel_rfl) ?_
    · intro w' hSw; have hcw := (HB.out.2.1.upd hSw (fun e => e)).cells7; go_split_ands; go_simp
    simp only [Act.put, List.getElem_toArray, List.getElem_cons_zero, List.getElem_cons_succ, List.setIfInBounds_toArray, List.set_cons_zero, List.set_cons_succ]
    refine wpAnyT_two (i := 4) (j := 9) (by kernel_rfl) rfl rfl (fun K hK => ?_) (fun K hK => ?_)
    · skip
      go_simp
      refine (hdat.out _).mono ?_
      rintro e w4 ⟨rfl, hU⟩
      have hS4 := hS3.then hU (fun _ e => e.elim)
      refine hK.out _ _ hS4 ?_
      clear hK hU
      refine wpAnyT_two (i := 5) (j := 9) (by kernel_rfl) rfl rfl (fun K hK => ?_) (fun K hK => ?_)
      · skip
        go_simp
        refine (hwr.out _ hS4).mono ?_
        rintro e w5 ⟨vw', rfl, hL⟩
        have hS5 := hS4.then hL.upd (fun _ e => e.elim)
        refine hK.out _ _ hS5 ?_
        have hL3 := Lib.hid (hL.pre hS4)
        have hL := Lib.hid hL
        clear hK
        refine wpAnyT_take (i := 6) (v := .tuple #[.agg #[vl, vw', .int .i64 (r.write i_ D).1.fuse, .bool (r.write i_ D).1.off], .int .i64 (r.write i_ D).2]) rfl (by kernel_rfl) (by kernel_rfl) (by kernel_rfl) (by kernel_rfl) (fun _ _ _ h => h) (takes_yield rfl (Or.inl ⟨by rfl, ?_⟩)) (by assumption) (by kernel_rfl) ?_
        · intro w' hSw; go_simp
        simp only [Act.put, List.getElem_toArray, List.getElem_cons_zero, List.getElem_cons_succ, List.setIfInBounds_toArray, List.set_cons_zero, List.set_cons_succ]
        refine wpAnyT_take (i := 7) (v := .agg #[vl, vw', .int .i64 (r.write i_ D).1.fuse, .bool (r.write i_ D).1.off]) rfl (by kernel_rfl) (by kernel_rfl) (by kernel_rfl) (by kernel_rfl) (fun _ _ _ h => h) (takes_yield rfl (Or.inl ⟨by rfl, ?_⟩)) (by assumption) (by kernel_rfl) ?_
        · intro w' hSw; go_simp
        simp only [Act.put, List.getElem_toArray, List.getElem_cons_zero, List.getElem_cons_succ, List.setIfInBounds_toArray, List.set_cons_zero, List.set_cons_succ]
        refine wpAnyT_take (i := 8) (v := .int .i64 (r.write i_ D).2) rfl (by kernel_rfl) (by kernel_rfl) (by kernel_rfl) (by kernel_rfl) (fun _ _ _ h => h) (takes_yield rfl (Or.inl ⟨by rfl, ?_⟩)) (by assumption) (by kernel_rfl) ?_
        · intro w' hSw; go_simp
        simp only [Act.put, List.getElem_toArray, List.getElem_cons_zero, List.getElem_cons_succ, List.setIfInBounds_toArray, List.set_cons_zero, List.set_cons_succ]
        refine wpAnyT_one (i := 9) (by kernel_rfl) rfl (fun K hK => ?_)
        go_simp
        have hS6 := hS5.alloc (.cells zeroRd 79)
        refine hK.out _ _ hS6 ?_
        clear hK
        have hL3 := Lib.hid (hL3.out.post ((Upd.refl _ w5).alloc (.cells zeroRd 79)))
        have hfr : ∀ q, RdX vl vw' q → q ≠ w5.heap.size := fun q hq e => by rcases hq with h | h; exact absurd (hL.out.at_.lasts.lt h) (by omega); exact absurd (hL.out.at_.ws.lt h) (by omega)
        refine wpAnyT_one (i := 10) (by kernel_rfl) rfl (fun K hK => ?_)
        refine step_store_all (by rfl) 79 _ _ (by rfl) w5.heap.size #[vl, vw', .int .i64 (r.write i_ D).1.fuse, .bool (r.write i_ D).1.off] (by rfl) (by rfl) _ _ (Blk.new w5 _ _) rfl (row_one _ _ ho1.out hL3.out.at_.ws.one _ _) (by kernel_rfl) ?_
        intro wz hBz hUz hsz
        have hLz := hL3.out.store hUz hfr hS5.size
        refine hK.out _ _ hLz.upd ?_
        clear hK
        have HZ := Lib.hid (And.intro hBz hLz)
        clear hBz hUz hsz hLz
        have hSz := HZ.out.2.upd
        refine wpAnyT_take (i := 11) (v := .int .i64 (r.write i_ D).2) rfl (by kernel_rfl) (by kernel_rfl) (by kernel_rfl) (by kernel_rfl) (fun _ _ _ h => h) (takes_yield rfl (Or.inl ⟨by rfl, ?_⟩)) (by assumption) (by kernel_rfl) ?_
        · intro w' hSw; go_simp
        simp only [Act.put, List.getElem_toArray, List.getElem_cons_zero, List.getElem_cons_succ, List.setIfInBounds_toArray, List.set_cons_zero, List.set_cons_succ]
        refine wpAnyT_done (by kernel_rfl) ?_ _
        refine NoPanic.normal ?_
        go_wp2_with fail
        go_meet
        exact ⟨_, vw', rfl, rfl, HZ.out.1, hS5.size, HZ.out.2⟩
      · skip
        go_simp
        have hS5 := hS4.alloc (.cells zeroRd 79)
        refine hK.out _ _ hS5 ?_
        clear hK
        refine wpAnyT_one (i := 5) (by kernel_rfl) rfl (fun K hK => ?_)
        go_simp
        refine (hwr.out _ hS5).mono ?_
        rintro e w6 ⟨vw', rfl, hL⟩
        have hS6 := hS5.then hL.upd (fun _ e => e.elim)
        refine hK.out _ _ hS6 ?_
        have hL3 := Lib.hid (hL.pre hS5)
        have hL := Lib.hid hL
        clear hK
        refine wpAnyT_take (i := 6) (v := .tuple #[.agg #[vl, vw', .int .i64 (r.write i_ D).1.fuse, .bool (r.write i_ D).1.off], .int .i64 (r.write i_ D).2]) rfl (by kernel_rfl) (by kernel_rfl) (by kernel_rfl) (by kernel_rfl) (fun _ _ _ h => h) (takes_yield rfl (Or.inl ⟨by rfl, ?_⟩)) (by assumption) (by kernel_rfl) ?_
        · intro w' hSw; go_simp
        simp only [Act.put, List.getElem_toArray, List.getElem_cons_zero, List.getElem_cons_succ, List.setIfInBounds_toArray, List.set_cons_zero, List.set_cons_succ]
        refine wpAnyT_take (i := 7) (v := .agg #[vl, vw', .int .i64 (r.write i_ D).1.fuse, .bool (r.write i_ D).1.off]) rfl (by kernel_rfl) (by kernel_rfl) (by kernel_rfl) (by kernel_rfl) (fun _ _ _ h => h) (takes_yield rfl (Or.inl ⟨by rfl, ?_⟩)) (by assumption) (by kernel_rfl) ?_
        · intro w' hSw; go_simp
        simp only [Act.put, List.getElem_toArray, List.getElem_cons_zero, List.getElem_cons_succ, List.setIfInBounds_toArray, List.set_cons_zero, List.set_cons_succ]
        refine wpAnyT_take (i := 8) (v := .int .i64 (r.write i_ D).2) rfl (by kernel_rfl) (by kernel_rfl) (by kernel_rfl) (by kernel_rfl) (fun _ _ _ h => h) (takes_yield rfl (Or.inl ⟨by rfl, ?_⟩)) (by assumption) (by kernel_rfl) ?_
        · intro w' hSw; go_simp
        simp only [Act.put, List.getElem_toArray, List.getElem_cons_zero, List.getElem_cons_succ, List.setIfInBounds_toArray, List.set_cons_zero, List.set_cons_succ]
        have hfr : ∀ q, RdX vl vw' q → q ≠ w4.heap.size := old_ne (hP3.out.rd) hS4 hL.out
        refine wpAnyT_one (i := 10) (by kernel_rfl) rfl (fun K hK => ?_)
        refine step_store_all (by rfl) 79 _ _ (by rfl) w4.heap.size #[vl, vw', .int .i64 (r.write i_ D).1.fuse, .bool (r.write i_ D).1.off] (by rfl) (by rfl) _ _ ((Blk.new w4 _ _).upd hL.out.upd (fun e => e)) rfl (row_one _ _ ho1.out hL3.out.at_.ws.one _ _) (by kernel_rfl) ?_
        intro wz hBz hUz hsz
        have hLz := hL3.out.store hUz hfr hS4.size
        refine hK.out _ _ hLz.upd ?_
        clear hK
        have HZ := Lib.hid (And.intro hBz hLz)
        clear hBz hUz hsz hLz
        have hSz := HZ.out.2.upd
        refine wpAnyT_take (i := 11) (v := .int .i64 (r.write i_ D).2) rfl (by kernel_rfl) (by kernel_rfl) (by kernel_rfl) (by kernel_rfl) (fun _ _ _ h => h) (takes_yield rfl (Or.inl ⟨by rfl, ?_⟩)) (by assumption) (by kernel_rfl) ?_
        · intro w' hSw; go_simp
        simp only [Act.put, List.getElem_toArray, List.getElem_cons_zero, List.getElem_cons_succ, List.setIfInBounds_toArray, List.set_cons_zero, List.set_cons_succ]
        refine wpAnyT_done (by kernel_rfl) ?_ _
        refine NoPanic.normal ?_
        go_wp2_with fail
        go_meet
        exact ⟨_, vw', rfl, rfl, HZ.out.1, hS4.size, HZ.out.2⟩
    · skip
      go_simp
      have hS4 := hS3.alloc (.cells zeroRd 79)
      refine hK.out _ _ hS4 ?_
      clear hK
      refine wpAnyT_one (i := 4) (by kernel_rfl) rfl (fun K hK => ?_)
      go_simp
      refine (hdat.out _).mono ?_
      rintro e w5 ⟨rfl, hU⟩
      have hS5 := hS4.then hU (fun _ e => e.elim)
      refine hK.out _ _ hS5 ?_
      have hUd := Lib.hid hU
      clear hK hU
      refine wpAnyT_one (i := 5) (by kernel_rfl) rfl (fun K hK => ?_)
      go_simp
      refine (hwr.out _ hS5).mono ?_
      rintro e w6 ⟨vw', rfl, hL⟩
      have hS6 := hS5.then hL.upd (fun _ e => e.elim)
      refine hK.out _ _ hS6 ?_
      have hL3 := Lib.hid (hL.pre hS5)
      have hL := Lib.hid hL
      clear hK
      refine wpAnyT_take (i := 6) (v := .tuple #[.agg #[vl, vw', .int .i64 (r.write i_ D).1.fuse, .bool (r.write i_ D).1.off], .int .i64 (r.write i_ D).2]) rfl (by kernel_rfl) (by kernel_rfl) (by kernel_rfl) (by kernel_rfl) (fun _ _ _ h => h) (takes_yield rfl (Or.inl ⟨by rfl, ?_⟩)) (by assumption) (by kernel_rfl) ?_
      · intro w' hSw; go_simp
      simp only [Act.put, List.getElem_toArray, List.getElem_cons_zero, List.getElem_cons_succ, List.setIfInBounds_toArray, List.set_cons_zero, List.set_cons_succ]
      refine wpAnyT_take (i := 7) (v := .agg #[vl, vw', .int .i64 (r.write i_ D).1.fuse, .bool (r.write i_ D).1.off]) rfl (by kernel_rfl) (by kernel_rfl) (by kernel_rfl) (by kernel_rfl) (fun _ _ _ h => h) (takes_yield rfl (Or.inl ⟨by rfl, ?_⟩)) (by assumption) (by kernel_rfl) ?_
      · intro w' hSw; go_simp
      simp only [Act.put, List.getElem_toArray, List.getElem_cons_zero, List.getElem_cons_succ, List.setIfInBounds_toArray, List.set_cons_zero, List.set_cons_succ]
      refine wpAnyT_take (i := 8) (v := .int .i64 (r.write i_ D).2) rfl (by kernel_rfl) (by kernel_rfl) (by kernel_rfl) (by kernel_rfl) (fun _ _ _ h => h) (takes_yield rfl (Or.inl ⟨by rfl, ?_⟩)) (by assumption) (by kernel_rfl) ?_
      · intro w' hSw; go_simp
      simp only [Act.put, List.getElem_toArray, List.getElem_cons_zero, List.getElem_cons_succ, List.setIfInBounds_toArray, List.set_cons_zero, List.set_cons_succ]
      have hfr : ∀ q, RdX vl vw' q → q ≠ w3.drew.heap.size := old_ne (o := .cells zeroRd 79) (hP3.out.rd) hS3 (hL.out.pre hUd.out)
      refine wpAnyT_one (i := 10) (by kernel_rfl) rfl (fun K hK => ?_)
      refine step_store_all (by rfl) 79 _ _ (by rfl) w3.drew.heap.size #[vl, vw', .int .i64 (r.write i_ D).1.fuse, .bool (r.write i_ D).1.off] (by rfl) (by rfl) _ _ (((Blk.new w3.drew _ _).upd hUd.out (fun e => e)).upd hL.out.upd (fun e => e)) rfl (row_one _ _ ho1.out hL3.out.at_.ws.one _ _) (by kernel_rfl) ?_
      intro wz hBz hUz hsz
      have hLz := hL3.out.store hUz hfr hS3.size
      refine hK.out _ _ hLz.upd ?_
      clear hK
      have HZ := Lib.hid (And.intro hBz hLz)
      clear hBz hUz hsz hLz
      have hSz := HZ.out.2.upd
      refine wpAnyT_take (i := 11) (v := .int .i64 (r.write i_ D).2) rfl (by kernel_rfl) (by kernel_rfl) (by kernel_rfl) (by kernel_rfl) (fun _ _ _ h => h) (takes_yield rfl (Or.inl ⟨by rfl, ?_⟩)) (by assumption) (by kernel_rfl) ?_
      · intro w' hSw; go_simp
      simp only [Act.put, List.getElem_toArray, List.getElem_cons_zero, List.getElem_cons_succ, List.setIfInBounds_toArray, List.set_cons_zero, List.set_cons_succ]
      refine wpAnyT_done (by kernel_rfl) ?_ _
      refine NoPanic.normal ?_
      go_wp2_with fail
      go_meet
      exact ⟨_, vw', rfl, rfl, HZ.out.1, hS3.size, HZ.out.2⟩
  case rest =>
    obtain ⟨g, vw', rfl, rfl, hBg, hg, hL⟩ := hcut
    have hDx := hP3.out.disks.ref hL
    have hsame := (hP3.out.is.write (hP3.out.disks.one 0 rfl).wf.1 i_ D)
    have hwd : Hid (∀ W, Upd (fun _ => False) wc W → Calls Try.prog 27 #[.pointer (some ⟨p, 0, none⟩), .int .i64 i_, .string D] W fun e w' => e = .returned (.int .i64 (r.write i_ D).2) ∧ DksX w0 w' [(p, (d.write i_ D).1)] (RdX vl vw') ∧ BlkKept W w' ∧ XKept (RdX vl vw') W w') := fun W hW => by
      rw [hsame.2]
      exact write_v (hDx.still hW) (i := 0) rfl i_ D hp
    have hB5 := HB.out.2.1.upd hL.upd (fun e => e)
    have hB6 := HB.out.2.2.upd hL.upd (fun e => e)
    have H4 := Lib.hid (And.intro hL (And.intro hB6 hsame.1))
    have hS0 : Blk wc.drew g 79 #[vl, vw', .int .i64 (r.write i_ D).1.fuse, .bool (r.write i_ D).1.off] ∧ Blk wc.drew (w.heap.size + 1) 66 #[.int .i64 0, .int .i64 i_, .int .i64 n_, .string b_, .string x_, .int .u8 (y_ : Int), kp] := ⟨hBg.drew, hB5.drew⟩
    have hlow : Hid (w0.heap.size ≤ w.heap.size + 1 + 1) := by have := hw0.out; show _ ≤ _; omega
    have hgne : Hid (g ≠ w.heap.size + 1 + 1) := by have := hsz.out; show _ ≠ _; omega
    clear hDx hsame hBg hg hL hB5 hB6
    go_upto_region 4 with fail
    refine wp_region_noPanic ?_
    refine wp_region_T (S := fun w' => Blk w' g 79 #[vl, vw', .int .i64 (r.write i_ D).1.fuse, .bool (r.write i_ D).1.off] ∧ Blk w' (w.heap.size + 1) 66 #[.int .i64 0, .int .i64 i_, .int .i64 n_, .string b_, .string x_, .int .u8 (y_ : Int), kp]) (T := fun _ => false) (by kernel_rfl) ?_
    refine wpAnyT_take (i := 0) (v := .agg #[vl, vw', .int .i64 (r.write i_ D).1.fuse, .bool (r.write i_ D).1.off]) rfl (by kernel_rfl) (by kernel_rfl) (by kernel_rfl) (by kernel_rfl) (fun _ _ _ h => h) (takes_yield rfl (Or.inl ⟨by rfl, ?_⟩)) (by assumption) (by kernel_rfl) ?_
    · intro w' hSw; have hcw := hSw.1.cells4; go_split_ands; go_simp
    simp only [Act.put, List.getElem_toArray, List.getElem_cons_zero, List.setIfInBounds_toArray, List.set_cons_zero, List.set_cons_succ]
    refine wpAnyT_take (i := 1) (v := .pointer (some ⟨p, 0, none⟩)) rfl (by kernel_rfl) (by kernel_rfl) (by kernel_rfl) (by kernel_rfl) (fun _ _ _ h => h) (takes_yield rfl (Or.inl ⟨by rfl, ?_⟩)) (by assumption) (by kernel_rfl) ?_
    · intro w' hSw; go_simp
    simp only [Act.put, List.getElem_toArray, List.getElem_cons_zero, List.getElem_cons_succ, List.setIfInBounds_toArray, List.set_cons_zero, List.set_cons_succ]
    refine wpAnyT_take (i := 2) (v := .pointer (some ⟨w.heap.size + 1, 1, none⟩)) rfl (by kernel_rfl) (by kernel_rfl) (by kernel_rfl) (by kernel_rfl) (fun _ _ _ h => h) (takes_yield rfl (Or.inl ⟨by rfl, ?_⟩)) (by assumption) (by kernel_rfl) ?_
    · intro w' hSw; go_simp
    simp only [Act.put, List.getElem_toArray, List.getElem_cons_zero, List.getElem_cons_succ, List.setIfInBounds_toArray, List.set_cons_zero, List.set_cons_succ]
    refine wpAnyT_take (i := 3) (v := .int .i64 i_) rfl (by kernel_rfl) (by kernel_rfl) (by kernel_rfl) (by kernel_rfl) (fun _ _ _ h => h) (takes_yield rfl (Or.inl ⟨by rfl, ?_⟩)) (by assumption) (by kernel_rfl) ?_
    · intro w' hSw; have hcw := hSw.2.cells7; go_split_ands; go_simp
    simp only [Act.put, List.getElem_toArray, List.getElem_cons_zero, List.getElem_cons_succ, List.setIfInBounds_toArray, List.set_cons_zero, List.set_cons_succ]
    refine wpAnyT_take (i := 4) (v := .agg #[.int .i64 0, .int .i64 i_, .int .i64 n_, .string b_, .string x_, .int .u8 (y_ : Int), kp]) rfl (by kernel_rfl) (by kernel_rfl) (by kernel_rfl) (by kernel_rfl) (fun _ _ _ h => h) (takes_yield rfl (Or.inl ⟨by rfl, ?_⟩)) (by assumption) (by kernel_rfl) ?_
    · intro w' hSw; have hcw := hSw.2.cells7; go_split_ands; go_simp
    simp only [Act.put, List.getElem_toArray, List.getElem_cons_zero, List.getElem_cons_succ, List.setIfInBounds_toArray, List.set_cons_zero, List.set_cons_succ]
    refine wpAnyT_take (i := 7) (v := .int .i64 (r.write i_ D).2) rfl (by kernel_rfl) (by kernel_rfl) (by kernel_rfl) (by kernel_rfl) (fun _ _ _ h => h) (takes_yield rfl (Or.inl ⟨by rfl, ?_⟩)) (by assumption) (by kernel_rfl) ?_
    · intro w' hSw; go_simp
    simp only [Act.put, List.getElem_toArray, List.getElem_cons_zero, List.getElem_cons_succ, List.setIfInBounds_toArray, List.set_cons_zero, List.set_cons_succ]
    refine wpAnyT_one (i := 5) (by kernel_rfl) rfl (fun K hK => ?_)
    go_simp
    refine (hdat.out _).mono ?_
    rintro e w5 ⟨rfl, hU⟩
    have hS1 := And.intro (hS0.1.upd hU (fun e => e)) (hS0.2.upd hU (fun e => e))
    refine hK.out _ _ hS1 ?_
    have hU5 := (Upd.refl (fun _ => False) wc).drew.then hU (fun _ e => e.elim)
    clear hK hS0 hU
    refine wpAnyT_one (i := 6) (by kernel_rfl) rfl (fun K hK => ?_)
    go_simp
    refine (hwd.out _ hU5).mono ?_
    rintro e w6 ⟨rfl, hD6, hK6, hX6⟩
    have hS2 := And.intro (hK6 _ _ _ hS1.1 (by decide) (by decide)) (hK6 _ _ _ hS1.2 (by decide) (by decide))
    refine hK.out _ _ hS2 ?_
    have hB6 := hK6 _ _ _ (H4.out.2.1.upd hU5 (fun e => e)) (by decide) (by decide)
    have hP6 : PlayAt w0 w6 p (d.write i_ D).1 vl vw' (r.write i_ D).1 := ⟨hD6, (H4.out.1.at_.upd hU5).kept hX6, H4.out.2.2⟩
    have HK6 := Lib.hid (((hK6.pre hU5).pre H4.out.1.upd).pre HU3.out)
    have H6 := Lib.hid (And.intro hB6 hP6)
    clear hK hS1 hU5 hD6 hK6 hX6 hB6 hP6
    refine wpAnyT_take (i := 8) (v := .bool true) rfl (by kernel_rfl) (by kernel_rfl) (by kernel_rfl) (by kernel_rfl) (fun _ _ _ h => h) (takes_yield rfl (Or.inl ⟨by rfl, ?_⟩)) (by assumption) (by kernel_rfl) ?_
    · intro w' hSw; go_simp
    simp only [Act.put, List.getElem_toArray, List.getElem_cons_zero, List.getElem_cons_succ, List.setIfInBounds_toArray, List.set_cons_zero, List.set_cons_succ]
    refine wpAnyT_one (i := 9) (by kernel_rfl) rfl (fun K hK => ?_)
    refine step_store_all (by rfl) 79 _ _ (by rfl) (w.heap.size + 1 + 1) #[vl, vw', .int .i64 (r.write i_ D).1.fuse, .bool (r.write i_ D).1.off] (by rfl) (by rfl) _ _ H6.out.1 rfl (row_one _ _ ho1.out H6.out.2.rd.ws.one _ _) (by kernel_rfl) ?_
    intro wz hBz hUz hsz
    have hSz := And.intro (hS2.1.upd hUz hgne.out) (hS2.2.upd hUz (fun e => by omega))
    refine hK.out _ _ hSz ?_
    have HKz := Lib.hid (HK6.out.ends hUz (by omega))
    have HZ := Lib.hid (And.intro hBz (H6.out.2.store H6.out.1 hlow.out hUz))
    clear hK hBz hUz hsz hS2
    refine wpAnyT_take (i := 10) (v := .bool true) rfl (by kernel_rfl) (by kernel_rfl) (by kernel_rfl) (by kernel_rfl) (fun _ _ _ h => h) (takes_yield rfl (Or.inl ⟨by rfl, ?_⟩)) (by assumption) (by kernel_rfl) ?_
    · intro w' hSw; go_simp
    simp only [Act.put, List.getElem_toArray, List.getElem_cons_zero, List.getElem_cons_succ, List.setIfInBounds_toArray, List.set_cons_zero, List.set_cons_succ]
    refine wpAnyT_done (by kernel_rfl) ?_ _
    refine NoPanic.normal ?_
    go_wp2_with fail
    refine bodyPost_ret (results_cell_slot rfl _ _ (w.heap.size + 1 + 1) _ _ _ _ rfl HZ.out.1 Try.underlying79 rfl rfl (.bool true) rfl) rfl ⟨vl, vw', (r.write i_ D).1, rfl, HZ.out.2, HKz.out⟩
end Go.Proofs.Ytafgohnpnaiomaa

/-
  DiskPlays: acts of the disk beside the document's: a sector spoilt. (Printed by mk_play.py.)
-/
namespace Go.Proofs.Ytafgohnpnaiomaa
open Go Go.RowKit


theorem rspoil_c {w : World} {vl vw : Value} {r : Rd} (h : RdAt w vl vw r) (hf : r.fits) (i a : Int) (x : ByteArray) (ha : -9223372036854775808 ≤ a ∧ a ≤ 9223372036854775807) (hx : x.size ≤ 9223372036854775807) :
    Calls Try.prog 102 #[.agg #[vl, vw, .int .i64 r.fuse, .bool r.off], .int .i64 i, .int .i64 a, .string x] w fun e w' => ∃ vl', e = .returned (.tuple #[.agg #[vl', vw, .int .i64 (r.spoil i a x).1.fuse, .bool (r.spoil i a x).1.off], .int .i64 (r.spoil i a x).2]) ∧
      RdLeft w w' vl vw vl' vw (r.spoil i a x).1 := by
  cases hb : (!r.out i && decide (x.size ≤ 4 ∧ 0 ≤ a ∧ a ≤ 64 - x.size)) with
  | false =>
    have e : r.spoil i a x = (r, 1) := by unfold Rd.spoil; rw [hb]; rfl
    rw [e]
    refine (rspoil_bad h hf i a x ha hx hb).mono ?_
    rintro e w' ⟨rfl, hU⟩
    exact ⟨vl, rfl, h.upd hU, hU, fun q hq => .inl hq⟩
  | true =>
    have e : r.spoil i a x = ({ r with lasts := r.lasts.set i.toNat (str (turnK (r.last i.toNat).data.toList a.toNat x.data.toList x.size)) }, 0) := by unfold Rd.spoil; rw [hb]; rfl
    rw [e]
    simp only [Bool.and_eq_true, Bool.not_eq_true', decide_eq_true_eq, Rd.out, decide_eq_false_iff_not] at hb
    obtain ⟨h1, h2, h3, h4⟩ := hb
    have hc := rspoil_good h hf i.toNat a.toNat x (by omega) h2 (by omega)
    rw [Int.toNat_of_nonneg (by omega), Int.toNat_of_nonneg h3] at hc
    exact hc
theorem spoil_v {w0 w : World} {l : List (Nat × Dk)} {p : Nat} {d : Dk} {X : Nat → Prop} {i : Nat} (h : DksX w0 w l X) (hi : l[i]? = some (p, d)) (k a : Int) (x : ByteArray) (ha : -9223372036854775808 ≤ a ∧ a ≤ 9223372036854775807) (hx : x.size ≤ 9223372036854775807) :
    Calls Try.prog 35 #[.pointer (some ⟨p, 0, none⟩), .int .i64 k, .int .i64 a, .string x] w fun e w' => e = .returned (.int .i64 (d.spoil k a x).2) ∧ DksX w0 w' (l.set i (p, (d.spoil k a x).1)) X ∧ BlkKept w w' ∧ XKept X w w' :=
  h.call (R := fun e => e = .returned (.int .i64 (d.spoil k a x).2)) i hi fun F h1 _ => (spoil_c h1 k a x ha.1 ha.2 hx).mono fun _ _ hx => ⟨hx.1, F, hx.2⟩
set_option maxRecDepth 100000 in
set_option maxHeartbeats 3200000 in
theorem does_spoil {w0 w : World} {p : Nat} {d : Dk} {vl vw : Value} {r : Rd} (hP : PlayAt w0 w p d vl vw r) (i_ n_ : Int) (b_ x_ : ByteArray) (y_ : Nat) (kp : Value) (hn : -9223372036854775808 ≤ n_ ∧ n_ ≤ 9223372036854775807) (hx : x_.size ≤ 9223372036854775807) :
    Calls Try.prog 57 #[.pointer (some ⟨p, 0, none⟩), .agg #[vl, vw, .int .i64 r.fuse, .bool r.off], .agg #[.int .i64 4, .int .i64 i_, .int .i64 n_, .string b_, .string x_, .int .u8 (y_ : Int), kp]] w fun e w' =>
      ∃ vl' vw' r', e = .returned (.tuple #[.agg #[vl', vw', .int .i64 r'.fuse, .bool r'.off], .bool true]) ∧ PlayAt w0 w' p ((d.spoil i_ n_ x_).1) vl' vw' r' ∧ BlkKept w w' := by
  have ho1 := Lib.hid hP.rd.lasts.one
  have ho2 := Lib.hid hP.rd.ws.one
  have hw0 := Lib.hid hP.disks.upd.size
  obtain ⟨w3, hw3⟩ : ∃ w3, ((w.alloc (.cells #[vl, vw, .int .i64 r.fuse, .bool r.off] 79)).alloc (.cells #[.int .i64 4, .int .i64 i_, .int .i64 n_, .string b_, .string x_, .int .u8 (y_ : Int), kp] 66)).alloc (.cells zeroRd 79) = w3 := ⟨_, rfl⟩
  obtain ⟨hU3, hB4, hB5, hB6, hsz0⟩ := three_new w3 hw3
  have hsz : Hid (w3.heap.size = w.heap.size + 3) := hsz0
  have HB := Lib.hid (And.intro hB4 (And.intro hB5 hB6))
  have HU3 := Lib.hid hU3
  have hP3 := Lib.hid (hP.still hU3)
  have hc5 := hB5.cells7
  have Hw3 := Lib.hid hw3
  have hsp := Lib.hid (rspoil_c hP3.out.rd hP3.out.fits i_ n_ x_ hn hx)
  have hsame := Lib.hid (hP3.out.is.spoil i_ n_ x_)
  have hnx := Lib.hid (And.intro hn hx)
  clear hP hB4 hB5 hB6 hU3 hw3 hsz0 hn hx
  go_enter Try.func57, Try.ntmps57
  go_upto_region 1 with fail
  rw [Hw3.out]
  clear Hw3
  go_upto_region 16 with (first
    | (refine wpList_load_all rfl _ _ rfl w.heap.size rfl _ _ _ HB.out.1 Try.underlying79 rfl rfl ?_)
    | (go_at_call 102; refine hsp.out.mono ?_; rintro e w4 ⟨vl', rfl, hL⟩
       have HL := Lib.hid hL
       clear hL)
    | (refine wpList_store_all rfl 79 _ _ rfl w4.heap.size #[vl', vw, .int .i64 (r.spoil i_ n_ x_).1.fuse, .bool (r.spoil i_ n_ x_).1.off] rfl rfl _ _ (Blk.new w4 _ _) rfl (row_one _ _ HL.out.at_.lasts.one HL.out.at_.ws.one _ _) (by kernel_rfl) ?_
       intro w5 hB5 hU5 hs5))
  clear hc5
  have hg : Hid (w3.heap.size ≤ w4.heap.size) := HL.out.upd.size
  have hL : RdLeft w3 w5 vl vw vl' vw (r.spoil i_ n_ x_).1 := (HL.out.post ((Upd.refl _ w4).alloc _)).store hU5 (fun q hq e => by rcases hq with h | h; exact absurd (HL.out.at_.lasts.lt h) (by omega); exact absurd (HL.out.at_.ws.lt h) (by omega)) hg.out
  have hDx := hP3.out.disks.ref hL
  have hb := hB5
  have H4 := Lib.hid (And.intro hL (HB.out.2.2.upd hL.upd (fun e => e)))
  have hwd : Hid (∀ W, Upd (fun _ => False) w5 W → Calls Try.prog 35 #[.pointer (some ⟨p, 0, none⟩), .int .i64 i_, .int .i64 n_, .string x_] W fun e w' => e = .returned (.int .i64 (r.spoil i_ n_ x_).2) ∧ DksX w0 w' [(p, (d.spoil i_ n_ x_).1)] (RdX vl' vw) ∧ BlkKept W w' ∧ XKept (RdX vl' vw) W w') := fun W hW => by
    rw [hsame.out.2]
    exact spoil_v (hDx.still hW) (i := 0) rfl i_ n_ x_ hnx.out.1 hnx.out.2
  have hS0 : Blk w5.drew w4.heap.size 79 #[vl', vw, .int .i64 (r.spoil i_ n_ x_).1.fuse, .bool (r.spoil i_ n_ x_).1.off] ∧ Blk w5.drew (w.heap.size + 1) 66 #[.int .i64 4, .int .i64 i_, .int .i64 n_, .string b_, .string x_, .int .u8 (y_ : Int), kp] := ⟨hb.drew, (HB.out.2.1.upd hL.upd (fun e => e)).drew⟩
  have hlow : Hid (w0.heap.size ≤ w.heap.size + 1 + 1) := by have := hw0.out; show _ ≤ _; omega
  have hgne : Hid (w4.heap.size ≠ w.heap.size + 1 + 1) := by have := hsz.out; have := hg.out; show _ ≠ _; omega
  clear hDx hL hb hU5 hs5 hB5
  refine wp_region_noPanic ?_
  refine wp_region_T (S := fun w' => Blk w' w4.heap.size 79 #[vl', vw, .int .i64 (r.spoil i_ n_ x_).1.fuse, .bool (r.spoil i_ n_ x_).1.off] ∧ Blk w' (w.heap.size + 1) 66 #[.int .i64 4, .int .i64 i_, .int .i64 n_, .string b_, .string x_, .int .u8 (y_ : Int), kp]) (T := fun _ => false) (by kernel_rfl) ?_
  refine wpAnyT_take (i := 0) (v := .agg #[vl', vw, .int .i64 (r.spoil i_ n_ x_).1.fuse, .bool (r.spoil i_ n_ x_).1.off]) rfl (by kernel_rfl) (by kernel_rfl) (by kernel_rfl) (by kernel_rfl) (fun _ _ _ h => h) (takes_yield rfl (Or.inl ⟨by rfl, ?_⟩)) (by assumption) (by kernel_rfl) ?_
  · intro w' hSw; have hcw := hSw.1.cells4; go_split_ands; go_simp
  simp only [Act.put, List.getElem_toArray, List.getElem_cons_zero, List.setIfInBounds_toArray, List.set_cons_zero, List.set_cons_succ]
  refine wpAnyT_take (i := 1) (v := .pointer (some ⟨p, 0, none⟩)) rfl (by kernel_rfl) (by kernel_rfl) (by kernel_rfl) (by kernel_rfl) (fun _ _ _ h => h) (takes_yield rfl (Or.inl ⟨by rfl, ?_⟩)) (by assumption) (by kernel_rfl) ?_
  · intro w' hSw; go_simp
  simp only [Act.put, List.getElem_toArray, List.getElem_cons_zero, List.getElem_cons_succ, List.setIfInBounds_toArray, List.set_cons_zero, List.set_cons_succ]
  refine wpAnyT_take (i := 2) (v := .pointer (some ⟨w.heap.size + 1, 1, none⟩)) rfl (by kernel_rfl) (by kernel_rfl) (by kernel_rfl) (by kernel_rfl) (fun _ _ _ h => h) (takes_yield rfl (Or.inl ⟨by rfl, ?_⟩)) (by assumption) (by kernel_rfl) ?_
  · intro w' hSw; go_simp
  simp only [Act.put, List.getElem_toArray, List.getElem_cons_zero, List.getElem_cons_succ, List.setIfInBounds_toArray, List.set_cons_zero, List.set_cons_succ]
  refine wpAnyT_take (i := 3) (v := .int .i64 i_) rfl (by kernel_rfl) (by kernel_rfl) (by kernel_rfl) (by kernel_rfl) (fun _ _ _ h => h) (takes_yield rfl (Or.inl ⟨by rfl, ?_⟩)) (by assumption) (by kernel_rfl) ?_
  · intro w' hSw; have hcw := hSw.2.cells7; go_split_ands; go_simp
  simp only [Act.put, List.getElem_toArray, List.getElem_cons_zero, List.getElem_cons_succ, List.setIfInBounds_toArray, List.set_cons_zero, List.set_cons_succ]
  refine wpAnyT_take (i := 4) (v := .pointer (some ⟨w.heap.size + 1, 2, none⟩)) rfl (by kernel_rfl) (by kernel_rfl) (by kernel_rfl) (by kernel_rfl) (fun _ _ _ h => h) (takes_yield rfl (Or.inl ⟨by rfl, ?_⟩)) (by assumption) (by kernel_rfl) ?_
  · intro w' hSw; go_simp
  simp only [Act.put, List.getElem_toArray, List.getElem_cons_zero, List.getElem_cons_succ, List.setIfInBounds_toArray, List.set_cons_zero, List.set_cons_succ]
  refine wpAnyT_take (i := 5) (v := .int .i64 n_) rfl (by kernel_rfl) (by kernel_rfl) (by kernel_rfl) (by kernel_rfl) (fun _ _ _ h => h) (takes_yield rfl (Or.inl ⟨by rfl, ?_⟩)) (by assumption) (by kernel_rfl) ?_
  · intro w' hSw; have hcw := hSw.2.cells7; go_split_ands; go_simp
  simp only [Act.put, List.getElem_toArray, List.getElem_cons_zero, List.getElem_cons_succ, List.setIfInBounds_toArray, List.set_cons_zero, List.set_cons_succ]
  refine wpAnyT_take (i := 6) (v := .pointer (some ⟨w.heap.size + 1, 4, none⟩)) rfl (by kernel_rfl) (by kernel_rfl) (by kernel_rfl) (by kernel_rfl) (fun _ _ _ h => h) (takes_yield rfl (Or.inl ⟨by rfl, ?_⟩)) (by assumption) (by kernel_rfl) ?_
  · intro w' hSw; go_simp
  simp only [Act.put, List.getElem_toArray, List.getElem_cons_zero, List.getElem_cons_succ, List.setIfInBounds_toArray, List.set_cons_zero, List.set_cons_succ]
  refine wpAnyT_take (i := 7) (v := .string x_) rfl (by kernel_rfl) (by kernel_rfl) (by kernel_rfl) (by kernel_rfl) (fun _ _ _ h => h) (takes_yield rfl (Or.inl ⟨by rfl, ?_⟩)) (by assumption) (by kernel_rfl) ?_
  · intro w' hSw; have hcw := hSw.2.cells7; go_split_ands; go_simp
  simp only [Act.put, List.getElem_toArray, List.getElem_cons_zero, List.getElem_cons_succ, List.setIfInBounds_toArray, List.set_cons_zero, List.set_cons_succ]
  refine wpAnyT_take (i := 9) (v := .int .i64 (r.spoil i_ n_ x_).2) rfl (by kernel_rfl) (by kernel_rfl) (by kernel_rfl) (by kernel_rfl) (fun _ _ _ h => h) (takes_yield rfl (Or.inl ⟨by rfl, ?_⟩)) (by assumption) (by kernel_rfl) ?_
  · intro w' hSw; go_simp
  simp only [Act.put, List.getElem_toArray, List.getElem_cons_zero, List.getElem_cons_succ, List.setIfInBounds_toArray, List.set_cons_zero, List.set_cons_succ]
  refine wpAnyT_one (i := 8) (by kernel_rfl) rfl (fun K hK => ?_)
  go_simp
  refine (hwd.out _ (Upd.refl _ _).drew).mono ?_
  rintro e w6 ⟨rfl, hD6, hK6, hX6⟩
  have hS2 := And.intro (hK6 _ _ _ hS0.1 (by decide) (by decide)) (hK6 _ _ _ hS0.2 (by decide) (by decide))
  refine hK.out _ _ hS2 ?_
  have hB6 := hK6 _ _ _ H4.out.2.drew (by decide) (by decide)
  have hP6 : PlayAt w0 w6 p (d.spoil i_ n_ x_).1 vl' vw (r.spoil i_ n_ x_).1 := ⟨hD6, (H4.out.1.at_.upd (Upd.refl _ _).drew).kept hX6, hsame.out.1⟩
  have HK6 := Lib.hid (((hK6.pre (Upd.refl _ _).drew).pre H4.out.1.upd).pre HU3.out)
  have H6 := Lib.hid (And.intro hB6 hP6)
  clear hK hS0 hD6 hK6 hX6 hB6 hP6
  refine wpAnyT_take (i := 10) (v := .bool true) rfl (by kernel_rfl) (by kernel_rfl) (by kernel_rfl) (by kernel_rfl) (fun _ _ _ h => h) (takes_yield rfl (Or.inl ⟨by rfl, ?_⟩)) (by assumption) (by kernel_rfl) ?_
  · intro w' hSw; go_simp
  simp only [Act.put, List.getElem_toArray, List.getElem_cons_zero, List.getElem_cons_succ, List.setIfInBounds_toArray, List.set_cons_zero, List.set_cons_succ]
  refine wpAnyT_one (i := 11) (by kernel_rfl) rfl (fun K hK => ?_)
  refine step_store_all (by rfl) 79 _ _ (by rfl) (w.heap.size + 1 + 1) #[vl', vw, .int .i64 (r.spoil i_ n_ x_).1.fuse, .bool (r.spoil i_ n_ x_).1.off] (by rfl) (by rfl) _ _ H6.out.1 rfl (row_one _ _ H6.out.2.rd.lasts.one H6.out.2.rd.ws.one _ _) (by kernel_rfl) ?_
  intro wz hBz hUz hsz
  have hSz := And.intro (hS2.1.upd hUz hgne.out) (hS2.2.upd hUz (fun e => by omega))
  refine hK.out _ _ hSz ?_
  have HKz := Lib.hid (HK6.out.ends hUz (by omega))
  have HZ := Lib.hid (And.intro hBz (H6.out.2.store H6.out.1 hlow.out hUz))
  clear hK hBz hUz hsz hS2
  refine wpAnyT_take (i := 12) (v := .bool true) rfl (by kernel_rfl) (by kernel_rfl) (by kernel_rfl) (by kernel_rfl) (fun _ _ _ h => h) (takes_yield rfl (Or.inl ⟨by rfl, ?_⟩)) (by assumption) (by kernel_rfl) ?_
  · intro w' hSw; go_simp
  simp only [Act.put, List.getElem_toArray, List.getElem_cons_zero, List.getElem_cons_succ, List.setIfInBounds_toArray, List.set_cons_zero, List.set_cons_succ]
  refine wpAnyT_done (by kernel_rfl) ?_ _
  refine NoPanic.normal ?_
  go_wp2_with fail
  refine bodyPost_ret (results_cell_slot rfl _ _ (w.heap.size + 1 + 1) _ _ _ _ rfl HZ.out.1 Try.underlying79 rfl rfl (.bool true) rfl) rfl ⟨vl', vw, (r.spoil i_ n_ x_).1, rfl, HZ.out.2, HKz.out⟩
end Go.Proofs.Ytafgohnpnaiomaa

/-
  DiskPlays: an act of the disk beside the document's, whichever.
-/
namespace Go.Proofs.Ytafgohnpnaiomaa
open Go Go.RowKit

theorem does_c {w0 w : World} {p : Nat} {d : Dk} {vl vw : Value} {r : Rd} (hP : PlayAt w0 w p d vl vw r) (a : Act7) (ho : a.ok w0) (hp : d.pend + 1 < 1000000) :
    Calls Try.prog 57 #[.pointer (some ⟨p, 0, none⟩), .agg #[vl, vw, .int .i64 r.fuse, .bool r.off], a.val] w fun e w' =>
      ∃ vl' vw' r', e = .returned (.tuple #[.agg #[vl', vw', .int .i64 r'.fuse, .bool r'.off], .bool true]) ∧ PlayAt w0 w' p (d.act a) vl' vw' r' ∧ BlkKept w w' := by
  have hn := ho.n
  unfold i64ok at hn
  have hx := ho.x
  have hy := ho.byte
  have hk := ho.keep
  obtain ⟨d_, i_, n_, b_, x_, y_, kp, ks⟩ := a
  simp only at hn hx hy hk
  unfold Act7.val
  simp only
  by_cases c0 : d_ = 0
  · subst c0; exact does_write hP i_ n_ b_ x_ y_ kp ks hy hp
  by_cases c1 : d_ = 1
  · subst c1; exact does_sync hP i_ n_ b_ x_ y_ kp
  by_cases c2 : d_ = 2
  · subst c2; exact does_fuse hP i_ n_ b_ x_ y_ kp hn.2
  by_cases c3 : d_ = 3
  · subst c3; exact does_crash hP i_ n_ b_ x_ y_ kp ks hk
  by_cases c4 : d_ = 4
  · subst c4; exact does_spoil hP i_ n_ b_ x_ y_ kp hn hx
  have e : d.act ⟨d_, i_, n_, b_, x_, y_, kp, ks⟩ = d := by simp [Dk.act, c0, c1, c2, c3, c4]
  rw [e]
  by_cases c5 : d_ = 5
  · subst c5; exact does_read hP i_ n_ b_ x_ y_ kp
  · exact does_none hP i_ n_ b_ x_ y_ kp d_ (by omega)
end Go.Proofs.Ytafgohnpnaiomaa
