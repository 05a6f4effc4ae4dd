/-
  The document's records of chapter 09: Put that is not refused. (Printed by mk_ref9.py.)
-/
import Derived.Test.YtnmbhoidnbideaaGreatRef9D
namespace Go.Proofs.YtnmbhoidnbideaaGreat
open Go Go.RowKit

theorem Rd.fits.write {r : Rd} (h : r.fits) (i : Int) (b : ByteArray) (hp : r.ws.length + 1 ≤ 1000000) : (r.write i b).1.fits ∧ (r.write i b).1.ws.length ≤ r.ws.length + 1 := by
  unfold Rd.write
  split
  · exact ⟨h, by simp⟩
  · split
    · exact ⟨h, by simp⟩
    · rename_i h2
      have ha : r.act.1.fits ∧ r.act.1.ws = r.ws ∧ r.act.1.lasts = r.lasts := by
        have hfu := h.fuse
        unfold Rd.act
        split
        · exact ⟨⟨h.pos, h.lasts, h.ws, h.fuse, h.low, h.size⟩, rfl, rfl⟩
        · split
          · exact ⟨⟨h.pos, h.lasts, h.ws, by show _ ∧ _; constructor <;> (simp only; omega), h.low, h.size⟩, rfl, rfl⟩
          · exact ⟨h, rfl, rfl⟩
      obtain ⟨a1, a2, a3⟩ := ha
      split
      · unfold Rd.push
        refine ⟨⟨a1.pos, a1.lasts, by simp only [List.length_append, List.length_singleton, a2]; exact hp, a1.fuse, fun x hx => ?_, a1.size⟩, by simp [a2]⟩
        simp only [List.mem_append, List.mem_singleton] at hx
        rcases hx with hx | rfl
        · exact a1.low x hx
        · simp only [Bool.or_eq_true, not_or, Bool.not_eq_true] at h2
          have h3 := h2.1
          unfold Rd.out at h3
          have h4 := of_decide_eq_false h3
          show 0 ≤ i ∧ i < (r.act.1.lasts.length : Int)
          rw [a3]
          omega
      · exact ⟨a1, by simp [a2]⟩
/-- What a region of a Put leaves that writes one sector. -/
structure Wrote9 (wa wx : World) (vl vw vw2 : Value) (r2 : Rd) (g2 : Nat) : Prop where
  blk : Blk wx g2 32 #[vl, vw2, .int .i64 r2.fuse, .bool r2.off]
  left : RdLeft wa wx vl vw vl vw2 r2
/-- The document's disk is put into its box. -/
theorem Puts9.box {w wa wx wy : World} {vl vw vw' vw2 : Value} {r' r2 : Rd} {k' : Kp} {g2 : Nat} (h : Puts9 w wa vl vw vl vw' r' k') (hW : Wrote9 wa wx vl vw' vw2 r2 g2) (hB : Blk wy (w.heap.size + 1) 32 #[vl, vw2, .int .i64 r2.fuse, .bool r2.off]) (hU : Upd (· = w.heap.size + 1) wx wy) : Puts9 w wy vl vw vl vw2 r2 k' := by
  have h2 := h.still hW.left.upd
  refine ⟨(h.left.trans hW.left).store hU (fun q hq e => hW.left.at_.ne h2.disk (by decide) (by decide) (e ▸ hq)) (by omega), h2.kept.upd hU (by omega), hB, h2.res1.upd hU (by omega), h2.res2.upd hU (by omega)⟩
section
variable {w : World} {vl vw : Value} {r : Rd}
set_option maxRecDepth 100000 in
set_option maxHeartbeats 6400000 in
theorem refPut_goes (h : RdAt w vl vw r) (hf : r.fits) (f : Nat) (t : List UInt8) (g a se : Nat) (s : ByteArray) (hs : s.size ≤ 400) (hse : se < 18446744073709551615) (ha : a ≤ 1) (hff : f ≤ 4096) (hp : r.ws.length + 20 ≤ 1000000) :
    Calls Tryz.prog 31 #[.agg #[.int .i64 (f : Int), .string (str t), .int .u64 (g : Int), .int .i64 (a : Int), .int .u64 (se : Int), .bool false], .agg #[vl, vw, .int .i64 r.fuse, .bool r.off], .string s] w fun e w' =>
      ∃ vl' vw', e = .returned (.tuple #[.agg (putR r ⟨f, t, g, a, se, false⟩ s.data.toList).2.1.row, .agg #[vl', vw', .int .i64 (putR r ⟨f, t, g, a, se, false⟩ s.data.toList).1.fuse, .bool (putR r ⟨f, t, g, a, se, false⟩ s.data.toList).1.off], .int .i64 (putR r ⟨f, t, g, a, se, false⟩ s.data.toList).2.2]) ∧ RdLeft w w' vl vw vl' vw' (putR r ⟨f, t, g, a, se, false⟩ s.data.toList).1 := by
  have hlen : s.data.toList.length = s.size := by simp
  obtain ⟨R, hR⟩ : ∃ R, putR r ⟨f, t, g, a, se, false⟩ s.data.toList = R := ⟨_, rfl⟩
  rw [hR]
  obtain ⟨n, hn⟩ : ∃ n, allOf s.size = n := ⟨_, rfl⟩
  obtain ⟨A, hA⟩ : ∃ A, f + (1 - a) * 10 = A := ⟨_, rfl⟩
  have hRv : R = if (writeNR r A (cutL s.data.toList (se + 1)) n).2 ≠ 0 then ((writeNR r A (cutL s.data.toList (se + 1)) n).1, ⟨f, t, g, a, se, true⟩, (writeNR r A (cutL s.data.toList (se + 1)) n).2) else
      if (writeNR r A (cutL s.data.toList (se + 1)) n).1.sync.2 ≠ 0 then ((writeNR r A (cutL s.data.toList (se + 1)) n).1.sync.1, ⟨f, t, g, a, se, true⟩, (writeNR r A (cutL s.data.toList (se + 1)) n).1.sync.2) else
      ((writeNR r A (cutL s.data.toList (se + 1)) n).1.sync.1, ⟨f, s.data.toList, se + 1, 1 - a, se + 1, false⟩, 0) := by
    rw [← hR]
    unfold putR
    simp only [hlen, hn, hA]
    rw [if_neg (by simp), if_neg (by omega), if_neg (by omega)]
  have HRv := Lib.hid hRv
  have hn1 : 1 ≤ n := by rw [← hn]; unfold allOf; omega
  have hn9 : n ≤ 9 := by rw [← hn]; exact allOf_le9 hs
  have hsec : ∀ W, _ := fun W => refSectors_c s (se + 1) W (by omega)
  rw [hn] at hsec
  have HSec := Lib.hid hsec
  have HLn : Hid (((cutL s.data.toList (se + 1)).map Pt.secR).length = n) := by
    show _ = _
    rw [List.length_map, cutL_len, hlen, hn]
  clear hRv hR hn hsec hlen
  have hHA : (f : Int) + 10 * (1 - (a : Int)) = (A : Int) := by rw [← hA]; omega
  have HA := Lib.hid hHA
  have hA2 : A ≤ 4200 := by omega
  clear hA hHA
  obtain ⟨w3, hw3⟩ : ∃ w3, (((w.alloc (.cells #[.int .i64 (f : Int), .string (str t), .int .u64 (g : Int), .int .i64 (a : Int), .int .u64 (se : Int), .bool false] 39)).alloc (.cells #[vl, vw, .int .i64 r.fuse, .bool r.off] 32)).alloc (.cells zeroKp 39)).alloc (.cells zeroRd 32) = w3 := ⟨_, rfl⟩
  obtain ⟨hU3, b1, b2, b3, b4, hsz⟩ := four_new w3 hw3
  have HP : Hid (Puts9 w w3 vl vw vl vw r ⟨f, t, g, a, se, false⟩) := Lib.hid ⟨(RdLeft.refl h).post hU3, b1, b2, b3, b4⟩
  have hc3 := b1.cells6
  have Hw := Lib.hid hw3
  have Hf := Lib.hid hf
  have hws : Hid (r.ws.length + 20 ≤ 1000000) := hp
  clear hU3 b1 b2 b3 b4 hsz hw3 h hf hp
  have hs1 : ((se : Int) + 1) = ((se + 1 : Nat) : Int) := by omega
  have Hs1 := Lib.hid hs1
  clear hs1
  go_enter Tryz.func31, Tryz.ntmps31
  go_upto_region 1 with fail
  rw [Hw.out]
  clear Hw
  go_wp2_with fail
  rw [Hs1.out]
  refine (HSec.out _).mono ?_
  rintro e w4 ⟨v9, rfl, hG⟩
  obtain ⟨g9, cap9, rfl, -, -⟩ := hG.own.head (by omega)
  have HP4 := Lib.hid (HP.out.still hG.upd)
  have HG := Lib.hid hG
  have hc4 := HP4.out.kept.cells6
  have hf4 := HP4.out.kept.frozen 5
  clear hG hc3 HP
  go_upto_region 10 with fail
  have hU5 : Upd (· = w.heap.size) w4 (w4.setCell ⟨w.heap.size, 5, none⟩ (.bool true)) := (Upd.refl (· = w.heap.size) w4).setCell (p := ⟨w.heap.size, 5, none⟩) (.inl rfl) _
  have hk5 := HP4.out.kept.set_ 5 (.bool true)
  obtain ⟨w5, hw5⟩ : ∃ w5, w4.setCell ⟨w.heap.size, 5, none⟩ (.bool true) = w5 := ⟨_, rfl⟩
  rw [hw5] at hU5 hk5 ⊢
  have HP5 : Hid (Puts9 w w5 vl vw vl vw r ⟨f, t, g, a, se, true⟩) := Lib.hid ⟨HP4.out.left.store hU5 (fun q hq e => HP4.out.left.at_.ne HP4.out.kept (by decide) (by decide) (e ▸ hq)) (Nat.le_refl _), by simp at hk5; exact hk5, HP4.out.disk.upd hU5 (by omega), HP4.out.res1.upd hU5 (by omega), HP4.out.res2.upd hU5 (by omega)⟩
  have HO5 : Hid (Own w5 9 1 (.slice (some ⟨g9, 0, none⟩) n cap9) n (strs ((cutL s.data.toList (se + 1)).map Pt.secR))) := Lib.hid (HG.out.own.upd hU5 (fun q hq e => HG.out.own.ne_blk HP4.out.kept (by decide) (e ▸ hq)))
  clear hU5 hk5 hw5 hc4 hf4 HP4 HG
  go_wp2_with fail
  go_loopw [10, 11, 12] (fun i _ _ wr => ∃ (j : Nat) (vw' : Value) (r' : Rd), j ≤ n ∧ i = .int .i64 (j : Int) ∧ writeNR r A (cutL s.data.toList (se + 1)) j = (r', 0) ∧ r'.fits ∧ r'.ws.length ≤ r.ws.length + j ∧ Puts9 w wr vl vw vl vw' r' ⟨f, t, g, a, se, true⟩ ∧ Own wr 9 1 (.slice (some ⟨g9, 0, none⟩) n cap9) n (strs ((cutL s.data.toList (se + 1)).map Pt.secR))) (fun i _ _ _ => n - (intOf i).toNat)
  case atStart => exact ⟨0, vw, r, by omega, rfl, rfl, Hf.out, Nat.le_refl _, HP5.out, HO5.out⟩
  case round =>
    rename World => wa
    obtain ⟨j, vw', r', hj, rfl, hwn, hfit, hwl, hPu, hOw⟩ := hrel
    have H := Lib.hid hPu
    have HO := Lib.hid hOw
    clear hPu hOw HP5 HO5
    by_cases hlt : j < n
    · have hjl : j < ((cutL s.data.toList (se + 1)).map Pt.secR).length := by rw [HLn.out]; exact hlt
      obtain ⟨b, hb⟩ : ∃ b, ((cutL s.data.toList (se + 1)).map Pt.secR)[j]'hjl = b := ⟨_, rfl⟩
      have hsecj : ((cutL s.data.toList (se + 1)).getD j ⟨0, 0, 0, []⟩).sec = b := by
        rw [← hb, List.getElem_map, List.getD_eq_getElem?_getD, List.getElem?_eq_getElem (by simpa using hjl)]
        rfl
      have HCl : Hid (∀ w', Upd (fun _ => False) wa w' → w'.cell? ⟨g9, j, none⟩ = some (.string b)) := by
        show ∀ w', _
        intro w' hu
        rw [(HO.out.upd hu (fun _ _ e => e)).cellAt j (by omega), strs_get, List.getElem?_eq_getElem hjl, hb]
        rfl
      obtain ⟨Wr, hWr⟩ : ∃ Wr, r'.write ((A + j : Nat) : Int) b = Wr := ⟨_, rfl⟩
      have hnext : writeNR r A (cutL s.data.toList (se + 1)) (j + 1) = Wr := by
        rw [writeNR, hwn, if_neg (by simp), hsecj, hWr]
      obtain ⟨hfit2, hwl2⟩ := hfit.write ((A + j : Nat) : Int) b (by have := hws.out; omega)
      rw [hWr] at hfit2 hwl2
      have hdo0 : ∀ W, Upd (fun _ => False) wa W → Calls Tryz.prog 18 #[.agg #[vl, vw', .int .i64 r'.fuse, .bool r'.off], .int .i64 ((f : Int) + 10 * (1 - (a : Int)) + (j : Int)), .string b] W fun e w' => ∃ vw2, e = .returned (.tuple #[.agg #[vl, vw2, .int .i64 Wr.1.fuse, .bool Wr.1.off], .int .i64 Wr.2]) ∧ RdLeft W w' vl vw' vl vw2 Wr.1 := fun W hW => by
        rw [HA.out, show ((A : Int) + (j : Int)) = ((A + j : Nat) : Int) by omega, ← hWr]
        exact rwrite_c (H.out.left.at_.upd hW) hfit _ b (by have := hws.out; omega)
      obtain ⟨r2, err⟩ := Wr
      simp only at hfit2 hwl2 hdo0
      have hdo := Lib.hid hdo0
      have HN := Lib.hid (And.intro hnext (And.intro hfit2 (show r2.ws.length ≤ r.ws.length + (j + 1) by omega)))
      clear hb hsecj hWr hnext hfit2 hwl2 hdo0 hjl hwn hfit hwl
      have hw1 : IntKind.i64.wrap (1 - (a : Int)) = 1 - (a : Int) := IntWalk.i64_in _ (by omega)
      have hw2 : IntKind.i64.wrap (10 * (1 - (a : Int))) = 10 * (1 - (a : Int)) := IntWalk.i64_in _ (by omega)
      have hw3 : IntKind.i64.wrap ((f : Int) + 10 * (1 - (a : Int))) = (f : Int) + 10 * (1 - (a : Int)) := IntWalk.i64_in _ (by omega)
      have hw4 : IntKind.i64.wrap ((f : Int) + 10 * (1 - (a : Int)) + (j : Int)) = (f : Int) + 10 * (1 - (a : Int)) + (j : Int) := IntWalk.i64_in _ (by omega)
      go_upto_region 12 with fail
      go_cut [11, 12] from 34 to 63 (fun t11 t12 wx => ∃ (g2 : Nat) (vw2 : Value), t11 = .pointer (some ⟨g2, 0, none⟩) ∧ t12 = .int .i64 err ∧ Wrote9 wa wx vl vw' vw2 r2 g2)
      case first =>
        refine wp_region_noPanic ?_
        refine wp_region_T (S := fun w' => Upd (fun _ => False) wa w') (T := fun _ => false) (by kernel_rfl) ?_
        have hS0 : Upd (fun _ => False) wa wa.drew := (Upd.refl _ _).drew
        refine wpAnyT_take (i := 0) (v := ?_) rfl (by kernel_rfl) (by kernel_rfl) (by kernel_rfl) (by kernel_rfl) (fun _ _ _ h => h) (takes_yield rfl (Or.inl ⟨by rfl, ?_⟩)) (by assumption) (by kernel_rfl) ?_
        rotate_left 1
        · intro w' hSw; have hcw := (H.out.kept.upd hSw (fun e => e)).cells6; have hcd := (H.out.disk.upd hSw (fun e => e)).cells4; have hcl := HCl.out w' hSw; go_split_ands; first | (go_simp; done) | (go_simp; rfl) | rfl
        simp only [Act.put, List.getElem_toArray, List.getElem_cons_zero, List.setIfInBounds_toArray, List.set_cons_zero, List.set_cons_succ]
        refine wpAnyT_take (i := 1) (v := ?_) rfl (by kernel_rfl) (by kernel_rfl) (by kernel_rfl) (by kernel_rfl) (fun _ _ _ h => h) (takes_yield rfl (Or.inl ⟨by rfl, ?_⟩)) (by assumption) (by kernel_rfl) ?_
        rotate_left 1
        · intro w' hSw; have hcw := (H.out.kept.upd hSw (fun e => e)).cells6; have hcd := (H.out.disk.upd hSw (fun e => e)).cells4; have hcl := HCl.out w' hSw; go_split_ands; first | (go_simp; done) | (go_simp; rfl) | rfl
        simp only [Act.put, List.getElem_toArray, List.getElem_cons_zero, List.getElem_cons_succ, List.setIfInBounds_toArray, List.set_cons_zero, List.set_cons_succ]
        refine wpAnyT_take (i := 2) (v := ?_) rfl (by kernel_rfl) (by kernel_rfl) (by kernel_rfl) (by kernel_rfl) (fun _ _ _ h => h) (takes_yield rfl (Or.inl ⟨by rfl, ?_⟩)) (by assumption) (by kernel_rfl) ?_
        rotate_left 1
        · intro w' hSw; have hcw := (H.out.kept.upd hSw (fun e => e)).cells6; have hcd := (H.out.disk.upd hSw (fun e => e)).cells4; have hcl := HCl.out w' hSw; go_split_ands; first | (go_simp; done) | (go_simp; rfl) | rfl
        simp only [Act.put, List.getElem_toArray, List.getElem_cons_zero, List.getElem_cons_succ, List.setIfInBounds_toArray, List.set_cons_zero, List.set_cons_succ]
        refine wpAnyT_take (i := 3) (v := ?_) rfl (by kernel_rfl) (by kernel_rfl) (by kernel_rfl) (by kernel_rfl) (fun _ _ _ h => h) (takes_yield rfl (Or.inl ⟨by rfl, ?_⟩)) (by assumption) (by kernel_rfl) ?_
        rotate_left 1
        · intro w' hSw; have hcw := (H.out.kept.upd hSw (fun e => e)).cells6; have hcd := (H.out.disk.upd hSw (fun e => e)).cells4; have hcl := HCl.out w' hSw; go_split_ands; first | (go_simp; done) | (go_simp; rfl) | rfl
        simp only [Act.put, List.getElem_toArray, List.getElem_cons_zero, List.getElem_cons_succ, List.setIfInBounds_toArray, List.set_cons_zero, List.set_cons_succ]
        refine wpAnyT_take (i := 4) (v := ?_) rfl (by kernel_rfl) (by kernel_rfl) (by kernel_rfl) (by kernel_rfl) (fun _ _ _ h => h) (takes_yield rfl (Or.inl ⟨by rfl, ?_⟩)) (by assumption) (by kernel_rfl) ?_
        rotate_left 1
        · intro w' hSw; have hcw := (H.out.kept.upd hSw (fun e => e)).cells6; have hcd := (H.out.disk.upd hSw (fun e => e)).cells4; have hcl := HCl.out w' hSw; go_split_ands; first | (go_simp; done) | (go_simp; rfl) | rfl
        simp only [Act.put, List.getElem_toArray, List.getElem_cons_zero, List.getElem_cons_succ, List.setIfInBounds_toArray, List.set_cons_zero, List.set_cons_succ]
        refine wpAnyT_take (i := 5) (v := ?_) rfl (by kernel_rfl) (by kernel_rfl) (by kernel_rfl) (by kernel_rfl) (fun _ _ _ h => h) (takes_yield rfl (Or.inl ⟨by rfl, ?_⟩)) (by assumption) (by kernel_rfl) ?_
        rotate_left 1
        · intro w' hSw; have hcw := (H.out.kept.upd hSw (fun e => e)).cells6; have hcd := (H.out.disk.upd hSw (fun e => e)).cells4; have hcl := HCl.out w' hSw; go_split_ands; first | (go_simp; done) | (go_simp; rfl) | rfl
        simp only [Act.put, List.getElem_toArray, List.getElem_cons_zero, List.getElem_cons_succ, List.setIfInBounds_toArray, List.set_cons_zero, List.set_cons_succ]
        refine wpAnyT_take (i := 6) (v := ?_) rfl (by kernel_rfl) (by kernel_rfl) (by kernel_rfl) (by kernel_rfl) (fun _ _ _ h => h) (takes_yield rfl (Or.inl ⟨by rfl, ?_⟩)) (by assumption) (by kernel_rfl) ?_
        rotate_left 1
        · intro w' hSw; have hcw := (H.out.kept.upd hSw (fun e => e)).cells6; have hcd := (H.out.disk.upd hSw (fun e => e)).cells4; have hcl := HCl.out w' hSw; go_split_ands; first | (go_simp; done) | (go_simp; rfl) | rfl
        simp only [Act.put, List.getElem_toArray, List.getElem_cons_zero, List.getElem_cons_succ, List.setIfInBounds_toArray, List.set_cons_zero, List.set_cons_succ]
        refine wpAnyT_take (i := 7) (v := ?_) rfl (by kernel_rfl) (by kernel_rfl) (by kernel_rfl) (by kernel_rfl) (fun _ _ _ h => h) (takes_yield rfl (Or.inl ⟨by rfl, ?_⟩)) (by assumption) (by kernel_rfl) ?_
        rotate_left 1
        · intro w' hSw; have hcw := (H.out.kept.upd hSw (fun e => e)).cells6; have hcd := (H.out.disk.upd hSw (fun e => e)).cells4; have hcl := HCl.out w' hSw; go_split_ands; first | (go_simp; done) | (go_simp; rfl) | rfl
        simp only [Act.put, List.getElem_toArray, List.getElem_cons_zero, List.getElem_cons_succ, List.setIfInBounds_toArray, List.set_cons_zero, List.set_cons_succ]
        refine wpAnyT_take (i := 8) (v := ?_) rfl (by kernel_rfl) (by kernel_rfl) (by kernel_rfl) (by kernel_rfl) (fun _ _ _ h => h) (takes_yield rfl (Or.inl ⟨by rfl, ?_⟩)) (by assumption) (by kernel_rfl) ?_
        rotate_left 1
        · intro w' hSw; have hcw := (H.out.kept.upd hSw (fun e => e)).cells6; have hcd := (H.out.disk.upd hSw (fun e => e)).cells4; have hcl := HCl.out w' hSw; go_split_ands; first | (go_simp; done) | (go_simp; rfl) | rfl
        simp only [Act.put, List.getElem_toArray, List.getElem_cons_zero, List.getElem_cons_succ, List.setIfInBounds_toArray, List.set_cons_zero, List.set_cons_succ]
        refine wpAnyT_take (i := 9) (v := ?_) rfl (by kernel_rfl) (by kernel_rfl) (by kernel_rfl) (by kernel_rfl) (fun _ _ _ h => h) (takes_yield rfl (Or.inl ⟨by rfl, ?_⟩)) (by assumption) (by kernel_rfl) ?_
        rotate_left 1
        · intro w' hSw; have hcw := (H.out.kept.upd hSw (fun e => e)).cells6; have hcd := (H.out.disk.upd hSw (fun e => e)).cells4; have hcl := HCl.out w' hSw; go_split_ands; first | (go_simp; done) | (go_simp; rfl) | rfl
        simp only [Act.put, List.getElem_toArray, List.getElem_cons_zero, List.getElem_cons_succ, List.setIfInBounds_toArray, List.set_cons_zero, List.set_cons_succ]
        refine wpAnyT_take (i := 10) (v := ?_) rfl (by kernel_rfl) (by kernel_rfl) (by kernel_rfl) (by kernel_rfl) (fun _ _ _ h => h) (takes_yield rfl (Or.inl ⟨by rfl, ?_⟩)) (by assumption) (by kernel_rfl) ?_
        rotate_left 1
        · intro w' hSw; have hcw := (H.out.kept.upd hSw (fun e => e)).cells6; have hcd := (H.out.disk.upd hSw (fun e => e)).cells4; have hcl := HCl.out w' hSw; go_split_ands; first | (go_simp; done) | (go_simp; rfl) | rfl
        simp only [Act.put, List.getElem_toArray, List.getElem_cons_zero, List.getElem_cons_succ, List.setIfInBounds_toArray, List.set_cons_zero, List.set_cons_succ]
        refine wpAnyT_take (i := 11) (v := ?_) rfl (by kernel_rfl) (by kernel_rfl) (by kernel_rfl) (by kernel_rfl) (fun _ _ _ h => h) (takes_yield rfl (Or.inl ⟨by rfl, ?_⟩)) (by assumption) (by kernel_rfl) ?_
        rotate_left 1
        · intro w' hSw; have hcw := (H.out.kept.upd hSw (fun e => e)).cells6; have hcd := (H.out.disk.upd hSw (fun e => e)).cells4; have hcl := HCl.out w' hSw; go_split_ands; first | (go_simp; done) | (go_simp; rfl) | rfl
        simp only [Act.put, List.getElem_toArray, List.getElem_cons_zero, List.getElem_cons_succ, List.setIfInBounds_toArray, List.set_cons_zero, List.set_cons_succ]
        refine wpAnyT_take (i := 12) (v := ?_) rfl (by kernel_rfl) (by kernel_rfl) (by kernel_rfl) (by kernel_rfl) (fun _ _ _ h => h) (takes_yield rfl (Or.inl ⟨by rfl, ?_⟩)) (by assumption) (by kernel_rfl) ?_
        rotate_left 1
        · intro w' hSw; have hcw := (H.out.kept.upd hSw (fun e => e)).cells6; have hcd := (H.out.disk.upd hSw (fun e => e)).cells4; have hcl := HCl.out w' hSw; go_split_ands; first | (go_simp; done) | (go_simp; rfl) | rfl
        simp only [Act.put, List.getElem_toArray, List.getElem_cons_zero, List.getElem_cons_succ, List.setIfInBounds_toArray, List.set_cons_zero, List.set_cons_succ]
        refine wpAnyT_take (i := 13) (v := ?_) rfl (by kernel_rfl) (by kernel_rfl) (by kernel_rfl) (by kernel_rfl) (fun _ _ _ h => h) (takes_yield rfl (Or.inl ⟨by rfl, ?_⟩)) (by assumption) (by kernel_rfl) ?_
        rotate_left 1
        · intro w' hSw; have hcw := (H.out.kept.upd hSw (fun e => e)).cells6; have hcd := (H.out.disk.upd hSw (fun e => e)).cells4; have hcl := HCl.out w' hSw; go_split_ands; first | (go_simp; done) | (go_simp; rfl) | rfl
        simp only [Act.put, List.getElem_toArray, List.getElem_cons_zero, List.getElem_cons_succ, List.setIfInBounds_toArray, List.set_cons_zero, List.set_cons_succ]
        refine wpAnyT_two (i := 14) (j := 18) (by kernel_rfl) rfl rfl (fun K hK => ?_) (fun K hK => ?_)
        · skip
          go_simp
          refine (hdo.out _ (Upd.refl _ _).drew).mono ?_
          rintro e w6 ⟨vw2, rfl, hL⟩
          have hS6 := hS0.then hL.upd (fun _ e => e.elim)
          refine hK.out _ _ hS6 ?_
          have HL := Lib.hid hL
          clear hK hS0 hL
          refine wpAnyT_take (i := 15) (v := ?_) rfl (by kernel_rfl) (by kernel_rfl) (by kernel_rfl) (by kernel_rfl) (fun _ _ _ h => h) (takes_yield rfl (Or.inl ⟨by rfl, ?_⟩)) (by assumption) (by kernel_rfl) ?_
          rotate_left 1
          · intro w' hSw; go_split_ands; first | (go_simp; done) | (go_simp; rfl) | rfl
          simp only [Act.put, List.getElem_toArray, List.getElem_cons_zero, List.getElem_cons_succ, List.setIfInBounds_toArray, List.set_cons_zero, List.set_cons_succ]
          refine wpAnyT_take (i := 16) (v := ?_) rfl (by kernel_rfl) (by kernel_rfl) (by kernel_rfl) (by kernel_rfl) (fun _ _ _ h => h) (takes_yield rfl (Or.inl ⟨by rfl, ?_⟩)) (by assumption) (by kernel_rfl) ?_
          rotate_left 1
          · intro w' hSw; go_split_ands; first | (go_simp; done) | (go_simp; rfl) | rfl
          simp only [Act.put, List.getElem_toArray, List.getElem_cons_zero, List.getElem_cons_succ, List.setIfInBounds_toArray, List.set_cons_zero, List.set_cons_succ]
          refine wpAnyT_take (i := 17) (v := ?_) rfl (by kernel_rfl) (by kernel_rfl) (by kernel_rfl) (by kernel_rfl) (fun _ _ _ h => h) (takes_yield rfl (Or.inl ⟨by rfl, ?_⟩)) (by assumption) (by kernel_rfl) ?_
          rotate_left 1
          · intro w' hSw; go_split_ands; first | (go_simp; done) | (go_simp; rfl) | rfl
          simp only [Act.put, List.getElem_toArray, List.getElem_cons_zero, List.getElem_cons_succ, List.setIfInBounds_toArray, List.set_cons_zero, List.set_cons_succ]
          refine wpAnyT_one (i := 18) (by kernel_rfl) rfl (fun K hK => ?_)
          go_simp
          have hS7 := hS6.alloc (.cells zeroRd 32)
          refine hK.out _ _ hS7 ?_
          clear hK
          refine wpAnyT_one (i := 19) (by kernel_rfl) rfl (fun K hK => ?_)
          refine step_store_all (by rfl) 32 _ _ (by rfl) w6.heap.size #[vl, vw2, .int .i64 r2.fuse, .bool r2.off] (by rfl) (by rfl) _ _ (Blk.new w6 _ _) rfl (rdrow_one r2 HL.out.at_) (by kernel_rfl) ?_
          intro wz hBz hUz hsz
          have hge : wa.heap.size ≤ w6.heap.size := hS6.size
          have hSz := hS7.then hUz (fun q e => .inr (by omega))
          refine hK.out _ _ hSz ?_
          have hLz := ((HL.out.pre ((Upd.refl _ wa).drew)).post ((Upd.refl _ w6).alloc (.cells zeroRd 32))).store hUz (fun q hq e => by rcases hq with c | c; exact absurd (HL.out.at_.lasts.lt c) (by omega); exact absurd (HL.out.at_.ws.lt c) (by omega)) hge
          have HZ := Lib.hid (show Wrote9 wa wz vl vw' vw2 r2 w6.heap.size from ⟨hBz, hLz⟩)
          clear hK hBz hUz hsz hLz hS7 hS6
          refine wpAnyT_take (i := 20) (v := ?_) rfl (by kernel_rfl) (by kernel_rfl) (by kernel_rfl) (by kernel_rfl) (fun _ _ _ h => h) (takes_yield rfl (Or.inl ⟨by rfl, ?_⟩)) (by assumption) (by kernel_rfl) ?_
          rotate_left 1
          · intro w' hSw; go_split_ands; first | (go_simp; done) | (go_simp; rfl) | rfl
          simp only [Act.put, List.getElem_toArray, List.getElem_cons_zero, List.getElem_cons_succ, List.setIfInBounds_toArray, List.set_cons_zero, List.set_cons_succ]
          refine wpAnyT_done (by kernel_rfl) ?_ _
          refine NoPanic.normal ?_
          go_wp2_with fail
          go_meet
          exact ⟨_, vw2, rfl, rfl, HZ.out⟩
        · skip
          go_simp
          have hS5 := hS0.alloc (.cells zeroRd 32)
          refine hK.out _ _ hS5 ?_
          clear hK
          refine wpAnyT_one (i := 14) (by kernel_rfl) rfl (fun K hK => ?_)
          go_simp
          refine (hdo.out _ hS5).mono ?_
          rintro e w6 ⟨vw2, rfl, hL⟩
          have hS6 := hS5.then hL.upd (fun _ e => e.elim)
          refine hK.out _ _ hS6 ?_
          have hBn := (Blk.new wa.drew 32 zeroRd).upd hL.upd (fun e => e)
          have HL := Lib.hid (And.intro hL hBn)
          clear hK hL hBn
          refine wpAnyT_take (i := 15) (v := ?_) rfl (by kernel_rfl) (by kernel_rfl) (by kernel_rfl) (by kernel_rfl) (fun _ _ _ h => h) (takes_yield rfl (Or.inl ⟨by rfl, ?_⟩)) (by assumption) (by kernel_rfl) ?_
          rotate_left 1
          · intro w' hSw; go_split_ands; first | (go_simp; done) | (go_simp; rfl) | rfl
          simp only [Act.put, List.getElem_toArray, List.getElem_cons_zero, List.getElem_cons_succ, List.setIfInBounds_toArray, List.set_cons_zero, List.set_cons_succ]
          refine wpAnyT_take (i := 16) (v := ?_) rfl (by kernel_rfl) (by kernel_rfl) (by kernel_rfl) (by kernel_rfl) (fun _ _ _ h => h) (takes_yield rfl (Or.inl ⟨by rfl, ?_⟩)) (by assumption) (by kernel_rfl) ?_
          rotate_left 1
          · intro w' hSw; go_split_ands; first | (go_simp; done) | (go_simp; rfl) | rfl
          simp only [Act.put, List.getElem_toArray, List.getElem_cons_zero, List.getElem_cons_succ, List.setIfInBounds_toArray, List.set_cons_zero, List.set_cons_succ]
          refine wpAnyT_take (i := 17) (v := ?_) rfl (by kernel_rfl) (by kernel_rfl) (by kernel_rfl) (by kernel_rfl) (fun _ _ _ h => h) (takes_yield rfl (Or.inl ⟨by rfl, ?_⟩)) (by assumption) (by kernel_rfl) ?_
          rotate_left 1
          · intro w' hSw; go_split_ands; first | (go_simp; done) | (go_simp; rfl) | rfl
          simp only [Act.put, List.getElem_toArray, List.getElem_cons_zero, List.getElem_cons_succ, List.setIfInBounds_toArray, List.set_cons_zero, List.set_cons_succ]
          refine wpAnyT_one (i := 19) (by kernel_rfl) rfl (fun K hK => ?_)
          refine step_store_all (by rfl) 32 _ _ (by rfl) wa.drew.heap.size #[vl, vw2, .int .i64 r2.fuse, .bool r2.off] (by rfl) (by rfl) _ _ HL.out.2 rfl (rdrow_one r2 HL.out.1.at_) (by kernel_rfl) ?_
          intro wz hBz hUz hsz
          have hSz := hS6.then hUz (fun q e => .inr (by rw [e]; exact Nat.le_refl _))
          refine hK.out _ _ hSz ?_
          have hLz := (HL.out.1.pre hS5).store hUz (fun q hq e => HL.out.1.at_.ne HL.out.2 (by decide) (by decide) (e ▸ hq)) (Nat.le_refl _)
          have HZ := Lib.hid (show Wrote9 wa wz vl vw' vw2 r2 wa.drew.heap.size from ⟨hBz, hLz⟩)
          clear hK hBz hUz hsz hLz hS6
          refine wpAnyT_take (i := 20) (v := ?_) rfl (by kernel_rfl) (by kernel_rfl) (by kernel_rfl) (by kernel_rfl) (fun _ _ _ h => h) (takes_yield rfl (Or.inl ⟨by rfl, ?_⟩)) (by assumption) (by kernel_rfl) ?_
          rotate_left 1
          · intro w' hSw; go_split_ands; first | (go_simp; done) | (go_simp; rfl) | rfl
          simp only [Act.put, List.getElem_toArray, List.getElem_cons_zero, List.getElem_cons_succ, List.setIfInBounds_toArray, List.set_cons_zero, List.set_cons_succ]
          refine wpAnyT_done (by kernel_rfl) ?_ _
          refine NoPanic.normal ?_
          go_wp2_with fail
          go_meet
          exact ⟨_, vw2, rfl, rfl, HZ.out⟩
      case rest =>
        obtain ⟨g2, vw2, rfl, rfl, hW⟩ := hcut
        have HW := Lib.hid hW
        clear hW hw1 hw2 hw3 hw4
        go_upto_region 13 with fail
        go_upto_region 14 with (first
          | (refine wpList_load_all rfl _ _ rfl g2 rfl _ _ _ HW.out.blk Tryz.underlying32 rfl rfl ?_)
          | (refine wpList_store_all rfl 32 _ _ rfl (w.heap.size + 1) #[vl, vw2, .int .i64 r2.fuse, .bool r2.off] rfl rfl _ _ (H.out.disk.upd HW.out.left.upd (fun e => e)) rfl (rdrow_one r2 HW.out.left.at_) (by kernel_rfl) ?_
             intro wy hBy hUy hsy))
        have HPy := Lib.hid (H.out.box HW.out hBy hUy)
        have HOy := Lib.hid ((HO.out.upd HW.out.left.upd (fun _ _ e => e)).upd hUy (fun q hq e => HO.out.ne_blk H.out.disk (by decide) (e ▸ hq)))
        clear hBy hUy hsy
        by_cases he : err = 0
        · subst he
          go_wp2_with fail
          go_roundw
          case rel => exact ⟨j + 1, vw2, r2, by omega, by go_num, HN.out.1, HN.out.2.1, HN.out.2.2, HPy.out, HOy.out⟩
          case measure => simp only [intOf]; omega
        · have hne : (err != 0) = true := bne_iff_ne.2 he
          have hst := writeNR_stop (m := n) (by rw [HN.out.1]; exact he) (show j + 1 ≤ n by omega)
          rw [HN.out.1] at hst
          obtain rfl : R = (r2, ⟨f, t, g, a, se, true⟩, err) := by rw [HRv.out, hst, if_pos he]
          clear he hst
          go_upto_region 15 with fail
          refine wp_region_noPanic ?_
          refine wp_region_T (S := fun w' => Blk w' w.heap.size 39 #[.int .i64 (f : Int), .string (str t), .int .u64 (g : Int), .int .i64 (a : Int), .int .u64 (se : Int), .bool true] ∧ Blk w' (w.heap.size + 1) 32 #[vl, vw2, .int .i64 r2.fuse, .bool r2.off]) (T := fun _ => false) (by kernel_rfl) ?_
          have hS0 := And.intro HPy.out.kept.drew HPy.out.disk.drew
          refine wpAnyT_take (i := 0) (v := ?_) rfl (by kernel_rfl) (by kernel_rfl) (by kernel_rfl) (by kernel_rfl) (fun _ _ _ h => h) (takes_yield rfl (Or.inl ⟨by rfl, ?_⟩)) (by assumption) (by kernel_rfl) ?_
          rotate_left 1
          · intro w' hSw; have hcw := hSw.1.cells6; have hcd := hSw.2.cells4; go_split_ands; first | (go_simp; done) | (go_simp; rfl) | rfl
          simp only [Act.put, List.getElem_toArray, List.getElem_cons_zero, List.setIfInBounds_toArray, List.set_cons_zero, List.set_cons_succ]
          refine wpAnyT_take (i := 1) (v := ?_) rfl (by kernel_rfl) (by kernel_rfl) (by kernel_rfl) (by kernel_rfl) (fun _ _ _ h => h) (takes_yield rfl (Or.inl ⟨by rfl, ?_⟩)) (by assumption) (by kernel_rfl) ?_
          rotate_left 1
          · intro w' hSw; have hcw := hSw.1.cells6; have hcd := hSw.2.cells4; go_split_ands; first | (go_simp; done) | (go_simp; rfl) | rfl
          simp only [Act.put, List.getElem_toArray, List.getElem_cons_zero, List.getElem_cons_succ, List.setIfInBounds_toArray, List.set_cons_zero, List.set_cons_succ]
          refine wpAnyT_take (i := 2) (v := ?_) rfl (by kernel_rfl) (by kernel_rfl) (by kernel_rfl) (by kernel_rfl) (fun _ _ _ h => h) (takes_yield rfl (Or.inl ⟨by rfl, ?_⟩)) (by assumption) (by kernel_rfl) ?_
          rotate_left 1
          · intro w' hSw; have hcw := hSw.1.cells6; have hcd := hSw.2.cells4; go_split_ands; first | (go_simp; done) | (go_simp; rfl) | rfl
          simp only [Act.put, List.getElem_toArray, List.getElem_cons_zero, List.getElem_cons_succ, List.setIfInBounds_toArray, List.set_cons_zero, List.set_cons_succ]
          refine wpAnyT_one (i := 3) (by kernel_rfl) rfl (fun K hK => ?_)
          refine step_store_all (by rfl) 39 _ _ (by rfl) (w.heap.size + 1 + 1) #[.int .i64 (f : Int), .string (str t), .int .u64 (g : Int), .int .i64 (a : Int), .int .u64 (se : Int), .bool true] (by rfl) (by rfl) _ _ HPy.out.res1.drew rfl (by simp [Value.oneCell']) (by kernel_rfl) ?_
          intro x4 hB4 hU4 hs4
          have hS4 := And.intro (hS0.1.upd hU4 (by omega)) (hS0.2.upd hU4 (by omega))
          refine hK.out _ _ hS4 ?_
          clear hK
          refine wpAnyT_one (i := 4) (by kernel_rfl) rfl (fun K hK => ?_)
          refine step_store_all (by rfl) 32 _ _ (by rfl) (w.heap.size + 1 + 1 + 1) #[vl, vw2, .int .i64 r2.fuse, .bool r2.off] (by rfl) (by rfl) _ _ (HPy.out.res2.drew.upd hU4 (by omega)) rfl (rdrow_one r2 HPy.out.left.at_) (by kernel_rfl) ?_
          intro x5 hB5 hU5 hs5
          have hS5 := And.intro (hS4.1.upd hU5 (by omega)) (hS4.2.upd hU5 (by omega))
          refine hK.out _ _ hS5 ?_
          have hl := (HPy.out.still (Upd.refl _ wy).drew).ends hB4 hU4 hB5 hU5
          have HE := Lib.hid (And.intro (hB4.upd hU5 (by omega)) (And.intro hB5 hl))
          clear hK hS0 hS4 hl hB4 hU4 hs4 hB5 hU5 hs5
          refine wpAnyT_take (i := 5) (v := ?_) rfl (by kernel_rfl) (by kernel_rfl) (by kernel_rfl) (by kernel_rfl) (fun _ _ _ h => h) (takes_yield rfl (Or.inl ⟨by rfl, ?_⟩)) (by assumption) (by kernel_rfl) ?_
          rotate_left 1
          · intro w' hSw; go_split_ands; first | (go_simp; done) | (go_simp; rfl) | rfl
          simp only [Act.put, List.getElem_toArray, List.getElem_cons_zero, List.getElem_cons_succ, List.setIfInBounds_toArray, List.set_cons_zero, List.set_cons_succ]
          refine wpAnyT_done (by kernel_rfl) ?_ _
          refine NoPanic.normal ?_
          go_wp2_with fail
          refine bodyPost_ret (results_cells2_slot rfl _ _ (w.heap.size + 1 + 1) (w.heap.size + 1 + 1 + 1) _ _ _ _ _ _ _ _ rfl HE.out.1 rfl HE.out.2.1 Tryz.underlying39 rfl rfl Tryz.underlying32 rfl rfl (.int .i64 err) rfl) rfl ⟨_, _, rfl, HE.out.2.2⟩
    · obtain rfl : j = n := by omega
      have hRs : R = if r'.sync.2 ≠ 0 then (r'.sync.1, ⟨f, t, g, a, se, true⟩, r'.sync.2) else (r'.sync.1, ⟨f, s.data.toList, se + 1, 1 - a, se + 1, false⟩, 0) := by
        rw [HRv.out, hwn, if_neg (by simp)]
      have hsy := rsync_c H.out.left.at_ hfit
      obtain ⟨⟨r2, err⟩, hq⟩ : ∃ q, r'.sync = q := ⟨_, rfl⟩
      rw [hq] at hRs hsy
      simp only at hRs hsy
      have HSy := Lib.hid hsy
      have HRs := Lib.hid hRs
      clear hsy hRs hq hwn hfit
      go_upto_region 16 with fail
      go_upto_region 17 with (first
        | (refine wpList_load_all rfl _ _ rfl (w.heap.size + 1) rfl _ _ _ H.out.disk Tryz.underlying32 rfl rfl ?_)
        | (go_at_call 72; refine HSy.out.mono ?_; rintro e w6 ⟨vl2, vw2, rfl, hL⟩
           have HL := Lib.hid hL
           clear hL)
        | (refine wpList_store_all rfl 32 _ _ rfl (w.heap.size + 1) #[vl2, vw2, .int .i64 r2.fuse, .bool r2.off] rfl rfl _ _ (H.out.disk.upd HL.out.upd (fun e => e)) rfl (rdrow_one r2 HL.out.at_) (by kernel_rfl) ?_
           intro wy hBy hUy hsy))
      have HPy : Hid (Puts9 w wy vl vw vl2 vw2 r2 ⟨f, t, g, a, se, true⟩) := by
        have h2 := H.out.still HL.out.upd
        exact Lib.hid ⟨(H.out.left.trans HL.out).store hUy (fun q hq e => HL.out.at_.ne h2.disk (by decide) (by decide) (e ▸ hq)) (by omega), h2.kept.upd hUy (by omega), hBy, h2.res1.upd hUy (by omega), h2.res2.upd hUy (by omega)⟩
      clear hBy hUy hsy
      by_cases he : err = 0
      · subst he
        obtain rfl : R = (r2, ⟨f, s.data.toList, se + 1, 1 - a, se + 1, false⟩, 0) := by rw [HRs.out, if_neg (by simp)]
        have hw1 : IntKind.i64.wrap (1 - (a : Int)) = 1 - (a : Int) := IntWalk.i64_in _ (by omega)
        have hw2 : IntKind.u64.wrap ((se : Int) + 1) = (se : Int) + 1 := IntWalk.u64_in _ (by omega)
        have HRow : Hid (#[.int .i64 (f : Int), .string s, .int .u64 ((se : Int) + 1), .int .i64 (1 - (a : Int)), .int .u64 ((se : Int) + 1), .bool false] = (⟨f, s.data.toList, se + 1, 1 - a, se + 1, false⟩ : Kp).row) := by
          show _ = (#[.int .i64 (f : Int), .string (str s.data.toList), .int .u64 ((se + 1 : Nat) : Int), .int .i64 ((1 - a : Nat) : Int), .int .u64 ((se + 1 : Nat) : Int), .bool false] : Array Value)
          rw [str_eta, show (((se + 1 : Nat)) : Int) = (se : Int) + 1 by omega, show (((1 - a : Nat)) : Int) = 1 - (a : Int) by omega]
        go_upto_region 19 with fail
        refine wp_region_noPanic ?_
        refine wp_region_T (S := fun w' => Blk w' w.heap.size 39 #[.int .i64 (f : Int), .string (str t), .int .u64 (g : Int), .int .i64 (a : Int), .int .u64 (se : Int), .bool true] ∧ Blk w' (w.heap.size + 1) 32 #[vl2, vw2, .int .i64 r2.fuse, .bool r2.off]) (T := fun _ => false) (by kernel_rfl) ?_
        have hS0 := And.intro HPy.out.kept.drew HPy.out.disk.drew
        refine wpAnyT_take (i := 0) (v := ?_) rfl (by kernel_rfl) (by kernel_rfl) (by kernel_rfl) (by kernel_rfl) (fun _ _ _ h => h) (takes_yield rfl (Or.inl ⟨by rfl, ?_⟩)) (by assumption) (by kernel_rfl) ?_
        rotate_left 1
        · intro w' hSw; have hcw := hSw.1.cells6; have hcd := hSw.2.cells4; go_split_ands; first | (go_simp; done) | (go_simp; rfl) | rfl
        simp only [Act.put, List.getElem_toArray, List.getElem_cons_zero, List.setIfInBounds_toArray, List.set_cons_zero, List.set_cons_succ]
        refine wpAnyT_take (i := 1) (v := ?_) rfl (by kernel_rfl) (by kernel_rfl) (by kernel_rfl) (by kernel_rfl) (fun _ _ _ h => h) (takes_yield rfl (Or.inl ⟨by rfl, ?_⟩)) (by assumption) (by kernel_rfl) ?_
        rotate_left 1
        · intro w' hSw; have hcw := hSw.1.cells6; have hcd := hSw.2.cells4; go_split_ands; first | (go_simp; done) | (go_simp; rfl) | rfl
        simp only [Act.put, List.getElem_toArray, List.getElem_cons_zero, List.getElem_cons_succ, List.setIfInBounds_toArray, List.set_cons_zero, List.set_cons_succ]
        refine wpAnyT_take (i := 2) (v := ?_) rfl (by kernel_rfl) (by kernel_rfl) (by kernel_rfl) (by kernel_rfl) (fun _ _ _ h => h) (takes_yield rfl (Or.inl ⟨by rfl, ?_⟩)) (by assumption) (by kernel_rfl) ?_
        rotate_left 1
        · intro w' hSw; have hcw := hSw.1.cells6; have hcd := hSw.2.cells4; go_split_ands; first | (go_simp; done) | (go_simp; rfl) | rfl
        simp only [Act.put, List.getElem_toArray, List.getElem_cons_zero, List.getElem_cons_succ, List.setIfInBounds_toArray, List.set_cons_zero, List.set_cons_succ]
        refine wpAnyT_take (i := 3) (v := ?_) rfl (by kernel_rfl) (by kernel_rfl) (by kernel_rfl) (by kernel_rfl) (fun _ _ _ h => h) (takes_yield rfl (Or.inl ⟨by rfl, ?_⟩)) (by assumption) (by kernel_rfl) ?_
        rotate_left 1
        · intro w' hSw; have hcw := hSw.1.cells6; have hcd := hSw.2.cells4; go_split_ands; first | (go_simp; done) | (go_simp; rfl) | rfl
        simp only [Act.put, List.getElem_toArray, List.getElem_cons_zero, List.getElem_cons_succ, List.setIfInBounds_toArray, List.set_cons_zero, List.set_cons_succ]
        refine wpAnyT_take (i := 4) (v := ?_) rfl (by kernel_rfl) (by kernel_rfl) (by kernel_rfl) (by kernel_rfl) (fun _ _ _ h => h) (takes_yield rfl (Or.inl ⟨by rfl, ?_⟩)) (by assumption) (by kernel_rfl) ?_
        rotate_left 1
        · intro w' hSw; have hcw := hSw.1.cells6; have hcd := hSw.2.cells4; go_split_ands; first | (go_simp; done) | (go_simp; rfl) | rfl
        simp only [Act.put, List.getElem_toArray, List.getElem_cons_zero, List.getElem_cons_succ, List.setIfInBounds_toArray, List.set_cons_zero, List.set_cons_succ]
        refine wpAnyT_take (i := 5) (v := ?_) rfl (by kernel_rfl) (by kernel_rfl) (by kernel_rfl) (by kernel_rfl) (fun _ _ _ h => h) (takes_yield rfl (Or.inl ⟨by rfl, ?_⟩)) (by assumption) (by kernel_rfl) ?_
        rotate_left 1
        · intro w' hSw; have hcw := hSw.1.cells6; have hcd := hSw.2.cells4; go_split_ands; first | (go_simp; done) | (go_simp; rfl) | rfl
        simp only [Act.put, List.getElem_toArray, List.getElem_cons_zero, List.getElem_cons_succ, List.setIfInBounds_toArray, List.set_cons_zero, List.set_cons_succ]
        refine wpAnyT_take (i := 6) (v := ?_) rfl (by kernel_rfl) (by kernel_rfl) (by kernel_rfl) (by kernel_rfl) (fun _ _ _ h => h) (takes_yield rfl (Or.inl ⟨by rfl, ?_⟩)) (by assumption) (by kernel_rfl) ?_
        rotate_left 1
        · intro w' hSw; have hcw := hSw.1.cells6; have hcd := hSw.2.cells4; go_split_ands; first | (go_simp; done) | (go_simp; rfl) | rfl
        simp only [Act.put, List.getElem_toArray, List.getElem_cons_zero, List.getElem_cons_succ, List.setIfInBounds_toArray, List.set_cons_zero, List.set_cons_succ]
        refine wpAnyT_take (i := 7) (v := ?_) rfl (by kernel_rfl) (by kernel_rfl) (by kernel_rfl) (by kernel_rfl) (fun _ _ _ h => h) (takes_yield rfl (Or.inl ⟨by rfl, ?_⟩)) (by assumption) (by kernel_rfl) ?_
        rotate_left 1
        · intro w' hSw; have hcw := hSw.1.cells6; have hcd := hSw.2.cells4; go_split_ands; first | (go_simp; done) | (go_simp; rfl) | rfl
        simp only [Act.put, List.getElem_toArray, List.getElem_cons_zero, List.getElem_cons_succ, List.setIfInBounds_toArray, List.set_cons_zero, List.set_cons_succ]
        refine wpAnyT_take (i := 8) (v := ?_) rfl (by kernel_rfl) (by kernel_rfl) (by kernel_rfl) (by kernel_rfl) (fun _ _ _ h => h) (takes_yield rfl (Or.inl ⟨by rfl, ?_⟩)) (by assumption) (by kernel_rfl) ?_
        rotate_left 1
        · intro w' hSw; have hcw := hSw.1.cells6; have hcd := hSw.2.cells4; go_split_ands; first | (go_simp; done) | (go_simp; rfl) | rfl
        simp only [Act.put, List.getElem_toArray, List.getElem_cons_zero, List.getElem_cons_succ, List.setIfInBounds_toArray, List.set_cons_zero, List.set_cons_succ]
        refine wpAnyT_take (i := 9) (v := ?_) rfl (by kernel_rfl) (by kernel_rfl) (by kernel_rfl) (by kernel_rfl) (fun _ _ _ h => h) (takes_yield rfl (Or.inl ⟨by rfl, ?_⟩)) (by assumption) (by kernel_rfl) ?_
        rotate_left 1
        · intro w' hSw; have hcw := hSw.1.cells6; have hcd := hSw.2.cells4; go_split_ands; first | (go_simp; done) | (go_simp; rfl) | rfl
        simp only [Act.put, List.getElem_toArray, List.getElem_cons_zero, List.getElem_cons_succ, List.setIfInBounds_toArray, List.set_cons_zero, List.set_cons_succ]
        refine wpAnyT_take (i := 10) (v := ?_) rfl (by kernel_rfl) (by kernel_rfl) (by kernel_rfl) (by kernel_rfl) (fun _ _ _ h => h) (takes_yield rfl (Or.inl ⟨by rfl, ?_⟩)) (by assumption) (by kernel_rfl) ?_
        rotate_left 1
        · intro w' hSw; have hcw := hSw.1.cells6; have hcd := hSw.2.cells4; go_split_ands; first | (go_simp; done) | (go_simp; rfl) | rfl
        simp only [Act.put, List.getElem_toArray, List.getElem_cons_zero, List.getElem_cons_succ, List.setIfInBounds_toArray, List.set_cons_zero, List.set_cons_succ]
        refine wpAnyT_take (i := 11) (v := ?_) rfl (by kernel_rfl) (by kernel_rfl) (by kernel_rfl) (by kernel_rfl) (fun _ _ _ h => h) (takes_yield rfl (Or.inl ⟨by rfl, ?_⟩)) (by assumption) (by kernel_rfl) ?_
        rotate_left 1
        · intro w' hSw; have hcw := hSw.1.cells6; have hcd := hSw.2.cells4; go_split_ands; first | (go_simp; done) | (go_simp; rfl) | rfl
        simp only [Act.put, List.getElem_toArray, List.getElem_cons_zero, List.getElem_cons_succ, List.setIfInBounds_toArray, List.set_cons_zero, List.set_cons_succ]
        refine wpAnyT_take (i := 12) (v := ?_) rfl (by kernel_rfl) (by kernel_rfl) (by kernel_rfl) (by kernel_rfl) (fun _ _ _ h => h) (takes_yield rfl (Or.inl ⟨by rfl, ?_⟩)) (by assumption) (by kernel_rfl) ?_
        rotate_left 1
        · intro w' hSw; have hcw := hSw.1.cells6; have hcd := hSw.2.cells4; go_split_ands; first | (go_simp; done) | (go_simp; rfl) | rfl
        simp only [Act.put, List.getElem_toArray, List.getElem_cons_zero, List.getElem_cons_succ, List.setIfInBounds_toArray, List.set_cons_zero, List.set_cons_succ]
        refine wpAnyT_take (i := 13) (v := ?_) rfl (by kernel_rfl) (by kernel_rfl) (by kernel_rfl) (by kernel_rfl) (fun _ _ _ h => h) (takes_yield rfl (Or.inl ⟨by rfl, ?_⟩)) (by assumption) (by kernel_rfl) ?_
        rotate_left 1
        · intro w' hSw; have hcw := hSw.1.cells6; have hcd := hSw.2.cells4; go_split_ands; first | (go_simp; done) | (go_simp; rfl) | rfl
        simp only [Act.put, List.getElem_toArray, List.getElem_cons_zero, List.getElem_cons_succ, List.setIfInBounds_toArray, List.set_cons_zero, List.set_cons_succ]
        refine wpAnyT_one (i := 14) (by kernel_rfl) rfl (fun K hK => ?_)
        refine step_store_all (by rfl) 39 _ _ (by rfl) (w.heap.size + 1 + 1) #[.int .i64 (f : Int), .string s, .int .u64 ((se : Int) + 1), .int .i64 (1 - (a : Int)), .int .u64 ((se : Int) + 1), .bool false] (by rfl) (by rfl) _ _ HPy.out.res1.drew rfl (by simp [Value.oneCell']) (by kernel_rfl) ?_
        intro x4 hB4 hU4 hs4
        have hS4 := And.intro (hS0.1.upd hU4 (by omega)) (hS0.2.upd hU4 (by omega))
        refine hK.out _ _ hS4 ?_
        clear hK
        refine wpAnyT_one (i := 15) (by kernel_rfl) rfl (fun K hK => ?_)
        refine step_store_all (by rfl) 32 _ _ (by rfl) (w.heap.size + 1 + 1 + 1) #[vl2, vw2, .int .i64 r2.fuse, .bool r2.off] (by rfl) (by rfl) _ _ (HPy.out.res2.drew.upd hU4 (by omega)) rfl (rdrow_one r2 HPy.out.left.at_) (by kernel_rfl) ?_
        intro x5 hB5 hU5 hs5
        have hS5 := And.intro (hS4.1.upd hU5 (by omega)) (hS4.2.upd hU5 (by omega))
        refine hK.out _ _ hS5 ?_
        have hl := (HPy.out.still (Upd.refl _ wy).drew).ends hB4 hU4 hB5 hU5
        have HE := Lib.hid (And.intro (hB4.upd hU5 (by omega)) (And.intro hB5 hl))
        clear hK hS0 hS4 hl hB4 hU4 hs4 hB5 hU5 hs5
        refine wpAnyT_take (i := 16) (v := ?_) rfl (by kernel_rfl) (by kernel_rfl) (by kernel_rfl) (by kernel_rfl) (fun _ _ _ h => h) (takes_yield rfl (Or.inl ⟨by rfl, ?_⟩)) (by assumption) (by kernel_rfl) ?_
        rotate_left 1
        · intro w' hSw; go_split_ands; first | (go_simp; done) | (go_simp; rfl) | rfl
        simp only [Act.put, List.getElem_toArray, List.getElem_cons_zero, List.getElem_cons_succ, List.setIfInBounds_toArray, List.set_cons_zero, List.set_cons_succ]
        refine wpAnyT_done (by kernel_rfl) ?_ _
        refine NoPanic.normal ?_
        go_wp2_with fail
        refine bodyPost_ret (results_cells2_slot rfl _ _ (w.heap.size + 1 + 1) (w.heap.size + 1 + 1 + 1) _ _ _ _ _ _ _ _ rfl HE.out.1 rfl HE.out.2.1 Tryz.underlying39 rfl rfl Tryz.underlying32 rfl rfl (.int .i64 0) rfl) rfl ⟨_, _, by rw [← HRow.out], HE.out.2.2⟩
      · have hne : (err != 0) = true := bne_iff_ne.2 he
        obtain rfl : R = (r2, ⟨f, t, g, a, se, true⟩, err) := by rw [HRs.out, if_pos he]
        clear he
        go_upto_region 18 with fail
        refine wp_region_noPanic ?_
        refine wp_region_T (S := fun w' => Blk w' w.heap.size 39 #[.int .i64 (f : Int), .string (str t), .int .u64 (g : Int), .int .i64 (a : Int), .int .u64 (se : Int), .bool true] ∧ Blk w' (w.heap.size + 1) 32 #[vl2, vw2, .int .i64 r2.fuse, .bool r2.off]) (T := fun _ => false) (by kernel_rfl) ?_
        have hS0 := And.intro HPy.out.kept.drew HPy.out.disk.drew
        refine wpAnyT_take (i := 0) (v := ?_) rfl (by kernel_rfl) (by kernel_rfl) (by kernel_rfl) (by kernel_rfl) (fun _ _ _ h => h) (takes_yield rfl (Or.inl ⟨by rfl, ?_⟩)) (by assumption) (by kernel_rfl) ?_
        rotate_left 1
        · intro w' hSw; have hcw := hSw.1.cells6; have hcd := hSw.2.cells4; go_split_ands; first | (go_simp; done) | (go_simp; rfl) | rfl
        simp only [Act.put, List.getElem_toArray, List.getElem_cons_zero, List.setIfInBounds_toArray, List.set_cons_zero, List.set_cons_succ]
        refine wpAnyT_take (i := 1) (v := ?_) rfl (by kernel_rfl) (by kernel_rfl) (by kernel_rfl) (by kernel_rfl) (fun _ _ _ h => h) (takes_yield rfl (Or.inl ⟨by rfl, ?_⟩)) (by assumption) (by kernel_rfl) ?_
        rotate_left 1
        · intro w' hSw; have hcw := hSw.1.cells6; have hcd := hSw.2.cells4; go_split_ands; first | (go_simp; done) | (go_simp; rfl) | rfl
        simp only [Act.put, List.getElem_toArray, List.getElem_cons_zero, List.getElem_cons_succ, List.setIfInBounds_toArray, List.set_cons_zero, List.set_cons_succ]
        refine wpAnyT_take (i := 2) (v := ?_) rfl (by kernel_rfl) (by kernel_rfl) (by kernel_rfl) (by kernel_rfl) (fun _ _ _ h => h) (takes_yield rfl (Or.inl ⟨by rfl, ?_⟩)) (by assumption) (by kernel_rfl) ?_
        rotate_left 1
        · intro w' hSw; have hcw := hSw.1.cells6; have hcd := hSw.2.cells4; go_split_ands; first | (go_simp; done) | (go_simp; rfl) | rfl
        simp only [Act.put, List.getElem_toArray, List.getElem_cons_zero, List.getElem_cons_succ, List.setIfInBounds_toArray, List.set_cons_zero, List.set_cons_succ]
        refine wpAnyT_one (i := 3) (by kernel_rfl) rfl (fun K hK => ?_)
        refine step_store_all (by rfl) 39 _ _ (by rfl) (w.heap.size + 1 + 1) #[.int .i64 (f : Int), .string (str t), .int .u64 (g : Int), .int .i64 (a : Int), .int .u64 (se : Int), .bool true] (by rfl) (by rfl) _ _ HPy.out.res1.drew rfl (by simp [Value.oneCell']) (by kernel_rfl) ?_
        intro x4 hB4 hU4 hs4
        have hS4 := And.intro (hS0.1.upd hU4 (by omega)) (hS0.2.upd hU4 (by omega))
        refine hK.out _ _ hS4 ?_
        clear hK
        refine wpAnyT_one (i := 4) (by kernel_rfl) rfl (fun K hK => ?_)
        refine step_store_all (by rfl) 32 _ _ (by rfl) (w.heap.size + 1 + 1 + 1) #[vl2, vw2, .int .i64 r2.fuse, .bool r2.off] (by rfl) (by rfl) _ _ (HPy.out.res2.drew.upd hU4 (by omega)) rfl (rdrow_one r2 HPy.out.left.at_) (by kernel_rfl) ?_
        intro x5 hB5 hU5 hs5
        have hS5 := And.intro (hS4.1.upd hU5 (by omega)) (hS4.2.upd hU5 (by omega))
        refine hK.out _ _ hS5 ?_
        have hl := (HPy.out.still (Upd.refl _ wy).drew).ends hB4 hU4 hB5 hU5
        have HE := Lib.hid (And.intro (hB4.upd hU5 (by omega)) (And.intro hB5 hl))
        clear hK hS0 hS4 hl hB4 hU4 hs4 hB5 hU5 hs5
        refine wpAnyT_take (i := 5) (v := ?_) rfl (by kernel_rfl) (by kernel_rfl) (by kernel_rfl) (by kernel_rfl) (fun _ _ _ h => h) (takes_yield rfl (Or.inl ⟨by rfl, ?_⟩)) (by assumption) (by kernel_rfl) ?_
        rotate_left 1
        · intro w' hSw; go_split_ands; first | (go_simp; done) | (go_simp; rfl) | rfl
        simp only [Act.put, List.getElem_toArray, List.getElem_cons_zero, List.getElem_cons_succ, List.setIfInBounds_toArray, List.set_cons_zero, List.set_cons_succ]
        refine wpAnyT_done (by kernel_rfl) ?_ _
        refine NoPanic.normal ?_
        go_wp2_with fail
        refine bodyPost_ret (results_cells2_slot rfl _ _ (w.heap.size + 1 + 1) (w.heap.size + 1 + 1 + 1) _ _ _ _ _ _ _ _ rfl HE.out.1 rfl HE.out.2.1 Tryz.underlying39 rfl rfl Tryz.underlying32 rfl rfl (.int .i64 err) rfl) rfl ⟨_, _, rfl, HE.out.2.2⟩
end
end Go.Proofs.YtnmbhoidnbideaaGreat
