/-
  A law's world of chapter 09: an act: a record is put. (Printed by mk_law9.py.)
-/
import Derived.Test.YtnmbhoidnbideaaGreatLaw9A
namespace Go.Proofs.YtnmbhoidnbideaaGreat
open Go Go.RowKit

section
variable {P : Program} {ops : Array Oper} {Q : Exit → Act → World → Prop} {md : Region.Mode} {S : World → Prop} {T : Nat → Bool}
theorem wpAnyT_three {i j k : Nat} {oi oj ok : Oper} {fuel : Nat} {listed : Array Bool} {a : Act} {w : World} (hr : Region.ready md ops listed = [i, j, k]) (hi : ops[i]? = some oi) (hj : ops[j]? = some oj) (hk : ops[k]? = some ok)
    (h1 : ∀ K' : Act → World → Prop, Shut (∀ a w, S w → wpAnyT P md ops Q S T fuel (listed.setIfInBounds i true) a w → K' a w) → if Region.wanted oi (yielded ops a.tmps) = true then Oper.wp P oi a w K' Q else K' (a.put oi.dst undef) w)
    (h2 : ∀ K' : Act → World → Prop, Shut (∀ a w, S w → wpAnyT P md ops Q S T fuel (listed.setIfInBounds j true) a w → K' a w) → if Region.wanted oj (yielded ops a.tmps) = true then Oper.wp P oj a w K' Q else K' (a.put oj.dst undef) w)
    (h3 : ∀ K' : Act → World → Prop, Shut (∀ a w, S w → wpAnyT P md ops Q S T fuel (listed.setIfInBounds k true) a w → K' a w) → if Region.wanted ok (yielded ops a.tmps) = true then Oper.wp P ok a w K' Q else K' (a.put ok.dst undef) w) :
    wpAnyT P md ops Q S T (fuel + 1) listed a w := by
  refine ⟨fun h0 => (by rw [hr] at h0; cases h0), fun l hl => ?_⟩
  rw [hr] at hl
  rcases (by simpa using hl : l = i ∨ l = j ∨ l = k) with rfl | rfl | rfl
  · exact wpOp_step hi (fun K' hK => h1 K' (fun a w hS hW => hK a w ⟨fun _ => hS, hW⟩))
  · exact wpOp_step hj (fun K' hK => h2 K' (fun a w hS hW => hK a w ⟨fun _ => hS, hW⟩))
  · exact wpOp_step hk (fun K' hK => h3 K' (fun a w hS hW => hK a w ⟨fun _ => hS, hW⟩))
end
/-- What the document's Put leaves in boxes. -/
structure Boxed9 (wa wx : World) (vl vw vl' vw' : Value) (R : Rd × Kp × Int) (g8 g9 : Nat) : Prop where
  b8 : Blk wx g8 39 R.2.1.row
  b9 : Blk wx g9 32 #[vl', vw', .int .i64 R.1.fuse, .bool R.1.off]
  left : RdLeft wa wx vl vw vl' vw' R.1
  n8 : wa.heap.size ≤ g8
  n9 : wa.heap.size ≤ g9
  ne : g8 ≠ g9
/-- A law's act. -/
abbrev act9 (do_ : Int) (text : ByteArray) (n at_ : Int) (x : ByteArray) (keep : Value) : Array Value := #[.int .i64 do_, .string text, .int .i64 n, .int .i64 at_, .string x, keep]
set_option maxRecDepth 100000 in
theorem put_nil (s : ByteArray) (w : World) : Calls Tryz.prog 14 #[.pointer none, .string s] w fun e w' => e = .returned (.int .i64 2) ∧ w = w' := by
  go_enter Tryz.func14, Tryz.ntmps14
  go_wp2_with fail
  go_ret
  exact ⟨rfl, rfl⟩
section
variable {w0 w w' : World} {x p : Nat} {d : Dk} {vl vw kv : Value} {r : Rd} {V : Kp} {n : Int}
/-- What an act leaves. -/
def Done9 (w0 : World) (x p : Nat) (d : Dk) (w' : World) : Prop := ∃ d' vl' vw' r' kv' V' n', W9 w0 w' x p d' vl' vw' r' kv' V' n' ∧ d'.pend ≤ d.pend + 20 ∧ d'.lasts.length = d.lasts.length
set_option maxRecDepth 100000 in
set_option maxHeartbeats 3200000 in
theorem d9_no (hW : W9 w0 w x p d vl vw r (.pointer none) V n) (hn : n ≠ 0) (t : ByteArray) (n_ a_ : Int) (x_ : ByteArray) (kp : Value) (f : Int) :
    Calls Tryz.prog 15 #[.pointer (some ⟨x, 0, none⟩), .agg (act9 0 t n_ a_ x_ kp), .int .i64 f] w fun e w' => e = .returned (.bool true) ∧ Done9 w0 x p d w' := by
  have hne : (n != 0) = true := bne_iff_ne.2 hn
  obtain ⟨w3, hw3⟩ : ∃ w3, w.alloc (.cells (act9 0 t n_ a_ x_ kp) 47) = w3 := ⟨_, rfl⟩
  have hU3 : Upd (fun _ => False) w w3 := by rw [← hw3]; exact (Upd.refl _ w).alloc _
  have hB3 : Blk w3 w.heap.size 47 (act9 0 t n_ a_ x_ kp) := by rw [← hw3]; exact Blk.new w _ _
  have H3 := Lib.hid (And.intro (hW.still hU3) hB3)
  have Hw := Lib.hid hw3
  have hc := hB3.cells6
  have hcx := H3.out.1.blk.cells13
  have Hd : Hid (d.pend ≤ d.pend + 20 ∧ d.lasts.length = d.lasts.length) := ⟨by omega, rfl⟩
  clear hn hU3 hB3 hw3 hW
  go_enter Tryz.func15, Tryz.ntmps15
  go_upto_region 1 with fail
  rw [Hw.out]
  clear Hw
  go_upto_region 3 with fail
  refine wp_region_noPanic ?_
  refine wp_region_T (S := fun w' => Upd (fun _ => False) w3 w') (T := fun _ => false) (by kernel_rfl) ?_
  have hS0 : Upd (fun _ => False) w3 w3.drew := (Upd.refl _ _).drew
  refine wpAnyT_take (i := 0) (v := ?_) rfl (by kernel_rfl) (by kernel_rfl) (by kernel_rfl) (by kernel_rfl) (fun _ _ _ h => h) (takes_yield rfl (Or.inl ⟨by rfl, ?_⟩)) (by assumption) (by kernel_rfl) ?_
  rotate_left 1
  · intro w' hSw; have hcw := (H3.out.1.blk.upd hSw (fun e => e)).cells13; have hca := (H3.out.2.upd hSw (fun e => e)).cells6; go_split_ands; first | (go_simp; done) | (go_simp; rfl) | rfl
  simp only [Act.put, List.getElem_toArray, List.getElem_cons_zero, List.setIfInBounds_toArray, List.set_cons_zero, List.set_cons_succ]
  refine wpAnyT_take (i := 1) (v := ?_) rfl (by kernel_rfl) (by kernel_rfl) (by kernel_rfl) (by kernel_rfl) (fun _ _ _ h => h) (takes_yield rfl (Or.inl ⟨by rfl, ?_⟩)) (by assumption) (by kernel_rfl) ?_
  rotate_left 1
  · intro w' hSw; have hcw := (H3.out.1.blk.upd hSw (fun e => e)).cells13; have hca := (H3.out.2.upd hSw (fun e => e)).cells6; go_split_ands; first | (go_simp; done) | (go_simp; rfl) | rfl
  simp only [Act.put, List.getElem_toArray, List.getElem_cons_zero, List.getElem_cons_succ, List.setIfInBounds_toArray, List.set_cons_zero, List.set_cons_succ]
  refine wpAnyT_take (i := 2) (v := ?_) rfl (by kernel_rfl) (by kernel_rfl) (by kernel_rfl) (by kernel_rfl) (fun _ _ _ h => h) (takes_yield rfl (Or.inl ⟨by rfl, ?_⟩)) (by assumption) (by kernel_rfl) ?_
  rotate_left 1
  · intro w' hSw; have hcw := (H3.out.1.blk.upd hSw (fun e => e)).cells13; have hca := (H3.out.2.upd hSw (fun e => e)).cells6; go_split_ands; first | (go_simp; done) | (go_simp; rfl) | rfl
  simp only [Act.put, List.getElem_toArray, List.getElem_cons_zero, List.getElem_cons_succ, List.setIfInBounds_toArray, List.set_cons_zero, List.set_cons_succ]
  refine wpAnyT_take (i := 3) (v := ?_) rfl (by kernel_rfl) (by kernel_rfl) (by kernel_rfl) (by kernel_rfl) (fun _ _ _ h => h) (takes_yield rfl (Or.inl ⟨by rfl, ?_⟩)) (by assumption) (by kernel_rfl) ?_
  rotate_left 1
  · intro w' hSw; have hcw := (H3.out.1.blk.upd hSw (fun e => e)).cells13; have hca := (H3.out.2.upd hSw (fun e => e)).cells6; go_split_ands; first | (go_simp; done) | (go_simp; rfl) | rfl
  simp only [Act.put, List.getElem_toArray, List.getElem_cons_zero, List.getElem_cons_succ, List.setIfInBounds_toArray, List.set_cons_zero, List.set_cons_succ]
  refine wpAnyT_take (i := 4) (v := ?_) rfl (by kernel_rfl) (by kernel_rfl) (by kernel_rfl) (by kernel_rfl) (fun _ _ _ h => h) (takes_yield rfl (Or.inl ⟨by rfl, ?_⟩)) (by assumption) (by kernel_rfl) ?_
  rotate_left 1
  · intro w' hSw; have hcw := (H3.out.1.blk.upd hSw (fun e => e)).cells13; have hca := (H3.out.2.upd hSw (fun e => e)).cells6; go_split_ands; first | (go_simp; done) | (go_simp; rfl) | rfl
  simp only [Act.put, List.getElem_toArray, List.getElem_cons_zero, List.getElem_cons_succ, List.setIfInBounds_toArray, List.set_cons_zero, List.set_cons_succ]
  refine wpAnyT_take (i := 5) (v := ?_) rfl (by kernel_rfl) (by kernel_rfl) (by kernel_rfl) (by kernel_rfl) (fun _ _ _ h => h) (takes_yield rfl (Or.inl ⟨by rfl, ?_⟩)) (by assumption) (by kernel_rfl) ?_
  rotate_left 1
  · intro w' hSw; have hcw := (H3.out.1.blk.upd hSw (fun e => e)).cells13; have hca := (H3.out.2.upd hSw (fun e => e)).cells6; go_split_ands; first | (go_simp; done) | (go_simp; rfl) | rfl
  simp only [Act.put, List.getElem_toArray, List.getElem_cons_zero, List.getElem_cons_succ, List.setIfInBounds_toArray, List.set_cons_zero, List.set_cons_succ]
  refine wpAnyT_one (i := 6) (by kernel_rfl) rfl (fun K hK => ?_)
  go_simp
  refine (put_nil t _).mono ?_
  rintro e w4 ⟨rfl, rfl⟩
  refine hK.out _ _ hS0 ?_
  clear hK
  refine wpAnyT_take (i := 7) (v := ?_) rfl (by kernel_rfl) (by kernel_rfl) (by kernel_rfl) (by kernel_rfl) (fun _ _ _ h => h) (takes_yield rfl (Or.inl ⟨by rfl, ?_⟩)) (by assumption) (by kernel_rfl) ?_
  rotate_left 1
  · intro w' hSw; go_split_ands; first | (go_simp; done) | (go_simp; rfl) | rfl
  simp only [Act.put, List.getElem_toArray, List.getElem_cons_zero, List.getElem_cons_succ, List.setIfInBounds_toArray, List.set_cons_zero, List.set_cons_succ]
  refine wpAnyT_done (by kernel_rfl) ?_ _
  refine NoPanic.normal ?_
  have H4 := Lib.hid (H3.out.1.still (Upd.refl _ w3).drew)
  have hc4 := H4.out.blk.cells13
  clear hS0 hc hcx
  go_wp2_with fail
  go_ret
  exact ⟨rfl, d, vl, vw, r, _, V, n, H4.out, Hd.out.1, rfl⟩
set_option maxRecDepth 100000 in
set_option maxHeartbeats 6400000 in
theorem d9_put {b : Nat} (hW : W9 w0 w x p d vl vw r (.pointer (some ⟨b, 0, none⟩)) V 0) (hp : d.pend + 20 < 1000000) (t : ByteArray) (n_ a_ : Int) (x_ : ByteArray) (kp : Value) (f : Int) :
    Calls Tryz.prog 15 #[.pointer (some ⟨x, 0, none⟩), .agg (act9 0 t n_ a_ x_ kp), .int .i64 f] w fun e w' => e = .returned (.bool true) ∧ Done9 w0 x p d w' := by
  have hwf := (hW.play.disks.one 0 rfl).wf
  obtain ⟨hVf, hkp⟩ : V.fits ∧ KpS w0 w p b V := by
    rcases hW.kept with ⟨_, h2, b', h3, h4⟩ | ⟨h1, _⟩
    · simp only [Value.pointer.injEq, Option.some.injEq, Addr.mk.injEq, and_true] at h3
      subst h3
      exact ⟨h2, h4⟩
    · exact absurd rfl h1
  obtain ⟨hri, hrq⟩ := put_ref hW.play.is hwf.len V t.data.toList
  obtain ⟨R, hR⟩ : ∃ R, putR r V t.data.toList = R := ⟨_, rfl⟩
  obtain ⟨Q, hQ⟩ : ∃ Q, putK d V t.data.toList = Q := ⟨_, rfl⟩
  have hall : allOf t.data.toList.length ≤ 9 ∨ (putK d V t.data.toList).1 = d := by
    by_cases h4 : t.data.toList.length ≤ 400
    · exact .inl (allOf_le9 h4)
    · right
      unfold putK
      split
      · rfl
      · rw [if_pos (by omega)]
  have hpe : (putK d V t.data.toList).1.pend ≤ d.pend + 20 ∧ (putK d V t.data.toList).1.lasts.length = d.lasts.length := by
    rcases hall with h | h
    · have := putK_pend V t.data.toList hwf.len
      omega
    · rw [h]
      exact ⟨by omega, rfl⟩
  have hVf' := putK_fits (d := d) hVf t.data.toList
  rw [hR, hQ] at hri hrq
  rw [hQ] at hpe hVf'
  obtain ⟨w3, hw3⟩ : ∃ w3, w.alloc (.cells (act9 0 t n_ a_ x_ kp) 47) = w3 := ⟨_, rfl⟩
  have hU3 : Upd (fun _ => False) w w3 := by rw [← hw3]; exact (Upd.refl _ w).alloc _
  have hB3 : Blk w3 w.heap.size 47 (act9 0 t n_ a_ x_ kp) := by rw [← hw3]; exact Blk.new w _ _
  have H3 := Lib.hid (And.intro (hW.still hU3) hB3)
  have hput0 : ∀ W, Upd (fun _ => False) w3 W → Calls Tryz.prog 14 #[.pointer (some ⟨b, 0, none⟩), .string t] W fun e w' => e = .returned (.int .i64 Q.2.2) ∧ DksX w0 w' [(p, Q.1)] (RdX vl vw) ∧ KpS w0 w' p b Q.2.1 ∧ BlkKept2 W w' ∧ XKept (RdX vl vw) W w' := fun W hu => by
    have h1 := (hW.play.still hU3).still hu
    have h2 := (hkp.still hU3).still hu
    rw [← hQ]
    exact put_v h1.disks h2 (h1.rd.ne h2.blk (by decide) (by decide)) hVf hp t
  have hHr0 : ∀ W, RdAt W vl vw r → Calls Tryz.prog 31 #[.agg V.row, .agg #[vl, vw, .int .i64 r.fuse, .bool r.off], .string t] W fun e w' =>
      ∃ vl' vw', e = .returned (.tuple #[.agg R.2.1.row, .agg #[vl', vw', .int .i64 R.1.fuse, .bool R.1.off], .int .i64 R.2.2]) ∧ RdLeft W w' vl vw vl' vw' R.1 := fun W h => by
    have := rput_p h hW.play.fits hVf (by rw [hW.play.is.pend]; omega) t
    rw [hR] at this
    exact this
  have hput := Lib.hid hput0
  have hHr := Lib.hid hHr0
  have HQ := Lib.hid (And.intro hri (And.intro hrq (And.intro hpe hVf')))
  have Hw := Lib.hid hw3
  have hc := hB3.cells6
  have hcx := H3.out.1.blk.cells13
  clear hU3 hB3 hw3 hW hwf hkp hVf hri hrq hR hQ hall hpe hVf' hput0 hHr0 hp
  go_enter Tryz.func15, Tryz.ntmps15
  go_upto_region 1 with fail
  rw [Hw.out]
  clear Hw
  go_upto_region 3 with fail
  refine wp_region_noPanic ?_
  refine wp_region_T (S := fun w' => Blk w' x 41 (row9 p (.pointer (some ⟨b, 0, none⟩)) vl vw r V 0) ∧ Blk w' w.heap.size 47 (act9 0 t n_ a_ x_ kp)) (T := fun _ => false) (by kernel_rfl) ?_
  have hS0 := And.intro H3.out.1.blk.drew H3.out.2.drew
  refine wpAnyT_take (i := 0) (v := ?_) rfl (by kernel_rfl) (by kernel_rfl) (by kernel_rfl) (by kernel_rfl) (fun _ _ _ h => h) (takes_yield rfl (Or.inl ⟨by rfl, ?_⟩)) (by assumption) (by kernel_rfl) ?_
  rotate_left 1
  · intro w' hSw; have hcw := hSw.1.cells13; have hca := hSw.2.cells6; go_split_ands; first | (go_simp; done) | (go_simp; rfl) | rfl
  simp only [Act.put, List.getElem_toArray, List.getElem_cons_zero, List.setIfInBounds_toArray, List.set_cons_zero, List.set_cons_succ]
  refine wpAnyT_take (i := 1) (v := ?_) rfl (by kernel_rfl) (by kernel_rfl) (by kernel_rfl) (by kernel_rfl) (fun _ _ _ h => h) (takes_yield rfl (Or.inl ⟨by rfl, ?_⟩)) (by assumption) (by kernel_rfl) ?_
  rotate_left 1
  · intro w' hSw; have hcw := hSw.1.cells13; have hca := hSw.2.cells6; go_split_ands; first | (go_simp; done) | (go_simp; rfl) | rfl
  simp only [Act.put, List.getElem_toArray, List.getElem_cons_zero, List.getElem_cons_succ, List.setIfInBounds_toArray, List.set_cons_zero, List.set_cons_succ]
  refine wpAnyT_take (i := 2) (v := ?_) rfl (by kernel_rfl) (by kernel_rfl) (by kernel_rfl) (by kernel_rfl) (fun _ _ _ h => h) (takes_yield rfl (Or.inl ⟨by rfl, ?_⟩)) (by assumption) (by kernel_rfl) ?_
  rotate_left 1
  · intro w' hSw; have hcw := hSw.1.cells13; have hca := hSw.2.cells6; go_split_ands; first | (go_simp; done) | (go_simp; rfl) | rfl
  simp only [Act.put, List.getElem_toArray, List.getElem_cons_zero, List.getElem_cons_succ, List.setIfInBounds_toArray, List.set_cons_zero, List.set_cons_succ]
  refine wpAnyT_take (i := 3) (v := ?_) rfl (by kernel_rfl) (by kernel_rfl) (by kernel_rfl) (by kernel_rfl) (fun _ _ _ h => h) (takes_yield rfl (Or.inl ⟨by rfl, ?_⟩)) (by assumption) (by kernel_rfl) ?_
  rotate_left 1
  · intro w' hSw; have hcw := hSw.1.cells13; have hca := hSw.2.cells6; go_split_ands; first | (go_simp; done) | (go_simp; rfl) | rfl
  simp only [Act.put, List.getElem_toArray, List.getElem_cons_zero, List.getElem_cons_succ, List.setIfInBounds_toArray, List.set_cons_zero, List.set_cons_succ]
  refine wpAnyT_take (i := 4) (v := ?_) rfl (by kernel_rfl) (by kernel_rfl) (by kernel_rfl) (by kernel_rfl) (fun _ _ _ h => h) (takes_yield rfl (Or.inl ⟨by rfl, ?_⟩)) (by assumption) (by kernel_rfl) ?_
  rotate_left 1
  · intro w' hSw; have hcw := hSw.1.cells13; have hca := hSw.2.cells6; go_split_ands; first | (go_simp; done) | (go_simp; rfl) | rfl
  simp only [Act.put, List.getElem_toArray, List.getElem_cons_zero, List.getElem_cons_succ, List.setIfInBounds_toArray, List.set_cons_zero, List.set_cons_succ]
  refine wpAnyT_take (i := 5) (v := ?_) rfl (by kernel_rfl) (by kernel_rfl) (by kernel_rfl) (by kernel_rfl) (fun _ _ _ h => h) (takes_yield rfl (Or.inl ⟨by rfl, ?_⟩)) (by assumption) (by kernel_rfl) ?_
  rotate_left 1
  · intro w' hSw; have hcw := hSw.1.cells13; have hca := hSw.2.cells6; go_split_ands; first | (go_simp; done) | (go_simp; rfl) | rfl
  simp only [Act.put, List.getElem_toArray, List.getElem_cons_zero, List.getElem_cons_succ, List.setIfInBounds_toArray, List.set_cons_zero, List.set_cons_succ]
  refine wpAnyT_one (i := 6) (by kernel_rfl) rfl (fun K hK => ?_)
  go_simp
  refine (hput.out _ (Upd.refl _ _).drew).mono ?_
  rintro e w4 ⟨rfl, hDx, hKp, hBk, hXk⟩
  have hS4 := And.intro (hBk _ _ _ hS0.1 (by decide) (by decide) (by decide)) (hBk _ _ _ hS0.2 (by decide) (by decide) (by decide))
  refine hK.out _ _ hS4 ?_
  have hrd4 : RdAt w4 vl vw r := (H3.out.1.play.rd.upd (Upd.refl _ w3).drew).kept hXk
  have H4 := Lib.hid (And.intro hS4 (And.intro hDx (And.intro hKp (And.intro hrd4 H3.out.1.low))))
  clear hK hS0 hDx hKp hBk hXk hrd4 hc hcx
  refine wpAnyT_take (i := 7) (v := ?_) rfl (by kernel_rfl) (by kernel_rfl) (by kernel_rfl) (by kernel_rfl) (fun _ _ _ h => h) (takes_yield rfl (Or.inl ⟨by rfl, ?_⟩)) (by assumption) (by kernel_rfl) ?_
  rotate_left 1
  · intro w' hSw; go_split_ands; first | (go_simp; done) | (go_simp; rfl) | rfl
  simp only [Act.put, List.getElem_toArray, List.getElem_cons_zero, List.getElem_cons_succ, List.setIfInBounds_toArray, List.set_cons_zero, List.set_cons_succ]
  refine wpAnyT_done (by kernel_rfl) ?_ _
  refine NoPanic.normal ?_
  have hc4 := H4.out.1.1.cells13
  have hca4 := H4.out.1.2.cells6
  clear hS4 H3
  go_upto_region 6 with fail
  rename World => w3
  have hrp : Hid (∀ W, Upd (fun _ => False) w3 W → Calls Tryz.prog 31 #[.agg V.row, .agg #[vl, vw, .int .i64 r.fuse, .bool r.off], .string t] W fun e w' =>
      ∃ vl' vw', e = .returned (.tuple #[.agg R.2.1.row, .agg #[vl', vw', .int .i64 R.1.fuse, .bool R.1.off], .int .i64 R.2.2]) ∧ RdLeft W w' vl vw vl' vw' R.1) := Lib.hid fun W hu => hHr.out W (H4.out.2.2.2.1.upd hu)
  clear hc4 hca4
  go_cut [8, 9, 10] (fun t8 t9 t10 wx => ∃ (g8 g9 : Nat) (vl' vw' : Value), t8 = .pointer (some ⟨g8, 0, none⟩) ∧ t9 = .pointer (some ⟨g9, 0, none⟩) ∧ t10 = .int .i64 R.2.2 ∧ Boxed9 w3 wx vl vw vl' vw' R g8 g9)
  case first =>
    refine wp_region_noPanic ?_
    refine wp_region_T (S := fun w' => Blk w' x 41 (row9 p (.pointer (some ⟨b, 0, none⟩)) vl vw r V 0) ∧ Blk w' w.heap.size 47 (act9 0 t n_ a_ x_ kp)) (T := fun _ => false) (by kernel_rfl) ?_
    have hS0 := And.intro H4.out.1.1.drew H4.out.1.2.drew
    have hU0 : Upd (fun _ => False) w3 w3.drew := (Upd.refl _ _).drew
    refine wpAnyT_take (i := 0) (v := ?_) rfl (by kernel_rfl) (by kernel_rfl) (by kernel_rfl) (by kernel_rfl) (fun _ _ _ h => h) (takes_yield rfl (Or.inl ⟨by rfl, ?_⟩)) (by assumption) (by kernel_rfl) ?_
    rotate_left 1
    · intro w' hSw; have hcw := hSw.1.cells13; have hca := hSw.2.cells6; go_split_ands; first | (go_simp; done) | (go_simp; rfl) | rfl
    simp only [Act.put, List.getElem_toArray, List.getElem_cons_zero, List.setIfInBounds_toArray, List.set_cons_zero, List.set_cons_succ]
    refine wpAnyT_take (i := 1) (v := ?_) rfl (by kernel_rfl) (by kernel_rfl) (by kernel_rfl) (by kernel_rfl) (fun _ _ _ h => h) (takes_yield rfl (Or.inl ⟨by rfl, ?_⟩)) (by assumption) (by kernel_rfl) ?_
    rotate_left 1
    · intro w' hSw; have hcw := hSw.1.cells13; have hca := hSw.2.cells6; go_split_ands; first | (go_simp; done) | (go_simp; rfl) | rfl
    simp only [Act.put, List.getElem_toArray, List.getElem_cons_zero, List.getElem_cons_succ, List.setIfInBounds_toArray, List.set_cons_zero, List.set_cons_succ]
    refine wpAnyT_take (i := 2) (v := ?_) rfl (by kernel_rfl) (by kernel_rfl) (by kernel_rfl) (by kernel_rfl) (fun _ _ _ h => h) (takes_yield rfl (Or.inl ⟨by rfl, ?_⟩)) (by assumption) (by kernel_rfl) ?_
    rotate_left 1
    · intro w' hSw; have hcw := hSw.1.cells13; have hca := hSw.2.cells6; go_split_ands; first | (go_simp; done) | (go_simp; rfl) | rfl
    simp only [Act.put, List.getElem_toArray, List.getElem_cons_zero, List.getElem_cons_succ, List.setIfInBounds_toArray, List.set_cons_zero, List.set_cons_succ]
    refine wpAnyT_take (i := 3) (v := ?_) rfl (by kernel_rfl) (by kernel_rfl) (by kernel_rfl) (by kernel_rfl) (fun _ _ _ h => h) (takes_yield rfl (Or.inl ⟨by rfl, ?_⟩)) (by assumption) (by kernel_rfl) ?_
    rotate_left 1
    · intro w' hSw; have hcw := hSw.1.cells13; have hca := hSw.2.cells6; go_split_ands; first | (go_simp; done) | (go_simp; rfl) | rfl
    simp only [Act.put, List.getElem_toArray, List.getElem_cons_zero, List.getElem_cons_succ, List.setIfInBounds_toArray, List.set_cons_zero, List.set_cons_succ]
    refine wpAnyT_take (i := 4) (v := ?_) rfl (by kernel_rfl) (by kernel_rfl) (by kernel_rfl) (by kernel_rfl) (fun _ _ _ h => h) (takes_yield rfl (Or.inl ⟨by rfl, ?_⟩)) (by assumption) (by kernel_rfl) ?_
    rotate_left 1
    · intro w' hSw; have hcw := hSw.1.cells13; have hca := hSw.2.cells6; go_split_ands; first | (go_simp; done) | (go_simp; rfl) | rfl
    simp only [Act.put, List.getElem_toArray, List.getElem_cons_zero, List.getElem_cons_succ, List.setIfInBounds_toArray, List.set_cons_zero, List.set_cons_succ]
    refine wpAnyT_take (i := 5) (v := ?_) rfl (by kernel_rfl) (by kernel_rfl) (by kernel_rfl) (by kernel_rfl) (fun _ _ _ h => h) (takes_yield rfl (Or.inl ⟨by rfl, ?_⟩)) (by assumption) (by kernel_rfl) ?_
    rotate_left 1
    · intro w' hSw; have hcw := hSw.1.cells13; have hca := hSw.2.cells6; go_split_ands; first | (go_simp; done) | (go_simp; rfl) | rfl
    simp only [Act.put, List.getElem_toArray, List.getElem_cons_zero, List.getElem_cons_succ, List.setIfInBounds_toArray, List.set_cons_zero, List.set_cons_succ]
    refine wpAnyT_take (i := 6) (v := ?_) rfl (by kernel_rfl) (by kernel_rfl) (by kernel_rfl) (by kernel_rfl) (fun _ _ _ h => h) (takes_yield rfl (Or.inl ⟨by rfl, ?_⟩)) (by assumption) (by kernel_rfl) ?_
    rotate_left 1
    · intro w' hSw; have hcw := hSw.1.cells13; have hca := hSw.2.cells6; go_split_ands; first | (go_simp; done) | (go_simp; rfl) | rfl
    simp only [Act.put, List.getElem_toArray, List.getElem_cons_zero, List.getElem_cons_succ, List.setIfInBounds_toArray, List.set_cons_zero, List.set_cons_succ]
    refine wpAnyT_take (i := 7) (v := ?_) rfl (by kernel_rfl) (by kernel_rfl) (by kernel_rfl) (by kernel_rfl) (fun _ _ _ h => h) (takes_yield rfl (Or.inl ⟨by rfl, ?_⟩)) (by assumption) (by kernel_rfl) ?_
    rotate_left 1
    · intro w' hSw; have hcw := hSw.1.cells13; have hca := hSw.2.cells6; go_split_ands; first | (go_simp; done) | (go_simp; rfl) | rfl
    simp only [Act.put, List.getElem_toArray, List.getElem_cons_zero, List.getElem_cons_succ, List.setIfInBounds_toArray, List.set_cons_zero, List.set_cons_succ]
    refine wpAnyT_take (i := 8) (v := ?_) rfl (by kernel_rfl) (by kernel_rfl) (by kernel_rfl) (by kernel_rfl) (fun _ _ _ h => h) (takes_yield rfl (Or.inl ⟨by rfl, ?_⟩)) (by assumption) (by kernel_rfl) ?_
    rotate_left 1
    · intro w' hSw; have hcw := hSw.1.cells13; have hca := hSw.2.cells6; go_split_ands; first | (go_simp; done) | (go_simp; rfl) | rfl
    simp only [Act.put, List.getElem_toArray, List.getElem_cons_zero, List.getElem_cons_succ, List.setIfInBounds_toArray, List.set_cons_zero, List.set_cons_succ]
    refine wpAnyT_take (i := 9) (v := ?_) rfl (by kernel_rfl) (by kernel_rfl) (by kernel_rfl) (by kernel_rfl) (fun _ _ _ h => h) (takes_yield rfl (Or.inl ⟨by rfl, ?_⟩)) (by assumption) (by kernel_rfl) ?_
    rotate_left 1
    · intro w' hSw; have hcw := hSw.1.cells13; have hca := hSw.2.cells6; go_split_ands; first | (go_simp; done) | (go_simp; rfl) | rfl
    simp only [Act.put, List.getElem_toArray, List.getElem_cons_zero, List.getElem_cons_succ, List.setIfInBounds_toArray, List.set_cons_zero, List.set_cons_succ]
    refine wpAnyT_three (i := 10) (j := 15) (k := 16) (by kernel_rfl) rfl rfl rfl (fun K hK => ?_) (fun K hK => ?_) (fun K hK => ?_)
    · skip
      go_simp
      refine (hrp.out _ hU0).mono ?_
      rintro e wc1 ⟨vl', vw', rfl, hl1⟩
      have hs1 := And.intro (hS0.1.upd hl1.upd (fun e => e)) (hS0.2.upd hl1.upd (fun e => e))
      have hu1 := hU0.then hl1.upd (fun _ e => e.elim)
      refine hK.out _ _ hs1 ?_
      have hl1b := hl1.pre hU0
      clear hK
      refine wpAnyT_take (i := 11) (v := ?_) rfl (by kernel_rfl) (by kernel_rfl) (by kernel_rfl) (by kernel_rfl) (fun _ _ _ h => h) (takes_yield rfl (Or.inl ⟨by rfl, ?_⟩)) (by assumption) (by kernel_rfl) ?_
      rotate_left 1
      · intro w' hSw; go_split_ands; first | (go_simp; done) | (go_simp; rfl) | rfl
      simp only [Act.put, List.getElem_toArray, List.getElem_cons_zero, List.getElem_cons_succ, List.setIfInBounds_toArray, List.set_cons_zero, List.set_cons_succ]
      refine wpAnyT_take (i := 12) (v := ?_) rfl (by kernel_rfl) (by kernel_rfl) (by kernel_rfl) (by kernel_rfl) (fun _ _ _ h => h) (takes_yield rfl (Or.inl ⟨by rfl, ?_⟩)) (by assumption) (by kernel_rfl) ?_
      rotate_left 1
      · intro w' hSw; go_split_ands; first | (go_simp; done) | (go_simp; rfl) | rfl
      simp only [Act.put, List.getElem_toArray, List.getElem_cons_zero, List.getElem_cons_succ, List.setIfInBounds_toArray, List.set_cons_zero, List.set_cons_succ]
      refine wpAnyT_take (i := 13) (v := ?_) rfl (by kernel_rfl) (by kernel_rfl) (by kernel_rfl) (by kernel_rfl) (fun _ _ _ h => h) (takes_yield rfl (Or.inl ⟨by rfl, ?_⟩)) (by assumption) (by kernel_rfl) ?_
      rotate_left 1
      · intro w' hSw; go_split_ands; first | (go_simp; done) | (go_simp; rfl) | rfl
      simp only [Act.put, List.getElem_toArray, List.getElem_cons_zero, List.getElem_cons_succ, List.setIfInBounds_toArray, List.set_cons_zero, List.set_cons_succ]
      refine wpAnyT_take (i := 14) (v := ?_) rfl (by kernel_rfl) (by kernel_rfl) (by kernel_rfl) (by kernel_rfl) (fun _ _ _ h => h) (takes_yield rfl (Or.inl ⟨by rfl, ?_⟩)) (by assumption) (by kernel_rfl) ?_
      rotate_left 1
      · intro w' hSw; go_split_ands; first | (go_simp; done) | (go_simp; rfl) | rfl
      simp only [Act.put, List.getElem_toArray, List.getElem_cons_zero, List.getElem_cons_succ, List.setIfInBounds_toArray, List.set_cons_zero, List.set_cons_succ]
      refine wpAnyT_two (i := 15) (j := 16) (by kernel_rfl) rfl rfl (fun K hK => ?_) (fun K hK => ?_)
      · skip
        go_simp
        have hs2 := And.intro (hs1.1.alloc (.cells zeroKp 39)) (hs1.2.alloc (.cells zeroKp 39))
        have hu2 := hu1.alloc (.cells zeroKp 39)
        refine hK.out _ _ hs2 ?_
        have b8_2 := Blk.new (wc1) 39 zeroKp
        have n8_2 := hu1.size
        have hl2 := hl1b.post ((Upd.refl (fun _ => False) (wc1)).alloc (.cells zeroKp 39))
        clear hK
        refine wpAnyT_one (i := 16) (by kernel_rfl) rfl (fun K hK => ?_)
        go_simp
        have hs3 := And.intro (hs2.1.alloc (.cells zeroRd 32)) (hs2.2.alloc (.cells zeroRd 32))
        have hu3 := hu2.alloc (.cells zeroRd 32)
        refine hK.out _ _ hs3 ?_
        have b8_3 := b8_2.alloc (.cells zeroRd 32)
        have e9_3 : (wc1.alloc (.cells zeroKp 39)).heap.size = wc1.heap.size + 1 := by simp
        have b9_3 := Blk.new (wc1.alloc (.cells zeroKp 39)) 32 zeroRd
        have n9_3 := hu2.size
        rw [e9_3] at b9_3 n9_3
        clear e9_3
        have hl3 := hl2.post ((Upd.refl (fun _ => False) (wc1.alloc (.cells zeroKp 39))).alloc (.cells zeroRd 32))
        clear hK
        refine wpAnyT_one (i := 17) (by kernel_rfl) rfl (fun K hK => ?_)
        refine step_store_all (by rfl) 39 _ _ (by rfl) (wc1).heap.size R.2.1.row (by rfl) (by rfl) _ _ b8_3 rfl R.2.1.row_one (by kernel_rfl) ?_
        intro y1 hB1 hU1 hz1
        have hg8 : w3.heap.size ≤ (wc1).heap.size := n8_2
        have hg9 : w3.heap.size ≤ (wc1.heap.size + 1) := n9_3
        have hg89 : (wc1.heap.size + 1) ≠ (wc1).heap.size := b9_3.ne_ b8_3 (by decide)
        have hy1 := And.intro (hs3.1.upd hU1 (fun e => hs3.1.ne_ b8_3 (by decide) e)) (hs3.2.upd hU1 (fun e => hs3.2.ne_ b8_3 (by decide) e))
        refine hK.out _ _ hy1 ?_
        clear hK
        refine wpAnyT_one (i := 18) (by kernel_rfl) rfl (fun K hK => ?_)
        refine step_store_all (by rfl) 32 _ _ (by rfl) (wc1.heap.size + 1) #[vl', vw', .int .i64 R.1.fuse, .bool R.1.off] (by rfl) (by rfl) _ _ (b9_3.upd hU1 hg89) rfl (rdrow_one R.1 hl3.at_) (by kernel_rfl) ?_
        intro y2 hB2 hU2 hz2
        have hy2 := And.intro (hy1.1.upd hU2 (fun e => hs3.1.ne_ b9_3 (by decide) e)) (hy1.2.upd hU2 (fun e => hs3.2.ne_ b9_3 (by decide) e))
        refine hK.out _ _ hy2 ?_
        have hly := (hl3.store hU1 (fun q hq e => hl3.at_.ne b8_3 (by decide) (by decide) (e ▸ hq)) hg8).store hU2 (fun q hq e => hl3.at_.ne b9_3 (by decide) (by decide) (e ▸ hq)) hg9
        have HZ := Lib.hid (show Boxed9 w3 y2 vl vw vl' vw' R (wc1).heap.size (wc1.heap.size + 1) from ⟨hB1.upd hU2 (Ne.symm hg89), hB2, hly, hg8, hg9, Ne.symm hg89⟩)
        clear hK hB1 hU1 hz1 hB2 hU2 hz2 hly hy1
        refine wpAnyT_take (i := 19) (v := ?_) rfl (by kernel_rfl) (by kernel_rfl) (by kernel_rfl) (by kernel_rfl) (fun _ _ _ h => h) (takes_yield rfl (Or.inl ⟨by rfl, ?_⟩)) (by assumption) (by kernel_rfl) ?_
        rotate_left 1
        · intro w' hSw; go_split_ands; first | (go_simp; done) | (go_simp; rfl) | rfl
        simp only [Act.put, List.getElem_toArray, List.getElem_cons_zero, List.getElem_cons_succ, List.setIfInBounds_toArray, List.set_cons_zero, List.set_cons_succ]
        refine wpAnyT_done (by kernel_rfl) ?_ _
        refine NoPanic.normal ?_
        go_wp2_with fail
        go_meet
        exact ⟨_, _, vl', vw', rfl, rfl, rfl, HZ.out⟩
      · skip
        go_simp
        have hs4 := And.intro (hs1.1.alloc (.cells zeroRd 32)) (hs1.2.alloc (.cells zeroRd 32))
        have hu4 := hu1.alloc (.cells zeroRd 32)
        refine hK.out _ _ hs4 ?_
        have b9_4 := Blk.new (wc1) 32 zeroRd
        have n9_4 := hu1.size
        have hl4 := hl1b.post ((Upd.refl (fun _ => False) (wc1)).alloc (.cells zeroRd 32))
        clear hK
        refine wpAnyT_one (i := 15) (by kernel_rfl) rfl (fun K hK => ?_)
        go_simp
        have hs5 := And.intro (hs4.1.alloc (.cells zeroKp 39)) (hs4.2.alloc (.cells zeroKp 39))
        have hu5 := hu4.alloc (.cells zeroKp 39)
        refine hK.out _ _ hs5 ?_
        have b9_5 := b9_4.alloc (.cells zeroKp 39)
        have e8_5 : (wc1.alloc (.cells zeroRd 32)).heap.size = wc1.heap.size + 1 := by simp
        have b8_5 := Blk.new (wc1.alloc (.cells zeroRd 32)) 39 zeroKp
        have n8_5 := hu4.size
        rw [e8_5] at b8_5 n8_5
        clear e8_5
        have hl5 := hl4.post ((Upd.refl (fun _ => False) (wc1.alloc (.cells zeroRd 32))).alloc (.cells zeroKp 39))
        clear hK
        refine wpAnyT_one (i := 17) (by kernel_rfl) rfl (fun K hK => ?_)
        refine step_store_all (by rfl) 39 _ _ (by rfl) (wc1.heap.size + 1) R.2.1.row (by rfl) (by rfl) _ _ b8_5 rfl R.2.1.row_one (by kernel_rfl) ?_
        intro y1 hB1 hU1 hz1
        have hg8 : w3.heap.size ≤ (wc1.heap.size + 1) := n8_5
        have hg9 : w3.heap.size ≤ (wc1).heap.size := n9_4
        have hg89 : (wc1).heap.size ≠ (wc1.heap.size + 1) := b9_5.ne_ b8_5 (by decide)
        have hy1 := And.intro (hs5.1.upd hU1 (fun e => hs5.1.ne_ b8_5 (by decide) e)) (hs5.2.upd hU1 (fun e => hs5.2.ne_ b8_5 (by decide) e))
        refine hK.out _ _ hy1 ?_
        clear hK
        refine wpAnyT_one (i := 18) (by kernel_rfl) rfl (fun K hK => ?_)
        refine step_store_all (by rfl) 32 _ _ (by rfl) (wc1).heap.size #[vl', vw', .int .i64 R.1.fuse, .bool R.1.off] (by rfl) (by rfl) _ _ (b9_5.upd hU1 hg89) rfl (rdrow_one R.1 hl5.at_) (by kernel_rfl) ?_
        intro y2 hB2 hU2 hz2
        have hy2 := And.intro (hy1.1.upd hU2 (fun e => hs5.1.ne_ b9_5 (by decide) e)) (hy1.2.upd hU2 (fun e => hs5.2.ne_ b9_5 (by decide) e))
        refine hK.out _ _ hy2 ?_
        have hly := (hl5.store hU1 (fun q hq e => hl5.at_.ne b8_5 (by decide) (by decide) (e ▸ hq)) hg8).store hU2 (fun q hq e => hl5.at_.ne b9_5 (by decide) (by decide) (e ▸ hq)) hg9
        have HZ := Lib.hid (show Boxed9 w3 y2 vl vw vl' vw' R (wc1.heap.size + 1) (wc1).heap.size from ⟨hB1.upd hU2 (Ne.symm hg89), hB2, hly, hg8, hg9, Ne.symm hg89⟩)
        clear hK hB1 hU1 hz1 hB2 hU2 hz2 hly hy1
        refine wpAnyT_take (i := 19) (v := ?_) rfl (by kernel_rfl) (by kernel_rfl) (by kernel_rfl) (by kernel_rfl) (fun _ _ _ h => h) (takes_yield rfl (Or.inl ⟨by rfl, ?_⟩)) (by assumption) (by kernel_rfl) ?_
        rotate_left 1
        · intro w' hSw; go_split_ands; first | (go_simp; done) | (go_simp; rfl) | rfl
        simp only [Act.put, List.getElem_toArray, List.getElem_cons_zero, List.getElem_cons_succ, List.setIfInBounds_toArray, List.set_cons_zero, List.set_cons_succ]
        refine wpAnyT_done (by kernel_rfl) ?_ _
        refine NoPanic.normal ?_
        go_wp2_with fail
        go_meet
        exact ⟨_, _, vl', vw', rfl, rfl, rfl, HZ.out⟩
    · skip
      go_simp
      have hs6 := And.intro (hS0.1.alloc (.cells zeroKp 39)) (hS0.2.alloc (.cells zeroKp 39))
      have hu6 := hU0.alloc (.cells zeroKp 39)
      refine hK.out _ _ hs6 ?_
      have b8_6 := Blk.new (w3.drew) 39 zeroKp
      have n8_6 := hU0.size
      clear hK
      refine wpAnyT_two (i := 10) (j := 16) (by kernel_rfl) rfl rfl (fun K hK => ?_) (fun K hK => ?_)
      · skip
        go_simp
        refine (hrp.out _ hu6).mono ?_
        rintro e wc7 ⟨vl', vw', rfl, hl7⟩
        have hs7 := And.intro (hs6.1.upd hl7.upd (fun e => e)) (hs6.2.upd hl7.upd (fun e => e))
        have hu7 := hu6.then hl7.upd (fun _ e => e.elim)
        refine hK.out _ _ hs7 ?_
        have b8_7 := b8_6.upd hl7.upd (fun e => e)
        have hl7b := hl7.pre hu6
        clear hK
        refine wpAnyT_take (i := 11) (v := ?_) rfl (by kernel_rfl) (by kernel_rfl) (by kernel_rfl) (by kernel_rfl) (fun _ _ _ h => h) (takes_yield rfl (Or.inl ⟨by rfl, ?_⟩)) (by assumption) (by kernel_rfl) ?_
        rotate_left 1
        · intro w' hSw; go_split_ands; first | (go_simp; done) | (go_simp; rfl) | rfl
        simp only [Act.put, List.getElem_toArray, List.getElem_cons_zero, List.getElem_cons_succ, List.setIfInBounds_toArray, List.set_cons_zero, List.set_cons_succ]
        refine wpAnyT_take (i := 12) (v := ?_) rfl (by kernel_rfl) (by kernel_rfl) (by kernel_rfl) (by kernel_rfl) (fun _ _ _ h => h) (takes_yield rfl (Or.inl ⟨by rfl, ?_⟩)) (by assumption) (by kernel_rfl) ?_
        rotate_left 1
        · intro w' hSw; go_split_ands; first | (go_simp; done) | (go_simp; rfl) | rfl
        simp only [Act.put, List.getElem_toArray, List.getElem_cons_zero, List.getElem_cons_succ, List.setIfInBounds_toArray, List.set_cons_zero, List.set_cons_succ]
        refine wpAnyT_take (i := 13) (v := ?_) rfl (by kernel_rfl) (by kernel_rfl) (by kernel_rfl) (by kernel_rfl) (fun _ _ _ h => h) (takes_yield rfl (Or.inl ⟨by rfl, ?_⟩)) (by assumption) (by kernel_rfl) ?_
        rotate_left 1
        · intro w' hSw; go_split_ands; first | (go_simp; done) | (go_simp; rfl) | rfl
        simp only [Act.put, List.getElem_toArray, List.getElem_cons_zero, List.getElem_cons_succ, List.setIfInBounds_toArray, List.set_cons_zero, List.set_cons_succ]
        refine wpAnyT_take (i := 14) (v := ?_) rfl (by kernel_rfl) (by kernel_rfl) (by kernel_rfl) (by kernel_rfl) (fun _ _ _ h => h) (takes_yield rfl (Or.inl ⟨by rfl, ?_⟩)) (by assumption) (by kernel_rfl) ?_
        rotate_left 1
        · intro w' hSw; go_split_ands; first | (go_simp; done) | (go_simp; rfl) | rfl
        simp only [Act.put, List.getElem_toArray, List.getElem_cons_zero, List.getElem_cons_succ, List.setIfInBounds_toArray, List.set_cons_zero, List.set_cons_succ]
        refine wpAnyT_one (i := 16) (by kernel_rfl) rfl (fun K hK => ?_)
        go_simp
        have hs8 := And.intro (hs7.1.alloc (.cells zeroRd 32)) (hs7.2.alloc (.cells zeroRd 32))
        have hu8 := hu7.alloc (.cells zeroRd 32)
        refine hK.out _ _ hs8 ?_
        have b8_8 := b8_7.alloc (.cells zeroRd 32)
        have b9_8 := Blk.new (wc7) 32 zeroRd
        have n9_8 := hu7.size
        have hl8 := hl7b.post ((Upd.refl (fun _ => False) (wc7)).alloc (.cells zeroRd 32))
        clear hK
        refine wpAnyT_one (i := 17) (by kernel_rfl) rfl (fun K hK => ?_)
        refine step_store_all (by rfl) 39 _ _ (by rfl) (w3.drew).heap.size R.2.1.row (by rfl) (by rfl) _ _ b8_8 rfl R.2.1.row_one (by kernel_rfl) ?_
        intro y1 hB1 hU1 hz1
        have hg8 : w3.heap.size ≤ (w3.drew).heap.size := n8_6
        have hg9 : w3.heap.size ≤ (wc7).heap.size := n9_8
        have hg89 : (wc7).heap.size ≠ (w3.drew).heap.size := b9_8.ne_ b8_8 (by decide)
        have hy1 := And.intro (hs8.1.upd hU1 (fun e => hs8.1.ne_ b8_8 (by decide) e)) (hs8.2.upd hU1 (fun e => hs8.2.ne_ b8_8 (by decide) e))
        refine hK.out _ _ hy1 ?_
        clear hK
        refine wpAnyT_one (i := 18) (by kernel_rfl) rfl (fun K hK => ?_)
        refine step_store_all (by rfl) 32 _ _ (by rfl) (wc7).heap.size #[vl', vw', .int .i64 R.1.fuse, .bool R.1.off] (by rfl) (by rfl) _ _ (b9_8.upd hU1 hg89) rfl (rdrow_one R.1 hl8.at_) (by kernel_rfl) ?_
        intro y2 hB2 hU2 hz2
        have hy2 := And.intro (hy1.1.upd hU2 (fun e => hs8.1.ne_ b9_8 (by decide) e)) (hy1.2.upd hU2 (fun e => hs8.2.ne_ b9_8 (by decide) e))
        refine hK.out _ _ hy2 ?_
        have hly := (hl8.store hU1 (fun q hq e => hl8.at_.ne b8_8 (by decide) (by decide) (e ▸ hq)) hg8).store hU2 (fun q hq e => hl8.at_.ne b9_8 (by decide) (by decide) (e ▸ hq)) hg9
        have HZ := Lib.hid (show Boxed9 w3 y2 vl vw vl' vw' R (w3.drew).heap.size (wc7).heap.size from ⟨hB1.upd hU2 (Ne.symm hg89), hB2, hly, hg8, hg9, Ne.symm hg89⟩)
        clear hK hB1 hU1 hz1 hB2 hU2 hz2 hly hy1
        refine wpAnyT_take (i := 19) (v := ?_) rfl (by kernel_rfl) (by kernel_rfl) (by kernel_rfl) (by kernel_rfl) (fun _ _ _ h => h) (takes_yield rfl (Or.inl ⟨by rfl, ?_⟩)) (by assumption) (by kernel_rfl) ?_
        rotate_left 1
        · intro w' hSw; go_split_ands; first | (go_simp; done) | (go_simp; rfl) | rfl
        simp only [Act.put, List.getElem_toArray, List.getElem_cons_zero, List.getElem_cons_succ, List.setIfInBounds_toArray, List.set_cons_zero, List.set_cons_succ]
        refine wpAnyT_done (by kernel_rfl) ?_ _
        refine NoPanic.normal ?_
        go_wp2_with fail
        go_meet
        exact ⟨_, _, vl', vw', rfl, rfl, rfl, HZ.out⟩
      · skip
        go_simp
        have hs9 := And.intro (hs6.1.alloc (.cells zeroRd 32)) (hs6.2.alloc (.cells zeroRd 32))
        have hu9 := hu6.alloc (.cells zeroRd 32)
        refine hK.out _ _ hs9 ?_
        have b8_9 := b8_6.alloc (.cells zeroRd 32)
        have e9_9 : (w3.drew.alloc (.cells zeroKp 39)).heap.size = w3.heap.size + 1 := by simp
        have b9_9 := Blk.new (w3.drew.alloc (.cells zeroKp 39)) 32 zeroRd
        have n9_9 := hu6.size
        rw [e9_9] at b9_9 n9_9
        clear e9_9
        clear hK
        refine wpAnyT_one (i := 10) (by kernel_rfl) rfl (fun K hK => ?_)
        go_simp
        refine (hrp.out _ hu9).mono ?_
        rintro e wc10 ⟨vl', vw', rfl, hl10⟩
        have hs10 := And.intro (hs9.1.upd hl10.upd (fun e => e)) (hs9.2.upd hl10.upd (fun e => e))
        have hu10 := hu9.then hl10.upd (fun _ e => e.elim)
        refine hK.out _ _ hs10 ?_
        have b8_10 := b8_9.upd hl10.upd (fun e => e)
        have b9_10 := b9_9.upd hl10.upd (fun e => e)
        have hl10b := hl10.pre hu9
        clear hK
        refine wpAnyT_take (i := 11) (v := ?_) rfl (by kernel_rfl) (by kernel_rfl) (by kernel_rfl) (by kernel_rfl) (fun _ _ _ h => h) (takes_yield rfl (Or.inl ⟨by rfl, ?_⟩)) (by assumption) (by kernel_rfl) ?_
        rotate_left 1
        · intro w' hSw; go_split_ands; first | (go_simp; done) | (go_simp; rfl) | rfl
        simp only [Act.put, List.getElem_toArray, List.getElem_cons_zero, List.getElem_cons_succ, List.setIfInBounds_toArray, List.set_cons_zero, List.set_cons_succ]
        refine wpAnyT_take (i := 12) (v := ?_) rfl (by kernel_rfl) (by kernel_rfl) (by kernel_rfl) (by kernel_rfl) (fun _ _ _ h => h) (takes_yield rfl (Or.inl ⟨by rfl, ?_⟩)) (by assumption) (by kernel_rfl) ?_
        rotate_left 1
        · intro w' hSw; go_split_ands; first | (go_simp; done) | (go_simp; rfl) | rfl
        simp only [Act.put, List.getElem_toArray, List.getElem_cons_zero, List.getElem_cons_succ, List.setIfInBounds_toArray, List.set_cons_zero, List.set_cons_succ]
        refine wpAnyT_take (i := 13) (v := ?_) rfl (by kernel_rfl) (by kernel_rfl) (by kernel_rfl) (by kernel_rfl) (fun _ _ _ h => h) (takes_yield rfl (Or.inl ⟨by rfl, ?_⟩)) (by assumption) (by kernel_rfl) ?_
        rotate_left 1
        · intro w' hSw; go_split_ands; first | (go_simp; done) | (go_simp; rfl) | rfl
        simp only [Act.put, List.getElem_toArray, List.getElem_cons_zero, List.getElem_cons_succ, List.setIfInBounds_toArray, List.set_cons_zero, List.set_cons_succ]
        refine wpAnyT_take (i := 14) (v := ?_) rfl (by kernel_rfl) (by kernel_rfl) (by kernel_rfl) (by kernel_rfl) (fun _ _ _ h => h) (takes_yield rfl (Or.inl ⟨by rfl, ?_⟩)) (by assumption) (by kernel_rfl) ?_
        rotate_left 1
        · intro w' hSw; go_split_ands; first | (go_simp; done) | (go_simp; rfl) | rfl
        simp only [Act.put, List.getElem_toArray, List.getElem_cons_zero, List.getElem_cons_succ, List.setIfInBounds_toArray, List.set_cons_zero, List.set_cons_succ]
        refine wpAnyT_one (i := 17) (by kernel_rfl) rfl (fun K hK => ?_)
        refine step_store_all (by rfl) 39 _ _ (by rfl) (w3.drew).heap.size R.2.1.row (by rfl) (by rfl) _ _ b8_10 rfl R.2.1.row_one (by kernel_rfl) ?_
        intro y1 hB1 hU1 hz1
        have hg8 : w3.heap.size ≤ (w3.drew).heap.size := n8_6
        have hg9 : w3.heap.size ≤ (w3.heap.size + 1) := n9_9
        have hg89 : (w3.heap.size + 1) ≠ (w3.drew).heap.size := b9_10.ne_ b8_10 (by decide)
        have hy1 := And.intro (hs10.1.upd hU1 (fun e => hs10.1.ne_ b8_10 (by decide) e)) (hs10.2.upd hU1 (fun e => hs10.2.ne_ b8_10 (by decide) e))
        refine hK.out _ _ hy1 ?_
        clear hK
        refine wpAnyT_one (i := 18) (by kernel_rfl) rfl (fun K hK => ?_)
        refine step_store_all (by rfl) 32 _ _ (by rfl) (w3.heap.size + 1) #[vl', vw', .int .i64 R.1.fuse, .bool R.1.off] (by rfl) (by rfl) _ _ (b9_10.upd hU1 hg89) rfl (rdrow_one R.1 hl10b.at_) (by kernel_rfl) ?_
        intro y2 hB2 hU2 hz2
        have hy2 := And.intro (hy1.1.upd hU2 (fun e => hs10.1.ne_ b9_10 (by decide) e)) (hy1.2.upd hU2 (fun e => hs10.2.ne_ b9_10 (by decide) e))
        refine hK.out _ _ hy2 ?_
        have hly := (hl10b.store hU1 (fun q hq e => hl10b.at_.ne b8_10 (by decide) (by decide) (e ▸ hq)) hg8).store hU2 (fun q hq e => hl10b.at_.ne b9_10 (by decide) (by decide) (e ▸ hq)) hg9
        have HZ := Lib.hid (show Boxed9 w3 y2 vl vw vl' vw' R (w3.drew).heap.size (w3.heap.size + 1) from ⟨hB1.upd hU2 (Ne.symm hg89), hB2, hly, hg8, hg9, Ne.symm hg89⟩)
        clear hK hB1 hU1 hz1 hB2 hU2 hz2 hly hy1
        refine wpAnyT_take (i := 19) (v := ?_) rfl (by kernel_rfl) (by kernel_rfl) (by kernel_rfl) (by kernel_rfl) (fun _ _ _ h => h) (takes_yield rfl (Or.inl ⟨by rfl, ?_⟩)) (by assumption) (by kernel_rfl) ?_
        rotate_left 1
        · intro w' hSw; go_split_ands; first | (go_simp; done) | (go_simp; rfl) | rfl
        simp only [Act.put, List.getElem_toArray, List.getElem_cons_zero, List.getElem_cons_succ, List.setIfInBounds_toArray, List.set_cons_zero, List.set_cons_succ]
        refine wpAnyT_done (by kernel_rfl) ?_ _
        refine NoPanic.normal ?_
        go_wp2_with fail
        go_meet
        exact ⟨_, _, vl', vw', rfl, rfl, rfl, HZ.out⟩
    · skip
      go_simp
      have hs11 := And.intro (hS0.1.alloc (.cells zeroRd 32)) (hS0.2.alloc (.cells zeroRd 32))
      have hu11 := hU0.alloc (.cells zeroRd 32)
      refine hK.out _ _ hs11 ?_
      have b9_11 := Blk.new (w3.drew) 32 zeroRd
      have n9_11 := hU0.size
      clear hK
      refine wpAnyT_two (i := 10) (j := 15) (by kernel_rfl) rfl rfl (fun K hK => ?_) (fun K hK => ?_)
      · skip
        go_simp
        refine (hrp.out _ hu11).mono ?_
        rintro e wc12 ⟨vl', vw', rfl, hl12⟩
        have hs12 := And.intro (hs11.1.upd hl12.upd (fun e => e)) (hs11.2.upd hl12.upd (fun e => e))
        have hu12 := hu11.then hl12.upd (fun _ e => e.elim)
        refine hK.out _ _ hs12 ?_
        have b9_12 := b9_11.upd hl12.upd (fun e => e)
        have hl12b := hl12.pre hu11
        clear hK
        refine wpAnyT_take (i := 11) (v := ?_) rfl (by kernel_rfl) (by kernel_rfl) (by kernel_rfl) (by kernel_rfl) (fun _ _ _ h => h) (takes_yield rfl (Or.inl ⟨by rfl, ?_⟩)) (by assumption) (by kernel_rfl) ?_
        rotate_left 1
        · intro w' hSw; go_split_ands; first | (go_simp; done) | (go_simp; rfl) | rfl
        simp only [Act.put, List.getElem_toArray, List.getElem_cons_zero, List.getElem_cons_succ, List.setIfInBounds_toArray, List.set_cons_zero, List.set_cons_succ]
        refine wpAnyT_take (i := 12) (v := ?_) rfl (by kernel_rfl) (by kernel_rfl) (by kernel_rfl) (by kernel_rfl) (fun _ _ _ h => h) (takes_yield rfl (Or.inl ⟨by rfl, ?_⟩)) (by assumption) (by kernel_rfl) ?_
        rotate_left 1
        · intro w' hSw; go_split_ands; first | (go_simp; done) | (go_simp; rfl) | rfl
        simp only [Act.put, List.getElem_toArray, List.getElem_cons_zero, List.getElem_cons_succ, List.setIfInBounds_toArray, List.set_cons_zero, List.set_cons_succ]
        refine wpAnyT_take (i := 13) (v := ?_) rfl (by kernel_rfl) (by kernel_rfl) (by kernel_rfl) (by kernel_rfl) (fun _ _ _ h => h) (takes_yield rfl (Or.inl ⟨by rfl, ?_⟩)) (by assumption) (by kernel_rfl) ?_
        rotate_left 1
        · intro w' hSw; go_split_ands; first | (go_simp; done) | (go_simp; rfl) | rfl
        simp only [Act.put, List.getElem_toArray, List.getElem_cons_zero, List.getElem_cons_succ, List.setIfInBounds_toArray, List.set_cons_zero, List.set_cons_succ]
        refine wpAnyT_take (i := 14) (v := ?_) rfl (by kernel_rfl) (by kernel_rfl) (by kernel_rfl) (by kernel_rfl) (fun _ _ _ h => h) (takes_yield rfl (Or.inl ⟨by rfl, ?_⟩)) (by assumption) (by kernel_rfl) ?_
        rotate_left 1
        · intro w' hSw; go_split_ands; first | (go_simp; done) | (go_simp; rfl) | rfl
        simp only [Act.put, List.getElem_toArray, List.getElem_cons_zero, List.getElem_cons_succ, List.setIfInBounds_toArray, List.set_cons_zero, List.set_cons_succ]
        refine wpAnyT_one (i := 15) (by kernel_rfl) rfl (fun K hK => ?_)
        go_simp
        have hs13 := And.intro (hs12.1.alloc (.cells zeroKp 39)) (hs12.2.alloc (.cells zeroKp 39))
        have hu13 := hu12.alloc (.cells zeroKp 39)
        refine hK.out _ _ hs13 ?_
        have b9_13 := b9_12.alloc (.cells zeroKp 39)
        have b8_13 := Blk.new (wc12) 39 zeroKp
        have n8_13 := hu12.size
        have hl13 := hl12b.post ((Upd.refl (fun _ => False) (wc12)).alloc (.cells zeroKp 39))
        clear hK
        refine wpAnyT_one (i := 17) (by kernel_rfl) rfl (fun K hK => ?_)
        refine step_store_all (by rfl) 39 _ _ (by rfl) (wc12).heap.size R.2.1.row (by rfl) (by rfl) _ _ b8_13 rfl R.2.1.row_one (by kernel_rfl) ?_
        intro y1 hB1 hU1 hz1
        have hg8 : w3.heap.size ≤ (wc12).heap.size := n8_13
        have hg9 : w3.heap.size ≤ (w3.drew).heap.size := n9_11
        have hg89 : (w3.drew).heap.size ≠ (wc12).heap.size := b9_13.ne_ b8_13 (by decide)
        have hy1 := And.intro (hs13.1.upd hU1 (fun e => hs13.1.ne_ b8_13 (by decide) e)) (hs13.2.upd hU1 (fun e => hs13.2.ne_ b8_13 (by decide) e))
        refine hK.out _ _ hy1 ?_
        clear hK
        refine wpAnyT_one (i := 18) (by kernel_rfl) rfl (fun K hK => ?_)
        refine step_store_all (by rfl) 32 _ _ (by rfl) (w3.drew).heap.size #[vl', vw', .int .i64 R.1.fuse, .bool R.1.off] (by rfl) (by rfl) _ _ (b9_13.upd hU1 hg89) rfl (rdrow_one R.1 hl13.at_) (by kernel_rfl) ?_
        intro y2 hB2 hU2 hz2
        have hy2 := And.intro (hy1.1.upd hU2 (fun e => hs13.1.ne_ b9_13 (by decide) e)) (hy1.2.upd hU2 (fun e => hs13.2.ne_ b9_13 (by decide) e))
        refine hK.out _ _ hy2 ?_
        have hly := (hl13.store hU1 (fun q hq e => hl13.at_.ne b8_13 (by decide) (by decide) (e ▸ hq)) hg8).store hU2 (fun q hq e => hl13.at_.ne b9_13 (by decide) (by decide) (e ▸ hq)) hg9
        have HZ := Lib.hid (show Boxed9 w3 y2 vl vw vl' vw' R (wc12).heap.size (w3.drew).heap.size from ⟨hB1.upd hU2 (Ne.symm hg89), hB2, hly, hg8, hg9, Ne.symm hg89⟩)
        clear hK hB1 hU1 hz1 hB2 hU2 hz2 hly hy1
        refine wpAnyT_take (i := 19) (v := ?_) rfl (by kernel_rfl) (by kernel_rfl) (by kernel_rfl) (by kernel_rfl) (fun _ _ _ h => h) (takes_yield rfl (Or.inl ⟨by rfl, ?_⟩)) (by assumption) (by kernel_rfl) ?_
        rotate_left 1
        · intro w' hSw; go_split_ands; first | (go_simp; done) | (go_simp; rfl) | rfl
        simp only [Act.put, List.getElem_toArray, List.getElem_cons_zero, List.getElem_cons_succ, List.setIfInBounds_toArray, List.set_cons_zero, List.set_cons_succ]
        refine wpAnyT_done (by kernel_rfl) ?_ _
        refine NoPanic.normal ?_
        go_wp2_with fail
        go_meet
        exact ⟨_, _, vl', vw', rfl, rfl, rfl, HZ.out⟩
      · skip
        go_simp
        have hs14 := And.intro (hs11.1.alloc (.cells zeroKp 39)) (hs11.2.alloc (.cells zeroKp 39))
        have hu14 := hu11.alloc (.cells zeroKp 39)
        refine hK.out _ _ hs14 ?_
        have b9_14 := b9_11.alloc (.cells zeroKp 39)
        have e8_14 : (w3.drew.alloc (.cells zeroRd 32)).heap.size = w3.heap.size + 1 := by simp
        have b8_14 := Blk.new (w3.drew.alloc (.cells zeroRd 32)) 39 zeroKp
        have n8_14 := hu11.size
        rw [e8_14] at b8_14 n8_14
        clear e8_14
        clear hK
        refine wpAnyT_one (i := 10) (by kernel_rfl) rfl (fun K hK => ?_)
        go_simp
        refine (hrp.out _ hu14).mono ?_
        rintro e wc15 ⟨vl', vw', rfl, hl15⟩
        have hs15 := And.intro (hs14.1.upd hl15.upd (fun e => e)) (hs14.2.upd hl15.upd (fun e => e))
        have hu15 := hu14.then hl15.upd (fun _ e => e.elim)
        refine hK.out _ _ hs15 ?_
        have b9_15 := b9_14.upd hl15.upd (fun e => e)
        have b8_15 := b8_14.upd hl15.upd (fun e => e)
        have hl15b := hl15.pre hu14
        clear hK
        refine wpAnyT_take (i := 11) (v := ?_) rfl (by kernel_rfl) (by kernel_rfl) (by kernel_rfl) (by kernel_rfl) (fun _ _ _ h => h) (takes_yield rfl (Or.inl ⟨by rfl, ?_⟩)) (by assumption) (by kernel_rfl) ?_
        rotate_left 1
        · intro w' hSw; go_split_ands; first | (go_simp; done) | (go_simp; rfl) | rfl
        simp only [Act.put, List.getElem_toArray, List.getElem_cons_zero, List.getElem_cons_succ, List.setIfInBounds_toArray, List.set_cons_zero, List.set_cons_succ]
        refine wpAnyT_take (i := 12) (v := ?_) rfl (by kernel_rfl) (by kernel_rfl) (by kernel_rfl) (by kernel_rfl) (fun _ _ _ h => h) (takes_yield rfl (Or.inl ⟨by rfl, ?_⟩)) (by assumption) (by kernel_rfl) ?_
        rotate_left 1
        · intro w' hSw; go_split_ands; first | (go_simp; done) | (go_simp; rfl) | rfl
        simp only [Act.put, List.getElem_toArray, List.getElem_cons_zero, List.getElem_cons_succ, List.setIfInBounds_toArray, List.set_cons_zero, List.set_cons_succ]
        refine wpAnyT_take (i := 13) (v := ?_) rfl (by kernel_rfl) (by kernel_rfl) (by kernel_rfl) (by kernel_rfl) (fun _ _ _ h => h) (takes_yield rfl (Or.inl ⟨by rfl, ?_⟩)) (by assumption) (by kernel_rfl) ?_
        rotate_left 1
        · intro w' hSw; go_split_ands; first | (go_simp; done) | (go_simp; rfl) | rfl
        simp only [Act.put, List.getElem_toArray, List.getElem_cons_zero, List.getElem_cons_succ, List.setIfInBounds_toArray, List.set_cons_zero, List.set_cons_succ]
        refine wpAnyT_take (i := 14) (v := ?_) rfl (by kernel_rfl) (by kernel_rfl) (by kernel_rfl) (by kernel_rfl) (fun _ _ _ h => h) (takes_yield rfl (Or.inl ⟨by rfl, ?_⟩)) (by assumption) (by kernel_rfl) ?_
        rotate_left 1
        · intro w' hSw; go_split_ands; first | (go_simp; done) | (go_simp; rfl) | rfl
        simp only [Act.put, List.getElem_toArray, List.getElem_cons_zero, List.getElem_cons_succ, List.setIfInBounds_toArray, List.set_cons_zero, List.set_cons_succ]
        refine wpAnyT_one (i := 17) (by kernel_rfl) rfl (fun K hK => ?_)
        refine step_store_all (by rfl) 39 _ _ (by rfl) (w3.heap.size + 1) R.2.1.row (by rfl) (by rfl) _ _ b8_15 rfl R.2.1.row_one (by kernel_rfl) ?_
        intro y1 hB1 hU1 hz1
        have hg8 : w3.heap.size ≤ (w3.heap.size + 1) := n8_14
        have hg9 : w3.heap.size ≤ (w3.drew).heap.size := n9_11
        have hg89 : (w3.drew).heap.size ≠ (w3.heap.size + 1) := b9_15.ne_ b8_15 (by decide)
        have hy1 := And.intro (hs15.1.upd hU1 (fun e => hs15.1.ne_ b8_15 (by decide) e)) (hs15.2.upd hU1 (fun e => hs15.2.ne_ b8_15 (by decide) e))
        refine hK.out _ _ hy1 ?_
        clear hK
        refine wpAnyT_one (i := 18) (by kernel_rfl) rfl (fun K hK => ?_)
        refine step_store_all (by rfl) 32 _ _ (by rfl) (w3.drew).heap.size #[vl', vw', .int .i64 R.1.fuse, .bool R.1.off] (by rfl) (by rfl) _ _ (b9_15.upd hU1 hg89) rfl (rdrow_one R.1 hl15b.at_) (by kernel_rfl) ?_
        intro y2 hB2 hU2 hz2
        have hy2 := And.intro (hy1.1.upd hU2 (fun e => hs15.1.ne_ b9_15 (by decide) e)) (hy1.2.upd hU2 (fun e => hs15.2.ne_ b9_15 (by decide) e))
        refine hK.out _ _ hy2 ?_
        have hly := (hl15b.store hU1 (fun q hq e => hl15b.at_.ne b8_15 (by decide) (by decide) (e ▸ hq)) hg8).store hU2 (fun q hq e => hl15b.at_.ne b9_15 (by decide) (by decide) (e ▸ hq)) hg9
        have HZ := Lib.hid (show Boxed9 w3 y2 vl vw vl' vw' R (w3.heap.size + 1) (w3.drew).heap.size from ⟨hB1.upd hU2 (Ne.symm hg89), hB2, hly, hg8, hg9, Ne.symm hg89⟩)
        clear hK hB1 hU1 hz1 hB2 hU2 hz2 hly hy1
        refine wpAnyT_take (i := 19) (v := ?_) rfl (by kernel_rfl) (by kernel_rfl) (by kernel_rfl) (by kernel_rfl) (fun _ _ _ h => h) (takes_yield rfl (Or.inl ⟨by rfl, ?_⟩)) (by assumption) (by kernel_rfl) ?_
        rotate_left 1
        · intro w' hSw; go_split_ands; first | (go_simp; done) | (go_simp; rfl) | rfl
        simp only [Act.put, List.getElem_toArray, List.getElem_cons_zero, List.getElem_cons_succ, List.setIfInBounds_toArray, List.set_cons_zero, List.set_cons_succ]
        refine wpAnyT_done (by kernel_rfl) ?_ _
        refine NoPanic.normal ?_
        go_wp2_with fail
        go_meet
        exact ⟨_, _, vl', vw', rfl, rfl, rfl, HZ.out⟩
  case rest =>
    obtain ⟨g8, g9, vl', vw', rfl, rfl, rfl, hBo⟩ := hcut
    have HBo := Lib.hid hBo
    clear hBo
    obtain ⟨hq1, hq2, hq3, hq4⟩ := HQ.out
    have hRQ1 : R.2.1 = Q.2.1 := by rw [hq2]
    have hRQ2 : R.2.2 = Q.2.2 := by rw [hq2]
    rename World => wx
    have hbx := H4.out.1.1.upd HBo.out.left.upd (fun e => e)
    have hP : PlayAt w0 wx p Q.1 vl' vw' R.1 := ⟨H4.out.2.1.ref HBo.out.left, HBo.out.left.at_, hq1⟩
    have hKp : KpS w0 wx p b R.2.1 := by rw [hRQ1]; exact H4.out.2.2.1.still HBo.out.left.upd
    have hfit : R.2.1.fits := by rw [hRQ1]; exact hq4
    have heq : Hid (R.2.2 = Q.2.2) := hRQ2
    have HX := Lib.hid (And.intro hbx (And.intro hP (And.intro hKp (And.intro hfit hq3))))
    have hlow := H4.out.2.2.2.2
    have HL := Lib.hid hlow
    obtain ⟨R1, K1, E1⟩ := R
    obtain ⟨Q1, Q2, E2⟩ := Q
    simp only at heq HX HBo ⊢
    obtain rfl : E1 = E2 := heq.out
    clear hq1 hq2 hq3 hq4 hRQ1 hRQ2 hbx hP hKp hfit heq hlow hrp HQ H4 hput hHr
    go_upto_region 7 with fail
    refine wp_region_noPanic ?_
    refine wp_region_T (S := fun w' => Blk w' g8 39 K1.row ∧ Blk w' g9 32 #[vl', vw', .int .i64 R1.fuse, .bool R1.off]) (T := fun _ => false) (by kernel_rfl) ?_
    have hS0 := And.intro HBo.out.b8.drew HBo.out.b9.drew
    refine wpAnyT_take (i := 0) (v := ?_) rfl (by kernel_rfl) (by kernel_rfl) (by kernel_rfl) (by kernel_rfl) (fun _ _ _ h => h) (takes_yield rfl (Or.inl ⟨by rfl, ?_⟩)) (by assumption) (by kernel_rfl) ?_
    rotate_left 1
    · intro w' hSw; have hcw := hSw.1.cells6; have hca := hSw.2.cells4; go_split_ands; first | (go_simp; done) | (go_simp; rfl) | rfl
    simp only [Act.put, List.getElem_toArray, List.getElem_cons_zero, List.setIfInBounds_toArray, List.set_cons_zero, List.set_cons_succ]
    refine wpAnyT_take (i := 1) (v := ?_) rfl (by kernel_rfl) (by kernel_rfl) (by kernel_rfl) (by kernel_rfl) (fun _ _ _ h => h) (takes_yield rfl (Or.inl ⟨by rfl, ?_⟩)) (by assumption) (by kernel_rfl) ?_
    rotate_left 1
    · intro w' hSw; have hcw := hSw.1.cells6; have hca := hSw.2.cells4; go_split_ands; first | (go_simp; done) | (go_simp; rfl) | rfl
    simp only [Act.put, List.getElem_toArray, List.getElem_cons_zero, List.getElem_cons_succ, List.setIfInBounds_toArray, List.set_cons_zero, List.set_cons_succ]
    refine wpAnyT_take (i := 2) (v := ?_) rfl (by kernel_rfl) (by kernel_rfl) (by kernel_rfl) (by kernel_rfl) (fun _ _ _ h => h) (takes_yield rfl (Or.inl ⟨by rfl, ?_⟩)) (by assumption) (by kernel_rfl) ?_
    rotate_left 1
    · intro w' hSw; have hcw := hSw.1.cells6; have hca := hSw.2.cells4; go_split_ands; first | (go_simp; done) | (go_simp; rfl) | rfl
    simp only [Act.put, List.getElem_toArray, List.getElem_cons_zero, List.getElem_cons_succ, List.setIfInBounds_toArray, List.set_cons_zero, List.set_cons_succ]
    refine wpAnyT_take (i := 3) (v := ?_) rfl (by kernel_rfl) (by kernel_rfl) (by kernel_rfl) (by kernel_rfl) (fun _ _ _ h => h) (takes_yield rfl (Or.inl ⟨by rfl, ?_⟩)) (by assumption) (by kernel_rfl) ?_
    rotate_left 1
    · intro w' hSw; have hcw := hSw.1.cells6; have hca := hSw.2.cells4; go_split_ands; first | (go_simp; done) | (go_simp; rfl) | rfl
    simp only [Act.put, List.getElem_toArray, List.getElem_cons_zero, List.getElem_cons_succ, List.setIfInBounds_toArray, List.set_cons_zero, List.set_cons_succ]
    refine wpAnyT_take (i := 4) (v := ?_) rfl (by kernel_rfl) (by kernel_rfl) (by kernel_rfl) (by kernel_rfl) (fun _ _ _ h => h) (takes_yield rfl (Or.inl ⟨by rfl, ?_⟩)) (by assumption) (by kernel_rfl) ?_
    rotate_left 1
    · intro w' hSw; have hcw := hSw.1.cells6; have hca := hSw.2.cells4; go_split_ands; first | (go_simp; done) | (go_simp; rfl) | rfl
    simp only [Act.put, List.getElem_toArray, List.getElem_cons_zero, List.getElem_cons_succ, List.setIfInBounds_toArray, List.set_cons_zero, List.set_cons_succ]
    refine wpAnyT_take (i := 5) (v := ?_) rfl (by kernel_rfl) (by kernel_rfl) (by kernel_rfl) (by kernel_rfl) (fun _ _ _ h => h) (takes_yield rfl (Or.inl ⟨by rfl, ?_⟩)) (by assumption) (by kernel_rfl) ?_
    rotate_left 1
    · intro w' hSw; have hcw := hSw.1.cells6; have hca := hSw.2.cells4; go_split_ands; first | (go_simp; done) | (go_simp; rfl) | rfl
    simp only [Act.put, List.getElem_toArray, List.getElem_cons_zero, List.getElem_cons_succ, List.setIfInBounds_toArray, List.set_cons_zero, List.set_cons_succ]
    refine wpAnyT_one (i := 6) (by kernel_rfl) rfl (fun K hK => ?_)
    refine step_store_part (by rfl) 39 _ _ (by rfl) x 6 K1.row (by rfl) (by rfl) _ _ (row9 p (.pointer (some ⟨b, 0, none⟩)) vl vw r K1 0) HX.out.1.drew (by simp) rfl K1.row_one (by kernel_rfl) ?_
    intro y1 hB1 hU1 hz1
    have hS1 := And.intro (hS0.1.upd hU1 (fun e => HX.out.1.drew.ne_ hS0.1 (by decide) e.symm)) (hS0.2.upd hU1 (fun e => HX.out.1.drew.ne_ hS0.2 (by decide) e.symm))
    refine hK.out _ _ hS1 ?_
    clear hK
    refine wpAnyT_take (i := 7) (v := ?_) rfl (by kernel_rfl) (by kernel_rfl) (by kernel_rfl) (by kernel_rfl) (fun _ _ _ h => h) (takes_yield rfl (Or.inl ⟨by rfl, ?_⟩)) (by assumption) (by kernel_rfl) ?_
    rotate_left 1
    · intro w' hSw; go_split_ands; first | (go_simp; done) | (go_simp; rfl) | rfl
    simp only [Act.put, List.getElem_toArray, List.getElem_cons_zero, List.getElem_cons_succ, List.setIfInBounds_toArray, List.set_cons_zero, List.set_cons_succ]
    refine wpAnyT_take (i := 8) (v := ?_) rfl (by kernel_rfl) (by kernel_rfl) (by kernel_rfl) (by kernel_rfl) (fun _ _ _ h => h) (takes_yield rfl (Or.inl ⟨by rfl, ?_⟩)) (by assumption) (by kernel_rfl) ?_
    rotate_left 1
    · intro w' hSw; go_split_ands; first | (go_simp; done) | (go_simp; rfl) | rfl
    simp only [Act.put, List.getElem_toArray, List.getElem_cons_zero, List.getElem_cons_succ, List.setIfInBounds_toArray, List.set_cons_zero, List.set_cons_succ]
    refine wpAnyT_one (i := 9) (by kernel_rfl) rfl (fun K hK => ?_)
    refine step_store_part (by rfl) 32 _ _ (by rfl) x 2 #[vl', vw', .int .i64 R1.fuse, .bool R1.off] (by rfl) (by rfl) _ _ (row9 p (.pointer (some ⟨b, 0, none⟩)) vl' vw' R1 K1 0) hB1 (by simp) rfl (rdrow_one R1 HX.out.2.1.rd) (by kernel_rfl) ?_
    intro y2 hB2 hU2 hz2
    have hS2 := And.intro (hS1.1.upd hU2 (fun e => HX.out.1.drew.ne_ hS0.1 (by decide) e.symm)) (hS1.2.upd hU2 (fun e => HX.out.1.drew.ne_ hS0.2 (by decide) e.symm))
    refine hK.out _ _ hS2 ?_
    have hUx : Upd (· = x) wx y2 := ((Upd.refl (· = x) wx).drew.then hU1 (fun _ e => .inl e)).then hU2 (fun _ e => .inl e)
    have hE : W9 w0 y2 x p Q1 vl' vw' R1 (.pointer (some ⟨b, 0, none⟩)) K1 0 :=
      ⟨HX.out.2.1.own HX.out.1 (by decide) (by decide) (by decide) HL.out hUx, hB2, HL.out, .inl ⟨rfl, HX.out.2.2.2.1, b, rfl, ⟨HX.out.2.2.1.blk.upd hUx (fun e => HX.out.1.ne_ HX.out.2.2.1.blk (by decide) e.symm), HX.out.2.2.1.new⟩⟩⟩
    have HE := Lib.hid hE
    clear hK hS0 hS1 hS2 hB1 hU1 hz1 hB2 hU2 hz2 hUx hE
    refine wpAnyT_done (by kernel_rfl) ?_ _
    refine NoPanic.normal ?_
    go_wp2_with fail
    go_ret
    exact ⟨rfl, Q1, vl', vw', R1, _, K1, 0, HE.out, HX.out.2.2.2.2.1, HX.out.2.2.2.2.2⟩
end
end Go.Proofs.YtnmbhoidnbideaaGreat
