/-
  DiskPlays: all that a disk tells beside the document's. (Printed by mk_play.py.)
-/
import Derived.Test.YtafgohnpnaiomaaPlayD
import Derived.Test.YtafgohnpnaiomaaPlayE
import Derived.Test.YtafgohnpnaiomaaDone7
namespace Go.Proofs.Ytafgohnpnaiomaa
open Go Go.RowKit


set_option maxRecDepth 100000 in
set_option maxHeartbeats 3200000 in
theorem alike_c {w0 w : World} {p : Nat} {d : Dk} {vl vw : Value} {r : Rd} (hP : PlayAt w0 w p d vl vw r) :
    Calls Try.prog 58 #[.pointer (some ⟨p, 0, none⟩), .agg #[vl, vw, .int .i64 r.fuse, .bool r.off]] w fun e w' => e = .returned (.bool true) ∧ Upd (fun _ => False) w w' := by
  have hsec0 : ∀ W, Upd (fun _ => False) w W → Calls Try.prog 48 #[.pointer (some ⟨p, 0, none⟩)] W fun e w' => e = .returned (.int .i64 (r.lasts.length : Int)) ∧ W = w' := fun W hU => by
    rw [hP.is.lasts]
    exact sectors_x (hP.still hU).disks.dks (i := 0) rfl
  have hwai0 : ∀ W, Upd (fun _ => False) w W → Calls Try.prog 32 #[.pointer (some ⟨p, 0, none⟩)] W fun e w' => e = .returned (.int .i64 (r.ws.length : Int)) ∧ Upd (fun _ => False) W w' := fun W hU => by
    rw [hP.is.pend]
    obtain ⟨F, h1, -⟩ := ((hP.still hU).disks.one 0 rfl).ex
    exact waits_c h1
  have hdow0 : ∀ W, Upd (fun _ => False) w W → Calls Try.prog 51 #[.pointer (some ⟨p, 0, none⟩)] W fun e w' => e = .returned (.bool r.off) ∧ W = w' := fun W hU => by
    rw [hP.is.off]
    exact down_x (hP.still hU).disks.dks (i := 0) rfl
  have hrea0 : ∀ W, Upd (fun _ => False) w W → ∀ k : Nat, Calls Try.prog 31 #[.pointer (some ⟨p, 0, none⟩), .int .i64 (k : Int)] W fun e w' => e = .returned (.tuple #[.string (r.read (k : Int)).1, .int .i64 (r.read (k : Int)).2]) ∧ W = w' := fun W hU k => by
    rw [hP.is.read]
    exact read_x (hP.still hU).disks.dks (i := 0) rfl (k : Int)
  have hrrd0 : ∀ W, Upd (fun _ => False) w W → ∀ k : Nat, Calls Try.prog 103 #[.agg #[vl, vw, .int .i64 r.fuse, .bool r.off], .int .i64 (k : Int)] W fun e w' => e = .returned (.tuple #[.string (r.read (k : Int)).1, .int .i64 (r.read (k : Int)).2]) ∧ Upd (fun _ => False) W w' := fun W hU k => rread_c (hP.rd.upd hU) hP.fits (k : Int)
  have hl1 := hP.fits.lasts
  have hl2 := hP.fits.ws
  obtain ⟨A, cap, rfl, -, -⟩ := hP.rd.lasts.shape
  obtain ⟨A2, cap2, rfl, -, -⟩ := hP.rd.ws.shape
  have hsec := Lib.hid hsec0
  have hwai := Lib.hid hwai0
  have hdow := Lib.hid hdow0
  have hrea := Lib.hid hrea0
  have hrrd := Lib.hid hrrd0
  clear hsec0 hwai0 hdow0 hrea0 hrrd0 hP
  obtain ⟨wb, hwb⟩ : ∃ wb, w.alloc (.cells #[.slice A r.lasts.length cap, .slice A2 r.ws.length cap2, .int .i64 r.fuse, .bool r.off] 79) = wb := ⟨_, rfl⟩
  have HB : Hid (Blk wb w.heap.size 79 #[.slice A r.lasts.length cap, .slice A2 r.ws.length cap2, .int .i64 r.fuse, .bool r.off]) := by rw [← hwb]; exact Blk.new w _ _
  have HU : Hid (Upd (fun _ => False) w wb) := by rw [← hwb]; exact (Upd.refl _ w).alloc _
  have Hwb := Lib.hid hwb
  clear hwb
  go_enter Try.func58, Try.ntmps58
  go_upto_region 1 with fail
  rw [Hwb.out]
  refine wp_region_noPanic ?_
  refine wp_region_T (S := fun w' => Upd (fun _ => False) wb w') (T := fun _ => false) (by kernel_rfl) ?_
  have hS0 : Upd (fun _ => False) wb wb.drew := (Upd.refl _ _).drew
  refine wpAnyT_take (i := 0) (v := .pointer (some ⟨p, 0, none⟩)) rfl (by kernel_rfl) (by kernel_rfl) (by kernel_rfl) (by kernel_rfl) (fun _ _ _ h => h) (takes_yield rfl (Or.inl ⟨by rfl, ?_⟩)) (by assumption) (by kernel_rfl) ?_
  · intro w' hSw; go_simp
  simp only [Act.put, List.getElem_toArray, List.getElem_cons_zero, List.setIfInBounds_toArray, List.set_cons_zero, List.set_cons_succ]
  refine wpAnyT_take (i := 1) (v := .int .i64 (r.lasts.length : Int)) rfl (by kernel_rfl) (by kernel_rfl) (by kernel_rfl) (by kernel_rfl) (fun _ _ _ h => h) (takes_call rfl 48 #[.pointer (some ⟨p, 0, none⟩)] (by rfl) (fun w' _ => ?_) (fun w' hS => hsec.out _ (HU.out.then hS (fun _ e => e.elim)))) (by assumption) (by kernel_rfl) ?_
  · go_simp
  simp only [Act.put, List.getElem_toArray, List.getElem_cons_zero, List.getElem_cons_succ, List.setIfInBounds_toArray, List.set_cons_zero, List.set_cons_succ]
  refine wpAnyT_take (i := 2) (v := .pointer (some ⟨w.heap.size, 0, none⟩)) rfl (by kernel_rfl) (by kernel_rfl) (by kernel_rfl) (by kernel_rfl) (fun _ _ _ h => h) (takes_yield rfl (Or.inl ⟨by rfl, ?_⟩)) (by assumption) (by kernel_rfl) ?_
  · intro w' hSw; go_simp
  simp only [Act.put, List.getElem_toArray, List.getElem_cons_zero, List.getElem_cons_succ, List.setIfInBounds_toArray, List.set_cons_zero, List.set_cons_succ]
  refine wpAnyT_take (i := 3) (v := .slice A r.lasts.length cap) rfl (by kernel_rfl) (by kernel_rfl) (by kernel_rfl) (by kernel_rfl) (fun _ _ _ h => h) (takes_yield rfl (Or.inl ⟨by rfl, ?_⟩)) (by assumption) (by kernel_rfl) ?_
  · intro w' hSw; have hcw := (HB.out.upd hSw (fun e => e)).cells4; go_split_ands; go_simp
  simp only [Act.put, List.getElem_toArray, List.getElem_cons_zero, List.getElem_cons_succ, List.setIfInBounds_toArray, List.set_cons_zero, List.set_cons_succ]
  refine wpAnyT_take (i := 4) (v := .int .i64 (r.lasts.length : Int)) rfl (by kernel_rfl) (by kernel_rfl) (by kernel_rfl) (by kernel_rfl) (fun _ _ _ h => h) (takes_yield rfl (Or.inl ⟨by rfl, ?_⟩)) (by assumption) (by kernel_rfl) ?_
  · intro w' hSw; go_simp
  simp only [Act.put, List.getElem_toArray, List.getElem_cons_zero, List.getElem_cons_succ, List.setIfInBounds_toArray, List.set_cons_zero, List.set_cons_succ]
  refine wpAnyT_take (i := 5) (v := .bool false) rfl (by kernel_rfl) (by kernel_rfl) (by kernel_rfl) (by kernel_rfl) (fun _ _ _ h => h) (takes_yield rfl (Or.inl ⟨by rfl, ?_⟩)) (by assumption) (by kernel_rfl) ?_
  · intro w' hSw; go_simp
  simp only [Act.put, List.getElem_toArray, List.getElem_cons_zero, List.getElem_cons_succ, List.setIfInBounds_toArray, List.set_cons_zero, List.set_cons_succ]
  refine wpAnyT_take (i := 6) (v := .bool false) rfl (by kernel_rfl) (by kernel_rfl) (by kernel_rfl) (by kernel_rfl) (fun _ _ _ h => h) (takes_yield rfl (Or.inl ⟨by rfl, ?_⟩)) (by assumption) (by kernel_rfl) ?_
  · intro w' hSw; go_simp
  simp only [Act.put, List.getElem_toArray, List.getElem_cons_zero, List.getElem_cons_succ, List.setIfInBounds_toArray, List.set_cons_zero, List.set_cons_succ]
  refine wpAnyT_take (i := 7) (v := .pointer (some ⟨p, 0, none⟩)) rfl (by kernel_rfl) (by kernel_rfl) (by kernel_rfl) (by kernel_rfl) (fun _ _ _ h => h) (takes_yield rfl (Or.inl ⟨by rfl, ?_⟩)) (by assumption) (by kernel_rfl) ?_
  · intro w' hSw; go_simp
  simp only [Act.put, List.getElem_toArray, List.getElem_cons_zero, List.getElem_cons_succ, List.setIfInBounds_toArray, List.set_cons_zero, List.set_cons_succ]
  refine wpAnyT_take (i := 9) (v := .pointer (some ⟨w.heap.size, 1, none⟩)) rfl (by kernel_rfl) (by kernel_rfl) (by kernel_rfl) (by kernel_rfl) (fun _ _ _ h => h) (takes_yield rfl (Or.inl ⟨by rfl, ?_⟩)) (by assumption) (by kernel_rfl) ?_
  · intro w' hSw; go_simp
  simp only [Act.put, List.getElem_toArray, List.getElem_cons_zero, List.getElem_cons_succ, List.setIfInBounds_toArray, List.set_cons_zero, List.set_cons_succ]
  refine wpAnyT_take (i := 10) (v := .slice A2 r.ws.length cap2) rfl (by kernel_rfl) (by kernel_rfl) (by kernel_rfl) (by kernel_rfl) (fun _ _ _ h => h) (takes_yield rfl (Or.inl ⟨by rfl, ?_⟩)) (by assumption) (by kernel_rfl) ?_
  · intro w' hSw; have hcw := (HB.out.upd hSw (fun e => e)).cells4; go_split_ands; go_simp
  simp only [Act.put, List.getElem_toArray, List.getElem_cons_zero, List.getElem_cons_succ, List.setIfInBounds_toArray, List.set_cons_zero, List.set_cons_succ]
  refine wpAnyT_take (i := 11) (v := .int .i64 (r.ws.length : Int)) rfl (by kernel_rfl) (by kernel_rfl) (by kernel_rfl) (by kernel_rfl) (fun _ _ _ h => h) (takes_yield rfl (Or.inl ⟨by rfl, ?_⟩)) (by assumption) (by kernel_rfl) ?_
  · intro w' hSw; go_simp
  simp only [Act.put, List.getElem_toArray, List.getElem_cons_zero, List.getElem_cons_succ, List.setIfInBounds_toArray, List.set_cons_zero, List.set_cons_succ]
  refine wpAnyT_one (i := 8) (by kernel_rfl) rfl (fun K hK => ?_)
  go_simp
  refine (hwai.out _ (HU.out.then hS0 (fun _ e => e.elim))).mono ?_
  rintro e w5 ⟨rfl, hU5⟩
  have hS5 := hS0.then hU5 (fun _ e => e.elim)
  refine hK.out _ _ hS5 ?_
  clear hK hS0 hU5
  refine wpAnyT_take (i := 12) (v := .bool false) rfl (by kernel_rfl) (by kernel_rfl) (by kernel_rfl) (by kernel_rfl) (fun _ _ _ h => h) (takes_yield rfl (Or.inl ⟨by rfl, ?_⟩)) (by assumption) (by kernel_rfl) ?_
  · intro w' hSw; go_simp
  simp only [Act.put, List.getElem_toArray, List.getElem_cons_zero, List.getElem_cons_succ, List.setIfInBounds_toArray, List.set_cons_zero, List.set_cons_succ]
  refine wpAnyT_take (i := 13) (v := .bool false) rfl (by kernel_rfl) (by kernel_rfl) (by kernel_rfl) (by kernel_rfl) (fun _ _ _ h => h) (takes_yield rfl (Or.inl ⟨by rfl, ?_⟩)) (by assumption) (by kernel_rfl) ?_
  · intro w' hSw; go_simp
  simp only [Act.put, List.getElem_toArray, List.getElem_cons_zero, List.getElem_cons_succ, List.setIfInBounds_toArray, List.set_cons_zero, List.set_cons_succ]
  refine wpAnyT_take (i := 14) (v := .bool false) rfl (by kernel_rfl) (by kernel_rfl) (by kernel_rfl) (by kernel_rfl) (fun _ _ _ h => h) (takes_yield rfl (Or.inl ⟨by rfl, ?_⟩)) (by assumption) (by kernel_rfl) ?_
  · intro w' hSw; go_simp
  simp only [Act.put, List.getElem_toArray, List.getElem_cons_zero, List.getElem_cons_succ, List.setIfInBounds_toArray, List.set_cons_zero, List.set_cons_succ]
  refine wpAnyT_take (i := 15) (v := .pointer (some ⟨p, 0, none⟩)) rfl (by kernel_rfl) (by kernel_rfl) (by kernel_rfl) (by kernel_rfl) (fun _ _ _ h => h) (takes_yield rfl (Or.inl ⟨by rfl, ?_⟩)) (by assumption) (by kernel_rfl) ?_
  · intro w' hSw; go_simp
  simp only [Act.put, List.getElem_toArray, List.getElem_cons_zero, List.getElem_cons_succ, List.setIfInBounds_toArray, List.set_cons_zero, List.set_cons_succ]
  refine wpAnyT_take (i := 16) (v := .bool r.off) rfl (by kernel_rfl) (by kernel_rfl) (by kernel_rfl) (by kernel_rfl) (fun _ _ _ h => h) (takes_call rfl 51 #[.pointer (some ⟨p, 0, none⟩)] (by rfl) (fun w' _ => ?_) (fun w' hS => hdow.out _ (HU.out.then hS (fun _ e => e.elim)))) (by assumption) (by kernel_rfl) ?_
  · go_simp
  simp only [Act.put, List.getElem_toArray, List.getElem_cons_zero, List.getElem_cons_succ, List.setIfInBounds_toArray, List.set_cons_zero, List.set_cons_succ]
  refine wpAnyT_take (i := 17) (v := .pointer (some ⟨w.heap.size, 3, none⟩)) rfl (by kernel_rfl) (by kernel_rfl) (by kernel_rfl) (by kernel_rfl) (fun _ _ _ h => h) (takes_yield rfl (Or.inl ⟨by rfl, ?_⟩)) (by assumption) (by kernel_rfl) ?_
  · intro w' hSw; go_simp
  simp only [Act.put, List.getElem_toArray, List.getElem_cons_zero, List.getElem_cons_succ, List.setIfInBounds_toArray, List.set_cons_zero, List.set_cons_succ]
  refine wpAnyT_take (i := 18) (v := .bool r.off) rfl (by kernel_rfl) (by kernel_rfl) (by kernel_rfl) (by kernel_rfl) (fun _ _ _ h => h) (takes_yield rfl (Or.inl ⟨by rfl, ?_⟩)) (by assumption) (by kernel_rfl) ?_
  · intro w' hSw; have hcw := (HB.out.upd hSw (fun e => e)).cells4; go_split_ands; go_simp
  simp only [Act.put, List.getElem_toArray, List.getElem_cons_zero, List.getElem_cons_succ, List.setIfInBounds_toArray, List.set_cons_zero, List.set_cons_succ]
  refine wpAnyT_take (i := 19) (v := .bool false) rfl (by kernel_rfl) (by kernel_rfl) (by kernel_rfl) (by kernel_rfl) (fun _ _ _ h => h) (takes_yield rfl (Or.inl ⟨by rfl, ?_⟩)) (by assumption) (by kernel_rfl) ?_
  · intro w' hSw; go_simp
  simp only [Act.put, List.getElem_toArray, List.getElem_cons_zero, List.getElem_cons_succ, List.setIfInBounds_toArray, List.set_cons_zero, List.set_cons_succ]
  refine wpAnyT_take (i := 20) (v := .bool false) rfl (by kernel_rfl) (by kernel_rfl) (by kernel_rfl) (by kernel_rfl) (fun _ _ _ h => h) (takes_yield rfl (Or.inl ⟨by rfl, ?_⟩)) (by assumption) (by kernel_rfl) ?_
  · intro w' hSw; go_simp
  simp only [Act.put, List.getElem_toArray, List.getElem_cons_zero, List.getElem_cons_succ, List.setIfInBounds_toArray, List.set_cons_zero, List.set_cons_succ]
  refine wpAnyT_done (by kernel_rfl) ?_ _
  refine NoPanic.normal ?_
  have HS5 := Lib.hid (And.intro (HU.out.then hS5 (fun _ e => e.elim)) (HB.out.upd hS5 (fun e => e)))
  clear hS5 Hwb
  go_wp2_with fail
  go_loopw [5, 6, 7, 8, 9] (fun i _ _ _ _ wr => ∃ k : Nat, k ≤ r.lasts.length ∧ i = .int .i64 (k : Int) ∧ Upd (fun _ => False) w wr ∧ Blk wr w.heap.size 79 #[.slice A r.lasts.length cap, .slice A2 r.ws.length cap2, .int .i64 r.fuse, .bool r.off]) (fun i _ _ _ _ _ => r.lasts.length - (intOf i).toNat)
  case atStart => exact ⟨0, by omega, rfl, HS5.out.1, HS5.out.2⟩
  case round =>
    obtain ⟨k, hk, rfl, hU, hB⟩ := hrel
    have hcw := hB.cells4
    have HR := Lib.hid (And.intro hU hB)
    clear hU hB HS5
    by_cases hlt : k < r.lasts.length
    · go_wp2_with (first
        | (refine wpList_load_all rfl _ _ rfl w.heap.size rfl _ _ _ HR.out.2 Try.underlying79 rfl rfl ?_)
        | (go_at_call 31; refine (hrea.out _ HR.out.1 k).mono ?_; rintro e w6 ⟨rfl, rfl⟩)
        | (go_at_call 103; refine (hrrd.out _ HR.out.1 k).mono ?_; rintro e w7 ⟨rfl, hU7⟩))
      go_roundw
      case rel => exact ⟨k + 1, by omega, by go_num, HR.out.1.then hU7 (fun _ e => e.elim), HR.out.2.upd hU7 (fun e => e)⟩
      case measure => simp only [intOf]; omega
    · go_wp2_with fail
      go_ret
      exact ⟨rfl, HR.out.1⟩
end Go.Proofs.Ytafgohnpnaiomaa

/-
  DiskPlays: the walk.
-/
namespace Go.Proofs.Ytafgohnpnaiomaa
open Go Go.RowKit

set_option maxRecDepth 100000 in
set_option maxHeartbeats 3200000 in
theorem walk_DiskPlays {z : Int} {v : Value} {l : List Act7} (w : World) (h0 : (Lit.int .i64 z).wf = true) (hA : IsActs07 w v l) :
    Calls Try.prog 14 #[.int .i64 z, v] w fun e w' => e = .returned (.bool true) ∧ Upd (fun _ => False) w w' := by
  have hz := i64ok_of h0
  unfold i64ok at hz
  have HW := Lib.hid (awake_07 w)
  have HA := Lib.hid hA
  obtain ⟨A, cap, bA, off, rfl, hm, hA0, hcells, hok⟩ := hA.open_
  have HC := Lib.hid hcells
  clear hA h0 hcells hok
  have hcase : (z < 1 ∨ 4096 < z) ∨ (40 < z ∧ z ≤ 4096) ∨ (1 ≤ z ∧ z ≤ 40) := by omega
  rcases hcase with hb | hmid | hgood
  · go_enter Try.func14, Try.ntmps14
    go_wp2_with fail
    refine HW.out.mono ?_
    rintro e w1 ⟨rfl, hU1⟩
    have HU1 := Lib.hid hU1
    clear hU1 HW
    rcases hb with hb | hb
    all_goals
      go_wp2_with fail
      refine (great_07 w w1 HA.out HU1.out).mono ?_
      rintro e w' ⟨bg, rfl, rfl, hge⟩
      have HG0 := Lib.hid hge
      clear hge
      cases bg
      case true =>
        go_wp2_with fail
        go_ret
        exact ⟨rfl, HU1.out⟩
      go_wp2_with (first
        | (go_at_call 25
           refine (New_bad z w1 (by omega)).mono ?_
           rintro e w2 ⟨rfl, rfl⟩)
        | (go_at_call 56
           refine (rnew_bad z w1 (by omega)).mono ?_
           rintro e w3 ⟨rfl, hU3⟩
           have H3 := Lib.hid hU3
           clear hU3)
        | (refine wpList_store_all rfl 79 _ _ rfl w3.heap.size zeroRd rfl rfl _ _ (Blk.new w3 _ _) rfl (row_one _ _ rfl rfl _ _) (by kernel_rfl) ?_
           intro w4 hB4 hU4 hs4
           have H4 := Lib.hid hU4
           clear hB4 hU4 hs4))
      go_ret
      refine ⟨rfl, (HU1.out.then H3.out (fun _ e => e.elim)).then (((Upd.refl (fun _ => False) w3).alloc (.cells zeroRd 79)).trans (H := (· = w3.heap.size)) H4.out (fun _ e => e.elim) (fun _ e => .inl e)) (fun _ e => .inr ?_)⟩
      have h1 := HU1.out.size
      have h3 := H3.out.size
      rw [e]
      omega
  · go_enter Try.func14, Try.ntmps14
    go_wp2_with fail
    refine HW.out.mono ?_
    rintro e w1 ⟨rfl, hU1⟩
    have HU1 := Lib.hid hU1
    clear hU1 HW
    go_wp2_with fail
    refine (great_07 w w1 HA.out HU1.out).mono ?_
    rintro e w' ⟨bg, rfl, rfl, hge⟩
    clear hge
    cases bg
    all_goals
      go_wp2_with fail
      go_ret
      exact ⟨rfl, HU1.out⟩
  · obtain ⟨n, rfl⟩ : ∃ n : Nat, z = (n : Int) := ⟨z.toNat, by omega⟩
    have hn1 : 1 ≤ n ∧ n ≤ 40 := by omega
    clear hgood hz
    go_enter Try.func14, Try.ntmps14
    go_wp2_with fail
    refine HW.out.mono ?_
    rintro e w1 ⟨rfl, hU1⟩
    have HU1 := Lib.hid hU1
    clear hU1 HW
    go_wp2_with fail
    refine (great_07 w w1 HA.out HU1.out).mono ?_
    rintro e w' ⟨bg, rfl, rfl, hge⟩
    have HG0 := Lib.hid hge
    clear hge
    cases bg
    case true =>
      go_wp2_with fail
      go_ret
      exact ⟨rfl, HU1.out⟩
    obtain ⟨hl0, -⟩ := HG0.out.ok rfl
    clear HG0
    go_wp2_with fail
    refine (new_x (Dks.none_ w1) _ n rfl hn1.1 (by omega)).mono ?_
    rintro e w2 ⟨p, rfl, hD⟩
    have H2 : Hid (Dks w1 w2 [(p, Dk.fresh n)]) := hD
    clear hD
    go_wp2_with (first
      | (go_at_call 56
         refine (rnew_c n w2 hn1.1 (by omega)).mono ?_
         rintro e w3 ⟨vl, rfl, hR3, hU3, hf3⟩
         have H3 := Lib.hid (And.intro hR3 (And.intro hU3 hf3))
         clear hR3 hU3 hf3)
      | (refine wpList_store_all rfl 79 _ _ rfl w3.heap.size #[vl, .slice none 0 0, .int .i64 (-1), .bool false] rfl rfl _ _ (Blk.new w3 _ _) rfl (row_one _ _ H3.out.1.lasts.one rfl _ _) (by kernel_rfl) ?_
         intro w4 hB4 hU4 hs4
         have H4 := Lib.hid (And.intro hB4 hU4)
         clear hB4 hU4 hs4))
    have hP3 : PlayAt w1 w3 p (Dk.fresh n) vl (.slice none 0 0) ⟨List.replicate n zeros64, [], -1, false⟩ :=
      ⟨(DksX.of H2.out).turn H3.out.2.1 (fun q hq => .inr (by
        rcases hq with h | h
        · exact ⟨H3.out.2.2 q h, H3.out.1.lasts.lt h⟩
        · simp [Value.ownBlock] at h)), H3.out.1, RdIs.fresh n⟩
    have hg1 := hP3.disks.upd.size
    have hP4 := Lib.hid ((hP3.still ((Upd.refl _ w3).alloc (.cells zeroRd 79))).store (Blk.new w3 _ _) hg1 H4.out.2)
    have HB4 := Lib.hid H4.out.1
    obtain ⟨g, hg⟩ : ∃ g, w3.heap.size = g := ⟨_, rfl⟩
    rw [hg] at HB4 hg1 ⊢
    have Hg1 := Lib.hid hg1
    have HO := Lib.hid (HA.out.still HU1.out).2.1
    have hn2 : Hid ((Dk.fresh n).pend ≤ 0) := by show ((Dk.fresh n).waits.map List.length).sum ≤ 0; simp [Dk.fresh]
    clear H2 H3 H4 hP3 hg hg1
    go_loopw [9, 10, 11] (fun i _ _ wr => ∃ (k : Nat) (d : Dk) (vl vw : Value) (r : Rd), k ≤ l.length ∧ i = .int .i64 k ∧ PlayAt w1 wr p d vl vw r ∧ Blk wr g 79 #[vl, vw, .int .i64 r.fuse, .bool r.off] ∧ d.pend ≤ k) (fun i _ _ _ => l.length - (intOf i).toNat)
    case atStart => exact ⟨0, _, _, _, _, by omega, rfl, hP4.out, HB4.out, hn2.out⟩
    case round =>
      obtain ⟨k, d, vl, vw, r, hk, rfl, hP, hB, hpe⟩ := hrel
      clear hP4 HB4 hn2
      by_cases hlt : k < l.length
      · obtain rfl := hA0 (by omega)
        obtain ⟨a, ha⟩ : ∃ a, l[k] = a := ⟨_, rfl⟩
        have hao := HO.out _ (List.getElem_mem hlt)
        rw [ha] at hao
        have hc0 : ∀ w', Upd (fun _ => False) w1 w' → _ := fun w' hU => HC.out w' (HU1.out.then hU (fun _ e => e.elim)) k hlt
        rw [ha] at hc0
        obtain ⟨D, hD⟩ : ∃ D, d.act a = D := ⟨_, rfl⟩
        have hDp := act_pend (hP.disks.one 0 rfl).wf a
        have hdo0 : ∀ W, Upd (fun _ => False) wr W → _ := fun W hU => does_c (hP.still hU) a hao (by omega)
        rw [hD] at hDp hdo0
        obtain ⟨d_, i_, n_, b_, x_, y_, kp, ks⟩ := a
        simp only [Act7.val] at hc0 hdo0
        have HC7 := Lib.hid hc0
        have hdo := Lib.hid hdo0
        have HDp : Hid (D.pend ≤ k + 1) := by show _ ≤ _; omega
        have hS0 : Upd (fun _ => False) w1 wr.drew ∧ Blk wr.drew g 79 #[vl, vw, .int .i64 r.fuse, .bool r.off] := ⟨hP.disks.upd.drew, hB.drew⟩
        clear hc0 hdo0 hD hao ha hDp hP hB hpe
        go_upto_region 14 with fail
        go_cut [10, 11] from 46 to 70 (fun t10 t11 wx => ∃ (g2 : Nat) (vl' vw' : Value) (r' : Rd), t10 = .pointer (some ⟨g2, 0, none⟩) ∧ t11 = .bool true ∧ PlayAt w1 wx p D vl' vw' r' ∧ Blk wx g2 79 #[vl', vw', .int .i64 r'.fuse, .bool r'.off] ∧ Blk wx g 79 #[vl, vw, .int .i64 r.fuse, .bool r.off] ∧ g ≠ g2)
        case first =>
          refine wp_region_noPanic ?_
          refine wp_region_T (S := fun w' => Upd (fun _ => False) w1 w' ∧ Blk w' g 79 #[vl, vw, .int .i64 r.fuse, .bool r.off]) (T := fun _ => false) (by kernel_rfl) ?_
          refine wpAnyT_take (i := 0) (v := .pointer (some ⟨p, 0, none⟩)) rfl (by kernel_rfl) (by kernel_rfl) (by kernel_rfl) (by kernel_rfl) (fun _ _ _ h => h) (takes_yield rfl (Or.inl ⟨by rfl, ?_⟩)) (by assumption) (by kernel_rfl) ?_
          · intro w' hSw; go_simp
          simp only [Act.put, List.getElem_toArray, List.getElem_cons_zero, List.setIfInBounds_toArray, List.set_cons_zero, List.set_cons_succ]
          refine wpAnyT_take (i := 1) (v := .agg #[vl, vw, .int .i64 r.fuse, .bool r.off]) rfl (by kernel_rfl) (by kernel_rfl) (by kernel_rfl) (by kernel_rfl) (fun _ _ _ h => h) (takes_yield rfl (Or.inl ⟨by rfl, ?_⟩)) (by assumption) (by kernel_rfl) ?_
          · intro w' hSw; have hcw := hSw.2.cells4; go_split_ands; go_simp
          simp only [Act.put, List.getElem_toArray, List.getElem_cons_zero, List.getElem_cons_succ, List.setIfInBounds_toArray, List.set_cons_zero, List.set_cons_succ]
          refine wpAnyT_take (i := 2) (v := .slice (some ⟨bA, off, none⟩) l.length cap) rfl (by kernel_rfl) (by kernel_rfl) (by kernel_rfl) (by kernel_rfl) (fun _ _ _ h => h) (takes_yield rfl (Or.inl ⟨by rfl, ?_⟩)) (by assumption) (by kernel_rfl) ?_
          · intro w' hSw; go_simp
          simp only [Act.put, List.getElem_toArray, List.getElem_cons_zero, List.getElem_cons_succ, List.setIfInBounds_toArray, List.set_cons_zero, List.set_cons_succ]
          refine wpAnyT_take (i := 3) (v := .int .i64 (k : Int)) rfl (by kernel_rfl) (by kernel_rfl) (by kernel_rfl) (by kernel_rfl) (fun _ _ _ h => h) (takes_yield rfl (Or.inl ⟨by rfl, ?_⟩)) (by assumption) (by kernel_rfl) ?_
          · intro w' hSw; go_simp
          simp only [Act.put, List.getElem_toArray, List.getElem_cons_zero, List.getElem_cons_succ, List.setIfInBounds_toArray, List.set_cons_zero, List.set_cons_succ]
          refine wpAnyT_take (i := 4) (v := .pointer (some ⟨bA, off + k * 7, none⟩)) rfl (by kernel_rfl) (by kernel_rfl) (by kernel_rfl) (by kernel_rfl) (fun _ _ _ h => h) (takes_yield rfl (Or.inl ⟨by rfl, ?_⟩)) (by assumption) (by kernel_rfl) ?_
          · intro w' hSw; go_simp
          simp only [Act.put, List.getElem_toArray, List.getElem_cons_zero, List.getElem_cons_succ, List.setIfInBounds_toArray, List.set_cons_zero, List.set_cons_succ]
          refine wpAnyT_take (i := 5) (v := .agg #[.int .i64 d_, .int .i64 i_, .int .i64 n_, .string b_, .string x_, .int .u8 (y_ : Int), kp]) rfl (by kernel_rfl) (by kernel_rfl) (by kernel_rfl) (by kernel_rfl) (fun _ _ _ h => h) (takes_yield rfl (Or.inl ⟨by rfl, ?_⟩)) (by assumption) (by kernel_rfl) ?_
          · intro w' hSw; have hcw := HC7.out _ hSw.1; go_split_ands; go_simp
          simp only [Act.put, List.getElem_toArray, List.getElem_cons_zero, List.getElem_cons_succ, List.setIfInBounds_toArray, List.set_cons_zero, List.set_cons_succ]
          refine wpAnyT_two (i := 6) (j := 10) (by kernel_rfl) rfl rfl (fun K hK => ?_) (fun K hK => ?_)
          · skip
            go_simp
            refine (hdo.out _ (Upd.refl _ _).drew).mono ?_
            rintro e w6 ⟨vl', vw', r', rfl, hP6, hK6⟩
            have hS6 := And.intro hP6.disks.upd (hK6 _ _ _ hS0.2 (by decide) (by decide))
            refine hK.out _ _ hS6 ?_
            have HP6 := Lib.hid hP6
            clear hK hS0 hP6 hK6
            refine wpAnyT_take (i := 7) (v := .tuple #[.agg #[vl', vw', .int .i64 r'.fuse, .bool r'.off], .bool true]) rfl (by kernel_rfl) (by kernel_rfl) (by kernel_rfl) (by kernel_rfl) (fun _ _ _ h => h) (takes_yield rfl (Or.inl ⟨by rfl, ?_⟩)) (by assumption) (by kernel_rfl) ?_
            · intro w' hSw; go_simp
            simp only [Act.put, List.getElem_toArray, List.getElem_cons_zero, List.getElem_cons_succ, List.setIfInBounds_toArray, List.set_cons_zero, List.set_cons_succ]
            refine wpAnyT_take (i := 8) (v := .agg #[vl', vw', .int .i64 r'.fuse, .bool r'.off]) rfl (by kernel_rfl) (by kernel_rfl) (by kernel_rfl) (by kernel_rfl) (fun _ _ _ h => h) (takes_yield rfl (Or.inl ⟨by rfl, ?_⟩)) (by assumption) (by kernel_rfl) ?_
            · intro w' hSw; go_simp
            simp only [Act.put, List.getElem_toArray, List.getElem_cons_zero, List.getElem_cons_succ, List.setIfInBounds_toArray, List.set_cons_zero, List.set_cons_succ]
            refine wpAnyT_take (i := 9) (v := .bool true) rfl (by kernel_rfl) (by kernel_rfl) (by kernel_rfl) (by kernel_rfl) (fun _ _ _ h => h) (takes_yield rfl (Or.inl ⟨by rfl, ?_⟩)) (by assumption) (by kernel_rfl) ?_
            · intro w' hSw; go_simp
            simp only [Act.put, List.getElem_toArray, List.getElem_cons_zero, List.getElem_cons_succ, List.setIfInBounds_toArray, List.set_cons_zero, List.set_cons_succ]
            refine wpAnyT_one (i := 10) (by kernel_rfl) rfl (fun K hK => ?_)
            go_simp
            have hS7 := And.intro (hS6.1.alloc (.cells zeroRd 79)) (hS6.2.alloc (.cells zeroRd 79))
            refine hK.out _ _ hS7 ?_
            have hlt6 := hS6.2.lt
            have hsz6 := hS6.1.size
            clear hK
            refine wpAnyT_one (i := 11) (by kernel_rfl) rfl (fun K hK => ?_)
            refine step_store_all (by rfl) 79 _ _ (by rfl) w6.heap.size #[vl', vw', .int .i64 r'.fuse, .bool r'.off] (by rfl) (by rfl) _ _ (Blk.new w6 _ _) rfl (row_one _ _ HP6.out.rd.lasts.one HP6.out.rd.ws.one _ _) (by kernel_rfl) ?_
            intro wz hBz hUz hsz
            have hPz := (HP6.out.still ((Upd.refl _ w6).alloc _)).store (Blk.new w6 _ _) hsz6 hUz
            have hBo := hS7.2.upd hUz (Nat.ne_of_lt hlt6)
            have hSz := And.intro hPz.disks.upd hBo
            refine hK.out _ _ hSz ?_
            have HZ := Lib.hid (And.intro hPz (And.intro hBz hBo))
            have hne2 := Lib.hid ((Nat.ne_of_lt hlt6))
            clear hK hBz hUz hsz hPz hBo
            refine wpAnyT_take (i := 12) (v := .bool true) rfl (by kernel_rfl) (by kernel_rfl) (by kernel_rfl) (by kernel_rfl) (fun _ _ _ h => h) (takes_yield rfl (Or.inl ⟨by rfl, ?_⟩)) (by assumption) (by kernel_rfl) ?_
            · intro w' hSw; go_simp
            simp only [Act.put, List.getElem_toArray, List.getElem_cons_zero, List.getElem_cons_succ, List.setIfInBounds_toArray, List.set_cons_zero, List.set_cons_succ]
            refine wpAnyT_done (by kernel_rfl) ?_ _
            refine NoPanic.normal ?_
            go_wp2_with fail
            go_meet
            exact ⟨_, vl', vw', r', rfl, rfl, HZ.out.1, HZ.out.2.1, HZ.out.2.2, hne2.out⟩
          · skip
            go_simp
            have hS5 := And.intro (hS0.1.alloc (.cells zeroRd 79)) (hS0.2.alloc (.cells zeroRd 79))
            refine hK.out _ _ hS5 ?_
            have hlt6 := hS0.2.lt
            have hsz6 := hS0.1.size
            clear hK
            refine wpAnyT_one (i := 6) (by kernel_rfl) rfl (fun K hK => ?_)
            go_simp
            refine (hdo.out _ ((Upd.refl _ _).drew.alloc _)).mono ?_
            rintro e w6 ⟨vl', vw', r', rfl, hP6, hK6⟩
            have hS6 := And.intro hP6.disks.upd (hK6 _ _ _ hS5.2 (by decide) (by decide))
            refine hK.out _ _ hS6 ?_
            have HP6 := Lib.hid hP6
            have hBn := hK6 _ _ _ (Blk.new wr.drew 79 zeroRd) (by decide) (by decide)
            have HBn := Lib.hid hBn
            clear hK hP6 hK6 hBn
            refine wpAnyT_take (i := 7) (v := .tuple #[.agg #[vl', vw', .int .i64 r'.fuse, .bool r'.off], .bool true]) rfl (by kernel_rfl) (by kernel_rfl) (by kernel_rfl) (by kernel_rfl) (fun _ _ _ h => h) (takes_yield rfl (Or.inl ⟨by rfl, ?_⟩)) (by assumption) (by kernel_rfl) ?_
            · intro w' hSw; go_simp
            simp only [Act.put, List.getElem_toArray, List.getElem_cons_zero, List.getElem_cons_succ, List.setIfInBounds_toArray, List.set_cons_zero, List.set_cons_succ]
            refine wpAnyT_take (i := 8) (v := .agg #[vl', vw', .int .i64 r'.fuse, .bool r'.off]) rfl (by kernel_rfl) (by kernel_rfl) (by kernel_rfl) (by kernel_rfl) (fun _ _ _ h => h) (takes_yield rfl (Or.inl ⟨by rfl, ?_⟩)) (by assumption) (by kernel_rfl) ?_
            · intro w' hSw; go_simp
            simp only [Act.put, List.getElem_toArray, List.getElem_cons_zero, List.getElem_cons_succ, List.setIfInBounds_toArray, List.set_cons_zero, List.set_cons_succ]
            refine wpAnyT_take (i := 9) (v := .bool true) rfl (by kernel_rfl) (by kernel_rfl) (by kernel_rfl) (by kernel_rfl) (fun _ _ _ h => h) (takes_yield rfl (Or.inl ⟨by rfl, ?_⟩)) (by assumption) (by kernel_rfl) ?_
            · intro w' hSw; go_simp
            simp only [Act.put, List.getElem_toArray, List.getElem_cons_zero, List.getElem_cons_succ, List.setIfInBounds_toArray, List.set_cons_zero, List.set_cons_succ]
            refine wpAnyT_one (i := 11) (by kernel_rfl) rfl (fun K hK => ?_)
            refine step_store_all (by rfl) 79 _ _ (by rfl) wr.drew.heap.size #[vl', vw', .int .i64 r'.fuse, .bool r'.off] (by rfl) (by rfl) _ _ HBn.out rfl (row_one _ _ HP6.out.rd.lasts.one HP6.out.rd.ws.one _ _) (by kernel_rfl) ?_
            intro wz hBz hUz hsz
            have hPz := (HP6.out).store HBn.out hsz6 hUz
            have hBo := hS6.2.upd hUz (Nat.ne_of_lt hlt6)
            have hSz := And.intro hPz.disks.upd hBo
            refine hK.out _ _ hSz ?_
            have HZ := Lib.hid (And.intro hPz (And.intro hBz hBo))
            have hne2 := Lib.hid ((Nat.ne_of_lt hlt6))
            clear hK hBz hUz hsz hPz hBo
            refine wpAnyT_take (i := 12) (v := .bool true) rfl (by kernel_rfl) (by kernel_rfl) (by kernel_rfl) (by kernel_rfl) (fun _ _ _ h => h) (takes_yield rfl (Or.inl ⟨by rfl, ?_⟩)) (by assumption) (by kernel_rfl) ?_
            · intro w' hSw; go_simp
            simp only [Act.put, List.getElem_toArray, List.getElem_cons_zero, List.getElem_cons_succ, List.setIfInBounds_toArray, List.set_cons_zero, List.set_cons_succ]
            refine wpAnyT_done (by kernel_rfl) ?_ _
            refine NoPanic.normal ?_
            go_wp2_with fail
            go_meet
            exact ⟨_, vl', vw', r', rfl, rfl, HZ.out.1, HZ.out.2.1, HZ.out.2.2, hne2.out⟩
        case rest =>
          obtain ⟨g2, vl', vw', r', rfl, rfl, hP, hB2, hB, hne⟩ := hcut
          have H7 := Lib.hid (And.intro hP (And.intro hB2 hB))
          clear hP hB2 hB hS0
          go_upto_region 16 with (first
            | (refine wpList_load_all rfl _ _ rfl g2 rfl _ _ _ H7.out.2.1 Try.underlying79 rfl rfl ?_)
            | (refine wpList_store_all rfl 79 _ _ rfl g #[vl', vw', .int .i64 r'.fuse, .bool r'.off] rfl rfl _ _ H7.out.2.2 rfl (row_one _ _ H7.out.1.rd.lasts.one H7.out.1.rd.ws.one _ _) (by kernel_rfl) ?_
               intro w8 hB8 hU8 hs8
               have H8 := Lib.hid (And.intro hB8 (H7.out.1.store H7.out.2.2 Hg1.out hU8))
               clear hB8 hU8 hs8))
          have hc8 := H8.out.1.cells4
          go_split_ands
          go_wp2_with (first
            | (refine wpList_load_all rfl _ _ rfl g rfl _ _ _ H8.out.1 Try.underlying79 rfl rfl ?_)
            | (go_at_call 58
               refine (alike_c H8.out.2).mono ?_
               rintro e w9 ⟨rfl, hU9⟩))
          go_roundw
          case rel => exact ⟨k + 1, D, vl', vw', r', by omega, by go_num, H8.out.2.still hU9, H8.out.1.upd hU9 (fun e => e), HDp.out⟩
          case measure => simp only [intOf]; omega
      · go_wp2_with fail
        go_ret
        exact ⟨rfl, HU1.out.then hP.disks.upd (fun _ e => e.elim)⟩
end Go.Proofs.Ytafgohnpnaiomaa
