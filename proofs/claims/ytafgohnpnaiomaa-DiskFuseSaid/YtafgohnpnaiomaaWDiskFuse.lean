/-
  DiskFuse: the walk.
-/
import Derived.Test.YtafgohnpnaiomaaRunW
import Derived.BigQuiet
namespace Go.Proofs.Ytafgohnpnaiomaa
open Go Go.RowKit

theorem sectors_q {w0 w : World} {l : List (Nat × Dk)} {p i : Nat} {d : Dk} (h : Dks w0 w l) (hi : l[i]? = some (p, d)) :
    Calls Try.prog 48 #[.pointer (some ⟨p, 0, none⟩)] w fun e w' => e = .returned (.int .i64 d.lasts.length) ∧ w' = w := (sectors_x h hi).mono fun _ _ h => ⟨h.1, h.2.symm⟩
/-- The law's disk, some acts behind the beginning: what is left of the fuse, and whether the power is off. -/
structure FuseS (w0 wr : World) (p n k left : Nat) (off : Bool) (d : Dk) : Prop where
  disks : Dks w0 wr [(p, d)]
  len : d.lasts.length = n
  off_ : d.off = off
  fuse : off = false → d.fuse = left
  zero : off = true → left = 0
  left_ : left ≤ 60
  pend : d.pend ≤ k
theorem FuseS.still {w0 wr w' : World} {p n k left : Nat} {off : Bool} {d : Dk} (h : FuseS w0 wr p n k left off d) (hu : Upd (fun _ => False) wr w') : FuseS w0 w' p n k left off d := ⟨h.disks.still hu, h.len, h.off_, h.fuse, h.zero, h.left_, h.pend⟩
theorem FuseS.next {w0 wr : World} {p n k left : Nat} {off : Bool} {d : Dk} (h : FuseS w0 wr p n k left off d) : FuseS w0 wr p n (k + 1) left off d := ⟨h.disks, h.len, h.off_, h.fuse, h.zero, h.left_, Nat.le_succ_of_le h.pend⟩
/-- What is told of an act, and what is left behind it. -/
def fuseTold (off : Bool) (left : Nat) (act : Bool) (other : Int) : Int := if off then 14 else if act then (if left = 0 then 14 else 0) else other
def fuseOff (off : Bool) (left : Nat) (act : Bool) : Bool := off || (act && decide (left = 0))
def fuseLeft (off : Bool) (left : Nat) (act : Bool) : Nat := if act && !off then left - 1 else left
theorem burn_of {d : Dk} {left : Nat} (h : d.fuse = left) : d.burn = if left = 0 then ({ d with off := true }, false) else ({ d with fuse := ((left - 1 : Nat) : Int) }, true) := by
  unfold Dk.burn
  by_cases h0 : left = 0
  · subst h0
    rw [if_pos (show d.fuse = 0 by simpa using h), if_pos rfl]
  · rw [if_neg (by omega), if_pos (by omega), if_neg h0]
    congr 2
    omega
theorem FuseS.wrote {w0 wr w' : World} {p n k left : Nat} {off : Bool} {d : Dk} (h : FuseS w0 wr p n k left off d) (i : Int) (b : ByteArray) (hD : Dks w0 w' [(p, (d.write i b).1)]) :
    (d.write i b).2 = fuseTold off left (decide (0 ≤ i ∧ i < n) && decide (b.size = 64)) 1 ∧ FuseS w0 w' p n (k + 1) (fuseLeft off left (decide (0 ≤ i ∧ i < n) && decide (b.size = 64))) (fuseOff off left (decide (0 ≤ i ∧ i < n) && decide (b.size = 64))) (d.write i b).1 := by
  have hwf := (h.disks.one 0 rfl).wf
  have hpe := write_pend d i b hwf.len
  have hla := write_lasts d i b
  have hth : d.there i = decide (0 ≤ i ∧ i < n) := by unfold Dk.there; rw [h.len]
  generalize hact : (decide (0 ≤ i ∧ i < (n : Int)) && decide (b.size = 64)) = act
  have hl := h.left_
  have hp := h.pend
  have hz := h.zero
  have hfu := h.fuse
  have key : (d.write i b).2 = fuseTold off left act 1 ∧ (d.write i b).1.off = fuseOff off left act ∧ (fuseOff off left act = false → (d.write i b).1.fuse = (fuseLeft off left act : Nat)) := by
    unfold Dk.write
    rw [h.off_, hth, hact]
    cases off
    · have hf := hfu rfl
      rw [if_neg (by simp), burn_of hf]
      cases act
      · simp [fuseTold, fuseOff, fuseLeft, h.off_, hf]
      · by_cases h0 : left = 0
        · simp [fuseTold, fuseOff, fuseLeft, h0]
        · simp [fuseTold, fuseOff, fuseLeft, h0, Dk.push, h.off_]
    · simp [fuseTold, fuseOff, fuseLeft, h.off_]
  refine ⟨key.1, hD, by rw [hla]; exact h.len, key.2.1, key.2.2, fun ho => ?_, ?_, by omega⟩
  · unfold fuseOff at ho
    unfold fuseLeft
    cases off
    · simp at ho; simp [ho.1, ho.2]
    · simp [hz rfl]
  · unfold fuseLeft; split <;> omega
theorem FuseS.synced {w0 wr w' : World} {p n k left : Nat} {off : Bool} {d : Dk} (h : FuseS w0 wr p n k left off d) (hD : Dks w0 w' [(p, d.sync.1)]) :
    d.sync.2 = fuseTold off left true 0 ∧ FuseS w0 w' p n (k + 1) (fuseLeft off left true) (fuseOff off left true) d.sync.1 := by
  have hl := h.left_
  have hp := h.pend
  have hz := h.zero
  have hfu := h.fuse
  have key : d.sync.2 = fuseTold off left true 0 ∧ d.sync.1.off = fuseOff off left true ∧ (fuseOff off left true = false → d.sync.1.fuse = (fuseLeft off left true : Nat)) ∧ d.sync.1.lasts.length = n ∧ d.sync.1.pend ≤ k + 1 := by
    unfold Dk.sync
    rw [h.off_]
    cases off
    · have hf := hfu rfl
      rw [if_neg (by simp), burn_of hf]
      by_cases h0 : left = 0
      · simp [fuseTold, fuseOff, fuseLeft, h0, h.len]
        exact Nat.le_succ_of_le hp
      · simp [fuseTold, fuseOff, fuseLeft, h0, h.len, h.off_, Dk.flush]
        have := Dk.flush_pend { d with fuse := ((left - 1 : Nat) : Int) }
        unfold Dk.flush at this
        unfold Dk.pend at this ⊢
        simp only at this ⊢
        omega
    · simp [fuseTold, fuseOff, fuseLeft, h.off_, h.len]
      exact Nat.le_succ_of_le hp
  refine ⟨key.1, hD, key.2.2.2.1, key.2.1, key.2.2.1, fun ho => ?_, ?_, key.2.2.2.2⟩
  · unfold fuseOff at ho
    unfold fuseLeft
    cases off
    · simp at ho; simp [ho]
    · simp [hz rfl]
  · unfold fuseLeft; split <;> omega
theorem FuseS.told {w0 wr : World} {p n k left : Nat} {off : Bool} {d : Dk} (h : FuseS w0 wr p n k left off d) (i : Int) : (d.read i).2 = if off then 14 else if decide (0 ≤ i ∧ i < n) then 0 else 1 := by
  unfold Dk.read
  rw [h.off_, show d.there i = decide (0 ≤ i ∧ i < n) by unfold Dk.there; rw [h.len]]
  cases off
  · cases decide (0 ≤ i ∧ i < (n : Int)) <;> rfl
  · rfl

set_option maxRecDepth 100000 in
set_option maxHeartbeats 6400000 in
theorem walk_DiskFuse {an af : Int} {v : Value} {acts : List Act7} (w : World) (h1 : (Lit.int .u8 an).wf = true) (h2 : (Lit.int .u8 af).wf = true) (hA : IsActs07 w v acts) :
    Calls Try.prog 10 #[.int .u8 an, .int .u8 af, v] w fun e w' => e = .returned (.bool true) ∧ Upd (fun _ => False) w w' := by
  obtain ⟨m, rfl, hm⟩ := u8_of h1
  obtain ⟨f, rfl, hf⟩ := u8_of h2
  have HW := Lib.hid (awake_07 w)
  have HA := Lib.hid hA
  obtain ⟨A, cap, bA, off0, rfl, mA, hA0, hcells, hok⟩ := hA.open_
  have HC := Lib.hid hcells
  have HK := Lib.hid hok
  clear hA h1 h2 hcells hok
  obtain ⟨n, hn⟩ : ∃ n : Nat, n = 1 + m % 40 := ⟨_, rfl⟩
  have hn1 : 1 ≤ n ∧ n ≤ 40 := by omega
  have hn' : 1 + (m : Int) % 40 = (n : Int) := by omega
  obtain ⟨le, hle⟩ : ∃ le : Nat, le = f % 61 := ⟨_, rfl⟩
  have hle1 : le ≤ 60 := by omega
  have hle' : (f : Int) % 61 = (le : Int) := by omega
  clear hn hle
  go_enter Try.func10, Try.ntmps10
  go_wp2_with fail
  refine HW.out.mono ?_
  rintro e w1 ⟨rfl, hU1⟩
  have HU1 := Lib.hid hU1
  clear hU1 HW
  go_wp2_with fail
  refine (great_07 w w1 HA.out HU1.out).mono ?_
  rintro e w' ⟨bg, rfl, rfl, hge⟩
  have HG0 := Lib.hid hge
  clear hge
  cases bg
  case true =>
    go_wp2_with fail
    go_ret
    exact ⟨rfl, HU1.out⟩
  obtain ⟨hl0, -⟩ := HG0.out.ok rfl
  clear HG0
  go_wp2_with fail
  refine (new_x (Dks.none_ w1) _ n rfl hn1.1 (by omega)).mono ?_
  rintro e w2 ⟨p, rfl, hD⟩
  have H2 : Hid (Dks w1 w2 [(p, Dk.fresh n)]) := hD
  clear hD
  go_wp2_with fail
  refine (fuse_x (i := 0) H2.out rfl (le : Int) (by omega)).mono ?_
  rintro e w3 ⟨rfl, hD⟩
  have H3 : Hid (FuseS w1 w3 p n 0 le false ((Dk.fresh n).setFuse (le : Int))) := ⟨hD, by simp [Dk.setFuse, Dk.fresh], rfl, fun _ => by simp [Dk.setFuse]; omega, by simp, hle1, by show ((Dk.fresh n).waits.map List.length).sum ≤ 0; simp [Dk.fresh]⟩
  clear hD H2
  go_wp2_with fail
  go_loopw [9, 10, 11, 13, 14, 15, 16] (fun x9 x10 x11 _ _ _ _ wr => ∃ (k left : Nat) (off : Bool) (d : Dk), k ≤ acts.length ∧ x9 = .int .i64 left ∧ x10 = .bool off ∧ x11 = .int .i64 k ∧ FuseS w1 wr p n k left off d) (fun _ _ x11 _ _ _ _ _ => acts.length - (intOf x11).toNat)
  case atStart => exact ⟨0, le, false, _, by omega, rfl, rfl, rfl, H3.out⟩
  case round =>
    obtain ⟨k, left, off, d, hk, rfl, rfl, rfl, hF⟩ := hrel
    clear H3
    by_cases hlt : k < acts.length
    · obtain rfl := hA0 (by omega)
      obtain ⟨r, hr⟩ : ∃ r, acts[k] = r := ⟨_, rfl⟩
      have hc := HC.out wr (HU1.out.then hF.disks.upd (fun _ e => e.elim)) k hlt
      have hro := HK.out _ (List.getElem_mem hlt)
      rw [hr] at hc hro
      obtain ⟨x0, x1, x2, x3, x4, x5, x6⟩ := hc
      have hpe := hF.pend
      have hl60 := hF.left_
      have HF := Lib.hid hF
      have hdat := Lib.hid (fun W => data_c r W hro.byte)
      have hkeep := Lib.hid hro.keep
      have hri := hro.i
      unfold i64ok at hri
      obtain ⟨d_, i_, n_, b_, x_, y_, kp, ks⟩ := r
      simp only [Act7.val] at x0 x1 x2 x3 x4 x5 x6 hdat hkeep hri
      generalize Act7.data ⟨d_, i_, n_, b_, x_, y_, kp, ks⟩ = s at hdat
      obtain ⟨kA, kcap, -, -, hkp, -, -⟩ := hkeep.out.open_
      subst hkp
      clear hF hr hro
      go_upto_region 15 with (first
        | (refine wpList_store_all rfl 66 _ _ rfl wr.heap.size #[.int .i64 d_, .int .i64 i_, .int .i64 n_, .string b_, .string x_, .int .u8 (y_ : Int), .slice kA ks.length kcap] rfl rfl _ _ (Blk.new wr 66 #[.int .i64 0, .int .i64 0, .int .i64 0, .string ⟨#[]⟩, .string ⟨#[]⟩, .int .u8 0, .slice none 0 0]) rfl (by simp [Value.oneCell']) (by kernel_rfl) ?_
           intro w4 hB4 hU4 hs4
           have hU04 : Upd (fun _ => False) wr w4 := ((Upd.refl _ wr).alloc _).then hU4 (fun b e => .inr (by rw [e]; exact Nat.le_refl _))
           have H4 := Lib.hid (And.intro (HF.out.still hU04) hB4)
           have hc4 := hB4.cells7
           clear hB4 hU4 hs4 hU04 x0 x1 x2 x3 x4 x5 x6))
      have HT : i_ < 0 ∨ (0 ≤ i_ ∧ i_ < (n : Int)) ∨ (n : Int) ≤ i_ := by omega
      have hln := H4.out.1.len
      rcases HT with hI | hI | hI
      · have hI' : decide ((0 : Int) ≤ i_) = false := by rw [decide_eq_false_iff_not]; omega
        go_quiet (fail)
        have HTh : Hid (decide (0 ≤ i_ ∧ i_ < (n : Int)) = false) := by show _ = _; rw [decide_eq_false_iff_not]; omega
        clear hI hI' hln
        have hU5 : Upd (fun _ => False) w4 (w4.drewN nq) := (Upd.refl _ w4).drewN _
        have H5 := Lib.hid (And.intro (H4.out.1.still hU5) (H4.out.2.upd hU5 (fun e => e)))
        have hc5 := H5.out.2.cells7
        clear hU5 H4 hc4
        generalize w4.drewN nq = w5 at *
        have hwl : left ≠ 0 → IntKind.i64.wrap ((left : Int) - 1) = (left : Int) - 1 := fun _ => IntWalk.i64_in _ (by omega)
        have Hwl := Lib.hid hwl
        clear hwl
        by_cases c0 : d_ = 0
        · subst c0
          have HAct : Hid ((decide (0 ≤ i_ ∧ i_ < (n : Int)) && decide (s.size = 64)) = false) := by show _ = _; rw [HTh.out]; rfl
          cases off
          · by_cases hz : left = 0
            · subst hz
              have hz : (0 : Nat) = 0 := rfl
              go_wp2_with fail
              go_region_held3 (fun w' => w'.cell? ⟨wr.heap.size, 0, none⟩ = some (.int .i64 0) ∧ w'.cell? ⟨wr.heap.size, 1, none⟩ = some (.int .i64 i_) ∧ w'.cell? ⟨wr.heap.size, 2, none⟩ = some (.int .i64 n_) ∧ w'.cell? ⟨wr.heap.size, 3, none⟩ = some (.string b_) ∧ w'.cell? ⟨wr.heap.size, 4, none⟩ = some (.string x_) ∧ w'.cell? ⟨wr.heap.size, 5, none⟩ = some (.int .u8 (y_ : Int)) ∧ w'.cell? ⟨wr.heap.size, 6, none⟩ = some (.slice kA ks.length kcap)) (first | go_keep | (refine ⟨?_, ?_, ?_, ?_, ?_, ?_, ?_⟩ <;> simp [*]))
                (first
                  | (go_at_call 49
                     refine (hdat.out _).mono ?_
                     rintro e v5 ⟨rfl, hU5⟩
                     have hU45 : Upd (fun _ => False) w5 v5 := ((Upd.refl _ w5).drew).then hU5 (fun _ e => e.elim)
                     have H6 := Lib.hid (And.intro (H5.out.1.still hU45) (H5.out.2.upd hU45 (fun e => e)))
                     have hc6 := H6.out.2.cells7
                     clear hU5 hU45)
                  | (go_at_call 27
                     refine (write_k (i := 0) (d := d) H6.out.1.disks rfl _ _ (by omega)).mono ?_
                     rintro e v6 ⟨rfl, hD6, hK6⟩
                     have hWr := H5.out.1.wrote i_ s hD6
                     rw [HAct.out] at hWr
                     have HX0 : Hid (FuseS w1 v6 p n (k + 1) 0 false (d.write i_ s).1) := by
                       have h := hWr.2
                       simp [fuseOff, fuseLeft] at h
                       exact h
                     have hr0 : Hid ((d.write i_ s).2 = 1) := by
                       have h := hWr.1
                       simp [fuseTold] at h
                       exact h
                     have H7 := Lib.hid (hK6 _ _ _ H6.out.2 (by decide) (by decide))
                     have hc7 := H7.out.cells7
                     clear hD6 hK6 hWr))
              all_goals
                rw [hr0.out]
                clear hr0 hc5 hc6
                have HX := HX0
                clear HX0 hc7
                go_wp2_with fail
                refine (down_x (i := 0) HX.out.disks rfl).mono ?_
                rw [HX.out.off_]
                rintro e w8 ⟨rfl, rfl⟩
                go_wp2_with fail
                go_roundw
                case rel => exact ⟨k + 1, 0, false, (d.write i_ s).1, by omega, by first | rfl | (congr 1; omega), rfl, by go_num, HX.out⟩
                case measure => simp [intOf] <;> omega
            · have hz' : ((left : Int) == 0) = false := by rw [beq_eq_false_iff_ne]; omega
              have hwl := Hwl.out hz
              go_wp2_with fail
              go_region_held3 (fun w' => w'.cell? ⟨wr.heap.size, 0, none⟩ = some (.int .i64 0) ∧ w'.cell? ⟨wr.heap.size, 1, none⟩ = some (.int .i64 i_) ∧ w'.cell? ⟨wr.heap.size, 2, none⟩ = some (.int .i64 n_) ∧ w'.cell? ⟨wr.heap.size, 3, none⟩ = some (.string b_) ∧ w'.cell? ⟨wr.heap.size, 4, none⟩ = some (.string x_) ∧ w'.cell? ⟨wr.heap.size, 5, none⟩ = some (.int .u8 (y_ : Int)) ∧ w'.cell? ⟨wr.heap.size, 6, none⟩ = some (.slice kA ks.length kcap)) (first | go_keep | (refine ⟨?_, ?_, ?_, ?_, ?_, ?_, ?_⟩ <;> simp [*]))
                (first
                  | (go_at_call 49
                     refine (hdat.out _).mono ?_
                     rintro e v5 ⟨rfl, hU5⟩
                     have hU45 : Upd (fun _ => False) w5 v5 := ((Upd.refl _ w5).drew).then hU5 (fun _ e => e.elim)
                     have H6 := Lib.hid (And.intro (H5.out.1.still hU45) (H5.out.2.upd hU45 (fun e => e)))
                     have hc6 := H6.out.2.cells7
                     clear hU5 hU45)
                  | (go_at_call 27
                     refine (write_k (i := 0) (d := d) H6.out.1.disks rfl _ _ (by omega)).mono ?_
                     rintro e v6 ⟨rfl, hD6, hK6⟩
                     have hWr := H5.out.1.wrote i_ s hD6
                     rw [HAct.out] at hWr
                     have HX0 : Hid (FuseS w1 v6 p n (k + 1) left false (d.write i_ s).1) := by
                       have h := hWr.2
                       simp [fuseOff, fuseLeft] at h
                       exact h
                     have hr0 : Hid ((d.write i_ s).2 = 1) := by
                       have h := hWr.1
                       simp [fuseTold] at h
                       exact h
                     have H7 := Lib.hid (hK6 _ _ _ H6.out.2 (by decide) (by decide))
                     have hc7 := H7.out.cells7
                     clear hD6 hK6 hWr))
              all_goals
                rw [hr0.out]
                clear hr0 hc5 hc6
                have HX := HX0
                clear HX0 hc7
                go_wp2_with fail
                refine (down_x (i := 0) HX.out.disks rfl).mono ?_
                rw [HX.out.off_]
                rintro e w8 ⟨rfl, rfl⟩
                go_wp2_with fail
                go_roundw
                case rel => exact ⟨k + 1, left, false, (d.write i_ s).1, by omega, by first | rfl | (congr 1; omega), rfl, by go_num, HX.out⟩
                case measure => simp [intOf] <;> omega
          · by_cases hz : left = 0
            · subst hz
              have hz : (0 : Nat) = 0 := rfl
              go_wp2_with fail
              go_region_held3 (fun w' => w'.cell? ⟨wr.heap.size, 0, none⟩ = some (.int .i64 0) ∧ w'.cell? ⟨wr.heap.size, 1, none⟩ = some (.int .i64 i_) ∧ w'.cell? ⟨wr.heap.size, 2, none⟩ = some (.int .i64 n_) ∧ w'.cell? ⟨wr.heap.size, 3, none⟩ = some (.string b_) ∧ w'.cell? ⟨wr.heap.size, 4, none⟩ = some (.string x_) ∧ w'.cell? ⟨wr.heap.size, 5, none⟩ = some (.int .u8 (y_ : Int)) ∧ w'.cell? ⟨wr.heap.size, 6, none⟩ = some (.slice kA ks.length kcap)) (first | go_keep | (refine ⟨?_, ?_, ?_, ?_, ?_, ?_, ?_⟩ <;> simp [*]))
                (first
                  | (go_at_call 49
                     refine (hdat.out _).mono ?_
                     rintro e v5 ⟨rfl, hU5⟩
                     have hU45 : Upd (fun _ => False) w5 v5 := ((Upd.refl _ w5).drew).then hU5 (fun _ e => e.elim)
                     have H6 := Lib.hid (And.intro (H5.out.1.still hU45) (H5.out.2.upd hU45 (fun e => e)))
                     have hc6 := H6.out.2.cells7
                     clear hU5 hU45)
                  | (go_at_call 27
                     refine (write_k (i := 0) (d := d) H6.out.1.disks rfl _ _ (by omega)).mono ?_
                     rintro e v6 ⟨rfl, hD6, hK6⟩
                     have hWr := H5.out.1.wrote i_ s hD6
                     rw [HAct.out] at hWr
                     have HX0 : Hid (FuseS w1 v6 p n (k + 1) 0 true (d.write i_ s).1) := by
                       have h := hWr.2
                       simp [fuseOff, fuseLeft] at h
                       exact h
                     have hr0 : Hid ((d.write i_ s).2 = 14) := by
                       have h := hWr.1
                       simp [fuseTold] at h
                       exact h
                     have H7 := Lib.hid (hK6 _ _ _ H6.out.2 (by decide) (by decide))
                     have hc7 := H7.out.cells7
                     clear hD6 hK6 hWr))
              all_goals
                rw [hr0.out]
                clear hr0 hc5 hc6
                have HX := HX0
                clear HX0 hc7
                go_wp2_with fail
                refine (down_x (i := 0) HX.out.disks rfl).mono ?_
                rw [HX.out.off_]
                rintro e w8 ⟨rfl, rfl⟩
                go_wp2_with fail
                go_roundw
                case rel => exact ⟨k + 1, 0, true, (d.write i_ s).1, by omega, by first | rfl | (congr 1; omega), rfl, by go_num, HX.out⟩
                case measure => simp [intOf] <;> omega
            · have hz' : ((left : Int) == 0) = false := by rw [beq_eq_false_iff_ne]; omega
              have hwl := Hwl.out hz
              exact absurd (H5.out.1.zero rfl) hz
        have c0' : (d_ == 0) = false := by rw [beq_eq_false_iff_ne]; exact c0
        by_cases c1 : d_ = 1
        · subst c1
          cases off
          · by_cases hz : left = 0
            · subst hz
              have hz : (0 : Nat) = 0 := rfl
              go_wp2_with fail
              refine (sync_x (i := 0) H5.out.1.disks rfl).mono ?_
              rintro e v6 ⟨rfl, hD6⟩
              have hWr := H5.out.1.synced hD6
              have HX : Hid (FuseS w1 v6 p n (k + 1) 0 true d.sync.1) := by
                have h := hWr.2
                simp [fuseOff, fuseLeft] at h
                exact h
              have hr0 : Hid (d.sync.2 = 14) := by
                have h := hWr.1
                simp [fuseTold] at h
                exact h
              clear hD6 hWr hc5
              rw [hr0.out]
              clear hr0
              go_wp2_with fail
              refine (down_x (i := 0) HX.out.disks rfl).mono ?_
              rw [HX.out.off_]
              rintro e w8 ⟨rfl, rfl⟩
              go_wp2_with fail
              go_roundw
              case rel => exact ⟨k + 1, 0, true, d.sync.1, by omega, by first | rfl | (congr 1; omega), rfl, by go_num, HX.out⟩
              case measure => simp [intOf] <;> omega
            · have hz' : ((left : Int) == 0) = false := by rw [beq_eq_false_iff_ne]; omega
              have hwl := Hwl.out hz
              go_wp2_with fail
              refine (sync_x (i := 0) H5.out.1.disks rfl).mono ?_
              rintro e v6 ⟨rfl, hD6⟩
              have hWr := H5.out.1.synced hD6
              have HX : Hid (FuseS w1 v6 p n (k + 1) (left - 1) false d.sync.1) := by
                have h := hWr.2
                simp [fuseOff, fuseLeft, hz] at h
                exact h
              have hr0 : Hid (d.sync.2 = 0) := by
                have h := hWr.1
                simp [fuseTold, hz] at h
                exact h
              clear hD6 hWr hc5
              rw [hr0.out]
              clear hr0
              go_wp2_with fail
              refine (down_x (i := 0) HX.out.disks rfl).mono ?_
              rw [HX.out.off_]
              rintro e w8 ⟨rfl, rfl⟩
              go_wp2_with fail
              go_roundw
              case rel => exact ⟨k + 1, (left - 1), false, d.sync.1, by omega, by first | rfl | (congr 1; omega), rfl, by go_num, HX.out⟩
              case measure => simp [intOf] <;> omega
          · by_cases hz : left = 0
            · subst hz
              have hz : (0 : Nat) = 0 := rfl
              go_wp2_with fail
              refine (sync_x (i := 0) H5.out.1.disks rfl).mono ?_
              rintro e v6 ⟨rfl, hD6⟩
              have hWr := H5.out.1.synced hD6
              have HX : Hid (FuseS w1 v6 p n (k + 1) 0 true d.sync.1) := by
                have h := hWr.2
                simp [fuseOff, fuseLeft] at h
                exact h
              have hr0 : Hid (d.sync.2 = 14) := by
                have h := hWr.1
                simp [fuseTold] at h
                exact h
              clear hD6 hWr hc5
              rw [hr0.out]
              clear hr0
              go_wp2_with fail
              refine (down_x (i := 0) HX.out.disks rfl).mono ?_
              rw [HX.out.off_]
              rintro e w8 ⟨rfl, rfl⟩
              go_wp2_with fail
              go_roundw
              case rel => exact ⟨k + 1, 0, true, d.sync.1, by omega, by first | rfl | (congr 1; omega), rfl, by go_num, HX.out⟩
              case measure => simp [intOf] <;> omega
            · have hz' : ((left : Int) == 0) = false := by rw [beq_eq_false_iff_ne]; omega
              have hwl := Hwl.out hz
              exact absurd (H5.out.1.zero rfl) hz
        have c1' : (d_ == 1) = false := by rw [beq_eq_false_iff_ne]; exact c1
        by_cases c5 : d_ = 5
        · subst c5
          cases off
          · go_wp2_with fail
            refine (read_x (i := 0) H5.out.1.disks rfl i_).mono ?_
            rw [H5.out.1.told i_, HTh.out]
            rintro e v6 ⟨rfl, rfl⟩
            have HX := Lib.hid H5.out.1.next
            clear hc5
            go_wp2_with fail
            refine (down_x (i := 0) HX.out.disks rfl).mono ?_
            rw [HX.out.off_]
            rintro e w8 ⟨rfl, rfl⟩
            go_wp2_with fail
            go_roundw
            case rel => exact ⟨k + 1, left, false, d, by omega, by first | rfl | (congr 1; omega), rfl, by go_num, HX.out⟩
            case measure => simp [intOf] <;> omega
          · go_wp2_with fail
            refine (read_x (i := 0) H5.out.1.disks rfl i_).mono ?_
            rw [H5.out.1.told i_, HTh.out]
            rintro e v6 ⟨rfl, rfl⟩
            have HX := Lib.hid H5.out.1.next
            clear hc5
            go_wp2_with fail
            refine (down_x (i := 0) HX.out.disks rfl).mono ?_
            rw [HX.out.off_]
            rintro e w8 ⟨rfl, rfl⟩
            go_wp2_with fail
            go_roundw
            case rel => exact ⟨k + 1, left, true, d, by omega, by first | rfl | (congr 1; omega), rfl, by go_num, HX.out⟩
            case measure => simp [intOf] <;> omega
        have c5' : (d_ == 5) = false := by rw [beq_eq_false_iff_ne]; exact c5
        have HX := Lib.hid H5.out.1.next
        go_wp2_with fail
        go_roundw
        case rel => exact ⟨k + 1, left, off, d, by omega, rfl, rfl, by go_num, HX.out⟩
        case measure => simp [intOf] <;> omega
      · obtain ⟨hI1, hI2⟩ := hI
        go_quiet (first | (go_at_call 48; refine Calls.quiet_of_same (sectors_q (i := 0) (H4.out.1.disks.still ((Upd.refl _ _).drewN _)) rfl)))
        have HTh : Hid (decide (0 ≤ i_ ∧ i_ < (n : Int)) = true) := by show _ = _; rw [decide_eq_true_eq]; omega
        clear hI1 hI2 hln
        have hU5 : Upd (fun _ => False) w4 (w4.drewN nq) := (Upd.refl _ w4).drewN _
        have H5 := Lib.hid (And.intro (H4.out.1.still hU5) (H4.out.2.upd hU5 (fun e => e)))
        have hc5 := H5.out.2.cells7
        clear hU5 H4 hc4
        generalize w4.drewN nq = w5 at *
        have hwl : left ≠ 0 → IntKind.i64.wrap ((left : Int) - 1) = (left : Int) - 1 := fun _ => IntWalk.i64_in _ (by omega)
        have Hwl := Lib.hid hwl
        clear hwl
        by_cases c0 : d_ = 0
        · subst c0
          by_cases hs : s.size = 64
          · have hs' : ((s.size : Int) == 64) = true := by rw [hs]; rfl
            have HAct : Hid ((decide (0 ≤ i_ ∧ i_ < (n : Int)) && decide (s.size = 64)) = true) := by show _ = _; rw [HTh.out, decide_eq_true hs]; rfl
            cases off
            · by_cases hz : left = 0
              · subst hz
                have hz : (0 : Nat) = 0 := rfl
                go_wp2_with fail
                go_region_held3 (fun w' => w'.cell? ⟨wr.heap.size, 0, none⟩ = some (.int .i64 0) ∧ w'.cell? ⟨wr.heap.size, 1, none⟩ = some (.int .i64 i_) ∧ w'.cell? ⟨wr.heap.size, 2, none⟩ = some (.int .i64 n_) ∧ w'.cell? ⟨wr.heap.size, 3, none⟩ = some (.string b_) ∧ w'.cell? ⟨wr.heap.size, 4, none⟩ = some (.string x_) ∧ w'.cell? ⟨wr.heap.size, 5, none⟩ = some (.int .u8 (y_ : Int)) ∧ w'.cell? ⟨wr.heap.size, 6, none⟩ = some (.slice kA ks.length kcap)) (first | go_keep | (refine ⟨?_, ?_, ?_, ?_, ?_, ?_, ?_⟩ <;> simp [*]))
                  (first
                    | (go_at_call 49
                       refine (hdat.out _).mono ?_
                       rintro e v5 ⟨rfl, hU5⟩
                       have hU45 : Upd (fun _ => False) w5 v5 := ((Upd.refl _ w5).drew).then hU5 (fun _ e => e.elim)
                       have H6 := Lib.hid (And.intro (H5.out.1.still hU45) (H5.out.2.upd hU45 (fun e => e)))
                       have hc6 := H6.out.2.cells7
                       clear hU5 hU45)
                    | (go_at_call 27
                       refine (write_k (i := 0) (d := d) H6.out.1.disks rfl _ _ (by omega)).mono ?_
                       rintro e v6 ⟨rfl, hD6, hK6⟩
                       have hWr := H5.out.1.wrote i_ s hD6
                       rw [HAct.out] at hWr
                       have HX0 : Hid (FuseS w1 v6 p n (k + 1) 0 true (d.write i_ s).1) := by
                         have h := hWr.2
                         simp [fuseOff, fuseLeft] at h
                         exact h
                       have hr0 : Hid ((d.write i_ s).2 = 14) := by
                         have h := hWr.1
                         simp [fuseTold] at h
                         exact h
                       have H7 := Lib.hid (hK6 _ _ _ H6.out.2 (by decide) (by decide))
                       have hc7 := H7.out.cells7
                       clear hD6 hK6 hWr))
                all_goals
                  rw [hr0.out]
                  clear hr0 hc5 hc6
                  go_wp2_with fail
                  refine (hdat.out _).mono ?_
                  rintro e v7 ⟨rfl, hU⟩
                  have HX := Lib.hid (HX0.out.still hU)
                  clear hU HX0 hc7
                  go_wp2_with fail
                  refine (down_x (i := 0) HX.out.disks rfl).mono ?_
                  rw [HX.out.off_]
                  rintro e w8 ⟨rfl, rfl⟩
                  go_wp2_with fail
                  go_roundw
                  case rel => exact ⟨k + 1, 0, true, (d.write i_ s).1, by omega, by first | rfl | (congr 1; omega), rfl, by go_num, HX.out⟩
                  case measure => simp [intOf] <;> omega
              · have hz' : ((left : Int) == 0) = false := by rw [beq_eq_false_iff_ne]; omega
                have hwl := Hwl.out hz
                go_wp2_with fail
                go_region_held3 (fun w' => w'.cell? ⟨wr.heap.size, 0, none⟩ = some (.int .i64 0) ∧ w'.cell? ⟨wr.heap.size, 1, none⟩ = some (.int .i64 i_) ∧ w'.cell? ⟨wr.heap.size, 2, none⟩ = some (.int .i64 n_) ∧ w'.cell? ⟨wr.heap.size, 3, none⟩ = some (.string b_) ∧ w'.cell? ⟨wr.heap.size, 4, none⟩ = some (.string x_) ∧ w'.cell? ⟨wr.heap.size, 5, none⟩ = some (.int .u8 (y_ : Int)) ∧ w'.cell? ⟨wr.heap.size, 6, none⟩ = some (.slice kA ks.length kcap)) (first | go_keep | (refine ⟨?_, ?_, ?_, ?_, ?_, ?_, ?_⟩ <;> simp [*]))
                  (first
                    | (go_at_call 49
                       refine (hdat.out _).mono ?_
                       rintro e v5 ⟨rfl, hU5⟩
                       have hU45 : Upd (fun _ => False) w5 v5 := ((Upd.refl _ w5).drew).then hU5 (fun _ e => e.elim)
                       have H6 := Lib.hid (And.intro (H5.out.1.still hU45) (H5.out.2.upd hU45 (fun e => e)))
                       have hc6 := H6.out.2.cells7
                       clear hU5 hU45)
                    | (go_at_call 27
                       refine (write_k (i := 0) (d := d) H6.out.1.disks rfl _ _ (by omega)).mono ?_
                       rintro e v6 ⟨rfl, hD6, hK6⟩
                       have hWr := H5.out.1.wrote i_ s hD6
                       rw [HAct.out] at hWr
                       have HX0 : Hid (FuseS w1 v6 p n (k + 1) (left - 1) false (d.write i_ s).1) := by
                         have h := hWr.2
                         simp [fuseOff, fuseLeft, hz] at h
                         exact h
                       have hr0 : Hid ((d.write i_ s).2 = 0) := by
                         have h := hWr.1
                         simp [fuseTold, hz] at h
                         exact h
                       have H7 := Lib.hid (hK6 _ _ _ H6.out.2 (by decide) (by decide))
                       have hc7 := H7.out.cells7
                       clear hD6 hK6 hWr))
                all_goals
                  rw [hr0.out]
                  clear hr0 hc5 hc6
                  go_wp2_with fail
                  refine (hdat.out _).mono ?_
                  rintro e v7 ⟨rfl, hU⟩
                  have HX := Lib.hid (HX0.out.still hU)
                  clear hU HX0 hc7
                  go_wp2_with fail
                  refine (down_x (i := 0) HX.out.disks rfl).mono ?_
                  rw [HX.out.off_]
                  rintro e w8 ⟨rfl, rfl⟩
                  go_wp2_with fail
                  go_roundw
                  case rel => exact ⟨k + 1, (left - 1), false, (d.write i_ s).1, by omega, by first | rfl | (congr 1; omega), rfl, by go_num, HX.out⟩
                  case measure => simp [intOf] <;> omega
            · by_cases hz : left = 0
              · subst hz
                have hz : (0 : Nat) = 0 := rfl
                go_wp2_with fail
                go_region_held3 (fun w' => w'.cell? ⟨wr.heap.size, 0, none⟩ = some (.int .i64 0) ∧ w'.cell? ⟨wr.heap.size, 1, none⟩ = some (.int .i64 i_) ∧ w'.cell? ⟨wr.heap.size, 2, none⟩ = some (.int .i64 n_) ∧ w'.cell? ⟨wr.heap.size, 3, none⟩ = some (.string b_) ∧ w'.cell? ⟨wr.heap.size, 4, none⟩ = some (.string x_) ∧ w'.cell? ⟨wr.heap.size, 5, none⟩ = some (.int .u8 (y_ : Int)) ∧ w'.cell? ⟨wr.heap.size, 6, none⟩ = some (.slice kA ks.length kcap)) (first | go_keep | (refine ⟨?_, ?_, ?_, ?_, ?_, ?_, ?_⟩ <;> simp [*]))
                  (first
                    | (go_at_call 49
                       refine (hdat.out _).mono ?_
                       rintro e v5 ⟨rfl, hU5⟩
                       have hU45 : Upd (fun _ => False) w5 v5 := ((Upd.refl _ w5).drew).then hU5 (fun _ e => e.elim)
                       have H6 := Lib.hid (And.intro (H5.out.1.still hU45) (H5.out.2.upd hU45 (fun e => e)))
                       have hc6 := H6.out.2.cells7
                       clear hU5 hU45)
                    | (go_at_call 27
                       refine (write_k (i := 0) (d := d) H6.out.1.disks rfl _ _ (by omega)).mono ?_
                       rintro e v6 ⟨rfl, hD6, hK6⟩
                       have hWr := H5.out.1.wrote i_ s hD6
                       rw [HAct.out] at hWr
                       have HX0 : Hid (FuseS w1 v6 p n (k + 1) 0 true (d.write i_ s).1) := by
                         have h := hWr.2
                         simp [fuseOff, fuseLeft] at h
                         exact h
                       have hr0 : Hid ((d.write i_ s).2 = 14) := by
                         have h := hWr.1
                         simp [fuseTold] at h
                         exact h
                       have H7 := Lib.hid (hK6 _ _ _ H6.out.2 (by decide) (by decide))
                       have hc7 := H7.out.cells7
                       clear hD6 hK6 hWr))
                all_goals
                  rw [hr0.out]
                  clear hr0 hc5 hc6
                  go_wp2_with fail
                  refine (hdat.out _).mono ?_
                  rintro e v7 ⟨rfl, hU⟩
                  have HX := Lib.hid (HX0.out.still hU)
                  clear hU HX0 hc7
                  go_wp2_with fail
                  refine (down_x (i := 0) HX.out.disks rfl).mono ?_
                  rw [HX.out.off_]
                  rintro e w8 ⟨rfl, rfl⟩
                  go_wp2_with fail
                  go_roundw
                  case rel => exact ⟨k + 1, 0, true, (d.write i_ s).1, by omega, by first | rfl | (congr 1; omega), rfl, by go_num, HX.out⟩
                  case measure => simp [intOf] <;> omega
              · have hz' : ((left : Int) == 0) = false := by rw [beq_eq_false_iff_ne]; omega
                have hwl := Hwl.out hz
                exact absurd (H5.out.1.zero rfl) hz
          · have hs' : ((s.size : Int) == 64) = false := by rw [beq_eq_false_iff_ne]; omega
            have HAct : Hid ((decide (0 ≤ i_ ∧ i_ < (n : Int)) && decide (s.size = 64)) = false) := by show _ = _; rw [HTh.out, decide_eq_false hs]; rfl
            cases off
            · by_cases hz : left = 0
              · subst hz
                have hz : (0 : Nat) = 0 := rfl
                go_wp2_with fail
                go_region_held3 (fun w' => w'.cell? ⟨wr.heap.size, 0, none⟩ = some (.int .i64 0) ∧ w'.cell? ⟨wr.heap.size, 1, none⟩ = some (.int .i64 i_) ∧ w'.cell? ⟨wr.heap.size, 2, none⟩ = some (.int .i64 n_) ∧ w'.cell? ⟨wr.heap.size, 3, none⟩ = some (.string b_) ∧ w'.cell? ⟨wr.heap.size, 4, none⟩ = some (.string x_) ∧ w'.cell? ⟨wr.heap.size, 5, none⟩ = some (.int .u8 (y_ : Int)) ∧ w'.cell? ⟨wr.heap.size, 6, none⟩ = some (.slice kA ks.length kcap)) (first | go_keep | (refine ⟨?_, ?_, ?_, ?_, ?_, ?_, ?_⟩ <;> simp [*]))
                  (first
                    | (go_at_call 49
                       refine (hdat.out _).mono ?_
                       rintro e v5 ⟨rfl, hU5⟩
                       have hU45 : Upd (fun _ => False) w5 v5 := ((Upd.refl _ w5).drew).then hU5 (fun _ e => e.elim)
                       have H6 := Lib.hid (And.intro (H5.out.1.still hU45) (H5.out.2.upd hU45 (fun e => e)))
                       have hc6 := H6.out.2.cells7
                       clear hU5 hU45)
                    | (go_at_call 27
                       refine (write_k (i := 0) (d := d) H6.out.1.disks rfl _ _ (by omega)).mono ?_
                       rintro e v6 ⟨rfl, hD6, hK6⟩
                       have hWr := H5.out.1.wrote i_ s hD6
                       rw [HAct.out] at hWr
                       have HX0 : Hid (FuseS w1 v6 p n (k + 1) 0 false (d.write i_ s).1) := by
                         have h := hWr.2
                         simp [fuseOff, fuseLeft] at h
                         exact h
                       have hr0 : Hid ((d.write i_ s).2 = 1) := by
                         have h := hWr.1
                         simp [fuseTold] at h
                         exact h
                       have H7 := Lib.hid (hK6 _ _ _ H6.out.2 (by decide) (by decide))
                       have hc7 := H7.out.cells7
                       clear hD6 hK6 hWr))
                all_goals
                  rw [hr0.out]
                  clear hr0 hc5 hc6
                  go_wp2_with fail
                  refine (hdat.out _).mono ?_
                  rintro e v7 ⟨rfl, hU⟩
                  have HX := Lib.hid (HX0.out.still hU)
                  clear hU HX0 hc7
                  go_wp2_with fail
                  refine (down_x (i := 0) HX.out.disks rfl).mono ?_
                  rw [HX.out.off_]
                  rintro e w8 ⟨rfl, rfl⟩
                  go_wp2_with fail
                  go_roundw
                  case rel => exact ⟨k + 1, 0, false, (d.write i_ s).1, by omega, by first | rfl | (congr 1; omega), rfl, by go_num, HX.out⟩
                  case measure => simp [intOf] <;> omega
              · have hz' : ((left : Int) == 0) = false := by rw [beq_eq_false_iff_ne]; omega
                have hwl := Hwl.out hz
                go_wp2_with fail
                go_region_held3 (fun w' => w'.cell? ⟨wr.heap.size, 0, none⟩ = some (.int .i64 0) ∧ w'.cell? ⟨wr.heap.size, 1, none⟩ = some (.int .i64 i_) ∧ w'.cell? ⟨wr.heap.size, 2, none⟩ = some (.int .i64 n_) ∧ w'.cell? ⟨wr.heap.size, 3, none⟩ = some (.string b_) ∧ w'.cell? ⟨wr.heap.size, 4, none⟩ = some (.string x_) ∧ w'.cell? ⟨wr.heap.size, 5, none⟩ = some (.int .u8 (y_ : Int)) ∧ w'.cell? ⟨wr.heap.size, 6, none⟩ = some (.slice kA ks.length kcap)) (first | go_keep | (refine ⟨?_, ?_, ?_, ?_, ?_, ?_, ?_⟩ <;> simp [*]))
                  (first
                    | (go_at_call 49
                       refine (hdat.out _).mono ?_
                       rintro e v5 ⟨rfl, hU5⟩
                       have hU45 : Upd (fun _ => False) w5 v5 := ((Upd.refl _ w5).drew).then hU5 (fun _ e => e.elim)
                       have H6 := Lib.hid (And.intro (H5.out.1.still hU45) (H5.out.2.upd hU45 (fun e => e)))
                       have hc6 := H6.out.2.cells7
                       clear hU5 hU45)
                    | (go_at_call 27
                       refine (write_k (i := 0) (d := d) H6.out.1.disks rfl _ _ (by omega)).mono ?_
                       rintro e v6 ⟨rfl, hD6, hK6⟩
                       have hWr := H5.out.1.wrote i_ s hD6
                       rw [HAct.out] at hWr
                       have HX0 : Hid (FuseS w1 v6 p n (k + 1) left false (d.write i_ s).1) := by
                         have h := hWr.2
                         simp [fuseOff, fuseLeft] at h
                         exact h
                       have hr0 : Hid ((d.write i_ s).2 = 1) := by
                         have h := hWr.1
                         simp [fuseTold] at h
                         exact h
                       have H7 := Lib.hid (hK6 _ _ _ H6.out.2 (by decide) (by decide))
                       have hc7 := H7.out.cells7
                       clear hD6 hK6 hWr))
                all_goals
                  rw [hr0.out]
                  clear hr0 hc5 hc6
                  go_wp2_with fail
                  refine (hdat.out _).mono ?_
                  rintro e v7 ⟨rfl, hU⟩
                  have HX := Lib.hid (HX0.out.still hU)
                  clear hU HX0 hc7
                  go_wp2_with fail
                  refine (down_x (i := 0) HX.out.disks rfl).mono ?_
                  rw [HX.out.off_]
                  rintro e w8 ⟨rfl, rfl⟩
                  go_wp2_with fail
                  go_roundw
                  case rel => exact ⟨k + 1, left, false, (d.write i_ s).1, by omega, by first | rfl | (congr 1; omega), rfl, by go_num, HX.out⟩
                  case measure => simp [intOf] <;> omega
            · by_cases hz : left = 0
              · subst hz
                have hz : (0 : Nat) = 0 := rfl
                go_wp2_with fail
                go_region_held3 (fun w' => w'.cell? ⟨wr.heap.size, 0, none⟩ = some (.int .i64 0) ∧ w'.cell? ⟨wr.heap.size, 1, none⟩ = some (.int .i64 i_) ∧ w'.cell? ⟨wr.heap.size, 2, none⟩ = some (.int .i64 n_) ∧ w'.cell? ⟨wr.heap.size, 3, none⟩ = some (.string b_) ∧ w'.cell? ⟨wr.heap.size, 4, none⟩ = some (.string x_) ∧ w'.cell? ⟨wr.heap.size, 5, none⟩ = some (.int .u8 (y_ : Int)) ∧ w'.cell? ⟨wr.heap.size, 6, none⟩ = some (.slice kA ks.length kcap)) (first | go_keep | (refine ⟨?_, ?_, ?_, ?_, ?_, ?_, ?_⟩ <;> simp [*]))
                  (first
                    | (go_at_call 49
                       refine (hdat.out _).mono ?_
                       rintro e v5 ⟨rfl, hU5⟩
                       have hU45 : Upd (fun _ => False) w5 v5 := ((Upd.refl _ w5).drew).then hU5 (fun _ e => e.elim)
                       have H6 := Lib.hid (And.intro (H5.out.1.still hU45) (H5.out.2.upd hU45 (fun e => e)))
                       have hc6 := H6.out.2.cells7
                       clear hU5 hU45)
                    | (go_at_call 27
                       refine (write_k (i := 0) (d := d) H6.out.1.disks rfl _ _ (by omega)).mono ?_
                       rintro e v6 ⟨rfl, hD6, hK6⟩
                       have hWr := H5.out.1.wrote i_ s hD6
                       rw [HAct.out] at hWr
                       have HX0 : Hid (FuseS w1 v6 p n (k + 1) 0 true (d.write i_ s).1) := by
                         have h := hWr.2
                         simp [fuseOff, fuseLeft] at h
                         exact h
                       have hr0 : Hid ((d.write i_ s).2 = 14) := by
                         have h := hWr.1
                         simp [fuseTold] at h
                         exact h
                       have H7 := Lib.hid (hK6 _ _ _ H6.out.2 (by decide) (by decide))
                       have hc7 := H7.out.cells7
                       clear hD6 hK6 hWr))
                all_goals
                  rw [hr0.out]
                  clear hr0 hc5 hc6
                  go_wp2_with fail
                  refine (hdat.out _).mono ?_
                  rintro e v7 ⟨rfl, hU⟩
                  have HX := Lib.hid (HX0.out.still hU)
                  clear hU HX0 hc7
                  go_wp2_with fail
                  refine (down_x (i := 0) HX.out.disks rfl).mono ?_
                  rw [HX.out.off_]
                  rintro e w8 ⟨rfl, rfl⟩
                  go_wp2_with fail
                  go_roundw
                  case rel => exact ⟨k + 1, 0, true, (d.write i_ s).1, by omega, by first | rfl | (congr 1; omega), rfl, by go_num, HX.out⟩
                  case measure => simp [intOf] <;> omega
              · have hz' : ((left : Int) == 0) = false := by rw [beq_eq_false_iff_ne]; omega
                have hwl := Hwl.out hz
                exact absurd (H5.out.1.zero rfl) hz
        have c0' : (d_ == 0) = false := by rw [beq_eq_false_iff_ne]; exact c0
        by_cases c1 : d_ = 1
        · subst c1
          cases off
          · by_cases hz : left = 0
            · subst hz
              have hz : (0 : Nat) = 0 := rfl
              go_wp2_with fail
              refine (sync_x (i := 0) H5.out.1.disks rfl).mono ?_
              rintro e v6 ⟨rfl, hD6⟩
              have hWr := H5.out.1.synced hD6
              have HX : Hid (FuseS w1 v6 p n (k + 1) 0 true d.sync.1) := by
                have h := hWr.2
                simp [fuseOff, fuseLeft] at h
                exact h
              have hr0 : Hid (d.sync.2 = 14) := by
                have h := hWr.1
                simp [fuseTold] at h
                exact h
              clear hD6 hWr hc5
              rw [hr0.out]
              clear hr0
              go_wp2_with fail
              refine (down_x (i := 0) HX.out.disks rfl).mono ?_
              rw [HX.out.off_]
              rintro e w8 ⟨rfl, rfl⟩
              go_wp2_with fail
              go_roundw
              case rel => exact ⟨k + 1, 0, true, d.sync.1, by omega, by first | rfl | (congr 1; omega), rfl, by go_num, HX.out⟩
              case measure => simp [intOf] <;> omega
            · have hz' : ((left : Int) == 0) = false := by rw [beq_eq_false_iff_ne]; omega
              have hwl := Hwl.out hz
              go_wp2_with fail
              refine (sync_x (i := 0) H5.out.1.disks rfl).mono ?_
              rintro e v6 ⟨rfl, hD6⟩
              have hWr := H5.out.1.synced hD6
              have HX : Hid (FuseS w1 v6 p n (k + 1) (left - 1) false d.sync.1) := by
                have h := hWr.2
                simp [fuseOff, fuseLeft, hz] at h
                exact h
              have hr0 : Hid (d.sync.2 = 0) := by
                have h := hWr.1
                simp [fuseTold, hz] at h
                exact h
              clear hD6 hWr hc5
              rw [hr0.out]
              clear hr0
              go_wp2_with fail
              refine (down_x (i := 0) HX.out.disks rfl).mono ?_
              rw [HX.out.off_]
              rintro e w8 ⟨rfl, rfl⟩
              go_wp2_with fail
              go_roundw
              case rel => exact ⟨k + 1, (left - 1), false, d.sync.1, by omega, by first | rfl | (congr 1; omega), rfl, by go_num, HX.out⟩
              case measure => simp [intOf] <;> omega
          · by_cases hz : left = 0
            · subst hz
              have hz : (0 : Nat) = 0 := rfl
              go_wp2_with fail
              refine (sync_x (i := 0) H5.out.1.disks rfl).mono ?_
              rintro e v6 ⟨rfl, hD6⟩
              have hWr := H5.out.1.synced hD6
              have HX : Hid (FuseS w1 v6 p n (k + 1) 0 true d.sync.1) := by
                have h := hWr.2
                simp [fuseOff, fuseLeft] at h
                exact h
              have hr0 : Hid (d.sync.2 = 14) := by
                have h := hWr.1
                simp [fuseTold] at h
                exact h
              clear hD6 hWr hc5
              rw [hr0.out]
              clear hr0
              go_wp2_with fail
              refine (down_x (i := 0) HX.out.disks rfl).mono ?_
              rw [HX.out.off_]
              rintro e w8 ⟨rfl, rfl⟩
              go_wp2_with fail
              go_roundw
              case rel => exact ⟨k + 1, 0, true, d.sync.1, by omega, by first | rfl | (congr 1; omega), rfl, by go_num, HX.out⟩
              case measure => simp [intOf] <;> omega
            · have hz' : ((left : Int) == 0) = false := by rw [beq_eq_false_iff_ne]; omega
              have hwl := Hwl.out hz
              exact absurd (H5.out.1.zero rfl) hz
        have c1' : (d_ == 1) = false := by rw [beq_eq_false_iff_ne]; exact c1
        by_cases c5 : d_ = 5
        · subst c5
          cases off
          · go_wp2_with fail
            refine (read_x (i := 0) H5.out.1.disks rfl i_).mono ?_
            rw [H5.out.1.told i_, HTh.out]
            rintro e v6 ⟨rfl, rfl⟩
            have HX := Lib.hid H5.out.1.next
            clear hc5
            go_wp2_with fail
            refine (down_x (i := 0) HX.out.disks rfl).mono ?_
            rw [HX.out.off_]
            rintro e w8 ⟨rfl, rfl⟩
            go_wp2_with fail
            go_roundw
            case rel => exact ⟨k + 1, left, false, d, by omega, by first | rfl | (congr 1; omega), rfl, by go_num, HX.out⟩
            case measure => simp [intOf] <;> omega
          · go_wp2_with fail
            refine (read_x (i := 0) H5.out.1.disks rfl i_).mono ?_
            rw [H5.out.1.told i_, HTh.out]
            rintro e v6 ⟨rfl, rfl⟩
            have HX := Lib.hid H5.out.1.next
            clear hc5
            go_wp2_with fail
            refine (down_x (i := 0) HX.out.disks rfl).mono ?_
            rw [HX.out.off_]
            rintro e w8 ⟨rfl, rfl⟩
            go_wp2_with fail
            go_roundw
            case rel => exact ⟨k + 1, left, true, d, by omega, by first | rfl | (congr 1; omega), rfl, by go_num, HX.out⟩
            case measure => simp [intOf] <;> omega
        have c5' : (d_ == 5) = false := by rw [beq_eq_false_iff_ne]; exact c5
        have HX := Lib.hid H5.out.1.next
        go_wp2_with fail
        go_roundw
        case rel => exact ⟨k + 1, left, off, d, by omega, rfl, rfl, by go_num, HX.out⟩
        case measure => simp [intOf] <;> omega
      · have hI1 : (0 : Int) ≤ i_ := by omega
        have hI2 : ¬ i_ < (n : Int) := by omega
        go_quiet (first | (go_at_call 48; refine Calls.quiet_of_same (sectors_q (i := 0) (H4.out.1.disks.still ((Upd.refl _ _).drewN _)) rfl)))
        have HTh : Hid (decide (0 ≤ i_ ∧ i_ < (n : Int)) = false) := by show _ = _; rw [decide_eq_false_iff_not]; omega
        clear hI1 hI2 hln
        have hU5 : Upd (fun _ => False) w4 (w4.drewN nq) := (Upd.refl _ w4).drewN _
        have H5 := Lib.hid (And.intro (H4.out.1.still hU5) (H4.out.2.upd hU5 (fun e => e)))
        have hc5 := H5.out.2.cells7
        clear hU5 H4 hc4
        generalize w4.drewN nq = w5 at *
        have hwl : left ≠ 0 → IntKind.i64.wrap ((left : Int) - 1) = (left : Int) - 1 := fun _ => IntWalk.i64_in _ (by omega)
        have Hwl := Lib.hid hwl
        clear hwl
        by_cases c0 : d_ = 0
        · subst c0
          have HAct : Hid ((decide (0 ≤ i_ ∧ i_ < (n : Int)) && decide (s.size = 64)) = false) := by show _ = _; rw [HTh.out]; rfl
          cases off
          · by_cases hz : left = 0
            · subst hz
              have hz : (0 : Nat) = 0 := rfl
              go_wp2_with fail
              go_region_held3 (fun w' => w'.cell? ⟨wr.heap.size, 0, none⟩ = some (.int .i64 0) ∧ w'.cell? ⟨wr.heap.size, 1, none⟩ = some (.int .i64 i_) ∧ w'.cell? ⟨wr.heap.size, 2, none⟩ = some (.int .i64 n_) ∧ w'.cell? ⟨wr.heap.size, 3, none⟩ = some (.string b_) ∧ w'.cell? ⟨wr.heap.size, 4, none⟩ = some (.string x_) ∧ w'.cell? ⟨wr.heap.size, 5, none⟩ = some (.int .u8 (y_ : Int)) ∧ w'.cell? ⟨wr.heap.size, 6, none⟩ = some (.slice kA ks.length kcap)) (first | go_keep | (refine ⟨?_, ?_, ?_, ?_, ?_, ?_, ?_⟩ <;> simp [*]))
                (first
                  | (go_at_call 49
                     refine (hdat.out _).mono ?_
                     rintro e v5 ⟨rfl, hU5⟩
                     have hU45 : Upd (fun _ => False) w5 v5 := ((Upd.refl _ w5).drew).then hU5 (fun _ e => e.elim)
                     have H6 := Lib.hid (And.intro (H5.out.1.still hU45) (H5.out.2.upd hU45 (fun e => e)))
                     have hc6 := H6.out.2.cells7
                     clear hU5 hU45)
                  | (go_at_call 27
                     refine (write_k (i := 0) (d := d) H6.out.1.disks rfl _ _ (by omega)).mono ?_
                     rintro e v6 ⟨rfl, hD6, hK6⟩
                     have hWr := H5.out.1.wrote i_ s hD6
                     rw [HAct.out] at hWr
                     have HX0 : Hid (FuseS w1 v6 p n (k + 1) 0 false (d.write i_ s).1) := by
                       have h := hWr.2
                       simp [fuseOff, fuseLeft] at h
                       exact h
                     have hr0 : Hid ((d.write i_ s).2 = 1) := by
                       have h := hWr.1
                       simp [fuseTold] at h
                       exact h
                     have H7 := Lib.hid (hK6 _ _ _ H6.out.2 (by decide) (by decide))
                     have hc7 := H7.out.cells7
                     clear hD6 hK6 hWr))
              all_goals
                rw [hr0.out]
                clear hr0 hc5 hc6
                have HX := HX0
                clear HX0 hc7
                go_wp2_with fail
                refine (down_x (i := 0) HX.out.disks rfl).mono ?_
                rw [HX.out.off_]
                rintro e w8 ⟨rfl, rfl⟩
                go_wp2_with fail
                go_roundw
                case rel => exact ⟨k + 1, 0, false, (d.write i_ s).1, by omega, by first | rfl | (congr 1; omega), rfl, by go_num, HX.out⟩
                case measure => simp [intOf] <;> omega
            · have hz' : ((left : Int) == 0) = false := by rw [beq_eq_false_iff_ne]; omega
              have hwl := Hwl.out hz
              go_wp2_with fail
              go_region_held3 (fun w' => w'.cell? ⟨wr.heap.size, 0, none⟩ = some (.int .i64 0) ∧ w'.cell? ⟨wr.heap.size, 1, none⟩ = some (.int .i64 i_) ∧ w'.cell? ⟨wr.heap.size, 2, none⟩ = some (.int .i64 n_) ∧ w'.cell? ⟨wr.heap.size, 3, none⟩ = some (.string b_) ∧ w'.cell? ⟨wr.heap.size, 4, none⟩ = some (.string x_) ∧ w'.cell? ⟨wr.heap.size, 5, none⟩ = some (.int .u8 (y_ : Int)) ∧ w'.cell? ⟨wr.heap.size, 6, none⟩ = some (.slice kA ks.length kcap)) (first | go_keep | (refine ⟨?_, ?_, ?_, ?_, ?_, ?_, ?_⟩ <;> simp [*]))
                (first
                  | (go_at_call 49
                     refine (hdat.out _).mono ?_
                     rintro e v5 ⟨rfl, hU5⟩
                     have hU45 : Upd (fun _ => False) w5 v5 := ((Upd.refl _ w5).drew).then hU5 (fun _ e => e.elim)
                     have H6 := Lib.hid (And.intro (H5.out.1.still hU45) (H5.out.2.upd hU45 (fun e => e)))
                     have hc6 := H6.out.2.cells7
                     clear hU5 hU45)
                  | (go_at_call 27
                     refine (write_k (i := 0) (d := d) H6.out.1.disks rfl _ _ (by omega)).mono ?_
                     rintro e v6 ⟨rfl, hD6, hK6⟩
                     have hWr := H5.out.1.wrote i_ s hD6
                     rw [HAct.out] at hWr
                     have HX0 : Hid (FuseS w1 v6 p n (k + 1) left false (d.write i_ s).1) := by
                       have h := hWr.2
                       simp [fuseOff, fuseLeft] at h
                       exact h
                     have hr0 : Hid ((d.write i_ s).2 = 1) := by
                       have h := hWr.1
                       simp [fuseTold] at h
                       exact h
                     have H7 := Lib.hid (hK6 _ _ _ H6.out.2 (by decide) (by decide))
                     have hc7 := H7.out.cells7
                     clear hD6 hK6 hWr))
              all_goals
                rw [hr0.out]
                clear hr0 hc5 hc6
                have HX := HX0
                clear HX0 hc7
                go_wp2_with fail
                refine (down_x (i := 0) HX.out.disks rfl).mono ?_
                rw [HX.out.off_]
                rintro e w8 ⟨rfl, rfl⟩
                go_wp2_with fail
                go_roundw
                case rel => exact ⟨k + 1, left, false, (d.write i_ s).1, by omega, by first | rfl | (congr 1; omega), rfl, by go_num, HX.out⟩
                case measure => simp [intOf] <;> omega
          · by_cases hz : left = 0
            · subst hz
              have hz : (0 : Nat) = 0 := rfl
              go_wp2_with fail
              go_region_held3 (fun w' => w'.cell? ⟨wr.heap.size, 0, none⟩ = some (.int .i64 0) ∧ w'.cell? ⟨wr.heap.size, 1, none⟩ = some (.int .i64 i_) ∧ w'.cell? ⟨wr.heap.size, 2, none⟩ = some (.int .i64 n_) ∧ w'.cell? ⟨wr.heap.size, 3, none⟩ = some (.string b_) ∧ w'.cell? ⟨wr.heap.size, 4, none⟩ = some (.string x_) ∧ w'.cell? ⟨wr.heap.size, 5, none⟩ = some (.int .u8 (y_ : Int)) ∧ w'.cell? ⟨wr.heap.size, 6, none⟩ = some (.slice kA ks.length kcap)) (first | go_keep | (refine ⟨?_, ?_, ?_, ?_, ?_, ?_, ?_⟩ <;> simp [*]))
                (first
                  | (go_at_call 49
                     refine (hdat.out _).mono ?_
                     rintro e v5 ⟨rfl, hU5⟩
                     have hU45 : Upd (fun _ => False) w5 v5 := ((Upd.refl _ w5).drew).then hU5 (fun _ e => e.elim)
                     have H6 := Lib.hid (And.intro (H5.out.1.still hU45) (H5.out.2.upd hU45 (fun e => e)))
                     have hc6 := H6.out.2.cells7
                     clear hU5 hU45)
                  | (go_at_call 27
                     refine (write_k (i := 0) (d := d) H6.out.1.disks rfl _ _ (by omega)).mono ?_
                     rintro e v6 ⟨rfl, hD6, hK6⟩
                     have hWr := H5.out.1.wrote i_ s hD6
                     rw [HAct.out] at hWr
                     have HX0 : Hid (FuseS w1 v6 p n (k + 1) 0 true (d.write i_ s).1) := by
                       have h := hWr.2
                       simp [fuseOff, fuseLeft] at h
                       exact h
                     have hr0 : Hid ((d.write i_ s).2 = 14) := by
                       have h := hWr.1
                       simp [fuseTold] at h
                       exact h
                     have H7 := Lib.hid (hK6 _ _ _ H6.out.2 (by decide) (by decide))
                     have hc7 := H7.out.cells7
                     clear hD6 hK6 hWr))
              all_goals
                rw [hr0.out]
                clear hr0 hc5 hc6
                have HX := HX0
                clear HX0 hc7
                go_wp2_with fail
                refine (down_x (i := 0) HX.out.disks rfl).mono ?_
                rw [HX.out.off_]
                rintro e w8 ⟨rfl, rfl⟩
                go_wp2_with fail
                go_roundw
                case rel => exact ⟨k + 1, 0, true, (d.write i_ s).1, by omega, by first | rfl | (congr 1; omega), rfl, by go_num, HX.out⟩
                case measure => simp [intOf] <;> omega
            · have hz' : ((left : Int) == 0) = false := by rw [beq_eq_false_iff_ne]; omega
              have hwl := Hwl.out hz
              exact absurd (H5.out.1.zero rfl) hz
        have c0' : (d_ == 0) = false := by rw [beq_eq_false_iff_ne]; exact c0
        by_cases c1 : d_ = 1
        · subst c1
          cases off
          · by_cases hz : left = 0
            · subst hz
              have hz : (0 : Nat) = 0 := rfl
              go_wp2_with fail
              refine (sync_x (i := 0) H5.out.1.disks rfl).mono ?_
              rintro e v6 ⟨rfl, hD6⟩
              have hWr := H5.out.1.synced hD6
              have HX : Hid (FuseS w1 v6 p n (k + 1) 0 true d.sync.1) := by
                have h := hWr.2
                simp [fuseOff, fuseLeft] at h
                exact h
              have hr0 : Hid (d.sync.2 = 14) := by
                have h := hWr.1
                simp [fuseTold] at h
                exact h
              clear hD6 hWr hc5
              rw [hr0.out]
              clear hr0
              go_wp2_with fail
              refine (down_x (i := 0) HX.out.disks rfl).mono ?_
              rw [HX.out.off_]
              rintro e w8 ⟨rfl, rfl⟩
              go_wp2_with fail
              go_roundw
              case rel => exact ⟨k + 1, 0, true, d.sync.1, by omega, by first | rfl | (congr 1; omega), rfl, by go_num, HX.out⟩
              case measure => simp [intOf] <;> omega
            · have hz' : ((left : Int) == 0) = false := by rw [beq_eq_false_iff_ne]; omega
              have hwl := Hwl.out hz
              go_wp2_with fail
              refine (sync_x (i := 0) H5.out.1.disks rfl).mono ?_
              rintro e v6 ⟨rfl, hD6⟩
              have hWr := H5.out.1.synced hD6
              have HX : Hid (FuseS w1 v6 p n (k + 1) (left - 1) false d.sync.1) := by
                have h := hWr.2
                simp [fuseOff, fuseLeft, hz] at h
                exact h
              have hr0 : Hid (d.sync.2 = 0) := by
                have h := hWr.1
                simp [fuseTold, hz] at h
                exact h
              clear hD6 hWr hc5
              rw [hr0.out]
              clear hr0
              go_wp2_with fail
              refine (down_x (i := 0) HX.out.disks rfl).mono ?_
              rw [HX.out.off_]
              rintro e w8 ⟨rfl, rfl⟩
              go_wp2_with fail
              go_roundw
              case rel => exact ⟨k + 1, (left - 1), false, d.sync.1, by omega, by first | rfl | (congr 1; omega), rfl, by go_num, HX.out⟩
              case measure => simp [intOf] <;> omega
          · by_cases hz : left = 0
            · subst hz
              have hz : (0 : Nat) = 0 := rfl
              go_wp2_with fail
              refine (sync_x (i := 0) H5.out.1.disks rfl).mono ?_
              rintro e v6 ⟨rfl, hD6⟩
              have hWr := H5.out.1.synced hD6
              have HX : Hid (FuseS w1 v6 p n (k + 1) 0 true d.sync.1) := by
                have h := hWr.2
                simp [fuseOff, fuseLeft] at h
                exact h
              have hr0 : Hid (d.sync.2 = 14) := by
                have h := hWr.1
                simp [fuseTold] at h
                exact h
              clear hD6 hWr hc5
              rw [hr0.out]
              clear hr0
              go_wp2_with fail
              refine (down_x (i := 0) HX.out.disks rfl).mono ?_
              rw [HX.out.off_]
              rintro e w8 ⟨rfl, rfl⟩
              go_wp2_with fail
              go_roundw
              case rel => exact ⟨k + 1, 0, true, d.sync.1, by omega, by first | rfl | (congr 1; omega), rfl, by go_num, HX.out⟩
              case measure => simp [intOf] <;> omega
            · have hz' : ((left : Int) == 0) = false := by rw [beq_eq_false_iff_ne]; omega
              have hwl := Hwl.out hz
              exact absurd (H5.out.1.zero rfl) hz
        have c1' : (d_ == 1) = false := by rw [beq_eq_false_iff_ne]; exact c1
        by_cases c5 : d_ = 5
        · subst c5
          cases off
          · go_wp2_with fail
            refine (read_x (i := 0) H5.out.1.disks rfl i_).mono ?_
            rw [H5.out.1.told i_, HTh.out]
            rintro e v6 ⟨rfl, rfl⟩
            have HX := Lib.hid H5.out.1.next
            clear hc5
            go_wp2_with fail
            refine (down_x (i := 0) HX.out.disks rfl).mono ?_
            rw [HX.out.off_]
            rintro e w8 ⟨rfl, rfl⟩
            go_wp2_with fail
            go_roundw
            case rel => exact ⟨k + 1, left, false, d, by omega, by first | rfl | (congr 1; omega), rfl, by go_num, HX.out⟩
            case measure => simp [intOf] <;> omega
          · go_wp2_with fail
            refine (read_x (i := 0) H5.out.1.disks rfl i_).mono ?_
            rw [H5.out.1.told i_, HTh.out]
            rintro e v6 ⟨rfl, rfl⟩
            have HX := Lib.hid H5.out.1.next
            clear hc5
            go_wp2_with fail
            refine (down_x (i := 0) HX.out.disks rfl).mono ?_
            rw [HX.out.off_]
            rintro e w8 ⟨rfl, rfl⟩
            go_wp2_with fail
            go_roundw
            case rel => exact ⟨k + 1, left, true, d, by omega, by first | rfl | (congr 1; omega), rfl, by go_num, HX.out⟩
            case measure => simp [intOf] <;> omega
        have c5' : (d_ == 5) = false := by rw [beq_eq_false_iff_ne]; exact c5
        have HX := Lib.hid H5.out.1.next
        go_wp2_with fail
        go_roundw
        case rel => exact ⟨k + 1, left, off, d, by omega, rfl, rfl, by go_num, HX.out⟩
        case measure => simp [intOf] <;> omega
    · have HF := Lib.hid hF
      clear hF
      go_wp2_with fail
      go_ret
      exact ⟨rfl, HU1.out.then HF.out.disks.upd (fun _ e => e.elim)⟩
end Go.Proofs.Ytafgohnpnaiomaa
