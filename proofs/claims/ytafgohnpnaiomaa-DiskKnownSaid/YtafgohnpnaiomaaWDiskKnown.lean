/-
  DiskKnown: the walk.
-/
import Derived.Test.YtafgohnpnaiomaaRun7K
namespace Go.Proofs.Ytafgohnpnaiomaa
open Go Go.RowKit

theorem write_ok {d d2 : Dk} {i : Nat} {b : ByteArray} (ho : d.off = false) (ht : d.there (i : Int) = true) (hb : b.size = 64) (hB : d.burn = (d2, true)) : d.write (i : Int) b = (d2.push i b, 0) := by
  unfold Dk.write
  rw [ho, ht, hB]
  simp [hb]
theorem write_bad {d : Dk} {i : Int} {b : ByteArray} (ho : d.off = false) (h : (d.there i && decide (b.size = 64)) = false) : d.write i b = (d, 1) := by
  unfold Dk.write
  rw [ho, h]
  simp
theorem crash_one {d : Dk} {l : List ByteArray} {s1 : ByteArray} (hw : d.waits.length = d.lasts.length) (hb : d.busy = [0]) (h0 : d.at_ 0 = l) (hl : d.last 0 = s1) (z : Int) (c : Nat) (hc : Dk.choice l [z] 0 = c) :
    (d.crash [z]).read 0 = (if 0 < c then l.getD (c - 1) ByteArray.empty else s1, 0) := by
  have hn : 0 < d.lasts.length := (Dk.busy_mem.1 (by rw [hb]; simp : 0 ∈ d.busy)).1
  have hr := Dk.read_there (d := d.crash [z]) rfl (i := 0) (by rw [show (d.crash [z]).lasts.length = d.lasts.length from Dk.part_len _ _ _]; exact hn)
  rw [show ((0 : Nat) : Int) = 0 from rfl] at hr
  rw [hr]
  congr 1
  unfold Dk.now
  rw [Dk.crash_now hw]
  show (d.part [z] d.busy.length).lasts.getD 0 ByteArray.empty = _
  rw [List.getD_eq_getElem?_getD, Dk.part_get _ _ _ _ hn, hb]
  simp [Dk.keptAt, h0, hl, hc]
theorem known_ex {s1 s2 s3 s4 x : ByteArray} (h1 : s1.size = 64) (h2 : s2.size = 64) (h3 : s3.size = 64) (h4 : s4.size = 63) (hx : x.size = 4) :
    ∃ A1 A2 A2' A3 A4 A5 A6 A7 A8 : Dk, (Dk.fresh 2).write 0 s1 = (A1, 0) ∧ A1.read 0 = (s1, 0) ∧ A1.pend = 1 ∧ A1.sync = (A2, 0) ∧ A2.pend = 0 ∧ A2.write 0 s2 = (A2', 0) ∧ A2'.pend = 1 ∧ A2'.write 0 s3 = (A3, 0) ∧ A3.pend = 2 ∧
      ((A3.crash [0]).read 0 = (s1, 0) ∧ (A3.crash [1]).read 0 = (s2, 0) ∧ (A3.crash [2]).read 0 = (s3, 0) ∧ (A3.crash [3]).read 0 = (s1, 0) ∧ (A3.crash [-1]).read 0 = (s3, 0)) ∧
      (∀ z, (A3.crash [z]).pend = 0) ∧ A3.setFuse 1 = A4 ∧ A4.pend = 2 ∧ A4.write 1 s1 = (A5, 0) ∧ A5.sync = (A6, 14) ∧ A6.off = true ∧ A6.read 0 = (ByteArray.empty, 14) ∧ A6.crash [0, 1] = A7 ∧
      A7.read 1 = (s1, 0) ∧ A7.off = false ∧ A7.pend = 0 ∧ A7.write 2 s1 = (A7, 1) ∧ A7.write 0 s4 = (A7, 1) ∧ A7.spoil 0 62 x = (A7, 1) ∧ A7.spoil 0 60 x = (A8, 0) := by
  refine ⟨⟨[zeros64, zeros64], [[s1], []], -1, false⟩, ⟨[s1, zeros64], [[], []], -1, false⟩, ⟨[s1, zeros64], [[s2], []], -1, false⟩, ⟨[s1, zeros64], [[s2, s3], []], -1, false⟩, ⟨[s1, zeros64], [[s2, s3], []], 1, false⟩, ⟨[s1, zeros64], [[s2, s3], [s1]], 0, false⟩, ⟨[s1, zeros64], [[s2, s3], [s1]], 0, true⟩, ⟨[s1, s1], [[], []], -1, false⟩, ((⟨[s1, s1], [[], []], -1, false⟩ : Dk).spoil 0 60 x).1,
    by simp [Dk.write, Dk.there, Dk.burn, Dk.push, Dk.at_, Dk.fresh, h1], rfl, rfl, rfl, rfl, by simp [Dk.write, Dk.there, Dk.burn, Dk.push, Dk.at_, h2], rfl, by simp [Dk.write, Dk.there, Dk.burn, Dk.push, Dk.at_, h3], rfl, ⟨rfl, rfl, rfl, crash_one (l := [s2, s3]) rfl rfl rfl rfl 3 0 (by simp [Dk.choice]), crash_one (l := [s2, s3]) rfl rfl rfl rfl (-1) 2 (by simp [Dk.choice])⟩, fun z => rfl, rfl, rfl,
    by simp [Dk.write, Dk.there, Dk.burn, Dk.push, Dk.at_, h1], rfl, rfl, rfl, rfl, rfl, rfl, rfl, write_bad rfl rfl, write_bad rfl ?_, ?_, ?_⟩
  · rw [decide_eq_false (by omega), Bool.and_false]
  · unfold Dk.spoil
    rw [if_neg]
    rw [Bool.and_eq_true, decide_eq_true_eq]
    omega
  · refine Prod.ext rfl ?_
    unfold Dk.spoil
    rw [if_pos]
    rw [Bool.and_eq_true, decide_eq_true_eq]
    exact ⟨rfl, by omega⟩
theorem full_one (b : Nat) (hb : b < 256) (z : Int) (hz : z = (b : Int)) : ∃ s : ByteArray, s.size = 64 ∧ ∀ w, Calls Try.prog 54 #[.int .u8 z] w fun e w' => e = .returned (.string s) ∧ Upd (fun _ => False) w w' := by
  subst hz
  exact ⟨_, rep64_size _, fun w => full_c b w hb⟩
set_option maxRecDepth 100000 in
set_option maxHeartbeats 6400000 in
theorem walk_DiskKnown (w : World) :
    Calls Try.prog 13 #[] w fun e w' => e = .returned (.bool true) ∧ Upd (fun _ => False) w w' := by
  obtain ⟨s1, h1, f1⟩ := full_one 1 (by omega) 1 rfl
  obtain ⟨s2, h2, f2⟩ := full_one 2 (by omega) 2 rfl
  obtain ⟨s3, h3, f3⟩ := full_one 3 (by omega) 3 rfl
  have h4 : (s1.extract 1 64).size = 63 := by rw [ByteArray.size_extract, h1]; rfl
  obtain ⟨A1, A2, A2', A3, A4, A5, A6, A7, A8, k1, k2, k3, k4, k5, k6, k7, k8, k9, kc, kp, k10, k11, k12, k13, k14, k15, k16, k17, k18, k19, k20, k21, k22, k23⟩ := known_ex h1 h2 h3 h4 (x := ⟨#[97, 98, 99, 100]⟩) rfl
  have F1 := Lib.hid f1
  have F2 := Lib.hid f2
  have F3 := Lib.hid f3
  have K1 := Lib.hid (And.intro k1 (And.intro k2 (And.intro k3 (And.intro k4 (And.intro k5 (And.intro k6 (And.intro k7 (And.intro k8 k9))))))))
  have KC := Lib.hid (And.intro kc kp)
  have K2 := Lib.hid (And.intro k10 (And.intro k11 (And.intro k12 (And.intro k13 (And.intro k14 (And.intro k15 (And.intro k16 (And.intro k17 (And.intro k18 k19)))))))))
  have K3 := Lib.hid (And.intro k20 (And.intro k21 (And.intro k22 k23)))
  clear k1 k2 k3 k4 k5 k6 k7 k8 k9 kc kp k10 k11 k12 k13 k14 k15 k16 k17 k18 k19 k20 k21 k22 k23 f1 f2 f3 h2 h3 h4
  go_enter Try.func13, Try.ntmps13
  go_wp2_with fail
  refine (new_x (Dks.none_ w) 2 2 rfl (by omega) (by omega)).mono ?_
  rintro e w1 ⟨p, rfl, hD⟩
  have H1 : Hid (Dks w w1 [(p, Dk.fresh 2)]) := hD
  clear hD
  go_wp2_with fail
  refine (F1.out _).mono ?_
  rintro e w2 ⟨rfl, hU⟩
  have H2 := Lib.hid (H1.out.still hU)
  clear hU H1
  go_wp2_with fail
  refine (write_x (i := 0) H2.out rfl 0 s1 (by decide)).mono ?_
  rw [K1.out.1]
  rintro e w3 ⟨rfl, hD⟩
  have H3 : Hid (Dks w w3 [(p, A1)]) := hD
  clear hD H2
  go_wp2_with fail
  refine (read_x (i := 0) H3.out rfl 0).mono ?_
  rw [K1.out.2.1]
  rintro e w4 ⟨rfl, rfl⟩
  go_wp2_with fail
  refine (waits_x (i := 0) H3.out rfl).mono ?_
  rw [K1.out.2.2.1]
  rintro e w4 ⟨rfl, hU⟩
  have H4 := Lib.hid (H3.out.still hU)
  clear hU H3
  go_wp2_with fail
  refine (sync_x (i := 0) H4.out rfl).mono ?_
  rw [K1.out.2.2.2.1]
  rintro e w5 ⟨rfl, hD⟩
  have H5 : Hid (Dks w w5 [(p, A2)]) := hD
  clear hD H4
  go_wp2_with fail
  refine (F2.out _).mono ?_
  rintro e w6 ⟨rfl, hU⟩
  have H6 := Lib.hid (H5.out.still hU)
  clear hU H5
  go_wp2_with fail
  refine (write_x (i := 0) H6.out rfl 0 s2 (by rw [K1.out.2.2.2.2.1]; omega)).mono ?_
  rw [K1.out.2.2.2.2.2.1]
  rintro e w7 ⟨rfl, hD⟩
  have H7 : Hid (Dks w w7 [(p, A2')]) := hD
  clear hD H6
  go_wp2_with fail
  refine (F3.out _).mono ?_
  rintro e w8 ⟨rfl, hU⟩
  have H8 := Lib.hid (H7.out.still hU)
  clear hU H7
  go_wp2_with fail
  refine (write_x (i := 0) H8.out rfl 0 s3 (by rw [K1.out.2.2.2.2.2.2.1]; omega)).mono ?_
  rw [K1.out.2.2.2.2.2.2.2.1]
  rintro e w9 ⟨rfl, hD⟩
  have H9 : Hid (Dks w w9 [(p, A3)]) := hD
  clear hD H8
  go_wp2_with fail
  refine (F1.out _).mono ?_
  rintro e w10 ⟨rfl, hU⟩
  have H10 := Lib.hid (H9.out.still hU)
  clear hU H9
  go_wp2_with fail
  refine (waits_x (i := 0) H10.out rfl).mono ?_
  rw [K1.out.2.2.2.2.2.2.2.2]
  rintro e w11 ⟨rfl, hU⟩
  have hD : Dks w (w11.alloc (.cells #[.int .u8 1, .int .u8 2, .int .u8 3, .int .u8 1] 5)) ((p, A3) :: []) := (H10.out.still hU).still ((Upd.refl _ _).alloc _)
  have hB := Blk.new w11 5 #[.int .u8 1, .int .u8 2, .int .u8 3, .int .u8 1]
  have H11 := Lib.hid (And.intro hD hB)
  clear hU hD hB H10
  generalize hg : w11.heap.size = g at *
  go_wp2_with fail
  try rw [hg]
  go_loopw [71, 8, 9, 10, 11, 12] (fun x _ _ _ _ _ wr => ∃ (k : Nat) (l' : List (Nat × Dk)), k ≤ 4 ∧ x = .int .i64 k ∧ Dks w wr ((p, A3) :: l') ∧ Blk wr g 5 #[.int .u8 1, .int .u8 2, .int .u8 3, .int .u8 1]) (fun x _ _ _ _ _ _ => 4 - (intOf x).toNat)
  case atStart => exact ⟨0, [], by omega, rfl, H11.out⟩
  case round =>
    obtain ⟨k, l', hk, rfl, hR⟩ := hrel
    clear H11
    by_cases hlt : k < 4
    · obtain rfl | rfl | rfl | rfl : k = 0 ∨ k = 1 ∨ k = 2 ∨ k = 3 := by omega
      · have hcell : wr.cell? ⟨g, 0, none⟩ = some (.int .u8 1) := hR.2.cell 0
        have HR := Lib.hid hR
        clear hR
        go_wp2_with fail
        refine (twin_k (i := 0) (d := A3) HR.out.1 rfl).mono ?_
        rintro e v1 ⟨t, rfl, hD, hK⟩
        have H1 := Lib.hid (And.intro hD hK)
        have hit : (((p, A3) :: l') ++ [(t, A3)])[l'.length + 1]? = some (t, A3) := by simp
        have Hit := Lib.hid hit
        clear hD hK hit hcell
        go_wp2_with fail
        refine (crash_yk (i := l'.length + 1) (keep := [0]) (H1.out.1.still ((Upd.refl _ _).alloc _)) Hit.out (Blk.new _ _ _) (by decide) (by simp)).mono ?_
        rintro e v2 ⟨rfl, hD, hK⟩
        have hB2 := hK _ _ _ ((H1.out.2 _ _ _ HR.out.2 (by decide) (by decide)).alloc _) (by decide) (by decide)
        have H2 : Hid (Dks w v2 ((p, A3) :: (l' ++ [(t, A3)]).set l'.length (t, A3.crash [0])) ∧ Blk v2 g 5 #[.int .u8 1, .int .u8 2, .int .u8 3, .int .u8 1]) := ⟨hD, hB2⟩
        have hit2 : ((p, A3) :: (l' ++ [(t, A3)]).set l'.length (t, A3.crash [0]))[l'.length + 1]? = some (t, A3.crash [0]) := by simp
        have Hit2 := Lib.hid hit2
        generalize (l' ++ [(t, A3)]).set l'.length (t, A3.crash [0]) = l2 at *
        clear hD hK hB2 hit2 H1
        go_wp2_with fail
        refine (read_x (i := l'.length + 1) H2.out.1 Hit2.out 0).mono ?_
        rw [KC.out.1.1]
        rintro e v3 ⟨rfl, rfl⟩
        go_wp2_with fail
        refine (F1.out _).mono ?_
        rintro e v4 ⟨rfl, hU⟩
        have H4 := Lib.hid (And.intro (H2.out.1.still hU) (H2.out.2.upd hU (fun e => e)))
        clear hU H2
        go_wp2_with fail
        refine (waits_x (i := l'.length + 1) H4.out.1 Hit2.out).mono ?_
        rw [KC.out.2 _]
        rintro e v5 ⟨rfl, hU⟩
        have H5 := Lib.hid (And.intro (H4.out.1.still hU) (H4.out.2.upd hU (fun e => e)))
        clear hU H4
        go_wp2_with fail
        go_roundw
        case rel => exact ⟨1, l2, by omega, by go_num, H5.out⟩
        case measure => simp [intOf]
      · have hcell : wr.cell? ⟨g, 1, none⟩ = some (.int .u8 2) := hR.2.cell 1
        have HR := Lib.hid hR
        clear hR
        go_wp2_with fail
        refine (twin_k (i := 0) (d := A3) HR.out.1 rfl).mono ?_
        rintro e v1 ⟨t, rfl, hD, hK⟩
        have H1 := Lib.hid (And.intro hD hK)
        have hit : (((p, A3) :: l') ++ [(t, A3)])[l'.length + 1]? = some (t, A3) := by simp
        have Hit := Lib.hid hit
        clear hD hK hit hcell
        go_wp2_with fail
        refine (crash_yk (i := l'.length + 1) (keep := [1]) (H1.out.1.still ((Upd.refl _ _).alloc _)) Hit.out (Blk.new _ _ _) (by decide) (by simp)).mono ?_
        rintro e v2 ⟨rfl, hD, hK⟩
        have hB2 := hK _ _ _ ((H1.out.2 _ _ _ HR.out.2 (by decide) (by decide)).alloc _) (by decide) (by decide)
        have H2 : Hid (Dks w v2 ((p, A3) :: (l' ++ [(t, A3)]).set l'.length (t, A3.crash [1])) ∧ Blk v2 g 5 #[.int .u8 1, .int .u8 2, .int .u8 3, .int .u8 1]) := ⟨hD, hB2⟩
        have hit2 : ((p, A3) :: (l' ++ [(t, A3)]).set l'.length (t, A3.crash [1]))[l'.length + 1]? = some (t, A3.crash [1]) := by simp
        have Hit2 := Lib.hid hit2
        generalize (l' ++ [(t, A3)]).set l'.length (t, A3.crash [1]) = l2 at *
        clear hD hK hB2 hit2 H1
        go_wp2_with fail
        refine (read_x (i := l'.length + 1) H2.out.1 Hit2.out 0).mono ?_
        rw [KC.out.1.2.1]
        rintro e v3 ⟨rfl, rfl⟩
        go_wp2_with fail
        refine (F2.out _).mono ?_
        rintro e v4 ⟨rfl, hU⟩
        have H4 := Lib.hid (And.intro (H2.out.1.still hU) (H2.out.2.upd hU (fun e => e)))
        clear hU H2
        go_wp2_with fail
        refine (waits_x (i := l'.length + 1) H4.out.1 Hit2.out).mono ?_
        rw [KC.out.2 _]
        rintro e v5 ⟨rfl, hU⟩
        have H5 := Lib.hid (And.intro (H4.out.1.still hU) (H4.out.2.upd hU (fun e => e)))
        clear hU H4
        go_wp2_with fail
        go_roundw
        case rel => exact ⟨2, l2, by omega, by go_num, H5.out⟩
        case measure => simp [intOf]
      · have hcell : wr.cell? ⟨g, 2, none⟩ = some (.int .u8 3) := hR.2.cell 2
        have HR := Lib.hid hR
        clear hR
        go_wp2_with fail
        refine (twin_k (i := 0) (d := A3) HR.out.1 rfl).mono ?_
        rintro e v1 ⟨t, rfl, hD, hK⟩
        have H1 := Lib.hid (And.intro hD hK)
        have hit : (((p, A3) :: l') ++ [(t, A3)])[l'.length + 1]? = some (t, A3) := by simp
        have Hit := Lib.hid hit
        clear hD hK hit hcell
        go_wp2_with fail
        refine (crash_yk (i := l'.length + 1) (keep := [2]) (H1.out.1.still ((Upd.refl _ _).alloc _)) Hit.out (Blk.new _ _ _) (by decide) (by simp)).mono ?_
        rintro e v2 ⟨rfl, hD, hK⟩
        have hB2 := hK _ _ _ ((H1.out.2 _ _ _ HR.out.2 (by decide) (by decide)).alloc _) (by decide) (by decide)
        have H2 : Hid (Dks w v2 ((p, A3) :: (l' ++ [(t, A3)]).set l'.length (t, A3.crash [2])) ∧ Blk v2 g 5 #[.int .u8 1, .int .u8 2, .int .u8 3, .int .u8 1]) := ⟨hD, hB2⟩
        have hit2 : ((p, A3) :: (l' ++ [(t, A3)]).set l'.length (t, A3.crash [2]))[l'.length + 1]? = some (t, A3.crash [2]) := by simp
        have Hit2 := Lib.hid hit2
        generalize (l' ++ [(t, A3)]).set l'.length (t, A3.crash [2]) = l2 at *
        clear hD hK hB2 hit2 H1
        go_wp2_with fail
        refine (read_x (i := l'.length + 1) H2.out.1 Hit2.out 0).mono ?_
        rw [KC.out.1.2.2.1]
        rintro e v3 ⟨rfl, rfl⟩
        go_wp2_with fail
        refine (F3.out _).mono ?_
        rintro e v4 ⟨rfl, hU⟩
        have H4 := Lib.hid (And.intro (H2.out.1.still hU) (H2.out.2.upd hU (fun e => e)))
        clear hU H2
        go_wp2_with fail
        refine (waits_x (i := l'.length + 1) H4.out.1 Hit2.out).mono ?_
        rw [KC.out.2 _]
        rintro e v5 ⟨rfl, hU⟩
        have H5 := Lib.hid (And.intro (H4.out.1.still hU) (H4.out.2.upd hU (fun e => e)))
        clear hU H4
        go_wp2_with fail
        go_roundw
        case rel => exact ⟨3, l2, by omega, by go_num, H5.out⟩
        case measure => simp [intOf]
      · have hcell : wr.cell? ⟨g, 3, none⟩ = some (.int .u8 1) := hR.2.cell 3
        have HR := Lib.hid hR
        clear hR
        go_wp2_with fail
        refine (twin_k (i := 0) (d := A3) HR.out.1 rfl).mono ?_
        rintro e v1 ⟨t, rfl, hD, hK⟩
        have H1 := Lib.hid (And.intro hD hK)
        have hit : (((p, A3) :: l') ++ [(t, A3)])[l'.length + 1]? = some (t, A3) := by simp
        have Hit := Lib.hid hit
        clear hD hK hit hcell
        go_wp2_with fail
        refine (crash_yk (i := l'.length + 1) (keep := [3]) (H1.out.1.still ((Upd.refl _ _).alloc _)) Hit.out (Blk.new _ _ _) (by decide) (by simp)).mono ?_
        rintro e v2 ⟨rfl, hD, hK⟩
        have hB2 := hK _ _ _ ((H1.out.2 _ _ _ HR.out.2 (by decide) (by decide)).alloc _) (by decide) (by decide)
        have H2 : Hid (Dks w v2 ((p, A3) :: (l' ++ [(t, A3)]).set l'.length (t, A3.crash [3])) ∧ Blk v2 g 5 #[.int .u8 1, .int .u8 2, .int .u8 3, .int .u8 1]) := ⟨hD, hB2⟩
        have hit2 : ((p, A3) :: (l' ++ [(t, A3)]).set l'.length (t, A3.crash [3]))[l'.length + 1]? = some (t, A3.crash [3]) := by simp
        have Hit2 := Lib.hid hit2
        generalize (l' ++ [(t, A3)]).set l'.length (t, A3.crash [3]) = l2 at *
        clear hD hK hB2 hit2 H1
        go_wp2_with fail
        refine (read_x (i := l'.length + 1) H2.out.1 Hit2.out 0).mono ?_
        rw [KC.out.1.2.2.2.1]
        rintro e v3 ⟨rfl, rfl⟩
        go_wp2_with fail
        refine (F1.out _).mono ?_
        rintro e v4 ⟨rfl, hU⟩
        have H4 := Lib.hid (And.intro (H2.out.1.still hU) (H2.out.2.upd hU (fun e => e)))
        clear hU H2
        go_wp2_with fail
        refine (waits_x (i := l'.length + 1) H4.out.1 Hit2.out).mono ?_
        rw [KC.out.2 _]
        rintro e v5 ⟨rfl, hU⟩
        have H5 := Lib.hid (And.intro (H4.out.1.still hU) (H4.out.2.upd hU (fun e => e)))
        clear hU H4
        go_wp2_with fail
        go_roundw
        case rel => exact ⟨4, l2, by omega, by go_num, H5.out⟩
        case measure => simp [intOf]
    · obtain rfl : k = 4 := by omega
      have H0 := Lib.hid hR.1
      clear hR
      go_wp2_with fail
      refine (twin_k (i := 0) (d := A3) H0.out rfl).mono ?_
      rintro e v1 ⟨t, rfl, hD, -⟩
      have H1 := Lib.hid hD
      have hit : (((p, A3) :: l') ++ [(t, A3)])[l'.length + 1]? = some (t, A3) := by simp
      have Hit := Lib.hid hit
      clear hD hit H0
      go_wp2_with fail
      refine (crash_y (i := l'.length + 1) (keep := [-1]) (H1.out.still ((Upd.refl _ _).alloc _)) Hit.out (Blk.new _ _ _) (by decide) (by simp)).mono ?_
      rintro e v2 ⟨rfl, hD⟩
      have H2 : Hid (Dks w v2 ((p, A3) :: (l' ++ [(t, A3)]).set l'.length (t, A3.crash [-1]))) := hD
      have hit2 : ((p, A3) :: (l' ++ [(t, A3)]).set l'.length (t, A3.crash [-1]))[l'.length + 1]? = some (t, A3.crash [-1]) := by simp
      have Hit2 := Lib.hid hit2
      generalize (l' ++ [(t, A3)]).set l'.length (t, A3.crash [-1]) = L at *
      clear hD hit2 H1
      go_wp2_with fail
      refine (read_x (i := l'.length + 1) H2.out Hit2.out 0).mono ?_
      rw [KC.out.1.2.2.2.2]
      rintro e v3 ⟨rfl, rfl⟩
      go_wp2_with fail
      refine (fuse_x (i := 0) (d := A3) H2.out rfl 1 (by omega)).mono ?_
      rw [K2.out.1]
      rintro e v4 ⟨rfl, hD⟩
      have H4 : Hid (Dks w v4 ((p, A4) :: L)) := hD
      clear hD H2
      go_wp2_with fail
      refine (F1.out _).mono ?_
      rintro e v5 ⟨rfl, hU⟩
      have H5 := Lib.hid (H4.out.still hU)
      clear hU H4
      go_wp2_with fail
      refine (write_x (i := 0) (d := A4) H5.out rfl 1 s1 (by rw [K2.out.2.1]; omega)).mono ?_
      rw [K2.out.2.2.1]
      rintro e v6 ⟨rfl, hD⟩
      have H6 : Hid (Dks w v6 ((p, A5) :: L)) := hD
      clear hD H5
      go_wp2_with fail
      refine (sync_x (i := 0) (d := A5) H6.out rfl).mono ?_
      rw [K2.out.2.2.2.1]
      rintro e v7 ⟨rfl, hD⟩
      have H7 : Hid (Dks w v7 ((p, A6) :: L)) := hD
      clear hD H6
      go_wp2_with fail
      refine (down_x (i := 0) (d := A6) H7.out rfl).mono ?_
      rw [K2.out.2.2.2.2.1]
      rintro e v8 ⟨rfl, rfl⟩
      go_wp2_with fail
      refine (read_x (i := 0) (d := A6) H7.out rfl 0).mono ?_
      rw [K2.out.2.2.2.2.2.1]
      rintro e v8 ⟨rfl, rfl⟩
      go_wp2_with fail
      refine (crash_y (i := 0) (d := A6) (keep := [0, 1]) (H7.out.still ((Upd.refl _ _).alloc _)) rfl (Blk.new _ _ _) (by decide) (by simp)).mono ?_
      rw [K2.out.2.2.2.2.2.2.1]
      rintro e v8 ⟨rfl, hD⟩
      have H8 : Hid (Dks w v8 ((p, A7) :: L)) := hD
      clear hD H7
      go_wp2_with fail
      refine (read_x (i := 0) (d := A7) H8.out rfl 1).mono ?_
      rw [K2.out.2.2.2.2.2.2.2.1]
      rintro e v9 ⟨rfl, rfl⟩
      go_wp2_with fail
      refine (New_bad 0 _ (.inl (by omega))).mono ?_
      rintro e v9 ⟨rfl, rfl⟩
      go_wp2_with fail
      refine (New_bad 4097 _ (.inr (by omega))).mono ?_
      rintro e v9 ⟨rfl, rfl⟩
      go_wp2_with fail
      refine (awake_07 _).mono ?_
      rintro e v9 ⟨rfl, hU⟩
      have H9 := Lib.hid (H8.out.still hU)
      clear hU H8
      go_wp2_with fail
      refine (F3.out _).mono ?_
      rintro e v10 ⟨rfl, hU⟩
      have H10 := Lib.hid (H9.out.still hU)
      clear hU H9
      go_wp2_with fail
      refine (down_x (i := 0) (d := A7) H10.out rfl).mono ?_
      rw [K2.out.2.2.2.2.2.2.2.2.1]
      rintro e v11 ⟨rfl, rfl⟩
      go_wp2_with fail
      refine (F1.out _).mono ?_
      rintro e v11 ⟨rfl, hU⟩
      have H11 := Lib.hid (H10.out.still hU)
      clear hU H10
      go_wp2_with fail
      refine (F1.out _).mono ?_
      rintro e v12 ⟨rfl, hU⟩
      have H12 := Lib.hid (H11.out.still hU)
      clear hU H11
      go_wp2_with fail
      refine (write_x (i := 0) (d := A7) H12.out rfl 2 s1 (by rw [K2.out.2.2.2.2.2.2.2.2.2]; omega)).mono ?_
      rw [K3.out.1]
      rintro e v13 ⟨rfl, hD⟩
      have H13 : Hid (Dks w v13 ((p, A7) :: L)) := hD
      clear hD H12
      go_wp2_with fail
      refine (F1.out _).mono ?_
      rintro e v14 ⟨rfl, hU⟩
      have H14 := Lib.hid (H13.out.still hU)
      clear hU H13
      have h1' : (1 : Int) ≤ (s1.size : Int) := by omega
      go_wp2_with fail
      refine (write_x (i := 0) (d := A7) H14.out rfl 0 (s1.extract 1 64) (by rw [K2.out.2.2.2.2.2.2.2.2.2]; omega)).mono ?_
      rw [K3.out.2.1]
      rintro e v15 ⟨rfl, hD⟩
      have H15 : Hid (Dks w v15 ((p, A7) :: L)) := hD
      clear hD H14
      go_wp2_with fail
      refine (spoil_x (i := 0) (d := A7) H15.out rfl 0 62 ⟨#[97, 98, 99, 100]⟩ (by omega) (by decide)).mono ?_
      rw [K3.out.2.2.1]
      rintro e v16 ⟨rfl, hD⟩
      have H16 : Hid (Dks w v16 ((p, A7) :: L)) := hD
      clear hD H15
      go_wp2_with fail
      refine (spoil_x (i := 0) (d := A7) H16.out rfl 0 60 ⟨#[97, 98, 99, 100]⟩ (by omega) (by decide)).mono ?_
      rw [K3.out.2.2.2]
      rintro e v17 ⟨rfl, hD⟩
      have H17 := Lib.hid hD.upd
      clear hD H16
      go_wp2
      go_ret
      exact ⟨rfl, H17.out⟩
end Go.Proofs.Ytafgohnpnaiomaa
