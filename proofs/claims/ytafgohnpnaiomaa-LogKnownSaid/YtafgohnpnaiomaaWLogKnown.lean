/-
  LogKnown: the walk.
-/
import Derived.Test.YtafgohnpnaiomaaLogBad
import Derived.Test.YtafgohnpnaiomaaLogHelp
namespace Go.Proofs.Ytafgohnpnaiomaa
open Go Go.RowKit

theorem rep_size (n : Nat) (h : n ∈ [32, 33, 1024, 1025]) : (repB 120 n).size = n := by
  simp only [List.mem_cons, List.not_mem_nil, or_false] at h
  rcases h with rfl | rfl | rfl | rfl <;> decide +kernel
theorem bad_l {w0 w : World} {p : Nat} {d : Dk} (hD : DkS w0 w p d) (f n e : Int) (L : Nat) (hL : d.lasts.length = L) (h : ¬ (0 ≤ f ∧ 1 ≤ n ∧ n ≤ (L : Int) ∧ f ≤ (L : Int) - n ∧ 1 ≤ e)) :
    Calls Try.prog 36 #[.pointer (some ⟨p, 0, none⟩), .int .i64 f, .int .i64 n, .int .u64 e] w fun en w' => en = .returned (.tuple #[.pointer none, .int .i64 1]) ∧ w = w' := by
  obtain ⟨F, h1, -⟩ := hD.ex
  subst hL
  exact openG_bad h1 f n e h
set_option maxRecDepth 100000 in
set_option maxHeartbeats 3200000 in
theorem walk_LogKnown (w : World) :
    Calls Try.prog 6 #[] w fun e w' => e = .returned (.bool true) ∧ Upd (fun _ => False) w w' := by
  have HN := Lib.hid (new_s 8 w (by omega) (by omega))
  have h33 := rep33
  have k0 := fresh_log 8 1 4 1 (by omega) (by omega) (by omega) (by omega)
  obtain ⟨-, k1, l1, p1, -⟩ := add_is k0 ⟨#[97]⟩ (by decide) (by decide) (by decide)
  obtain ⟨-, k2, l2, p2, -⟩ := add_is k1 (repB 98 33) (by rw [h33]; omega) (by rw [h33]; decide) (by decide)
  have k3 : LogIs _ ⟨1, 4, 2, [], 0, 0, 2, false⟩ [] _ := k2.other 2 (by omega) (by omega) (stop_other (by simp) (by decide))
  obtain ⟨-, k4, l4, p4, -⟩ := add_is k3 ⟨#[98]⟩ (by decide) (by have := k3.used_le; show 1 ≤ _; change 0 + _ = 4 at this; omega) (by decide)
  have k5 := k4.other 1 (by omega) (by omega) (stop_other (by simp) (by decide))
  have l3 := k3.used_le
  change 0 + _ = 4 at l3
  rw [Nat.zero_add] at l3
  have r2 : (List.drop (partsOf (repB 98 33).size) (List.drop (partsOf (⟨#[97]⟩ : ByteArray).size) (List.replicate 4 (none : Option Lp)))).length = 1 := by rw [h33]; decide
  have K1 := Lib.hid (And.intro k1 p1)
  have K0 := Lib.hid k0
  have K2 := Lib.hid (And.intro k2 (And.intro p2 r2))
  have K3 := Lib.hid (And.intro k3 l3)
  have K4 := Lib.hid (And.intro k4 (And.intro (show (Lg.added ⟨1, 4, 2, [], 0, 0, 2, false⟩ ⟨#[98]⟩).l = [⟨#[98]⟩] from rfl) (show (addD (addD (addD (Dk.fresh 8) (lg0 1 4 1) ⟨#[97]⟩) ((lg0 1 4 1).added ⟨#[97]⟩) (repB 98 33)) ⟨1, 4, 2, [], 0, 0, 2, false⟩ ⟨#[98]⟩).lasts.length = 8 from l4.trans (l2.trans (l1.trans rfl)))))
  have K5 := Lib.hid k5
  clear k0 k1 k2 k3 k4 k5 l1 l2 l3 l4 p1 p2 p4 r2
  go_enter Try.func6, Try.ntmps6
  go_wp2_with fail
  refine HN.out.mono ?_
  rintro e w1 ⟨p, rfl, hD⟩
  have H1 := Lib.hid hD
  clear hD HN
  go_wp2_with fail
  refine (openG_l H1.out K0.out 1 4 1 rfl rfl rfl).mono ?_
  rintro e w2 ⟨b, rfl, hS, -, -⟩
  have H2 := Lib.hid (hS.less (Y := fun _ => False) (fun _ e => e.elim))
  clear hS H1
  go_wp2_with fail
  refine (addG_ok H2.out K0.out ⟨#[97]⟩ (by decide) (by decide) (by decide) (by decide)).mono ?_
  rintro e w3 ⟨rfl, hS⟩
  have H3 := Lib.hid hS.log
  clear hS H2
  go_wp2_with fail
  refine (rep_c 98 33 _ (by omega)).mono ?_
  rintro e w4 ⟨rfl, hU⟩
  have H4 := Lib.hid (H3.out.still hU)
  clear hU H3
  go_wp2_with fail
  refine (addG_ok H4.out K1.out.1 (repB 98 33) (by rw [h33]; omega) (by rw [h33]; decide) (by decide) (by rw [K1.out.2]; omega)).mono ?_
  rintro e w5 ⟨rfl, hS⟩
  have H5 := Lib.hid hS.log
  clear hS H4 K1 K0
  go_wp2_with fail
  refine (roomG_l H5.out K2.out.1).mono ?_
  rw [K2.out.2.2]
  rintro e w6 ⟨rfl, hU⟩
  have H6 := Lib.hid (H5.out.still hU)
  clear hU H5
  go_wp2_with fail
  refine (rep_c 98 33 _ (by omega)).mono ?_
  rintro e w7 ⟨rfl, hU⟩
  have H7 := Lib.hid (H6.out.still hU)
  clear hU H6
  have hnot := add_not K2.out.1 (repB 98 33) (by decide) (fun e => by have h1 := e.2; rw [K2.out.2.2, h33] at h1; exact absurd h1 (by decide))
  rw [h33] at hnot
  go_wp2_with fail
  refine (addG_l H7.out K2.out.1 (repB 98 33) (by decide) (by rw [K2.out.2.1]; omega)).mono ?_
  rw [hnot]
  rintro e w8 ⟨rfl, hS⟩
  have H8 := Lib.hid hS.log
  clear hS H7 hnot
  go_wp2_with fail
  refine (openG_x H8.out K3.out.1 1 4 2 rfl rfl rfl).mono ?_
  rintro e w9 ⟨b2, rfl, hS, -, -⟩
  have H9 := Lib.hid hS
  clear hS H8
  go_wp2_with fail
  refine (recordsG_l H9.out K3.out.1).mono ?_
  rintro e w10 ⟨v, rfl, hO, hU, -⟩
  obtain ⟨A10, cp10, rfl, -, -⟩ := hO.shape
  have H10 := Lib.hid (H9.out.still hU)
  clear hO hU H9
  go_wp2_with fail
  refine (roomG_l H10.out K3.out.1).mono ?_
  rw [K3.out.2]
  rintro e w11 ⟨rfl, hU⟩
  have H11 := Lib.hid (H10.out.still hU)
  clear hU H10
  go_wp2_with fail
  refine (addG_ok H11.out K3.out.1 ⟨#[98]⟩ (by decide) (by rw [K3.out.2]; decide) (by decide) (by rw [K2.out.2.1]; omega)).mono ?_
  rintro e w12 ⟨rfl, hS⟩
  have H12 := Lib.hid hS.log
  clear hS H11
  go_wp2_with fail
  refine (openG_x H12.out K5.out 1 4 1 rfl rfl rfl).mono ?_
  rintro e w13 ⟨b3, rfl, hS, -, -⟩
  have H13 := Lib.hid hS
  clear hS H12
  go_wp2_with fail
  refine (openG_x H13.out K4.out.1 1 4 2 rfl rfl rfl).mono ?_
  rintro e w14 ⟨b4, rfl, hS, hU, -⟩
  have H14 := Lib.hid (And.intro (H13.out.still hU) hS)
  clear hS hU H13
  go_wp2_with fail
  refine (bad_l H14.out.1.disk 5 4 1 8 K4.out.2.2 (by omega)).mono ?_
  rintro e w15 ⟨rfl, rfl⟩
  go_wp2_with fail
  refine (bad_l H14.out.1.disk 1 4 0 8 K4.out.2.2 (by omega)).mono ?_
  rintro e w15 ⟨rfl, rfl⟩
  go_wp2_with fail
  refine (bad_l H14.out.1.disk 1 0 1 8 K4.out.2.2 (by omega)).mono ?_
  rintro e w15 ⟨rfl, rfl⟩
  go_wp2_with fail
  refine (openG_nil 1 4 1 _).mono ?_
  rintro e w15 ⟨rfl, rfl⟩
  have KQ := Lib.hid (fresh_log 40 0 40 1 (by omega) (by omega) (by omega) (by omega))
  go_wp2_with fail
  refine (new_s 40 _ (by omega) (by omega)).mono ?_
  rintro e w16 ⟨pq, rfl, hD⟩
  have H16 := Lib.hid (And.intro (H14.out.1.still hD.upd) (And.intro (H14.out.2.still hD.upd) hD))
  have HU14 := Lib.hid H14.out.1.upd
  clear hD H14
  go_wp2_with fail
  refine (openG_l H16.out.2.2 KQ.out 0 40 1 rfl rfl rfl).mono ?_
  rintro e w17 ⟨bq, rfl, hS, hU, -⟩
  have H17 := Lib.hid (And.intro (H16.out.1.still hU) (And.intro (H16.out.2.1.still hU) hS))
  clear hS hU H16
  go_wp2_with fail
  refine (awake_10 _).mono ?_
  rintro e w18 ⟨rfl, hU⟩
  have H18 := Lib.hid (And.intro (H17.out.1.still hU) (And.intro (H17.out.2.1.still hU) (H17.out.2.2.still hU)))
  clear hU H17
  go_wp2_with fail
  refine (recordsG_l H18.out.1 K5.out).mono ?_
  rintro e w19 ⟨v, rfl, hO, hU, -⟩
  obtain ⟨A19, cp19, rfl, -, -⟩ := hO.shape
  have H19 := Lib.hid (And.intro (H18.out.2.1.still hU) (H18.out.2.2.still hU))
  clear hO hU H18
  go_wp2_with fail
  refine (recordsG_l H19.out.1 K4.out.1).mono ?_
  rintro e w20 ⟨v, rfl, hO, hU, -⟩
  have hrow := Row.of_own (l := [⟨#[98]⟩]) hO (by decide)
  have H20 := Lib.hid (And.intro hrow (H19.out.2.still hU))
  clear hO hrow hU H19
  go_wp2_with fail
  refine (sameG_c _ (H20.out.1.still ((Upd.refl _ _).alloc _)) (row_one w20 ⟨#[98]⟩)).mono ?_
  rintro e w21 ⟨rfl, hU⟩
  have H21 := Lib.hid (H20.out.2.still (((Upd.refl _ _).alloc _).then hU (fun _ e => e.elim)))
  clear hU H20
  rw [decide_eq_true rfl]
  go_wp2_with fail
  refine (show Calls Try.prog 43 _ _ (fun e w' => e = .returned (.int .i64 1) ∧ w21 = w') from parts_c ⟨#[]⟩ _ (by decide)).mono ?_
  rintro e w22 ⟨rfl, rfl⟩
  have rp : ∀ (n m : Nat) (W : World), n ∈ [32, 33, 1024, 1025] → partsOf n = m → Calls Try.prog 43 #[.string (repB 120 n)] W fun e w' => e = .returned (.int .i64 (m : Int)) ∧ W = w' := by
    intro n m W h1 h2
    have := parts_c (repB 120 n) W (by rw [rep_size n h1]; simp at h1; omega)
    rw [rep_size n h1, h2] at this
    exact this
  have RP := Lib.hid rp
  clear rp
  go_wp2_with fail
  refine (rep_c 120 32 _ (by omega)).mono ?_
  rintro e w23 ⟨rfl, hU⟩
  have H23 := Lib.hid (H21.out.still hU)
  clear hU H21
  go_wp2_with fail
  refine (RP.out 32 1 _ (by simp) (by decide)).mono ?_
  rintro e w24 ⟨rfl, rfl⟩
  go_wp2_with fail
  refine (rep_c 120 33 _ (by omega)).mono ?_
  rintro e w25 ⟨rfl, hU⟩
  have H25 := Lib.hid (H23.out.still hU)
  clear hU H23
  go_wp2_with fail
  refine (RP.out 33 2 _ (by simp) (by decide)).mono ?_
  rintro e w26 ⟨rfl, rfl⟩
  go_wp2_with fail
  refine (rep_c 120 1025 _ (by omega)).mono ?_
  rintro e w27 ⟨rfl, hU⟩
  have H27 := Lib.hid (H25.out.still hU)
  clear hU H25
  have hnot := add_not KQ.out (repB 120 1025) (by decide) (by rw [rep_size 1025 (by simp)]; omega)
  rw [rep_size 1025 (by simp)] at hnot
  go_wp2_with fail
  refine (addG_l H27.out KQ.out (repB 120 1025) (by decide) (by rw [fresh_pend]; omega)).mono ?_
  rw [hnot]
  rintro e w28 ⟨rfl, hS⟩
  have H28 := Lib.hid hS.log
  clear hS H27 hnot
  go_wp2_with fail
  refine (rep_c 120 1024 _ (by omega)).mono ?_
  rintro e w29 ⟨rfl, hU⟩
  have H29 := Lib.hid (H28.out.still hU)
  clear hU H28
  obtain ⟨-, hq, -, -, -⟩ := add_is KQ.out (repB 120 1024) (by rw [rep_size 1024 (by simp)]; omega) (by rw [rep_size 1024 (by simp)]; decide) (by decide)
  have hql : (List.drop (partsOf (repB 120 1024).size) (List.replicate 40 (none : Option Lp))).length = 8 := by rw [rep_size 1024 (by simp)]; decide
  have HQ := Lib.hid (And.intro hq hql)
  clear hq hql
  go_wp2_with fail
  refine (addG_ok H29.out KQ.out (repB 120 1024) (by rw [rep_size 1024 (by simp)]; omega) (by rw [rep_size 1024 (by simp)]; decide) (by decide) (by rw [fresh_pend]; omega)).mono ?_
  rintro e w30 ⟨rfl, hS⟩
  have H30 := Lib.hid hS.log
  clear hS H29
  go_wp2_with fail
  refine (roomG_l H30.out HQ.out.1).mono ?_
  rw [HQ.out.2]
  rintro e w31 ⟨rfl, hU⟩
  have H31 := Lib.hid (H30.out.still hU)
  clear hU H30
  go_wp2
  go_ret
  exact ⟨rfl, HU14.out.then H31.out.upd (fun _ e => e.elim)⟩
end Go.Proofs.Ytafgohnpnaiomaa
