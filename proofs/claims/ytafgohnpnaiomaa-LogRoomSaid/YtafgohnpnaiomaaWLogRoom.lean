/-
  LogRoom: the walk.
-/
import Derived.Test.YtafgohnpnaiomaaLogHelp
namespace Go.Proofs.Ytafgohnpnaiomaa
open Go Go.RowKit

/-- What the law has behind some of its texts. -/
structure RoomS (w0 wr : World) (p b n i : Nat) (d : Dk) (g : Lg) (rs : List (List UInt8 × Nat)) (R : List (Option Lp)) : Prop where
  log : LgS w0 wr p b d g (fun _ => False)
  is : LogIs d g rs R
  at_ : g.from_ = 2 ∧ g.sectors = n ∧ g.salt ≤ i ∧ d.pend ≤ 0 ∧ d.lasts.length = n + 4
  out : ∀ j, j < n + 4 → (j < 2 ∨ n + 2 ≤ j) → d.now j = zeros64
theorem RoomS.still {w0 w w' : World} {p b n i : Nat} {d : Dk} {g : Lg} {rs : List (List UInt8 × Nat)} {R : List (Option Lp)} (h : RoomS w0 w p b n i d g rs R) (hu : Upd (fun _ => False) w w') : RoomS w0 w' p b n i d g rs R := ⟨h.log.still hu, h.is, h.at_, h.out⟩
theorem parts_facts (n : Nat) (h : n ≤ 2000) : 1 ≤ partsOf n ∧ partsOf n ≤ 63 ∧ n ≤ 32 * partsOf n ∧ 32 * (partsOf n - 1) < max n 1 := by unfold partsOf; omega

set_option maxRecDepth 100000 in
set_option maxHeartbeats 1600000 in
theorem walk_LogRoom {se : Int} {v : Value} {l : List ByteArray} (w : World) (hse : (Lit.int .u8 se).wf = true) (hA : IsStrs w v l) :
    Calls Try.prog 8 #[.int .u8 se, v] w fun e w' => e = .returned (.bool true) ∧ Upd (fun _ => False) w w' := by
  obtain ⟨m, rfl, hm⟩ := u8_nat hse
  obtain ⟨A, cap, gA, off, rfl, mA, hA0, hcells, hsz⟩ := hA.open_
  have HC := Lib.hid hcells
  have HS := Lib.hid hsz
  clear hcells hsz hA hse
  have HW := Lib.hid (awake_10 w)
  obtain ⟨n, hn⟩ : ∃ n : Nat, n = 1 + m % 60 := ⟨_, rfl⟩
  have hn1 : 1 ≤ n ∧ n ≤ 60 := by omega
  have hn' : 1 + (m : Int) % 60 = (n : Int) := by omega
  clear hn
  go_enter Try.func8, Try.ntmps8
  go_wp2_with fail
  refine HW.out.mono ?_
  rintro e w1 ⟨rfl, hU1⟩
  have HU1 := Lib.hid hU1
  clear hU1 HW
  by_cases h60 : 60 < l.length
  · have h60' : (60 : Int) < (l.length : Int) := by omega
    go_wp2_with fail
    go_ret
    exact ⟨rfl, HU1.out⟩
  have h60' : ¬ (60 : Int) < (l.length : Int) := by omega
  have k0 := fresh_log (n + 4) 2 n 1 (by omega) hn1.1 (by omega) (by omega)
  have K0 := Lib.hid k0
  clear k0
  go_wp2_with fail
  try rw [hn']
  refine (new_at _ (n + 4) _ (by omega) (by omega) (by omega)).mono ?_
  rintro e w2 ⟨p, rfl, hD⟩
  have H2 := Lib.hid hD
  clear hD
  go_wp2_with fail
  refine (openG_l H2.out K0.out 2 n 1 rfl rfl rfl).mono ?_
  rintro e w3 ⟨b, rfl, hS, -, -⟩
  have H3 : Hid (RoomS w1 w3 p b n 0 (Dk.fresh (n + 4)) (lg0 2 n 1) [] (List.replicate n none)) := ⟨hS.less (fun _ e => e.elim), K0.out, ⟨rfl, rfl, Nat.zero_le _, by rw [fresh_pend]; exact Nat.le_refl _, by simp [Dk.fresh]⟩, fun j hj _ => fresh_now _ _ hj⟩
  clear hS H2
  go_wp2_with fail
  refine (roomG_l H3.out.log K0.out).mono ?_
  rintro e w4 ⟨rfl, hU⟩
  have H4 := Lib.hid (H3.out.still hU)
  clear hU H3 K0
  rw [List.length_replicate]
  go_wp2_with fail
  go_loopw [10, 11, 12, 13] (fun i _ _ _ wr => ∃ (k : Nat) (d : Dk) (g : Lg) (rs : List (List UInt8 × Nat)) (R : List (Option Lp)), k ≤ l.length ∧ i = .int .i64 k ∧ RoomS w1 wr p b n k d g rs R) (fun i _ _ _ _ => l.length - (intOf i).toNat)
  case atStart => exact ⟨0, _, _, _, _, by omega, rfl, H4.out⟩
  case round =>
    obtain ⟨k, d, g, rs, R, hk, rfl, hR⟩ := hrel
    clear H4
    by_cases hlt : k < l.length
    · obtain rfl := hA0 (by omega)
      obtain ⟨x, hx⟩ : ∃ x, l[k] = x := ⟨_, rfl⟩
      have hcw : ∀ w', Upd (fun _ => False) w1 w' → w'.cell? ⟨gA, off + k, none⟩ = some (.string x) := fun w' hu => by rw [← hx]; exact HC.out w' (HU1.out.then hu (fun _ e => e.elim)) k hlt
      have hc := hcw wr hR.log.upd
      have hxs : x.size ≤ 9223372036854775807 := by rw [← hx]; exact HS.out _ (List.getElem_mem hlt)
      have HCw := Lib.hid hcw
      have HR := Lib.hid hR
      clear hcw hx hR
      by_cases h2000 : 2000 < x.size
      · have h2000' : (2000 : Int) < (x.size : Int) := by omega
        go_wp2_with fail
        go_ret
        exact ⟨rfl, HU1.out.then HR.out.log.upd (fun _ e => e.elim)⟩
      have h2000' : ¬ (2000 : Int) < (x.size : Int) := by omega
      obtain ⟨q1, q2, q3, q4⟩ := parts_facts x.size (by omega)
      have hul := HR.out.is.used_le
      have hR60 : R.length ≤ 60 := by have := HR.out.at_.2.1; omega
      go_wp2_with fail
      refine (roomG_l HR.out.log HR.out.is).mono ?_
      rintro e w5 ⟨rfl, hU⟩
      have H5 := Lib.hid (HR.out.still hU)
      have hc5 := HCw.out w5 H5.out.log.upd
      clear hU HR hc
      go_wp2_with fail
      refine (parts_c x _ (by omega)).mono ?_
      rintro e w6 ⟨rfl, rfl⟩
      obtain ⟨kp, hkp⟩ : ∃ kp, partsOf x.size = kp := ⟨_, rfl⟩
      have hkp' := Lib.hid hkp
      rw [hkp] at q1 q2 q3 q4 ⊢
      clear hkp
      have z1 : ¬ (kp : Int) < 1 := by omega
      have z2 : ¬ 32 * (kp : Int) < (x.size : Int) := by omega
      have z3 : ¬ max (x.size : Int) 1 ≤ 32 * ((kp : Int) - 1) := by omega
      have hw1 : IntKind.i64.wrap (32 * (kp : Int)) = 32 * (kp : Int) := IntWalk.i64_in _ (by omega)
      have hw2 : IntKind.i64.wrap ((kp : Int) - 1) = (kp : Int) - 1 := IntWalk.i64_in _ (by omega)
      have hw3 : IntKind.i64.wrap (32 * ((kp : Int) - 1)) = 32 * ((kp : Int) - 1) := IntWalk.i64_in _ (by omega)
      have hw4 : IntKind.i64.wrap ((R.length : Int) - (kp : Int)) = (R.length : Int) - (kp : Int) := IntWalk.i64_in _ (by omega)
      have hsl := H5.out.at_.2.2.1
      have hpl := H5.out.at_.2.2.2.1
      have hadd := addG_l H5.out.log H5.out.is x (by omega) (by omega)
      by_cases h1024 : 1024 < x.size
      · have h1024' : (1024 : Int) < (x.size : Int) := by omega
        rw [add_not H5.out.is x (by omega) (by omega), if_pos h1024] at hadd
        have HAdd := Lib.hid hadd
        clear hadd
        go_wp2_with fail
        refine HAdd.out.mono ?_
        rintro e w7 ⟨rfl, hA7⟩
        have H7 : Hid (RoomS w1 w7 p b n k d g rs R) := ⟨hA7.log, H5.out.is, H5.out.at_, H5.out.out⟩
        have hc7 := HCw.out w7 H7.out.log.upd
        clear hA7 H5 HAdd hc5
        go_wp2_with fail
        refine (roomG_l H7.out.log H7.out.is).mono ?_
        rintro e w8 ⟨rfl, hU⟩
        have H8 := Lib.hid (H7.out.still hU)
        have hc8 := HCw.out w8 H8.out.log.upd
        clear hU H7 hc7
        go_wp2_with fail
        go_roundw
        case rel => exact ⟨k + 1, d, g, rs, R, by omega, by go_num, H8.out.log, H8.out.is, ⟨H8.out.at_.1, H8.out.at_.2.1, by omega, H8.out.at_.2.2.2⟩, H8.out.out⟩
        case measure => simp [intOf] <;> omega
      have h1024' : ¬ (1024 : Int) < (x.size : Int) := by omega
      by_cases hfit : kp ≤ R.length
      · have hfit' : ¬ (R.length : Int) < (kp : Int) := by omega
        obtain ⟨r1, r2, r3, r4, r5⟩ := add_is H5.out.is x (by omega) (by rw [hkp'.out]; exact hfit) (by omega)
        rw [r1] at hadd
        have HAdd := Lib.hid hadd
        have hRd : (R.drop (partsOf x.size)).length = R.length - kp := by rw [List.length_drop, hkp'.out]
        have hroom : g.from_ = 2 ∧ g.sectors = n ∧ d.lasts.length = n + 4 := ⟨H5.out.at_.1, H5.out.at_.2.1, H5.out.at_.2.2.2.2⟩
        have HI : Hid (LogIs (addD d g x) (g.added x) (rs ++ [(x.data.toList, g.salt + 1)]) (R.drop (partsOf x.size)) ∧ (addD d g x).lasts.length = n + 4 ∧ (addD d g x).pend = 0 ∧ ∀ j, j < n + 4 → (j < 2 ∨ n + 2 ≤ j) → (addD d g x).now j = zeros64) :=
          ⟨r2, by omega, r4, fun j hj ho => by rw [r5 j (by omega) (by omega)]; exact H5.out.out j hj ho⟩
        clear hadd r1 r2 r3 r4 r5
        go_wp2_with fail
        refine HAdd.out.mono ?_
        rintro e w7 ⟨rfl, hA7⟩
        have H7 : Hid (RoomS w1 w7 p b n (k + 1) (addD d g x) (g.added x) (rs ++ [(x.data.toList, g.salt + 1)]) (R.drop (partsOf x.size))) :=
          ⟨hA7.log, HI.out.1, ⟨hroom.1, hroom.2.1, by show g.salt + 1 ≤ k + 1; omega, by rw [HI.out.2.2.1]; exact Nat.le_refl _, HI.out.2.1⟩, HI.out.2.2.2⟩
        have hc7 := HCw.out w7 H7.out.log.upd
        have hsub : ((R.length - kp : Nat) : Int) = (R.length : Int) - (kp : Int) := by omega
        clear hA7 H5 HAdd hc5 hroom HI
        go_wp2_with fail
        refine (roomG_l H7.out.log H7.out.is).mono ?_
        rw [hRd]
        rintro e w8 ⟨rfl, hU⟩
        have H8 := Lib.hid (H7.out.still hU)
        have hc8 := HCw.out w8 H8.out.log.upd
        rw [hsub]
        clear hU H7 hc7 hRd
        go_wp2_with fail
        go_roundw
        case rel => exact ⟨k + 1, _, _, _, _, by omega, by go_num, H8.out⟩
        case measure => simp [intOf] <;> omega
      · have hfit' : (R.length : Int) < (kp : Int) := by omega
        rw [add_not H5.out.is x (by omega) (by rw [hkp'.out]; omega), if_neg h1024] at hadd
        have HAdd := Lib.hid hadd
        clear hadd
        go_wp2_with fail
        refine HAdd.out.mono ?_
        rintro e w7 ⟨rfl, hA7⟩
        have H7 : Hid (RoomS w1 w7 p b n k d g rs R) := ⟨hA7.log, H5.out.is, H5.out.at_, H5.out.out⟩
        have hc7 := HCw.out w7 H7.out.log.upd
        clear hA7 H5 HAdd hc5
        go_wp2_with fail
        refine (roomG_l H7.out.log H7.out.is).mono ?_
        rintro e w8 ⟨rfl, hU⟩
        have H8 := Lib.hid (H7.out.still hU)
        have hc8 := HCw.out w8 H8.out.log.upd
        clear hU H7 hc7
        go_wp2_with fail
        go_roundw
        case rel => exact ⟨k + 1, d, g, rs, R, by omega, by go_num, H8.out.log, H8.out.is, ⟨H8.out.at_.1, H8.out.at_.2.1, by omega, H8.out.at_.2.2.2⟩, H8.out.out⟩
        case measure => simp [intOf] <;> omega
    · have H5 := Lib.hid (And.intro hR.log.disk (And.intro hR.out (And.intro hR.is.off hR.at_.2.2.2.2)))
      clear hR
      go_wp2_with fail
      go_loopw [14, 15, 16] (fun i _ _ wr => ∃ j : Nat, j ≤ n + 4 ∧ i = .int .i64 j ∧ DkS w1 wr p d) (fun i _ _ _ => n + 4 - (intOf i).toNat)
      case atStart => exact ⟨0, by omega, rfl, H5.out.1⟩
      case round =>
        obtain ⟨j, hj, rfl, hD⟩ := hrel
        have H6 := Lib.hid hD
        clear hD
        by_cases hlt2 : j < n + 4
        · have hlt2' : (j : Int) < (n : Int) + 4 := by omega
          have hread : ∀ z : ByteArray, d.now j = z → Calls Try.prog 31 #[.pointer (some ⟨p, 0, none⟩), .int .i64 (j : Int)] wr fun e w' => e = .returned (.tuple #[.string z, .int .i64 0]) ∧ wr = w' := by
            intro z hz
            have h := read_s H6.out (j : Int)
            rw [Dk.read_there H5.out.2.2.1 (by rw [H5.out.2.2.2]; exact hlt2), hz] at h
            exact h
          have HRd := Lib.hid hread
          have hrep : ∀ W, Calls Try.prog 38 #[.string ⟨#[0]⟩, .int .i64 64] W fun e w' => e = .returned (.string zeros64) ∧ Upd (fun _ => False) W w' := by
            intro W
            have h := rep_c 0 64 W (by omega)
            rw [show repB 0 64 = zeros64 from repeat_zeros] at h
            exact h
          have HRp := Lib.hid hrep
          clear hread hrep
          by_cases c1 : j < 2
          · have c1' : (j : Int) < 2 := by omega
            go_wp2_with fail
            refine (HRd.out _ (H5.out.2.1 j hlt2 (.inl c1))).mono ?_
            rintro e w7 ⟨rfl, rfl⟩
            go_wp2_with fail
            refine (HRp.out _).mono ?_
            rintro e w8 ⟨rfl, hU⟩
            have H8 := Lib.hid (H6.out.still hU)
            clear hU
            go_wp2_with fail
            go_roundw
            case rel => exact ⟨j + 1, by omega, by go_num, H8.out⟩
            case measure => simp [intOf] <;> omega
          have c1' : ¬ (j : Int) < 2 := by omega
          by_cases c2 : n + 2 ≤ j
          · have c2' : (n : Int) + 2 ≤ (j : Int) := by omega
            go_wp2_with fail
            refine (HRd.out _ (H5.out.2.1 j hlt2 (.inr c2))).mono ?_
            rintro e w7 ⟨rfl, rfl⟩
            go_wp2_with fail
            refine (HRp.out _).mono ?_
            rintro e w8 ⟨rfl, hU⟩
            have H8 := Lib.hid (H6.out.still hU)
            clear hU
            go_wp2_with fail
            go_roundw
            case rel => exact ⟨j + 1, by omega, by go_num, H8.out⟩
            case measure => simp [intOf] <;> omega
          have c2' : ¬ (n : Int) + 2 ≤ (j : Int) := by omega
          go_wp2_with fail
          refine (HRd.out _ rfl).mono ?_
          rintro e w7 ⟨rfl, rfl⟩
          go_wp2_with fail
          go_roundw
          case rel => exact ⟨j + 1, by omega, by go_num, H6.out⟩
          case measure => simp [intOf] <;> omega
        · have hlt2' : ¬ (j : Int) < (n : Int) + 4 := by omega
          go_wp2_with fail
          go_ret
          exact ⟨rfl, HU1.out.then H6.out.upd (fun _ e => e.elim)⟩
end Go.Proofs.Ytafgohnpnaiomaa
