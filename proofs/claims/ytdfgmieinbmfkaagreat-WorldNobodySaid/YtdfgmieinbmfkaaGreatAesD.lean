/-
  Package aes: a block enciphered; a text, each byte xored with the stream's.
-/
import Derived.Test.YtdfgmieinbmfkaaGreatAesC
namespace Go.Proofs.YtdfgmieinbmfkaaGreat
open Go Go.RowKit

set_option maxRecDepth 100000 in
set_option maxHeartbeats 4000000 in
theorem block_c {w : World} {c : Nat} {W : List UInt8} (hC : Blk w c 557 (arrB (W ++ boxL))) (hW : W.length = 240) (b : List UInt8) (hb : b.length = 16) :
    Calls Tryz.prog 378 #[.pointer (some ⟨c, 0, none⟩), .agg (arrB b)] w fun e w' => e = .returned (.agg (arrB (roundK W 14 b))) ∧ Upd (fun _ => False) w w' := by
  obtain ⟨g, hg⟩ : ∃ g, w.heap.size = g := ⟨_, rfl⟩
  have HG := Lib.hid hg
  obtain ⟨B, hBx⟩ : ∃ B, boxL = B := ⟨_, rfl⟩
  have hBl : B.length = 256 := by rw [← hBx]; exact boxL_len
  rw [hBx] at hC
  have hcg : c ≠ g := fun e => by have := hC.lt; omega
  have HC := Lib.hid (And.intro hC (And.intro hW (And.intro hBx (And.intro hBl hcg))))
  have HA := Lib.hid (fun (W1 : World) (hu : Upd (fun q => g ≤ q) w W1) (x : List UInt8) (hx : x.length = 16) (r : Nat) (hr : r ≤ 14) =>
    addk_c (hC.upd hu (by have := hC.lt; omega)) hW x hx r hr)
  obtain ⟨b1, hb1⟩ : ∃ b1, addK W b 0 = b1 := ⟨_, rfl⟩
  have hb1l : b1.length = 16 := by rw [← hb1, addK_len]
  have HB := Lib.hid (And.intro hb (And.intro hb1 hb1l))
  obtain ⟨O, hO⟩ : ∃ O, roundK W 14 b = O := ⟨_, rfl⟩
  have hOl : O.length = 16 := by rw [← hO]; exact roundK_len _ _ _
  rw [hO]
  have HO := Lib.hid (And.intro hO hOl)
  clear hBx hBl hC hW hcg hb1 hb1l hb hO hOl
  go_enter Tryz.func378, Tryz.ntmps378
  go_upto_region 1 with (fail)
  generalize hw2 : World.alloc _ _ = w2
  have hB2 : Blk w2 g 483 (arrB b) := by rw [← hw2, ← hg]; exact (Blk.new w _ _).alloc _
  have hC2 : Blk w2 (g + 1) 483 (arrB (List.replicate 16 0)) := by
    have h := Blk.new (w.alloc (.cells (arrB b) 483)) 483 (arrB (List.replicate 16 0))
    rw [World.size_alloc, hg] at h
    rw [← hw2]
    exact h
  have hU2 : Upd (fun _ => False) w w2 := by rw [← hw2]; exact ((Upd.refl _ w).alloc _).alloc _
  have hz2 : g + 1 < w2.heap.size := hC2.lt
  have HW2 := Lib.hid (And.intro hB2 (And.intro hC2 (And.intro hU2 hz2)))
  clear hB2 hC2 hU2 hw2 hg hz2
  go_wp2_with (first
    | (go_at_call 449
       refine (HA.out w2 (HW2.out.2.2.1.mono (fun _ e => e.elim)) b HB.out.1 0 (by omega)).mono ?_
       rintro e w3 ⟨rfl, hU3⟩
       rw [HB.out.2.1]
       have HU3 := Lib.hid hU3
       clear hU3)
    | (show wpList _ _ _ (⟨none, _, _, _, _, _⟩ :: _) _ _
       refine wpList_store_all rfl 483 _ _ rfl g (arrB b1) rfl rfl 483 _ (HW2.out.1.upd HU3.out (fun e => e)) (by rw [arrB_size, arrB_size, HB.out.1, HB.out.2.2]) (arrB_one _) (by rw [arrB_size, HB.out.2.2]; kernel_rfl) ?_
       intro w4 hB4 hU4 hz4
       have HB4 := Lib.hid (And.intro hB4 (HU3.out.trans hU4 (H := (· = g)) (fun _ e => e.elim) (fun _ e => .inl e)))
       clear hB4 hU4 hz4)
    | (refine wpList_load_all rfl _ _ rfl g rfl _ _ _ HW2.out.1 Tryz.underlying483 rfl (by rw [arrB_size, HB.out.1]; kernel_rfl) ?_))
  go_loopw [5] (fun u wr => ∃ r : Nat, r ≤ 14 ∧ u = .int .i64 ((r : Int) + 1) ∧ Blk wr g 483 (arrB (roundK W r b)) ∧ Upd (· = g) w2 wr) (fun u _ => 16 - (intOf u).toNat)
  case atStart => exact ⟨0, by omega, rfl, by show Blk w4 g _ (arrB (addK W b 0)); rw [HB.out.2.1]; exact HB4.out.1, HB4.out.2⟩
  case round =>
    clear HB4 HU3
    obtain ⟨r, hr, rfl, hBr, hUr⟩ := hrel
    by_cases hlt : r < 14
    · obtain ⟨n, hn⟩ : ∃ n, wr.heap.size = n := ⟨_, rfl⟩
      have hgn : g ≠ n := by have := hBr.lt; omega
      have hn2 : w2.heap.size ≤ n := by rw [← hn]; exact hUr.size
      have HN := Lib.hid (And.intro hgn (And.intro hn2 (fun {W1 : World} (hu : Upd (· = g) w2 W1) => ((HW2.out.2.2.1.trans hu (H := fun q => g ≤ q) (fun _ e => e.elim) (fun q e => .inl (by omega))) : Upd (fun q => g ≤ q) w W1))))
      have hRl := roundK_len W b r
      obtain ⟨Rb, hRb⟩ : ∃ Rb, roundK W r b = Rb := ⟨_, rfl⟩
      rw [hRb] at hBr hRl
      have HR := Lib.hid (And.intro hRb (by rw [hRb]; exact hRl : (roundK W r b).length = 16))
      have HBR := Lib.hid (And.intro hBr (And.intro hUr hRl))
      have HNN := Lib.hid hn
      have j5 : (r : Int) + 1 ≤ 14 := by omega
      clear hBr hUr hRl hRb hgn hn2 hn
      go_wp2_with fail
      rw [HNN.out]
      generalize hwq : World.alloc _ _ = wq
      have hBq : Blk wq n 483 (arrB (List.replicate 16 0)) := by rw [← hwq, ← HNN.out]; exact Blk.new wr _ _
      have hGq : Blk wq g 483 (arrB Rb) := by rw [← hwq]; exact HBR.out.1.alloc _
      have hUq : Upd (· = g) w2 wq := by rw [← hwq]; exact HBR.out.2.1.alloc _
      have HQ := Lib.hid (And.intro hBq (And.intro hGq hUq))
      clear hBq hGq hUq hwq
      go_loopw [7, 15] (fun _ u w' => ∃ k : Nat, k ≤ 16 ∧ u = .int .i64 (k : Int) ∧ Blk w' n 483 (arrB (fillAt (fun i => B.getD (Rb.getD ((i + 4 * (i % 4)) % 16) 0).toNat 0) (List.replicate 16 0) k)) ∧ Upd (· = n) wq w') (fun _ u _ => 16 - (intOf u).toNat)
      case atStart => exact ⟨0, by omega, rfl, HQ.out.1, Upd.refl _ _⟩
      case round =>
        obtain ⟨k, hk, rfl, hBk, hUk⟩ := hrel
        by_cases hlt2 : k < 16
        · have hgk : Blk wr g 483 (arrB Rb) := HQ.out.2.1.upd hUk HN.out.1
          have hck : Blk wr c 557 (arrB (W ++ B)) := HC.out.1.upd ((HN.out.2.2 HQ.out.2.2).trans hUk (H := fun q => g ≤ q) (fun _ e => e) (fun q e => .inl (by have := HN.out.2.1; have := HW2.out.2.2.2; omega))) (by have := HC.out.1.lt; have := HG.out; omega)
          obtain ⟨m4, hm4⟩ : ∃ m, k % 4 = m := ⟨_, rfl⟩
          obtain ⟨m16, hm16⟩ : ∃ m, 4 * m4 = m := ⟨_, rfl⟩
          obtain ⟨sm, hsm⟩ : ∃ m, k + m16 = m := ⟨_, rfl⟩
          obtain ⟨j, hj⟩ : ∃ m, sm % 16 = m := ⟨_, rfl⟩
          have hjk : (k + 4 * (k % 4)) % 16 = j := by rw [hm4, hm16, hsm, hj]
          have hc1 := hgk.cellB j (by rw [HBR.out.2.2]; omega)
          have hst := fillAt_step (fun i => B.getD (Rb.getD ((i + 4 * (i % 4)) % 16) 0).toNat 0) (List.replicate 16 0) k (by rw [List.length_replicate]; exact hlt2)
          simp only [hjk] at hst
          obtain ⟨x, hx⟩ : ∃ x, Rb.getD j 0 = x := ⟨_, rfl⟩
          rw [hx] at hc1 hst
          have hxl := x.toNat_lt
          have hc2 := hck.cellB (240 + x.toNat) (by rw [List.length_append, HC.out.2.1, HC.out.2.2.2.1]; omega)
          rw [List.getD_eq_getElem?_getD, List.getElem?_append_right (by rw [HC.out.2.1]; omega), HC.out.2.1, Nat.add_sub_cancel_left, ← List.getD_eq_getElem?_getD] at hc2
          obtain ⟨y, hy⟩ : ∃ y, B.getD x.toNat 0 = y := ⟨_, rfl⟩
          rw [hy] at hc2
          simp only [hy] at hst
          have hc3 := hBk.cellB k (by rw [fillAt_len _ _ _ (by rw [List.length_replicate]; omega), List.length_replicate]; exact hlt2)
          have hf := hBk.frozen k
          have j7 : (k : Int) < 16 := by omega
          have j8 : (x.toNat : Int) < 256 := by omega
          have j9 : (j : Int) < 16 := by omega
          have HBk := Lib.hid (And.intro hBk (And.intro hUk hst))
          have e1 : (k : Int).tmod 4 = (m4 : Int) := by rw [Int.tmod_eq_emod_of_nonneg (by omega)]; omega
          have e2 : IntKind.i64.wrap (4 * (m4 : Int)) = (m16 : Int) := by rw [IntWalk.i64_in _ (by omega)]; omega
          have e3 : IntKind.i64.wrap ((k : Int) + (m16 : Int)) = (sm : Int) := by rw [IntWalk.i64_in _ (by omega)]; omega
          have e4 : (sm : Int).tmod 16 = (j : Int) := by rw [Int.tmod_eq_emod_of_nonneg (by omega)]; omega
          clear hBk hUk hst hx hy hxl hgk hck hm4 hm16 hsm hj hjk
          go_wp2_with fail
          go_still_tail 15, (by kernel_rfl)
          change wpList _ _ _ _ _ (World.drew _)
          go_wp2_with fail
          clear e1 e2 e3 e4
          go_roundw
          case rel =>
            refine ⟨k + 1, by omega, by go_num, ?_, ?_⟩
            · have h := (HBk.out.1.setB k y).drew
              have hs := HBk.out.2.2
              rw [hs] at h
              exact h
            · exact (HBk.out.2.1.setCell (p := ⟨n, k, none⟩) (.inl rfl) _).drew
          case measure => simp [intOf] <;> omega
        · obtain rfl : k = 16 := by omega
          have e16 : ((16 : Nat) : Int) = 16 := rfl
          rw [e16]
          obtain ⟨T, hT⟩ : ∃ T, subK (roundK W r b) = T := ⟨_, rfl⟩
          have hTl : T.length = 16 := by rw [← hT]; simp [subK]
          have hsub : (List.range 16).map (fun i => B.getD (Rb.getD ((i + 4 * (i % 4)) % 16) 0).toNat 0) = T := by
            rw [← hT, HR.out.1, ← HC.out.2.2.1]
            rfl
          rw [fillAt_all _ _ _ (by rw [List.length_replicate]), hsub] at hBk
          have HT := Lib.hid (And.intro hT hTl)
          have HTB := Lib.hid (And.intro hBk (HQ.out.2.2.then hUk (fun q hq => .inr (by have := HN.out.2.1; omega))))
          have HTG : Hid (Blk wr g 483 (arrB (roundK W r b))) := Lib.hid (by rw [HR.out.1]; exact HQ.out.2.1.upd hUk HN.out.1)
          clear hT hTl hsub hBk hUk hk hlt2 e16
          by_cases h14 : r + 1 < 14
          ·
            --#a {
            have k1 : (r : Int) + 1 < 14 := by omega
            obtain ⟨M, hM⟩ : ∃ M, mixK T = M := ⟨_, rfl⟩
            have hMl : M.length = 16 := by rw [← hM]; simp [mixK]
            have HMX := Lib.hid (fun W1 => mix_c T HT.out.2 W1)
            rw [hM] at HMX
            go_upto_region 13 with (first
              | (go_at_call 450
                 refine (HMX.out _).mono ?_
                 rintro e w13 ⟨rfl, hU13⟩
                 have HU13 := Lib.hid hU13
                 clear hU13)
              | (show wpList _ _ _ (⟨none, _, _, _, _, _⟩ :: _) _ _
                 refine wpList_store_all rfl 483 _ _ rfl n (arrB M) rfl rfl 483 _ (HTB.out.1.upd HU13.out (fun e => e)) (by rw [arrB_size, arrB_size, hMl, HT.out.2]) (arrB_one _) (by rw [arrB_size, hMl]; kernel_rfl) ?_
                 intro w14 hB14 hU14 hz14)
              | (refine wpList_load_all rfl _ _ rfl n rfl _ _ _ HTB.out.1 Tryz.underlying483 rfl (by rw [arrB_size, HT.out.2]; kernel_rfl) ?_))
            have hBM := hB14
            have hUM : Upd (· = g) w2 w14 := (HTB.out.2.then HU13.out (fun _ e => e.elim)).then hU14 (fun q hq => .inr (by have := HN.out.2.1; omega))
            have hrM : Blk w14 g 483 (arrB (roundK W r b)) := (HTG.out.upd HU13.out (fun e => e)).upd hU14 (by have := HN.out.1; omega)
            clear hB14 hU14 hz14 k1
            obtain ⟨R2, hR2⟩ : ∃ R2, roundK W (r + 1) b = R2 := ⟨_, rfl⟩
            have hR2l : R2.length = 16 := by rw [← hR2]; exact roundK_len _ _ _
            have hadd : addK W M (r + 1) = R2 := by
              rw [← hR2]
              show _ = addK W (if r + 1 < 14 then mixK (subK (roundK W r b)) else subK (roundK W r b)) (r + 1)
              rw [if_pos (by omega : r + 1 < 14), ← hM, ← HT.out.1]
            have HM := Lib.hid (And.intro hM (And.intro hMl (And.intro hR2 (And.intro hR2l hadd))))
            have HBM := Lib.hid (And.intro hBM (And.intro hUM hrM))
            clear hM hMl hR2 hR2l hadd hBM hUM hrM
            go_wp2_with (first
              | (go_at_call 449
                 refine (HA.out _ (HN.out.2.2 HBM.out.2.1) M HM.out.2.1 (r + 1) (by omega)).mono ?_
                 rintro e w3 ⟨rfl, hU3⟩
                 rw [HM.out.2.2.2.2]
                 have HU3 := Lib.hid hU3
                 clear hU3)
              | (show wpList _ _ _ (⟨none, _, _, _, _, _⟩ :: _) _ _
                 refine wpList_store_all rfl 483 _ _ rfl g (arrB R2) rfl rfl 483 _ (HBM.out.2.2.upd HU3.out (fun e => e)) (by rw [arrB_size, arrB_size, HM.out.2.2.2.1, HR.out.2]) (arrB_one _) (by rw [arrB_size, HM.out.2.2.2.1]; kernel_rfl) ?_
                 intro w4 hB4 hU4 hz4
                 have HB4 := Lib.hid (And.intro hB4 ((HBM.out.2.1.then HU3.out (fun _ e => e.elim)).then hU4 (fun _ e => .inl e)))
                 clear hB4 hU4 hz4)
              | (refine wpList_load_all rfl _ _ rfl n rfl _ _ _ HBM.out.1 Tryz.underlying483 rfl (by rw [arrB_size, HM.out.2.1]; kernel_rfl) ?_))
            go_roundw
            case rel => exact ⟨r + 1, by omega, by go_num, by rw [HM.out.2.2.1]; exact HB4.out.1, HB4.out.2⟩
            case measure => simp [intOf] <;> omega

            --#a }
          ·
            --#c {
            have k1 : ¬ (r : Int) + 1 < 14 := by omega
            have k2 : decide ((r : Int) + 1 < 14) = false := decide_eq_false k1
            obtain ⟨M, hM⟩ : ∃ M, T = M := ⟨_, rfl⟩
            have hMl : M.length = 16 := by rw [← hM]; exact HT.out.2
            have hBM := HTB.out.1
            rw [hM] at hBM
            have hUM := HTB.out.2
            have hrM := HTG.out
            obtain ⟨R2, hR2⟩ : ∃ R2, roundK W (r + 1) b = R2 := ⟨_, rfl⟩
            have hR2l : R2.length = 16 := by rw [← hR2]; exact roundK_len _ _ _
            have hadd : addK W M (r + 1) = R2 := by
              rw [← hR2]
              show _ = addK W (if r + 1 < 14 then mixK (subK (roundK W r b)) else subK (roundK W r b)) (r + 1)
              rw [if_neg (by omega : ¬ r + 1 < 14), ← hM, ← HT.out.1]
            have HM := Lib.hid (And.intro hM (And.intro hMl (And.intro hR2 (And.intro hR2l hadd))))
            have HBM := Lib.hid (And.intro hBM (And.intro hUM hrM))
            clear hM hMl hR2 hR2l hadd hBM hUM hrM
            go_wp2_with (first
              | (go_at_call 449
                 refine (HA.out _ (HN.out.2.2 HBM.out.2.1) M HM.out.2.1 (r + 1) (by omega)).mono ?_
                 rintro e w3 ⟨rfl, hU3⟩
                 rw [HM.out.2.2.2.2]
                 have HU3 := Lib.hid hU3
                 clear hU3)
              | (show wpList _ _ _ (⟨none, _, _, _, _, _⟩ :: _) _ _
                 refine wpList_store_all rfl 483 _ _ rfl g (arrB R2) rfl rfl 483 _ (HBM.out.2.2.upd HU3.out (fun e => e)) (by rw [arrB_size, arrB_size, HM.out.2.2.2.1, HR.out.2]) (arrB_one _) (by rw [arrB_size, HM.out.2.2.2.1]; kernel_rfl) ?_
                 intro w4 hB4 hU4 hz4
                 have HB4 := Lib.hid (And.intro hB4 ((HBM.out.2.1.then HU3.out (fun _ e => e.elim)).then hU4 (fun _ e => .inl e)))
                 clear hB4 hU4 hz4)
              | (refine wpList_load_all rfl _ _ rfl n rfl _ _ _ HBM.out.1 Tryz.underlying483 rfl (by rw [arrB_size, HM.out.2.1]; kernel_rfl) ?_))
            go_roundw
            case rel => exact ⟨r + 1, by omega, by go_num, by rw [HM.out.2.2.1]; exact HB4.out.1, HB4.out.2⟩
            case measure => simp [intOf] <;> omega

            --#c }
    · obtain rfl : r = 14 := by omega
      have e15 : ((14 : Nat) : Int) + 1 = 15 := rfl
      rw [e15]
      rw [HO.out.1] at hBr
      have HBr := Lib.hid (And.intro hBr (And.intro (HW2.out.2.1.upd hUr (by omega)) (HW2.out.2.2.1.then hUr (fun q hq => .inr (by have := HG.out; omega)))))
      clear hBr hUr e15 hlt hr
      go_wp2_with (first
        | (show wpList _ _ _ (⟨none, _, _, _, _, _⟩ :: _) _ _
           refine wpList_store_all rfl 483 _ _ rfl (g + 1) (arrB O) rfl rfl 483 _ HBr.out.2.1 (by rw [arrB_size, arrB_size, HO.out.2]; rfl) (arrB_one _) (by rw [arrB_size, HO.out.2]; kernel_rfl) ?_
           intro w4 hB4 hU4 hz4)
        | (refine wpList_load_all rfl _ _ rfl g rfl _ _ _ HBr.out.1 Tryz.underlying483 rfl (by rw [arrB_size, HO.out.2]; kernel_rfl) ?_))
      refine bodyPost_ret (results_cell_row rfl _ _ (g + 1) _ _ _ _ rfl hB4 Tryz.underlying483 rfl (by rw [arrB_size, HO.out.2]; kernel_rfl)) rfl ⟨rfl, HBr.out.2.2.then hU4 (fun q hq => .inr (by have := HG.out; omega))⟩
end Go.Proofs.YtdfgmieinbmfkaaGreat
