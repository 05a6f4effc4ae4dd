/-
  Package aes: a round's words xored; a block's columns mixed; a block enciphered.
-/
import Derived.Test.YtdfgmieinbmfkaaGreatAesB
namespace Go.Proofs.YtdfgmieinbmfkaaGreat
open Go Go.RowKit

set_option maxRecDepth 100000 in
set_option maxHeartbeats 1000000 in
theorem addk_c {w : World} {c : Nat} {W B : List UInt8} (hC : Blk w c 557 (arrB (W ++ B))) (hW : W.length = 240) (b : List UInt8) (hb : b.length = 16) (r : Nat) (hr : r ≤ 14) :
    Calls Tryz.prog 449 #[.pointer (some ⟨c, 0, none⟩), .agg (arrB b), .int .i64 (r : Int)] w fun e w' => e = .returned (.agg (arrB (addK W b r))) ∧ Upd (fun _ => False) w w' := by
  obtain ⟨g, hg⟩ : ∃ g, w.heap.size = g := ⟨_, rfl⟩
  have HG := Lib.hid hg
  have HL := Lib.hid (And.intro hb (And.intro hW (And.intro hC (show addK W b r = (List.range 16).map fun i => b.getD i 0 ^^^ W.getD (16 * r + i) 0 from rfl))))
  obtain ⟨O, hO⟩ : ∃ O, addK W b r = O := ⟨_, rfl⟩
  have hOl : O.length = 16 := by rw [← hO, addK_len]
  have HO := Lib.hid (And.intro hO hOl)
  rw [hO]
  clear hb hW hC hO hOl
  go_enter Tryz.func449, Tryz.ntmps449
  go_wp2_with fail
  generalize hw2 : World.alloc _ _ = w2
  have hB2 : Blk w2 g 483 (arrB b) := by rw [← hw2, ← hg]; exact (Blk.new w _ _).alloc _
  have hC2 : Blk w2 (g + 1) 483 (arrB (List.replicate 16 0)) := by
    have h := Blk.new (w.alloc (.cells (arrB b) 483)) 483 (arrB (List.replicate 16 0))
    rw [World.size_alloc, hg] at h
    rw [← hw2]
    exact h
  have hU2 : Upd (fun _ => False) w w2 := by rw [← hw2]; exact ((Upd.refl _ w).alloc _).alloc _
  have hcg : c ≠ g := fun e => by have := HL.out.2.2.1.lt; omega
  have HW2 := Lib.hid (And.intro hB2 (And.intro hC2 (And.intro hU2 hcg)))
  clear hB2 hC2 hU2 hw2 hg hcg
  go_loopw [7, 8] (fun _ u wr => ∃ k : Nat, k ≤ 16 ∧ u = .int .i64 (k : Int) ∧ Blk wr g 483 (arrB (fillAt (fun i => b.getD i 0 ^^^ W.getD (16 * r + i) 0) b k)) ∧ Upd (· = g) w2 wr) (fun _ u _ => 16 - (intOf u).toNat)
  case atStart => exact ⟨0, by omega, rfl, HW2.out.1, Upd.refl _ _⟩
  case round =>
    obtain ⟨k, hk, rfl, hB, hu⟩ := hrel
    by_cases hlt : k < 16
    · have hbl := HL.out.1
      have hWl := HL.out.2.1
      have hc1 := hB.cellB k (by rw [fillAt_len _ _ _ (by omega)]; omega)
      rw [fillAt_get] at hc1
      have hCr : Blk wr c 557 (arrB (W ++ B)) := (HL.out.2.2.1.upd HW2.out.2.2.1 (fun e => e)).upd hu HW2.out.2.2.2
      obtain ⟨i1, hi1⟩ : ∃ i1, 4 * r + k / 4 = i1 := ⟨_, rfl⟩
      obtain ⟨i2, hi2⟩ : ∃ i2, k % 4 = i2 := ⟨_, rfl⟩
      have hidx : 16 * r + k = i1 * 4 + i2 := by omega
      have hc2 := hCr.cellB (i1 * 4 + i2) (by rw [List.length_append]; omega)
      have hst := fillAt_step (fun i => b.getD i 0 ^^^ W.getD (16 * r + i) 0) b k (by omega)
      rw [List.getD_eq_getElem?_getD, List.getElem?_append_left (by omega), ← List.getD_eq_getElem?_getD] at hc2
      simp only [hidx] at hst
      obtain ⟨x, hx⟩ : ∃ x, b.getD k 0 = x := ⟨_, rfl⟩
      obtain ⟨y, hy⟩ : ∃ y, W.getD (i1 * 4 + i2) 0 = y := ⟨_, rfl⟩
      rw [hx] at hc1 hst
      rw [hy] at hc2 hst
      obtain ⟨z, hz⟩ : ∃ z, x ^^^ y = z := ⟨_, rfl⟩
      have hxy := xorB x y
      rw [hz] at hxy hst
      have hf := hB.frozen k
      have HB := Lib.hid (And.intro hB (And.intro hu hst))
      have j1 : (k : Int) < 16 := by omega
      have j2 : (i1 : Int) < 60 := by omega
      have j3 : (i2 : Int) < 4 := by omega
      have j0 : (0 : Int) ≤ (i1 : Int) := by omega
      have e1 : IntKind.i64.wrap (4 * (r : Int)) = 4 * (r : Int) := IntWalk.i64_in _ (by omega)
      obtain ⟨d, hd⟩ : ∃ d, k / 4 = d := ⟨_, rfl⟩
      have e4 : IntKind.i64.wrap ((k : Int) / 4) = (d : Int) := by rw [IntWalk.i64_in _ (by omega)]; omega
      have e2 : IntKind.i64.wrap (4 * (r : Int) + (d : Int)) = (i1 : Int) := by rw [IntWalk.i64_in _ (by omega)]; omega
      have e3 : (k : Int).tmod 4 = (i2 : Int) := by rw [Int.tmod_eq_emod_of_nonneg (by omega)]; omega
      have j4 : (0 : Int) ≤ 4 * (r : Int) := by omega
      clear hB hu hst hx hy hz hbl hWl hCr hi1 hi2 hidx hd
      go_wp2_with fail
      go_still_tail 18, (by kernel_rfl)
      change wpList _ _ _ _ _ (World.drew _)
      go_wp2_with fail
      clear e1 e2 e3 e4
      go_roundw
      case rel =>
        refine ⟨k + 1, by omega, by go_num, ?_, ?_⟩
        · have h := (HB.out.1.setB k z).drew
          have hs := HB.out.2.2
          rw [hs] at h
          exact h
        · exact (HB.out.2.1.setCell (p := ⟨g, k, none⟩) (.inl rfl) _).drew
      case measure => simp [intOf] <;> omega
    · obtain rfl : k = 16 := by omega
      have e16 : ((16 : Nat) : Int) = 16 := rfl
      rw [e16]
      rw [fillAt_all _ _ _ HL.out.1, ← HL.out.2.2.2, HO.out.1] at hB
      have HB := Lib.hid (And.intro hB (HW2.out.2.1.upd hu (by omega)))
      have HU := Lib.hid (HW2.out.2.2.1.then hu (fun q hq => .inr (by have := HG.out; omega)))
      clear hB hu e16 hlt hk
      go_wp2_with (first
        | (show wpList _ _ _ (⟨none, _, _, _, _, _⟩ :: _) _ _
           refine wpList_store_all rfl 483 _ _ rfl (g + 1) (arrB O) rfl rfl 483 _ HB.out.2 (by rw [arrB_size, arrB_size, HO.out.2]; rfl) (arrB_one _) (by rw [arrB_size, HO.out.2]; kernel_rfl) ?_
           intro w4 hB4 hU4 hz4)
        | (refine wpList_load_all rfl _ _ rfl g rfl _ _ _ HB.out.1 Tryz.underlying483 rfl (by rw [arrB_size, HO.out.2]; kernel_rfl) ?_))
      refine bodyPost_ret (results_cell_row rfl _ _ (g + 1) _ _ _ _ rfl hB4 Tryz.underlying483 rfl (by rw [arrB_size, HO.out.2]; kernel_rfl)) rfl ⟨rfl, HU.out.then hU4 (fun q hq => .inr (by have := HG.out; omega))⟩
/-! ### mix -/
set_option maxRecDepth 100000 in
theorem mixn_c {w : World} {g ga gi : Nat} {b : List UInt8} {t : TypeId} {at_ i : Nat} (hB : Blk w g 483 (arrB b)) (hb : b.length = 16) (ha : Blk w ga t #[.int .i64 (at_ : Int)]) (hi : Blk w gi t #[.int .i64 (i : Int)]) (h1 : at_ ≤ 12) (h2 : i < 16) (k : Nat) (hk : k < 4) :
    Calls Tryz.prog 498 #[.int .i64 (k : Int), .pointer (some ⟨g, 0, none⟩), .pointer (some ⟨ga, 0, none⟩), .pointer (some ⟨gi, 0, none⟩)] w fun e w' => e = .returned (.int .u8 ((b.getD (at_ + (i + k) % 4) 0).toNat : Int)) ∧ w' = w := by
  obtain ⟨j, hj⟩ : ∃ j, at_ + (i + k) % 4 = j := ⟨_, rfl⟩
  have hc := hB.cellB j (by omega)
  have hca := ha.cells1
  have hci := hi.cells1
  have hjl : (j : Int) < 16 := by omega
  have hj0 : (0 : Int) ≤ (j : Int) := by omega
  have e1 : IntKind.i64.wrap ((i : Int) + (k : Int)) = (i : Int) + (k : Int) := IntWalk.i64_in _ (by omega)
  have e2 : (at_ : Int) + ((i : Int) + (k : Int)) % 4 = (j : Int) := by omega
  have e0 : (0 : Int) ≤ (i : Int) + (k : Int) := by omega
  rw [hj]
  clear hB hb ha hi hj h1
  go_enter Tryz.func498, Tryz.ntmps498
  go_wp2_with fail
  go_ret
  exact ⟨rfl, rfl⟩
set_option maxRecDepth 100000 in
set_option maxHeartbeats 1000000 in
theorem mix_c (b : List UInt8) (hb : b.length = 16) (w : World) : Calls Tryz.prog 450 #[.agg (arrB b)] w fun e w' => e = .returned (.agg (arrB (mixK b))) ∧ Upd (fun _ => False) w w' := by
  obtain ⟨g, hg⟩ : ∃ g, w.heap.size = g := ⟨_, rfl⟩
  have HG := Lib.hid hg
  obtain ⟨O, hO⟩ : ∃ O, mixK b = O := ⟨_, rfl⟩
  have hOl : O.length = 16 := by rw [← hO]; simp [mixK]
  have HO := Lib.hid (And.intro hO (And.intro hOl hb))
  rw [hO]
  clear hb hO hOl
  go_enter Tryz.func450, Tryz.ntmps450
  have hmf : ∀ (fn : Fn) (first cap : Array Value) (w : World), (Instr.makeFunc fn first cap).run Tryz.prog w = .ok (.func fn first cap) w := fun _ _ _ _ => rfl
  go_wp2_with fail
  generalize hw2 : World.alloc _ _ = w2
  have hB2 : Blk w2 g 483 (arrB b) := by rw [← hw2, ← hg]; exact (Blk.new w _ _).alloc _
  have hC2 : Blk w2 (g + 1) 483 (arrB (List.replicate 16 0)) := by
    have h := Blk.new (w.alloc (.cells (arrB b) 483)) 483 (arrB (List.replicate 16 0))
    rw [World.size_alloc, hg] at h
    rw [← hw2]
    exact h
  have hU2 : Upd (fun _ => False) w w2 := by rw [← hw2]; exact ((Upd.refl _ w).alloc _).alloc _
  have HW2 := Lib.hid (And.intro hB2 (And.intro hC2 hU2))
  clear hB2 hC2 hU2 hw2 hg
  go_loopw [6] (fun u wr => ∃ k : Nat, k ≤ 16 ∧ u = .int .i64 (k : Int) ∧ Blk wr (g + 1) 483 (arrB (fillAt (fun i => (mixK b).getD i 0) (List.replicate 16 0) k)) ∧ Upd (· = g + 1) w2 wr) (fun u _ => 16 - (intOf u).toNat)
  case atStart => exact ⟨0, by omega, rfl, HW2.out.2.1, Upd.refl _ _⟩
  case round =>
    obtain ⟨k, hk, rfl, hB, hu⟩ := hrel
    by_cases hlt : k < 16
    · have hbl := HO.out.2.2
      have hbb := HW2.out.1.upd hu (by omega)
      have HB := Lib.hid (And.intro hB (And.intro hu hbb))
      have j1 : (k : Int) < 16 := by omega
      obtain ⟨n, hn⟩ : ∃ n, wr.heap.size = n := ⟨_, rfl⟩
      have hgn : g + 1 < n := by have := hB.lt; omega
      have hgn0 : g < n := by omega
      have HN := Lib.hid hn
      obtain ⟨a, ha⟩ : ∃ a, k / 4 * 4 = a := ⟨_, rfl⟩
      have HA := Lib.hid ha
      have e1 : (k : Int) / 4 * 4 = (a : Int) := by omega
      have e2 : IntKind.i64.wrap ((k : Int) / 4 * 4) = (a : Int) := by rw [IntWalk.i64_in _ (by omega)]; omega
      clear hB hu hbb hn ha hbl
      go_wp2_with fail
      clear e1 e2
      rw [HN.out]
      generalize hwq : World.alloc _ _ = wq
      have hi : Blk wq n 3 #[.int .i64 (k : Int)] := by rw [← hwq, ← HN.out]; exact (Blk.new wr _ _).alloc _
      have ha : Blk wq (n + 1) 3 #[.int .i64 (a : Int)] := by
        have h := Blk.new (wr.alloc (.cells #[.int .i64 (k : Int)] 3)) 3 #[.int .i64 (a : Int)]
        rw [World.size_alloc, HN.out] at h
        rw [← hwq]
        exact h
      have hb2 : Blk wq g 483 (arrB b) := by rw [← hwq]; exact (HB.out.2.2.alloc _).alloc _
      have ho2 : Blk wq (g + 1) 483 (arrB (fillAt (fun i => (mixK b).getD i 0) (List.replicate 16 0) k)) := by rw [← hwq]; exact (HB.out.1.alloc _).alloc _
      have hu2 : Upd (· = g + 1) w2 wq := by rw [← hwq]; exact (HB.out.2.1.alloc _).alloc _
      have HWQ := Lib.hid (And.intro hu2 ho2)
      obtain ⟨x0, hx0⟩ : ∃ x, b.getD (a + (k + 0) % 4) 0 = x := ⟨_, rfl⟩
      obtain ⟨x1, hx1⟩ : ∃ x, b.getD (a + (k + 1) % 4) 0 = x := ⟨_, rfl⟩
      obtain ⟨x2, hx2⟩ : ∃ x, b.getD (a + (k + 2) % 4) 0 = x := ⟨_, rfl⟩
      obtain ⟨x3, hx3⟩ : ∃ x, b.getD (a + (k + 3) % 4) 0 = x := ⟨_, rfl⟩
      have hm := fun (q : Nat) (hq : q < 4) => mixn_c hb2.drew HO.out.2.2 ha.drew hi.drew (by have := HA.out; omega) hlt q hq
      have m0 := hm 0 (by omega)
      have m1 := hm 1 (by omega)
      have m2 := hm 2 (by omega)
      have m3 := hm 3 (by omega)
      rw [hx0] at m0
      rw [hx1] at m1
      rw [hx2] at m2
      rw [hx3] at m3
      have M0 := Lib.hid m0
      have M1 := Lib.hid m1
      have M2 := Lib.hid m2
      have M3 := Lib.hid m3
      obtain ⟨y0, hy0⟩ : ∃ y, twU x0 = y := ⟨_, rfl⟩
      obtain ⟨y1, hy1⟩ : ∃ y, twU x1 = y := ⟨_, rfl⟩
      have T0 := Lib.hid ((twice_c x0 wq.drew).mono fun _ _ ⟨p, q⟩ => And.intro p q.symm)
      have T1 := Lib.hid ((twice_c x1 wq.drew).mono fun _ _ ⟨p, q⟩ => And.intro p q.symm)
      rw [hy0] at T0
      rw [hy1] at T1
      obtain ⟨z1, hz1⟩ : ∃ z, y0 ^^^ y1 = z := ⟨_, rfl⟩
      obtain ⟨z2, hz2⟩ : ∃ z, z1 ^^^ x1 = z := ⟨_, rfl⟩
      obtain ⟨z3, hz3⟩ : ∃ z, z2 ^^^ x2 = z := ⟨_, rfl⟩
      obtain ⟨z4, hz4⟩ : ∃ z, z3 ^^^ x3 = z := ⟨_, rfl⟩
      have q1 := xorB y0 y1
      have q2 := xorB z1 x1
      have q3 := xorB z2 x2
      have q4 := xorB z3 x3
      rw [hz1] at q1
      rw [hz2] at q2
      rw [hz3] at q3
      rw [hz4] at q4
      have hst := fillAt_step (fun i => (mixK b).getD i 0) (List.replicate 16 0) k (by rw [List.length_replicate]; exact hlt)
      have hz : (mixK b).getD k 0 = z4 := by
        have hA := HA.out
        unfold mixK
        rw [List.getD_eq_getElem?_getD, List.getElem?_map, List.getElem?_range hlt]
        show twU (b.getD (k / 4 * 4 + (k + 0) % 4) 0) ^^^ twU (b.getD (k / 4 * 4 + (k + 1) % 4) 0) ^^^ b.getD (k / 4 * 4 + (k + 1) % 4) 0 ^^^ b.getD (k / 4 * 4 + (k + 2) % 4) 0 ^^^ b.getD (k / 4 * 4 + (k + 3) % 4) 0 = z4
        rw [hA, hx0, hx1, hx2, hx3, hy0, hy1, hz1, hz2, hz3, hz4]
      simp only [hz] at hst
      have HST := Lib.hid hst
      have hcI := hi.cells1
      have hcO := ho2.cellB k (by rw [fillAt_len _ _ _ (by rw [List.length_replicate]; omega), List.length_replicate]; exact hlt)
      have hfO := ho2.frozen k
      clear hi ha hb2 ho2 hu2 hx0 hx1 hx2 hx3 hm m0 m1 m2 m3 hy0 hy1 hz1 hz2 hz3 hz4 hst hz hwq
      go_still_tail 18, (by kernel_rfl)
      still_call M0.out
      still_call T0.out
      still_step
      still_call M1.out
      still_call T1.out
      still_step
      still_step
      still_call M1.out
      still_step
      still_step
      still_call M2.out
      still_step
      still_step
      still_call M3.out
      still_step
      still_step
      refine wpStill_nil ?_
      change wpList _ _ _ _ _ wq.drew
      go_wp2_with fail
      go_roundw
      case rel =>
        refine ⟨k + 1, by omega, by go_num, ?_, ?_⟩
        · have h := (HWQ.out.2.setB k z4).drew
          rw [HST.out] at h
          exact h
        · exact (HWQ.out.1.setCell (p := ⟨g + 1, k, none⟩) (.inl rfl) _).drew
      case measure => simp [intOf] <;> omega
    · obtain rfl : k = 16 := by omega
      have e16 : ((16 : Nat) : Int) = 16 := rfl
      rw [e16]
      have hfin : (List.range 16).map (fun i => (mixK b).getD i 0) = O := by
        rw [HO.out.1]
        refine List.ext_getElem (by rw [List.length_map, List.length_range, HO.out.2.1]) fun i h1 h2 => ?_
        rw [List.getElem_map, List.getElem_range, List.getD_eq_getElem?_getD, List.getElem?_eq_getElem h2]
        rfl
      rw [fillAt_all _ _ _ (by rw [List.length_replicate]), hfin] at hB
      have HB := Lib.hid hB
      have HU := Lib.hid (HW2.out.2.2.then hu (fun q hq => .inr (by have := HG.out; omega)))
      clear hB hu e16 hlt hk hfin
      go_wp2_with (first
        | (show wpList _ _ _ (⟨none, _, _, _, _, _⟩ :: _) _ _
           refine wpList_store_all rfl 483 _ _ rfl (g + 1) (arrB O) rfl rfl 483 _ HB.out rfl (arrB_one _) (by rw [arrB_size, HO.out.2.1]; kernel_rfl) ?_
           intro w4 hB4 hU4 hz4)
        | (refine wpList_load_all rfl _ _ rfl (g + 1) rfl _ _ _ HB.out Tryz.underlying483 rfl (by rw [arrB_size, HO.out.2.1]; kernel_rfl) ?_))
      refine bodyPost_ret (results_cell_row rfl _ _ (g + 1) _ _ _ _ rfl hB4 Tryz.underlying483 rfl (by rw [arrB_size, HO.out.2.1]; kernel_rfl)) rfl ⟨rfl, HU.out.then hU4 (fun q hq => .inr (by have := HG.out; omega))⟩
end Go.Proofs.YtdfgmieinbmfkaaGreat

/-
  Package aes: a block enciphered; a text, each byte xored with the stream's.
-/
namespace Go.Proofs.YtdfgmieinbmfkaaGreat
open Go Go.RowKit

set_option maxRecDepth 100000 in
set_option maxHeartbeats 4000000 in
theorem block_c {w : World} {c : Nat} {W : List UInt8} (hC : Blk w c 557 (arrB (W ++ boxL))) (hW : W.length = 240) (b : List UInt8) (hb : b.length = 16) :
    Calls Tryz.prog 378 #[.pointer (some ⟨c, 0, none⟩), .agg (arrB b)] w fun e w' => e = .returned (.agg (arrB (roundK W 14 b))) ∧ Upd (fun _ => False) w w' := by
  obtain ⟨g, hg⟩ : ∃ g, w.heap.size = g := ⟨_, rfl⟩
  have HG := Lib.hid hg
  obtain ⟨B, hBx⟩ : ∃ B, boxL = B := ⟨_, rfl⟩
  have hBl : B.length = 256 := by rw [← hBx]; exact boxL_len
  rw [hBx] at hC
  have hcg : c ≠ g := fun e => by have := hC.lt; omega
  have HC := Lib.hid (And.intro hC (And.intro hW (And.intro hBx (And.intro hBl hcg))))
  have HA := Lib.hid (fun (W1 : World) (hu : Upd (fun q => g ≤ q) w W1) (x : List UInt8) (hx : x.length = 16) (r : Nat) (hr : r ≤ 14) =>
    addk_c (hC.upd hu (by have := hC.lt; omega)) hW x hx r hr)
  obtain ⟨b1, hb1⟩ : ∃ b1, addK W b 0 = b1 := ⟨_, rfl⟩
  have hb1l : b1.length = 16 := by rw [← hb1, addK_len]
  have HB := Lib.hid (And.intro hb (And.intro hb1 hb1l))
  obtain ⟨O, hO⟩ : ∃ O, roundK W 14 b = O := ⟨_, rfl⟩
  have hOl : O.length = 16 := by rw [← hO]; exact roundK_len _ _ _
  rw [hO]
  have HO := Lib.hid (And.intro hO hOl)
  clear hBx hBl hC hW hcg hb1 hb1l hb hO hOl
  go_enter Tryz.func378, Tryz.ntmps378
  go_upto_region 1 with (fail)
  generalize hw2 : World.alloc _ _ = w2
  have hB2 : Blk w2 g 483 (arrB b) := by rw [← hw2, ← hg]; exact (Blk.new w _ _).alloc _
  have hC2 : Blk w2 (g + 1) 483 (arrB (List.replicate 16 0)) := by
    have h := Blk.new (w.alloc (.cells (arrB b) 483)) 483 (arrB (List.replicate 16 0))
    rw [World.size_alloc, hg] at h
    rw [← hw2]
    exact h
  have hU2 : Upd (fun _ => False) w w2 := by rw [← hw2]; exact ((Upd.refl _ w).alloc _).alloc _
  have hz2 : g + 1 < w2.heap.size := hC2.lt
  have HW2 := Lib.hid (And.intro hB2 (And.intro hC2 (And.intro hU2 hz2)))
  clear hB2 hC2 hU2 hw2 hg hz2
  go_wp2_with (first
    | (go_at_call 449
       refine (HA.out w2 (HW2.out.2.2.1.mono (fun _ e => e.elim)) b HB.out.1 0 (by omega)).mono ?_
       rintro e w3 ⟨rfl, hU3⟩
       rw [HB.out.2.1]
       have HU3 := Lib.hid hU3
       clear hU3)
    | (show wpList _ _ _ (⟨none, _, _, _, _, _⟩ :: _) _ _
       refine wpList_store_all rfl 483 _ _ rfl g (arrB b1) rfl rfl 483 _ (HW2.out.1.upd HU3.out (fun e => e)) (by rw [arrB_size, arrB_size, HB.out.1, HB.out.2.2]) (arrB_one _) (by rw [arrB_size, HB.out.2.2]; kernel_rfl) ?_
       intro w4 hB4 hU4 hz4
       have HB4 := Lib.hid (And.intro hB4 (HU3.out.trans hU4 (H := (· = g)) (fun _ e => e.elim) (fun _ e => .inl e)))
       clear hB4 hU4 hz4)
    | (refine wpList_load_all rfl _ _ rfl g rfl _ _ _ HW2.out.1 Tryz.underlying483 rfl (by rw [arrB_size, HB.out.1]; kernel_rfl) ?_))
  go_loopw [5] (fun u wr => ∃ r : Nat, r ≤ 14 ∧ u = .int .i64 ((r : Int) + 1) ∧ Blk wr g 483 (arrB (roundK W r b)) ∧ Upd (· = g) w2 wr) (fun u _ => 16 - (intOf u).toNat)
  case atStart => exact ⟨0, by omega, rfl, by show Blk w4 g _ (arrB (addK W b 0)); rw [HB.out.2.1]; exact HB4.out.1, HB4.out.2⟩
  case round =>
    clear HB4 HU3
    obtain ⟨r, hr, rfl, hBr, hUr⟩ := hrel
    by_cases hlt : r < 14
    · obtain ⟨n, hn⟩ : ∃ n, wr.heap.size = n := ⟨_, rfl⟩
      have hgn : g ≠ n := by have := hBr.lt; omega
      have hn2 : w2.heap.size ≤ n := by rw [← hn]; exact hUr.size
      have HN := Lib.hid (And.intro hgn (And.intro hn2 (fun {W1 : World} (hu : Upd (· = g) w2 W1) => ((HW2.out.2.2.1.trans hu (H := fun q => g ≤ q) (fun _ e => e.elim) (fun q e => .inl (by omega))) : Upd (fun q => g ≤ q) w W1))))
      have hRl := roundK_len W b r
      obtain ⟨Rb, hRb⟩ : ∃ Rb, roundK W r b = Rb := ⟨_, rfl⟩
      rw [hRb] at hBr hRl
      have HR := Lib.hid (And.intro hRb (by rw [hRb]; exact hRl : (roundK W r b).length = 16))
      have HBR := Lib.hid (And.intro hBr (And.intro hUr hRl))
      have HNN := Lib.hid hn
      have j5 : (r : Int) + 1 ≤ 14 := by omega
      clear hBr hUr hRl hRb hgn hn2 hn
      go_wp2_with fail
      rw [HNN.out]
      generalize hwq : World.alloc _ _ = wq
      have hBq : Blk wq n 483 (arrB (List.replicate 16 0)) := by rw [← hwq, ← HNN.out]; exact Blk.new wr _ _
      have hGq : Blk wq g 483 (arrB Rb) := by rw [← hwq]; exact HBR.out.1.alloc _
      have hUq : Upd (· = g) w2 wq := by rw [← hwq]; exact HBR.out.2.1.alloc _
      have HQ := Lib.hid (And.intro hBq (And.intro hGq hUq))
      clear hBq hGq hUq hwq
      go_loopw [7, 15] (fun _ u w' => ∃ k : Nat, k ≤ 16 ∧ u = .int .i64 (k : Int) ∧ Blk w' n 483 (arrB (fillAt (fun i => B.getD (Rb.getD ((i + 4 * (i % 4)) % 16) 0).toNat 0) (List.replicate 16 0) k)) ∧ Upd (· = n) wq w') (fun _ u _ => 16 - (intOf u).toNat)
      case atStart => exact ⟨0, by omega, rfl, HQ.out.1, Upd.refl _ _⟩
      case round =>
        obtain ⟨k, hk, rfl, hBk, hUk⟩ := hrel
        by_cases hlt2 : k < 16
        · have hgk : Blk wr g 483 (arrB Rb) := HQ.out.2.1.upd hUk HN.out.1
          have hck : Blk wr c 557 (arrB (W ++ B)) := HC.out.1.upd ((HN.out.2.2 HQ.out.2.2).trans hUk (H := fun q => g ≤ q) (fun _ e => e) (fun q e => .inl (by have := HN.out.2.1; have := HW2.out.2.2.2; omega))) (by have := HC.out.1.lt; have := HG.out; omega)
          obtain ⟨m4, hm4⟩ : ∃ m, k % 4 = m := ⟨_, rfl⟩
          obtain ⟨m16, hm16⟩ : ∃ m, 4 * m4 = m := ⟨_, rfl⟩
          obtain ⟨sm, hsm⟩ : ∃ m, k + m16 = m := ⟨_, rfl⟩
          obtain ⟨j, hj⟩ : ∃ m, sm % 16 = m := ⟨_, rfl⟩
          have hjk : (k + 4 * (k % 4)) % 16 = j := by rw [hm4, hm16, hsm, hj]
          have hc1 := hgk.cellB j (by rw [HBR.out.2.2]; omega)
          have hst := fillAt_step (fun i => B.getD (Rb.getD ((i + 4 * (i % 4)) % 16) 0).toNat 0) (List.replicate 16 0) k (by rw [List.length_replicate]; exact hlt2)
          simp only [hjk] at hst
          obtain ⟨x, hx⟩ : ∃ x, Rb.getD j 0 = x := ⟨_, rfl⟩
          rw [hx] at hc1 hst
          have hxl := x.toNat_lt
          have hc2 := hck.cellB (240 + x.toNat) (by rw [List.length_append, HC.out.2.1, HC.out.2.2.2.1]; omega)
          rw [List.getD_eq_getElem?_getD, List.getElem?_append_right (by rw [HC.out.2.1]; omega), HC.out.2.1, Nat.add_sub_cancel_left, ← List.getD_eq_getElem?_getD] at hc2
          obtain ⟨y, hy⟩ : ∃ y, B.getD x.toNat 0 = y := ⟨_, rfl⟩
          rw [hy] at hc2
          simp only [hy] at hst
          have hc3 := hBk.cellB k (by rw [fillAt_len _ _ _ (by rw [List.length_replicate]; omega), List.length_replicate]; exact hlt2)
          have hf := hBk.frozen k
          have j7 : (k : Int) < 16 := by omega
          have j8 : (x.toNat : Int) < 256 := by omega
          have j9 : (j : Int) < 16 := by omega
          have HBk := Lib.hid (And.intro hBk (And.intro hUk hst))
          have e1 : (k : Int).tmod 4 = (m4 : Int) := by rw [Int.tmod_eq_emod_of_nonneg (by omega)]; omega
          have e2 : IntKind.i64.wrap (4 * (m4 : Int)) = (m16 : Int) := by rw [IntWalk.i64_in _ (by omega)]; omega
          have e3 : IntKind.i64.wrap ((k : Int) + (m16 : Int)) = (sm : Int) := by rw [IntWalk.i64_in _ (by omega)]; omega
          have e4 : (sm : Int).tmod 16 = (j : Int) := by rw [Int.tmod_eq_emod_of_nonneg (by omega)]; omega
          clear hBk hUk hst hx hy hxl hgk hck hm4 hm16 hsm hj hjk
          go_wp2_with fail
          go_still_tail 15, (by kernel_rfl)
          change wpList _ _ _ _ _ (World.drew _)
          go_wp2_with fail
          clear e1 e2 e3 e4
          go_roundw
          case rel =>
            refine ⟨k + 1, by omega, by go_num, ?_, ?_⟩
            · have h := (HBk.out.1.setB k y).drew
              have hs := HBk.out.2.2
              rw [hs] at h
              exact h
            · exact (HBk.out.2.1.setCell (p := ⟨n, k, none⟩) (.inl rfl) _).drew
          case measure => simp [intOf] <;> omega
        · obtain rfl : k = 16 := by omega
          have e16 : ((16 : Nat) : Int) = 16 := rfl
          rw [e16]
          obtain ⟨T, hT⟩ : ∃ T, subK (roundK W r b) = T := ⟨_, rfl⟩
          have hTl : T.length = 16 := by rw [← hT]; simp [subK]
          have hsub : (List.range 16).map (fun i => B.getD (Rb.getD ((i + 4 * (i % 4)) % 16) 0).toNat 0) = T := by
            rw [← hT, HR.out.1, ← HC.out.2.2.1]
            rfl
          rw [fillAt_all _ _ _ (by rw [List.length_replicate]), hsub] at hBk
          have HT := Lib.hid (And.intro hT hTl)
          have HTB := Lib.hid (And.intro hBk (HQ.out.2.2.then hUk (fun q hq => .inr (by have := HN.out.2.1; omega))))
          have HTG : Hid (Blk wr g 483 (arrB (roundK W r b))) := Lib.hid (by rw [HR.out.1]; exact HQ.out.2.1.upd hUk HN.out.1)
          clear hT hTl hsub hBk hUk hk hlt2 e16
          by_cases h14 : r + 1 < 14
          ·
            --#a {
            have k1 : (r : Int) + 1 < 14 := by omega
            obtain ⟨M, hM⟩ : ∃ M, mixK T = M := ⟨_, rfl⟩
            have hMl : M.length = 16 := by rw [← hM]; simp [mixK]
            have HMX := Lib.hid (fun W1 => mix_c T HT.out.2 W1)
            rw [hM] at HMX
            go_upto_region 13 with (first
              | (go_at_call 450
                 refine (HMX.out _).mono ?_
                 rintro e w13 ⟨rfl, hU13⟩
                 have HU13 := Lib.hid hU13
                 clear hU13)
              | (show wpList _ _ _ (⟨none, _, _, _, _, _⟩ :: _) _ _
                 refine wpList_store_all rfl 483 _ _ rfl n (arrB M) rfl rfl 483 _ (HTB.out.1.upd HU13.out (fun e => e)) (by rw [arrB_size, arrB_size, hMl, HT.out.2]) (arrB_one _) (by rw [arrB_size, hMl]; kernel_rfl) ?_
                 intro w14 hB14 hU14 hz14)
              | (refine wpList_load_all rfl _ _ rfl n rfl _ _ _ HTB.out.1 Tryz.underlying483 rfl (by rw [arrB_size, HT.out.2]; kernel_rfl) ?_))
            have hBM := hB14
            have hUM : Upd (· = g) w2 w14 := (HTB.out.2.then HU13.out (fun _ e => e.elim)).then hU14 (fun q hq => .inr (by have := HN.out.2.1; omega))
            have hrM : Blk w14 g 483 (arrB (roundK W r b)) := (HTG.out.upd HU13.out (fun e => e)).upd hU14 (by have := HN.out.1; omega)
            clear hB14 hU14 hz14 k1
            obtain ⟨R2, hR2⟩ : ∃ R2, roundK W (r + 1) b = R2 := ⟨_, rfl⟩
            have hR2l : R2.length = 16 := by rw [← hR2]; exact roundK_len _ _ _
            have hadd : addK W M (r + 1) = R2 := by
              rw [← hR2]
              show _ = addK W (if r + 1 < 14 then mixK (subK (roundK W r b)) else subK (roundK W r b)) (r + 1)
              rw [if_pos (by omega : r + 1 < 14), ← hM, ← HT.out.1]
            have HM := Lib.hid (And.intro hM (And.intro hMl (And.intro hR2 (And.intro hR2l hadd))))
            have HBM := Lib.hid (And.intro hBM (And.intro hUM hrM))
            clear hM hMl hR2 hR2l hadd hBM hUM hrM
            go_wp2_with (first
              | (go_at_call 449
                 refine (HA.out _ (HN.out.2.2 HBM.out.2.1) M HM.out.2.1 (r + 1) (by omega)).mono ?_
                 rintro e w3 ⟨rfl, hU3⟩
                 rw [HM.out.2.2.2.2]
                 have HU3 := Lib.hid hU3
                 clear hU3)
              | (show wpList _ _ _ (⟨none, _, _, _, _, _⟩ :: _) _ _
                 refine wpList_store_all rfl 483 _ _ rfl g (arrB R2) rfl rfl 483 _ (HBM.out.2.2.upd HU3.out (fun e => e)) (by rw [arrB_size, arrB_size, HM.out.2.2.2.1, HR.out.2]) (arrB_one _) (by rw [arrB_size, HM.out.2.2.2.1]; kernel_rfl) ?_
                 intro w4 hB4 hU4 hz4
                 have HB4 := Lib.hid (And.intro hB4 ((HBM.out.2.1.then HU3.out (fun _ e => e.elim)).then hU4 (fun _ e => .inl e)))
                 clear hB4 hU4 hz4)
              | (refine wpList_load_all rfl _ _ rfl n rfl _ _ _ HBM.out.1 Tryz.underlying483 rfl (by rw [arrB_size, HM.out.2.1]; kernel_rfl) ?_))
            go_roundw
            case rel => exact ⟨r + 1, by omega, by go_num, by rw [HM.out.2.2.1]; exact HB4.out.1, HB4.out.2⟩
            case measure => simp [intOf] <;> omega

            --#a }
          ·
            --#c {
            have k1 : ¬ (r : Int) + 1 < 14 := by omega
            have k2 : decide ((r : Int) + 1 < 14) = false := decide_eq_false k1
            obtain ⟨M, hM⟩ : ∃ M, T = M := ⟨_, rfl⟩
            have hMl : M.length = 16 := by rw [← hM]; exact HT.out.2
            have hBM := HTB.out.1
            rw [hM] at hBM
            have hUM := HTB.out.2
            have hrM := HTG.out
            obtain ⟨R2, hR2⟩ : ∃ R2, roundK W (r + 1) b = R2 := ⟨_, rfl⟩
            have hR2l : R2.length = 16 := by rw [← hR2]; exact roundK_len _ _ _
            have hadd : addK W M (r + 1) = R2 := by
              rw [← hR2]
              show _ = addK W (if r + 1 < 14 then mixK (subK (roundK W r b)) else subK (roundK W r b)) (r + 1)
              rw [if_neg (by omega : ¬ r + 1 < 14), ← hM, ← HT.out.1]
            have HM := Lib.hid (And.intro hM (And.intro hMl (And.intro hR2 (And.intro hR2l hadd))))
            have HBM := Lib.hid (And.intro hBM (And.intro hUM hrM))
            clear hM hMl hR2 hR2l hadd hBM hUM hrM
            go_wp2_with (first
              | (go_at_call 449
                 refine (HA.out _ (HN.out.2.2 HBM.out.2.1) M HM.out.2.1 (r + 1) (by omega)).mono ?_
                 rintro e w3 ⟨rfl, hU3⟩
                 rw [HM.out.2.2.2.2]
                 have HU3 := Lib.hid hU3
                 clear hU3)
              | (show wpList _ _ _ (⟨none, _, _, _, _, _⟩ :: _) _ _
                 refine wpList_store_all rfl 483 _ _ rfl g (arrB R2) rfl rfl 483 _ (HBM.out.2.2.upd HU3.out (fun e => e)) (by rw [arrB_size, arrB_size, HM.out.2.2.2.1, HR.out.2]) (arrB_one _) (by rw [arrB_size, HM.out.2.2.2.1]; kernel_rfl) ?_
                 intro w4 hB4 hU4 hz4
                 have HB4 := Lib.hid (And.intro hB4 ((HBM.out.2.1.then HU3.out (fun _ e => e.elim)).then hU4 (fun _ e => .inl e)))
                 clear hB4 hU4 hz4)
              | (refine wpList_load_all rfl _ _ rfl n rfl _ _ _ HBM.out.1 Tryz.underlying483 rfl (by rw [arrB_size, HM.out.2.1]; kernel_rfl) ?_))
            go_roundw
            case rel => exact ⟨r + 1, by omega, by go_num, by rw [HM.out.2.2.1]; exact HB4.out.1, HB4.out.2⟩
            case measure => simp [intOf] <;> omega

            --#c }
    · obtain rfl : r = 14 := by omega
      have e15 : ((14 : Nat) : Int) + 1 = 15 := rfl
      rw [e15]
      rw [HO.out.1] at hBr
      have HBr := Lib.hid (And.intro hBr (And.intro (HW2.out.2.1.upd hUr (by omega)) (HW2.out.2.2.1.then hUr (fun q hq => .inr (by have := HG.out; omega)))))
      clear hBr hUr e15 hlt hr
      go_wp2_with (first
        | (show wpList _ _ _ (⟨none, _, _, _, _, _⟩ :: _) _ _
           refine wpList_store_all rfl 483 _ _ rfl (g + 1) (arrB O) rfl rfl 483 _ HBr.out.2.1 (by rw [arrB_size, arrB_size, HO.out.2]; rfl) (arrB_one _) (by rw [arrB_size, HO.out.2]; kernel_rfl) ?_
           intro w4 hB4 hU4 hz4)
        | (refine wpList_load_all rfl _ _ rfl g rfl _ _ _ HBr.out.1 Tryz.underlying483 rfl (by rw [arrB_size, HO.out.2]; kernel_rfl) ?_))
      refine bodyPost_ret (results_cell_row rfl _ _ (g + 1) _ _ _ _ rfl hB4 Tryz.underlying483 rfl (by rw [arrB_size, HO.out.2]; kernel_rfl)) rfl ⟨rfl, HBr.out.2.2.then hU4 (fun q hq => .inr (by have := HG.out; omega))⟩
end Go.Proofs.YtdfgmieinbmfkaaGreat

/-
  Package aes: a text, each byte xored with the stream's.
-/
namespace Go.Proofs.YtdfgmieinbmfkaaGreat
open Go Go.RowKit

theorem bytesV_put (l : List UInt8) (j : Nat) (b : UInt8) : (bytesV l).set j (.int .u8 (b.toNat : Int)) = bytesV (l.set j b) := by simp [bytesV, List.map_set]
theorem bytesV_get (l : List UInt8) (i : Nat) (h : i < l.length) : (bytesV l)[i]? = some (.int .u8 ((l.getD i 0).toNat : Int)) := by simp [bytesV, h]
theorem stream_all (key nonce text : List UInt8) : fillAt (fun i => text.getD i 0 ^^^ streamAt key nonce i) text text.length = streamL key nonce text := by
  rw [fillAt_all _ _ _ rfl]
  unfold streamL
  refine List.ext_getElem (by simp) fun i h1 h2 => ?_
  have h3 : i < text.length := by simpa using h1
  rw [List.getElem_map, List.getElem_range, List.getElem_mapIdx, List.getD_eq_getElem?_getD, List.getElem?_eq_getElem h3]
  rfl
/-- What is xored behind so many blocks. -/
def strN (key nonce text : List UInt8) (k : Nat) : List UInt8 := fillAt (fun i => text.getD i 0 ^^^ streamAt key nonce i) text k
set_option maxRecDepth 100000 in
set_option maxHeartbeats 4000000 in
theorem stream_c (key nonce : List UInt8) (text : ByteArray) (w : World) (hk : key.length = 32) (hn : nonce.length = 12) (ht : text.size ≤ 100000) :
    Calls Tryz.prog 293 #[.agg (arrB key), .agg (arrB nonce), .string text] w fun e w' => e = .returned (.string (str (streamL key nonce text.data.toList))) ∧ Upd (fun _ => False) w w' := by
  obtain ⟨g, hg⟩ : ∃ g, w.heap.size = g := ⟨_, rfl⟩
  have HG := Lib.hid hg
  obtain ⟨O, hO⟩ : ∃ O, streamL key nonce text.data.toList = O := ⟨_, rfl⟩
  rw [hO]
  have HO := Lib.hid (And.intro hO (And.intro hk hn))
  clear hO hk hn
  go_enter Tryz.func293, Tryz.ntmps293
  go_upto_region 1 with (fail)
  generalize hw2 : World.alloc _ _ = w2
  have hB2 : Blk w2 g 139 (arrB key) := by rw [← hw2, ← hg]; exact (Blk.new w _ _).alloc _
  have hC2 : Blk w2 (g + 1) 370 (arrB nonce) := by
    have h := Blk.new (w.alloc (.cells (arrB key) 139)) 370 (arrB nonce)
    rw [World.size_alloc, hg] at h
    rw [← hw2]
    exact h
  have hU2 : Upd (fun _ => False) w w2 := by rw [← hw2]; exact ((Upd.refl _ w).alloc _).alloc _
  have HW2 := Lib.hid (And.intro hB2 (And.intro hC2 hU2))
  clear hB2 hC2 hU2 hw2 hg
  go_wp2_with (first
    | (go_at_call 376
       refine (schedule_c key HO.out.2.1 w2).mono ?_
       rintro e w3 ⟨c, rfl, hB3, hc3, hU3⟩
       have HB3 := Lib.hid (And.intro hB3 (And.intro hc3 hU3))
       clear hB3 hc3 hU3
       obtain ⟨v4, w4, hcv, ho4, hU4, hob4, hsz4⟩ := run_to_bytes w3 text (by unfold maxLen; omega)
       obtain ⟨A4, cap4, rfl, hA4, hA5⟩ := ho4.shape
       have HB4 := Lib.hid (And.intro ho4 (And.intro hU4 hob4))
       clear ho4 hU4 hob4 hsz4 hA4 hA5)
    | (refine wpList_load_all rfl _ _ rfl g rfl _ _ _ HW2.out.1 Tryz.underlying139 rfl (by rw [arrB_size, HO.out.2.1]; kernel_rfl) ?_))
  obtain ⟨gb, hgb⟩ : ∃ gb, w3.heap.size = gb := ⟨_, rfl⟩
  have hcw : Blk w4 c 557 (arrB (schedL key ++ boxL)) := HB3.out.1.upd HB4.out.2.1 (fun e => e)
  have hnw : Blk w4 (g + 1) 370 (arrB nonce) := HW2.out.2.1.upd (HB3.out.2.2.then HB4.out.2.1 (fun _ e => e.elim)) (fun e => e)
  have hcb : c ≠ gb := by have := HB3.out.1.lt; omega
  have hnb : g + 1 ≠ gb := by have := (HW2.out.2.1.upd HB3.out.2.2 (fun e => e)).lt; omega
  have hob : (Value.slice A4 text.size cap4).ownBlock = some gb := by rw [← hgb]; exact HB4.out.2.2
  have hu4 : Upd (fun _ => False) w w4 := (HW2.out.2.2.then HB3.out.2.2 (fun _ e => e.elim)).then HB4.out.2.1 (fun _ e => e.elim)
  have hgl : w.heap.size ≤ gb := by rw [← hgb]; exact (HW2.out.2.2.then HB3.out.2.2 (fun _ e => e.elim)).size
  have HD := Lib.hid (And.intro hcw (And.intro hnw (And.intro hcb (And.intro hnb (And.intro hob (And.intro hu4 hgl))))))
  obtain ⟨L, hL⟩ : ∃ L, text.size = L := ⟨_, rfl⟩
  have HL := Lib.hid hL
  have ht2 : text.data.toList.length = L := hL
  have HT2 := Lib.hid ht2
  rw [hL] at HD ht HB4
  rw [hL]
  clear hcw hnw hcb hnb hob hu4 hgl hgb hL ht2
  go_loopw [9] (fun u wr => ∃ m k : Nat, u = .int .i64 ((16 * m : Nat) : Int) ∧ k = min (16 * m) L ∧ m ≤ 10000 ∧ Own wr 5 1 (.slice A4 L cap4) L (bytesV (strN key nonce text.data.toList k)) ∧ Upd (fun q => q = gb) w4 wr) (fun u _ => 200000 - (intOf u).toNat)
  case atStart => exact ⟨0, 0, rfl, by simp, by omega, by simpa [strN, fillAt] using HB4.out.1, Upd.refl _ _⟩
  case round =>
    obtain ⟨m, k, rfl, hk, hm, ho, hu⟩ := hrel
    by_cases hlt : 16 * m < L
    · obtain rfl : k = 16 * m := by omega
      obtain rfl : A4 = some ⟨gb, 0, none⟩ := by
        obtain ⟨gg, cc, e, -, -⟩ := ho.head (by omega)
        injection e with e1 e2 e3
        subst e1
        have := Option.some.inj (show some gg = some gb from HD.out.2.2.2.2.1)
        rw [this]
      obtain ⟨at_, hat⟩ : ∃ a, 16 * m = a := ⟨_, rfl⟩
      rw [hat] at ho hlt ⊢
      have HAT := Lib.hid hat
      have HO2 := Lib.hid (And.intro ho hu)
      obtain ⟨n, hn⟩ : ∃ n, wr.heap.size = n := ⟨_, rfl⟩
      have HN := Lib.hid hn
      have i1 : (at_ : Int) < (L : Int) := by omega
      clear hk ho hu hn hat
      go_upto_region 7 with (fail)
      rw [HN.out]
      generalize hwq : World.alloc _ _ = wq
      have hBq : Blk wq n 483 (arrB (List.replicate 16 0)) := by rw [← hwq, ← HN.out]; exact Blk.new wr _ _
      have hUq : Upd (fun q => q = gb) w4 wq := by rw [← hwq]; exact HO2.out.2.alloc _
      have hOq : Own wq 5 1 (.slice (some ⟨gb, 0, none⟩) L cap4) L (bytesV (strN key nonce text.data.toList at_)) := by rw [← hwq]; exact HO2.out.1.alloc _
      have hnb : n ≠ gb := fun e => by have := HO2.out.1.lt HD.out.2.2.2.2.1; have := HN.out; omega
      have hn4 : w4.heap.size ≤ n := by rw [← HN.out]; exact HO2.out.2.size
      have HQ := Lib.hid (And.intro hBq (And.intro hUq (And.intro hOq (And.intro hnb hn4))))
      clear hBq hUq hOq hnb hn4 hwq
      go_still_tail 2, (by kernel_rfl)
      change wpList _ _ _ _ _ wq.drew
      go_wp2_with fail
      have hnq : Blk wq.drew (g + 1) 370 (arrB nonce) := (HD.out.2.1.upd HQ.out.2.1 HD.out.2.2.2.1).drew
      have hnl := HO.out.2.2
      obtain ⟨W7, r7, hcp7, hB7, hU7, hz7⟩ := copy_bytes (off := 0) (n := 16) (cap := 16) (l := nonce) HQ.out.1.drew (v := .slice (some ⟨g + 1, 0, none⟩) 12 12) ⟨_, 12, by rw [hnl], by omega, by unfold maxLen; omega, fun _ => ⟨g + 1, 0, rfl, hnq.lt, fun i hi => by rw [Nat.zero_add]; exact hnq.cellB i hi⟩⟩ (by omega) (by rw [List.length_replicate]; omega)
      rw [show (List.replicate 16 (0 : UInt8)).take 0 ++ nonce ++ (List.replicate 16 (0 : UInt8)).drop (0 + nonce.length) = nonce ++ List.replicate 4 0 by rw [List.take_zero, List.nil_append, Nat.zero_add, hnl, List.drop_replicate]] at hB7
      have H7 := Lib.hid (And.intro hB7 ((Upd.refl (fun q => q = n) wq).drew.then hU7 (fun q e => .inl e)))
      rw [hcp7]
      clear hnq hnl hcp7 hB7 hU7 hz7
      go_wp2_with fail
      have HDV := Lib.hid (show at_ / 16 = m by have := HAT.out; omega)
      have e1 : ((at_ : Int) / 16) = (m : Int) := by have := HAT.out; omega
      have e2 : IntKind.i64.wrap (m : Int) = (m : Int) := IntWalk.i64_in _ (by omega)
      have e3 : IntKind.u64.wrap (m : Int) = (m : Int) := u64_wrap m (by omega)
      refine wp_region_noPanic ?_
      refine wp_region_T (S := fun w' => Upd (fun _ => False) W7 w') (T := fun k => k == 5) (by kernel_rfl) ?_
      have hS0 := (Upd.refl (fun _ => False) W7).drew
      refine wpAnyT_take (i := 0) (v := ?_) rfl (by kernel_rfl) (by kernel_rfl) (by kernel_rfl) (by kernel_rfl) (fun _ _ _ h => h) (takes_yield rfl (Or.inl ⟨by rfl, ?_⟩)) (by assumption) (by kernel_rfl) ?_
      rotate_left 1
      · intro w' hSw; go_split_ands; first | (go_simp; done) | (go_simp; rfl) | rfl
      simp only [Act.put, List.getElem_toArray, List.getElem_cons_zero, List.setIfInBounds_toArray, List.set_cons_zero, List.set_cons_succ]
      refine wpAnyT_takeW (i := 1) (v := .int .i64 (at_ : Int)) rfl (by kernel_rfl) (by kernel_rfl) (by kernel_rfl) (by kernel_rfl) (fun _ _ _ h => h) (takes_yield rfl (Or.inl ⟨by rfl, ?_⟩)) (by first | exact Or.inr (by assumption) | exact Or.inl (by kernel_rfl)) ?_
      · intro w' hSw; go_simp
      simp only [Act.put, List.getElem_toArray, List.getElem_cons_zero, List.getElem_cons_succ, List.setIfInBounds_toArray, List.set_cons_zero, List.set_cons_succ]
      refine wpAnyT_take (i := 2) (v := ?_) rfl (by kernel_rfl) (by kernel_rfl) (by kernel_rfl) (by kernel_rfl) (fun _ _ _ h => h) (takes_yield rfl (Or.inl ⟨by rfl, ?_⟩)) (by assumption) (by kernel_rfl) ?_
      rotate_left 1
      · intro w' hSw; go_split_ands; first | (go_simp; done) | (go_simp; rfl) | rfl
      simp only [Act.put, List.getElem_toArray, List.getElem_cons_zero, List.getElem_cons_succ, List.setIfInBounds_toArray, List.set_cons_zero, List.set_cons_succ]
      refine wpAnyT_take (i := 3) (v := ?_) rfl (by kernel_rfl) (by kernel_rfl) (by kernel_rfl) (by kernel_rfl) (fun _ _ _ h => h) (takes_yield rfl (Or.inl ⟨by rfl, ?_⟩)) (by assumption) (by kernel_rfl) ?_
      rotate_left 1
      · intro w' hSw; go_split_ands; first | (go_simp; done) | (go_simp; rfl) | rfl
      simp only [Act.put, List.getElem_toArray, List.getElem_cons_zero, List.getElem_cons_succ, List.setIfInBounds_toArray, List.set_cons_zero, List.set_cons_succ]
      refine wpAnyT_one (i := 4) (by kernel_rfl) rfl (fun K hK => ?_)
      go_simp
      clear e1 e2 e3
      refine (putBig_aes (.slice none 0 0) 0 [] m 4 _ (Own.nil _ _ _) (by decide) (by decide)).mono ?_
      rintro e w12 ⟨v12, rfl, ho12, hU12, hl12⟩
      rw [Nat.zero_add, List.nil_append] at ho12
      have hu12 : Upd (fun _ => False) W7.drew w12 := hU12.mono (fun b hb => by simp [Value.ownBlock] at hb)
      have hS1 := hS0.then hu12 (fun _ e => e.elim)
      refine hK.out _ _ hS1 ?_
      have hby := BytesAt.of_own ho12
      have hnl := HO.out.2.2
      have hlb := beB_len m 4
      obtain ⟨W, rv, hcp, hB13, hU13, hz13⟩ := copy_bytes (off := 12) (n := 4) (cap := 4) (l := beB m 4) (H7.out.1.upd hS1 (fun e => e)) hby (by omega) (by rw [List.length_append, List.length_replicate]; omega)
      rw [show (nonce ++ List.replicate 4 (0 : UInt8)).take 12 ++ beB m 4 ++ (nonce ++ List.replicate 4 (0 : UInt8)).drop (12 + (beB m 4).length) = nonce ++ beB m 4 by
        rw [hlb, List.take_append_of_le_length (by omega), List.take_of_length_le (by omega), List.drop_of_length_le (by rw [List.length_append, List.length_replicate]; omega), List.append_nil]] at hB13
      obtain ⟨A12, c12, rfl, -, -⟩ := ho12.shape
      clear hK
      refine wpAnyT_oneT (i := 5) (by kernel_rfl) rfl (by kernel_rfl) (fun K hK => ?_)
      refine step_copy_run (by rfl) _ _ _ _ (by rfl) (by rfl) (by rfl) hcp ?_
      refine hK.out _ _ ?_
      obtain ⟨IN, hIN⟩ : ∃ I, nonce ++ beB m 4 = I := ⟨_, rfl⟩
      have hINl : IN.length = 16 := by rw [← hIN, List.length_append, hlb]; omega
      rw [hIN] at hB13
      have hnb := HQ.out.2.2.2.1
      have hn4 := HQ.out.2.2.2.2
      have hu13 : Upd (fun q => q = gb) w4 W := ((HQ.out.2.1.then H7.out.2 (fun q e => .inr (by have e2 : q = n := e; omega))).then hS1 (fun _ e => e.elim)).then hU13 (fun q e => .inr (by have e2 : q = n := e; omega))
      have hv13 : Upd (fun q => q ≠ gb) wq W := ((H7.out.2.mono (G := fun q => q ≠ gb) (fun q e => .inl (by have e2 : q = n := e; omega))).then hS1 (fun _ e => e.elim)).then hU13 (fun q e => .inl (by have e2 : q = n := e; omega))
      have HE := Lib.hid (And.intro hB13 (And.intro hu13 (And.intro hIN hINl)))
      have HV := Lib.hid hv13
      clear hnb hn4 hv13
      clear hK hcp hB13 hU13 hz13 hS1 hS0 hby ho12 hU12 hl12 hu12 hnl hlb hIN hINl hu13
      refine wpAnyT_done (by kernel_rfl) ?_ _
      refine NoPanic.normal ?_
      obtain ⟨OUT, hOUT⟩ : ∃ o, blockL key IN = o := ⟨_, rfl⟩
      have hOUTl : OUT.length = 16 := by rw [← hOUT]; exact blockL_len _ _
      have hcW : Blk W c 557 (arrB (schedL key ++ boxL)) := HD.out.1.upd HE.out.2.1 HD.out.2.2.1
      have hbk := block_c hcW (schedL_len HO.out.2.1) IN HE.out.2.2.2
      rw [show roundK (schedL key) 14 IN = OUT from hOUT] at hbk
      have HBK := Lib.hid hbk
      have HOUT := Lib.hid (And.intro hOUT hOUTl)
      clear hOUT hOUTl hcW hbk
      go_upto_region 10 with (first
        | (go_at_call 378
           refine HBK.out.mono ?_
           rintro e w14 ⟨rfl, hU14⟩
           have HU14 := Lib.hid hU14
           clear hU14)
        | (show wpList _ _ _ (⟨none, _, _, _, _, _⟩ :: _) _ _
           refine wpList_store_all rfl 483 _ _ rfl w14.heap.size (arrB OUT) rfl rfl 483 _ (Blk.new w14 _ _) (by rw [arrB_size, HOUT.out.2]; rfl) (arrB_one _) (by rw [arrB_size, HOUT.out.2]; kernel_rfl) ?_
           intro w15 hB15 hU15 hz15)
        | (refine wpList_load_all rfl _ _ rfl n rfl _ _ _ HE.out.1 Tryz.underlying483 rfl (by rw [arrB_size, HE.out.2.2.2]; kernel_rfl) ?_))
      have hgb14 : gb < w14.heap.size := by
        have h1 := HB4.out.1.lt HD.out.2.2.2.2.1
        have h2 := HE.out.2.1.size
        have h3 := HU14.out.size
        omega
      have hu15 : Upd (fun q => q = gb) w4 w15 := ((HE.out.2.1.then HU14.out (fun _ e => e.elim)).alloc _).then hU15 (fun q e => .inr (by have e2 : q = w14.heap.size := e; have := HE.out.2.1.size; have := HU14.out.size; omega))
      have hv15 : Upd (fun q => q ≠ gb) wq w15 := ((HV.out.then HU14.out (fun _ e => e.elim)).alloc _).then hU15 (fun q e => .inl (by have e2 : q = w14.heap.size := e; omega))
      have ho15 : Own w15 5 1 (.slice (some ⟨gb, 0, none⟩) L cap4) L (bytesV (strN key nonce text.data.toList at_)) := HQ.out.2.2.1.upd hv15 (fun q hq e => e (Option.some.inj (hq.symm.trans HD.out.2.2.2.2.1)))
      obtain ⟨no, hno⟩ : ∃ no, w14.heap.size = no := ⟨_, rfl⟩
      rw [hno] at hB15 hgb14 ⊢
      have hnob : no ≠ gb := by omega
      clear hgb14 hv15
      have HF := Lib.hid (And.intro hB15 (And.intro hu15 (And.intro hnob ho15)))
      clear hB15 hU15 hz15 hu15 hnob ho15 hno
      obtain ⟨q, hq⟩ : ∃ q, min 16 (L - at_) = q := ⟨_, rfl⟩
      have hmin : min (16 : Int) ((L : Int) - (at_ : Int)) = (q : Int) := by omega
      have HQ2 := Lib.hid hq
      clear hq
      go_wp2_with fail
      clear hmin
      go_loopw [12, 40] (fun _ u wr => ∃ j : Nat, j ≤ q ∧ u = .int .i64 (j : Int) ∧ Own wr 5 1 (.slice (some ⟨gb, 0, none⟩) L cap4) L (bytesV (strN key nonce text.data.toList (at_ + j))) ∧ Upd (fun q => q = gb) w4 wr ∧ Blk wr no 483 (arrB OUT)) (fun _ u _ => 20 - (intOf u).toNat)
      case atStart => exact ⟨0, by omega, rfl, HF.out.2.2.2, HF.out.2.1, HF.out.1⟩
      case round =>
        obtain ⟨j, hj, rfl, ho, hu, hB⟩ := hrel
        have hq := HQ2.out
        by_cases hlt2 : j < q
        · obtain ⟨si, hsi⟩ : ∃ si, at_ + j = si := ⟨_, rfl⟩
          have htl := HT2.out
          have hsl : (strN key nonce text.data.toList si).length = L := by unfold strN; rw [fillAt_len _ _ _ (by omega)]; exact htl
          have hc1 := ho.cellAt si (by omega)
          have hf := ho.frozenAt si (by omega)
          rw [hsi] at hc1 ho
          have hgt : (strN key nonce text.data.toList si).getD si 0 = text.data.toList.getD si 0 := fillAt_get _ _ _
          rw [bytesV_get _ _ (by omega), hgt] at hc1
          have hc2 := hB.cellB j (by rw [HOUT.out.2]; omega)
          have hst := fillAt_step (fun i => text.data.toList.getD i 0 ^^^ streamAt key nonce i) text.data.toList si (by omega)
          have hsa : streamAt key nonce si = OUT.getD j 0 := by
            have hat := HAT.out
            unfold streamAt
            rw [show si / 16 = m by omega, show si % 16 = j by omega, HE.out.2.2.1, HOUT.out.1]
          simp only [hsa] at hst
          obtain ⟨x, hx⟩ : ∃ x, text.data.toList.getD si 0 = x := ⟨_, rfl⟩
          obtain ⟨y, hy⟩ : ∃ y, OUT.getD j 0 = y := ⟨_, rfl⟩
          rw [hx] at hc1 hst
          rw [hy] at hc2 hst
          obtain ⟨z, hz⟩ : ∃ z, x ^^^ y = z := ⟨_, rfl⟩
          rw [hz] at hst
          have hxy := xorB x y
          rw [hz] at hxy
          have hs2 := ho.stored si (.int .u8 (z.toNat : Int))
          rw [bytesV_put, show (strN key nonce text.data.toList si).set si z = strN key nonce text.data.toList (si + 1) from hst] at hs2
          have HS := Lib.hid (And.intro hs2 (And.intro hu (And.intro hB hsi)))
          have j1 : (j : Int) < 16 := by omega
          have j2 : (si : Int) < (L : Int) := by omega
          have j3 : (0 : Int) ≤ (si : Int) := by omega
          have j4 : (j : Int) < (q : Int) := by omega
          have e1 : IntKind.i64.wrap ((at_ : Int) + (j : Int)) = (si : Int) := by rw [IntWalk.i64_in _ (by omega)]; omega
          clear ho hu hB hq hsi htl hsl hgt hst hsa hx hy hz hs2
          go_wp2_with fail
          go_still_tail 11, (by kernel_rfl)
          change wpList _ _ _ _ _ (World.drew _)
          go_wp2_with fail
          clear e1
          go_roundw
          case rel =>
            refine ⟨j + 1, by omega, by go_num, ?_, ?_, ?_⟩
            · rw [show at_ + (j + 1) = si + 1 by have := HS.out.2.2.2; omega]
              exact HS.out.1.drew
            · exact (HS.out.2.1.setCell (p := ⟨gb, si, none⟩) (.inl rfl) _).drew
            · exact (HS.out.2.2.1.far (p := ⟨gb, si, none⟩) HF.out.2.2.1 _).drew
          case measure => simp [intOf] <;> omega
        · obtain rfl : j = q := by omega
          have HS := Lib.hid (And.intro ho hu)
          have HQ3 := Lib.hid (show (at_ : Int) + 16 = ((16 * (m + 1) : Nat) : Int) ∧ at_ + j = min (16 * (m + 1)) L from ⟨by have := HAT.out; omega, by have := HAT.out; omega⟩)
          clear ho hu hB hj hq
          go_wp2_with fail
          go_roundw
          case rel => exact ⟨m + 1, at_ + j, by rw [← HQ3.out.1], HQ3.out.2, by have := HAT.out; omega, HS.out.1, HS.out.2⟩
          case measure => simp [intOf] <;> omega
    · have htl := HT2.out
      have hkL : k = text.data.toList.length := by omega
      rw [hkL] at ho
      rw [show strN key nonce text.data.toList text.data.toList.length = O from (stream_all key nonce _).trans HO.out.1] at ho
      have hcv2 := run_to_string ho
      have HU := Lib.hid (HD.out.2.2.2.2.2.1.then hu (fun q e => .inr (by have e2 : q = gb := e; have := HD.out.2.2.2.2.2.2; omega)))
      clear ho hu hkL htl hk hm
      go_wp2_with fail
      go_ret
      exact ⟨rfl, HU.out⟩
end Go.Proofs.YtdfgmieinbmfkaaGreat
