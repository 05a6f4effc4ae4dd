/-
  Package aes: a round's words xored; a block's columns mixed; a block enciphered.
-/
import Derived.Test.YtdfgmieinbmfkaaGreatAesB
namespace Go.Proofs.YtdfgmieinbmfkaaGreat
open Go Go.RowKit

set_option maxRecDepth 100000 in
set_option maxHeartbeats 1000000 in
theorem addk_c {w : World} {c : Nat} {W B : List UInt8} (hC : Blk w c 557 (arrB (W ++ B))) (hW : W.length = 240) (b : List UInt8) (hb : b.length = 16) (r : Nat) (hr : r ≤ 14) :
    Calls Tryz.prog 449 #[.pointer (some ⟨c, 0, none⟩), .agg (arrB b), .int .i64 (r : Int)] w fun e w' => e = .returned (.agg (arrB (addK W b r))) ∧ Upd (fun _ => False) w w' := by
  obtain ⟨g, hg⟩ : ∃ g, w.heap.size = g := ⟨_, rfl⟩
  have HG := Lib.hid hg
  have HL := Lib.hid (And.intro hb (And.intro hW (And.intro hC (show addK W b r = (List.range 16).map fun i => b.getD i 0 ^^^ W.getD (16 * r + i) 0 from rfl))))
  obtain ⟨O, hO⟩ : ∃ O, addK W b r = O := ⟨_, rfl⟩
  have hOl : O.length = 16 := by rw [← hO, addK_len]
  have HO := Lib.hid (And.intro hO hOl)
  rw [hO]
  clear hb hW hC hO hOl
  go_enter Tryz.func449, Tryz.ntmps449
  go_wp2_with fail
  generalize hw2 : World.alloc _ _ = w2
  have hB2 : Blk w2 g 483 (arrB b) := by rw [← hw2, ← hg]; exact (Blk.new w _ _).alloc _
  have hC2 : Blk w2 (g + 1) 483 (arrB (List.replicate 16 0)) := by
    have h := Blk.new (w.alloc (.cells (arrB b) 483)) 483 (arrB (List.replicate 16 0))
    rw [World.size_alloc, hg] at h
    rw [← hw2]
    exact h
  have hU2 : Upd (fun _ => False) w w2 := by rw [← hw2]; exact ((Upd.refl _ w).alloc _).alloc _
  have hcg : c ≠ g := fun e => by have := HL.out.2.2.1.lt; omega
  have HW2 := Lib.hid (And.intro hB2 (And.intro hC2 (And.intro hU2 hcg)))
  clear hB2 hC2 hU2 hw2 hg hcg
  go_loopw [7, 8] (fun _ u wr => ∃ k : Nat, k ≤ 16 ∧ u = .int .i64 (k : Int) ∧ Blk wr g 483 (arrB (fillAt (fun i => b.getD i 0 ^^^ W.getD (16 * r + i) 0) b k)) ∧ Upd (· = g) w2 wr) (fun _ u _ => 16 - (intOf u).toNat)
  case atStart => exact ⟨0, by omega, rfl, HW2.out.1, Upd.refl _ _⟩
  case round =>
    obtain ⟨k, hk, rfl, hB, hu⟩ := hrel
    by_cases hlt : k < 16
    · have hbl := HL.out.1
      have hWl := HL.out.2.1
      have hc1 := hB.cellB k (by rw [fillAt_len _ _ _ (by omega)]; omega)
      rw [fillAt_get] at hc1
      have hCr : Blk wr c 557 (arrB (W ++ B)) := (HL.out.2.2.1.upd HW2.out.2.2.1 (fun e => e)).upd hu HW2.out.2.2.2
      obtain ⟨i1, hi1⟩ : ∃ i1, 4 * r + k / 4 = i1 := ⟨_, rfl⟩
      obtain ⟨i2, hi2⟩ : ∃ i2, k % 4 = i2 := ⟨_, rfl⟩
      have hidx : 16 * r + k = i1 * 4 + i2 := by omega
      have hc2 := hCr.cellB (i1 * 4 + i2) (by rw [List.length_append]; omega)
      have hst := fillAt_step (fun i => b.getD i 0 ^^^ W.getD (16 * r + i) 0) b k (by omega)
      rw [List.getD_eq_getElem?_getD, List.getElem?_append_left (by omega), ← List.getD_eq_getElem?_getD] at hc2
      simp only [hidx] at hst
      obtain ⟨x, hx⟩ : ∃ x, b.getD k 0 = x := ⟨_, rfl⟩
      obtain ⟨y, hy⟩ : ∃ y, W.getD (i1 * 4 + i2) 0 = y := ⟨_, rfl⟩
      rw [hx] at hc1 hst
      rw [hy] at hc2 hst
      obtain ⟨z, hz⟩ : ∃ z, x ^^^ y = z := ⟨_, rfl⟩
      have hxy := xorB x y
      rw [hz] at hxy hst
      have hf := hB.frozen k
      have HB := Lib.hid (And.intro hB (And.intro hu hst))
      have j1 : (k : Int) < 16 := by omega
      have j2 : (i1 : Int) < 60 := by omega
      have j3 : (i2 : Int) < 4 := by omega
      have j0 : (0 : Int) ≤ (i1 : Int) := by omega
      have e1 : IntKind.i64.wrap (4 * (r : Int)) = 4 * (r : Int) := IntWalk.i64_in _ (by omega)
      obtain ⟨d, hd⟩ : ∃ d, k / 4 = d := ⟨_, rfl⟩
      have e4 : IntKind.i64.wrap ((k : Int) / 4) = (d : Int) := by rw [IntWalk.i64_in _ (by omega)]; omega
      have e2 : IntKind.i64.wrap (4 * (r : Int) + (d : Int)) = (i1 : Int) := by rw [IntWalk.i64_in _ (by omega)]; omega
      have e3 : (k : Int).tmod 4 = (i2 : Int) := by rw [Int.tmod_eq_emod_of_nonneg (by omega)]; omega
      have j4 : (0 : Int) ≤ 4 * (r : Int) := by omega
      clear hB hu hst hx hy hz hbl hWl hCr hi1 hi2 hidx hd
      go_wp2_with fail
      go_still_tail 18, (by kernel_rfl)
      change wpList _ _ _ _ _ (World.drew _)
      go_wp2_with fail
      clear e1 e2 e3 e4
      go_roundw
      case rel =>
        refine ⟨k + 1, by omega, by go_num, ?_, ?_⟩
        · have h := (HB.out.1.setB k z).drew
          have hs := HB.out.2.2
          rw [hs] at h
          exact h
        · exact (HB.out.2.1.setCell (p := ⟨g, k, none⟩) (.inl rfl) _).drew
      case measure => simp [intOf] <;> omega
    · obtain rfl : k = 16 := by omega
      have e16 : ((16 : Nat) : Int) = 16 := rfl
      rw [e16]
      rw [fillAt_all _ _ _ HL.out.1, ← HL.out.2.2.2, HO.out.1] at hB
      have HB := Lib.hid (And.intro hB (HW2.out.2.1.upd hu (by omega)))
      have HU := Lib.hid (HW2.out.2.2.1.then hu (fun q hq => .inr (by have := HG.out; omega)))
      clear hB hu e16 hlt hk
      go_wp2_with (first
        | (show wpList _ _ _ (⟨none, _, _, _, _, _⟩ :: _) _ _
           refine wpList_store_all rfl 483 _ _ rfl (g + 1) (arrB O) rfl rfl 483 _ HB.out.2 (by rw [arrB_size, arrB_size, HO.out.2]; rfl) (arrB_one _) (by rw [arrB_size, HO.out.2]; kernel_rfl) ?_
           intro w4 hB4 hU4 hz4)
        | (refine wpList_load_all rfl _ _ rfl g rfl _ _ _ HB.out.1 Tryz.underlying483 rfl (by rw [arrB_size, HO.out.2]; kernel_rfl) ?_))
      refine bodyPost_ret (results_cell_row rfl _ _ (g + 1) _ _ _ _ rfl hB4 Tryz.underlying483 rfl (by rw [arrB_size, HO.out.2]; kernel_rfl)) rfl ⟨rfl, HU.out.then hU4 (fun q hq => .inr (by have := HG.out; omega))⟩
/-! ### mix -/
set_option maxRecDepth 100000 in
theorem mixn_c {w : World} {g ga gi : Nat} {b : List UInt8} {t : TypeId} {at_ i : Nat} (hB : Blk w g 483 (arrB b)) (hb : b.length = 16) (ha : Blk w ga t #[.int .i64 (at_ : Int)]) (hi : Blk w gi t #[.int .i64 (i : Int)]) (h1 : at_ ≤ 12) (h2 : i < 16) (k : Nat) (hk : k < 4) :
    Calls Tryz.prog 498 #[.int .i64 (k : Int), .pointer (some ⟨g, 0, none⟩), .pointer (some ⟨ga, 0, none⟩), .pointer (some ⟨gi, 0, none⟩)] w fun e w' => e = .returned (.int .u8 ((b.getD (at_ + (i + k) % 4) 0).toNat : Int)) ∧ w' = w := by
  obtain ⟨j, hj⟩ : ∃ j, at_ + (i + k) % 4 = j := ⟨_, rfl⟩
  have hc := hB.cellB j (by omega)
  have hca := ha.cells1
  have hci := hi.cells1
  have hjl : (j : Int) < 16 := by omega
  have hj0 : (0 : Int) ≤ (j : Int) := by omega
  have e1 : IntKind.i64.wrap ((i : Int) + (k : Int)) = (i : Int) + (k : Int) := IntWalk.i64_in _ (by omega)
  have e2 : (at_ : Int) + ((i : Int) + (k : Int)) % 4 = (j : Int) := by omega
  have e0 : (0 : Int) ≤ (i : Int) + (k : Int) := by omega
  rw [hj]
  clear hB hb ha hi hj h1
  go_enter Tryz.func498, Tryz.ntmps498
  go_wp2_with fail
  go_ret
  exact ⟨rfl, rfl⟩
set_option maxRecDepth 100000 in
set_option maxHeartbeats 1000000 in
theorem mix_c (b : List UInt8) (hb : b.length = 16) (w : World) : Calls Tryz.prog 450 #[.agg (arrB b)] w fun e w' => e = .returned (.agg (arrB (mixK b))) ∧ Upd (fun _ => False) w w' := by
  obtain ⟨g, hg⟩ : ∃ g, w.heap.size = g := ⟨_, rfl⟩
  have HG := Lib.hid hg
  obtain ⟨O, hO⟩ : ∃ O, mixK b = O := ⟨_, rfl⟩
  have hOl : O.length = 16 := by rw [← hO]; simp [mixK]
  have HO := Lib.hid (And.intro hO (And.intro hOl hb))
  rw [hO]
  clear hb hO hOl
  go_enter Tryz.func450, Tryz.ntmps450
  have hmf : ∀ (fn : Fn) (first cap : Array Value) (w : World), (Instr.makeFunc fn first cap).run Tryz.prog w = .ok (.func fn first cap) w := fun _ _ _ _ => rfl
  go_wp2_with fail
  generalize hw2 : World.alloc _ _ = w2
  have hB2 : Blk w2 g 483 (arrB b) := by rw [← hw2, ← hg]; exact (Blk.new w _ _).alloc _
  have hC2 : Blk w2 (g + 1) 483 (arrB (List.replicate 16 0)) := by
    have h := Blk.new (w.alloc (.cells (arrB b) 483)) 483 (arrB (List.replicate 16 0))
    rw [World.size_alloc, hg] at h
    rw [← hw2]
    exact h
  have hU2 : Upd (fun _ => False) w w2 := by rw [← hw2]; exact ((Upd.refl _ w).alloc _).alloc _
  have HW2 := Lib.hid (And.intro hB2 (And.intro hC2 hU2))
  clear hB2 hC2 hU2 hw2 hg
  go_loopw [6] (fun u wr => ∃ k : Nat, k ≤ 16 ∧ u = .int .i64 (k : Int) ∧ Blk wr (g + 1) 483 (arrB (fillAt (fun i => (mixK b).getD i 0) (List.replicate 16 0) k)) ∧ Upd (· = g + 1) w2 wr) (fun u _ => 16 - (intOf u).toNat)
  case atStart => exact ⟨0, by omega, rfl, HW2.out.2.1, Upd.refl _ _⟩
  case round =>
    obtain ⟨k, hk, rfl, hB, hu⟩ := hrel
    by_cases hlt : k < 16
    · have hbl := HO.out.2.2
      have hbb := HW2.out.1.upd hu (by omega)
      have HB := Lib.hid (And.intro hB (And.intro hu hbb))
      have j1 : (k : Int) < 16 := by omega
      obtain ⟨n, hn⟩ : ∃ n, wr.heap.size = n := ⟨_, rfl⟩
      have hgn : g + 1 < n := by have := hB.lt; omega
      have hgn0 : g < n := by omega
      have HN := Lib.hid hn
      obtain ⟨a, ha⟩ : ∃ a, k / 4 * 4 = a := ⟨_, rfl⟩
      have HA := Lib.hid ha
      have e1 : (k : Int) / 4 * 4 = (a : Int) := by omega
      have e2 : IntKind.i64.wrap ((k : Int) / 4 * 4) = (a : Int) := by rw [IntWalk.i64_in _ (by omega)]; omega
      clear hB hu hbb hn ha hbl
      go_wp2_with fail
      clear e1 e2
      rw [HN.out]
      generalize hwq : World.alloc _ _ = wq
      have hi : Blk wq n 3 #[.int .i64 (k : Int)] := by rw [← hwq, ← HN.out]; exact (Blk.new wr _ _).alloc _
      have ha : Blk wq (n + 1) 3 #[.int .i64 (a : Int)] := by
        have h := Blk.new (wr.alloc (.cells #[.int .i64 (k : Int)] 3)) 3 #[.int .i64 (a : Int)]
        rw [World.size_alloc, HN.out] at h
        rw [← hwq]
        exact h
      have hb2 : Blk wq g 483 (arrB b) := by rw [← hwq]; exact (HB.out.2.2.alloc _).alloc _
      have ho2 : Blk wq (g + 1) 483 (arrB (fillAt (fun i => (mixK b).getD i 0) (List.replicate 16 0) k)) := by rw [← hwq]; exact (HB.out.1.alloc _).alloc _
      have hu2 : Upd (· = g + 1) w2 wq := by rw [← hwq]; exact (HB.out.2.1.alloc _).alloc _
      have HWQ := Lib.hid (And.intro hu2 ho2)
      obtain ⟨x0, hx0⟩ : ∃ x, b.getD (a + (k + 0) % 4) 0 = x := ⟨_, rfl⟩
      obtain ⟨x1, hx1⟩ : ∃ x, b.getD (a + (k + 1) % 4) 0 = x := ⟨_, rfl⟩
      obtain ⟨x2, hx2⟩ : ∃ x, b.getD (a + (k + 2) % 4) 0 = x := ⟨_, rfl⟩
      obtain ⟨x3, hx3⟩ : ∃ x, b.getD (a + (k + 3) % 4) 0 = x := ⟨_, rfl⟩
      have hm := fun (q : Nat) (hq : q < 4) => mixn_c hb2.drew HO.out.2.2 ha.drew hi.drew (by have := HA.out; omega) hlt q hq
      have m0 := hm 0 (by omega)
      have m1 := hm 1 (by omega)
      have m2 := hm 2 (by omega)
      have m3 := hm 3 (by omega)
      rw [hx0] at m0
      rw [hx1] at m1
      rw [hx2] at m2
      rw [hx3] at m3
      have M0 := Lib.hid m0
      have M1 := Lib.hid m1
      have M2 := Lib.hid m2
      have M3 := Lib.hid m3
      obtain ⟨y0, hy0⟩ : ∃ y, twU x0 = y := ⟨_, rfl⟩
      obtain ⟨y1, hy1⟩ : ∃ y, twU x1 = y := ⟨_, rfl⟩
      have T0 := Lib.hid ((twice_c x0 wq.drew).mono fun _ _ ⟨p, q⟩ => And.intro p q.symm)
      have T1 := Lib.hid ((twice_c x1 wq.drew).mono fun _ _ ⟨p, q⟩ => And.intro p q.symm)
      rw [hy0] at T0
      rw [hy1] at T1
      obtain ⟨z1, hz1⟩ : ∃ z, y0 ^^^ y1 = z := ⟨_, rfl⟩
      obtain ⟨z2, hz2⟩ : ∃ z, z1 ^^^ x1 = z := ⟨_, rfl⟩
      obtain ⟨z3, hz3⟩ : ∃ z, z2 ^^^ x2 = z := ⟨_, rfl⟩
      obtain ⟨z4, hz4⟩ : ∃ z, z3 ^^^ x3 = z := ⟨_, rfl⟩
      have q1 := xorB y0 y1
      have q2 := xorB z1 x1
      have q3 := xorB z2 x2
      have q4 := xorB z3 x3
      rw [hz1] at q1
      rw [hz2] at q2
      rw [hz3] at q3
      rw [hz4] at q4
      have hst := fillAt_step (fun i => (mixK b).getD i 0) (List.replicate 16 0) k (by rw [List.length_replicate]; exact hlt)
      have hz : (mixK b).getD k 0 = z4 := by
        have hA := HA.out
        unfold mixK
        rw [List.getD_eq_getElem?_getD, List.getElem?_map, List.getElem?_range hlt]
        show twU (b.getD (k / 4 * 4 + (k + 0) % 4) 0) ^^^ twU (b.getD (k / 4 * 4 + (k + 1) % 4) 0) ^^^ b.getD (k / 4 * 4 + (k + 1) % 4) 0 ^^^ b.getD (k / 4 * 4 + (k + 2) % 4) 0 ^^^ b.getD (k / 4 * 4 + (k + 3) % 4) 0 = z4
        rw [hA, hx0, hx1, hx2, hx3, hy0, hy1, hz1, hz2, hz3, hz4]
      simp only [hz] at hst
      have HST := Lib.hid hst
      have hcI := hi.cells1
      have hcO := ho2.cellB k (by rw [fillAt_len _ _ _ (by rw [List.length_replicate]; omega), List.length_replicate]; exact hlt)
      have hfO := ho2.frozen k
      clear hi ha hb2 ho2 hu2 hx0 hx1 hx2 hx3 hm m0 m1 m2 m3 hy0 hy1 hz1 hz2 hz3 hz4 hst hz hwq
      go_still_tail 18, (by kernel_rfl)
      still_call M0.out
      still_call T0.out
      still_step
      still_call M1.out
      still_call T1.out
      still_step
      still_step
      still_call M1.out
      still_step
      still_step
      still_call M2.out
      still_step
      still_step
      still_call M3.out
      still_step
      still_step
      refine wpStill_nil ?_
      change wpList _ _ _ _ _ wq.drew
      go_wp2_with fail
      go_roundw
      case rel =>
        refine ⟨k + 1, by omega, by go_num, ?_, ?_⟩
        · have h := (HWQ.out.2.setB k z4).drew
          rw [HST.out] at h
          exact h
        · exact (HWQ.out.1.setCell (p := ⟨g + 1, k, none⟩) (.inl rfl) _).drew
      case measure => simp [intOf] <;> omega
    · obtain rfl : k = 16 := by omega
      have e16 : ((16 : Nat) : Int) = 16 := rfl
      rw [e16]
      have hfin : (List.range 16).map (fun i => (mixK b).getD i 0) = O := by
        rw [HO.out.1]
        refine List.ext_getElem (by rw [List.length_map, List.length_range, HO.out.2.1]) fun i h1 h2 => ?_
        rw [List.getElem_map, List.getElem_range, List.getD_eq_getElem?_getD, List.getElem?_eq_getElem h2]
        rfl
      rw [fillAt_all _ _ _ (by rw [List.length_replicate]), hfin] at hB
      have HB := Lib.hid hB
      have HU := Lib.hid (HW2.out.2.2.then hu (fun q hq => .inr (by have := HG.out; omega)))
      clear hB hu e16 hlt hk hfin
      go_wp2_with (first
        | (show wpList _ _ _ (⟨none, _, _, _, _, _⟩ :: _) _ _
           refine wpList_store_all rfl 483 _ _ rfl (g + 1) (arrB O) rfl rfl 483 _ HB.out rfl (arrB_one _) (by rw [arrB_size, HO.out.2.1]; kernel_rfl) ?_
           intro w4 hB4 hU4 hz4)
        | (refine wpList_load_all rfl _ _ rfl (g + 1) rfl _ _ _ HB.out Tryz.underlying483 rfl (by rw [arrB_size, HO.out.2.1]; kernel_rfl) ?_))
      refine bodyPost_ret (results_cell_row rfl _ _ (g + 1) _ _ _ _ rfl hB4 Tryz.underlying483 rfl (by rw [arrB_size, HO.out.2.1]; kernel_rfl)) rfl ⟨rfl, HU.out.then hU4 (fun q hq => .inr (by have := HG.out; omega))⟩
end Go.Proofs.YtdfgmieinbmfkaaGreat
