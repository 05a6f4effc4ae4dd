/-
  Package aes: a byte's double; S of each byte.
-/
import Derived.Test.YtdfgmieinbmfkaaGreatMac
namespace Go.Proofs.YtdfgmieinbmfkaaGreat
open Go Go.RowKit

/-- A list of which the first k are made anew. -/
def fillAt (f : Nat → UInt8) (l : List UInt8) (k : Nat) : List UInt8 := (List.range k).map f ++ l.drop k
theorem fillAt_len (f : Nat → UInt8) (l : List UInt8) (k : Nat) (hk : k ≤ l.length) : (fillAt f l k).length = l.length := by
  unfold fillAt
  rw [List.length_append, List.length_map, List.length_range, List.length_drop]
  omega
theorem fillAt_get (f : Nat → UInt8) (l : List UInt8) (k : Nat) : (fillAt f l k).getD k 0 = l.getD k 0 := by
  unfold fillAt
  have h1 : ((List.range k).map f).length = k := by rw [List.length_map, List.length_range]
  rw [List.getD_eq_getElem?_getD, List.getElem?_append_right (by omega), h1, Nat.sub_self, List.getElem?_drop, List.getD_eq_getElem?_getD]
  rfl
theorem fillAt_step (f : Nat → UInt8) (l : List UInt8) (k : Nat) (hk : k < l.length) : (fillAt f l k).set k (f k) = fillAt f l (k + 1) := by
  unfold fillAt
  have h1 : ((List.range k).map f).length = k := by rw [List.length_map, List.length_range]
  rw [List.set_append_right _ _ (by omega), h1, Nat.sub_self, List.range_succ, List.map_append, List.append_assoc, List.drop_eq_getElem_cons hk]
  rfl
theorem fillAt_all (f : Nat → UInt8) (l : List UInt8) (k : Nat) (hk : l.length = k) : fillAt f l k = (List.range k).map f := by
  unfold fillAt
  rw [List.drop_of_length_le (by omega), List.append_nil]
theorem twB (b : UInt8) : bits .xor .u8 ((b.toNat : Int) * 2 % 256) ((b.toNat : Int) / 128 * 27) = ((twU b).toNat : Int) := by
  have h : ∀ x : Fin 256, bits .xor .u8 ((x.val : Int) * 2 % 256) ((x.val : Int) / 128 * 27) = ((twU (UInt8.ofNat x.val)).toNat : Int) := by decide +kernel
  have := h ⟨b.toNat, b.toNat_lt⟩
  rw [UInt8.ofNat_toNat] at this
  exact this
set_option maxRecDepth 100000 in
theorem twice_c (b : UInt8) (w : World) : Calls Tryz.prog 448 #[.int .u8 (b.toNat : Int)] w fun e w' => e = .returned (.int .u8 ((twU b).toNat : Int)) ∧ w = w' := by
  have hb := b.toNat_lt
  have h := twB b
  go_enter Tryz.func448, Tryz.ntmps448
  go_wp2_with fail

  go_ret
  exact ⟨rfl, rfl⟩
theorem rolB (b : UInt8) (r : Nat) (hr : r = 1 ∨ r = 2 ∨ r = 3 ∨ r = 4) : bits .or .u8 ((b.toNat : Int) * 2 ^ r % 256) ((b.toNat : Int) / 2 ^ (8 - r)) = ((rolU b r).toNat : Int) := by
  have h : ∀ x : Fin 256, ∀ r : Fin 4, bits .or .u8 ((x.val : Int) * 2 ^ (r.val + 1) % 256) ((x.val : Int) / 2 ^ (8 - (r.val + 1))) = ((rolU (UInt8.ofNat x.val) (r.val + 1)).toNat : Int) := by decide +kernel
  have h1 := h ⟨b.toNat, b.toNat_lt⟩
  rw [UInt8.ofNat_toNat] at h1
  rcases hr with rfl | rfl | rfl | rfl
  · exact h1 0
  · exact h1 1
  · exact h1 2
  · exact h1 3
set_option maxRecDepth 100000 in
theorem rot8_c (b : UInt8) (r : Nat) (hr : r = 1 ∨ r = 2 ∨ r = 3 ∨ r = 4) (w : World) : Calls Tryz.prog 497 #[.int .u8 (b.toNat : Int), .int .i64 (r : Int)] w fun e w' => e = .returned (.int .u8 ((rolU b r).toNat : Int)) ∧ w = w' := by
  have hb := b.toNat_lt
  have HR := Lib.hid (rolB b r hr)
  have hk : bits .and .u64 (r : Int) 7 = (r : Int) := by rcases hr with rfl | rfl | rfl | rfl <;> decide +kernel
  have hk2 : IntKind.u64.wrap (8 - (r : Int)) = ((8 - r : Nat) : Int) := by rcases hr with rfl | rfl | rfl | rfl <;> decide +kernel
  have hr8 : r < 8 := by omega
  clear hr
  go_enter Tryz.func497, Tryz.ntmps497
  go_wp2_with fail

  go_ret
  exact ⟨by rw [← HR.out]; rfl, rfl⟩
theorem shlB (q : UInt8) (k : Nat) (hk : k = 1 ∨ k = 2 ∨ k = 4) : (q.toNat : Int) * 2 ^ k % 256 = ((q <<< (UInt8.ofNat k)).toNat : Int) := by
  have h : ∀ x : Fin 256, (x.val : Int) * 2 ^ 1 % 256 = ((UInt8.ofNat x.val <<< (1 : UInt8)).toNat : Int) ∧ (x.val : Int) * 2 ^ 2 % 256 = ((UInt8.ofNat x.val <<< (2 : UInt8)).toNat : Int) ∧ (x.val : Int) * 2 ^ 4 % 256 = ((UInt8.ofNat x.val <<< (4 : UInt8)).toNat : Int) := by decide +kernel
  have h1 := h ⟨q.toNat, q.toNat_lt⟩
  rw [UInt8.ofNat_toNat] at h1
  rcases hk with rfl | rfl | rfl
  · exact h1.1
  · exact h1.2.1
  · exact h1.2.2
theorem mul9B (q : UInt8) : (q.toNat : Int) / 128 * 9 = (((q >>> 7) * 9).toNat : Int) := by
  have h : ∀ x : Fin 256, (x.val : Int) / 128 * 9 = (((UInt8.ofNat x.val >>> 7) * 9).toNat : Int) := by decide +kernel
  have h1 := h ⟨q.toNat, q.toNat_lt⟩
  rw [UInt8.ofNat_toNat] at h1
  exact h1
theorem xorZ (a : UInt8) (z : Int) (b : UInt8) (h : z = (b.toNat : Int)) : bits .xor .u8 (a.toNat : Int) z = ((a ^^^ b).toNat : Int) := by rw [h]; exact xorB a b
set_option maxRecDepth 100000 in
set_option maxHeartbeats 2000000 in
theorem box_c (w : World) : Calls Tryz.prog 447 #[] w fun e w' => e = .returned (.agg (arrB boxL)) ∧ Upd (fun _ => False) w w' := by
  obtain ⟨g, hg⟩ : ∃ g, w.heap.size = g := ⟨_, rfl⟩
  have HG := Lib.hid hg
  go_enter Tryz.func447, Tryz.ntmps447
  go_wp2_with fail
  generalize hw2 : World.alloc _ _ = w2
  have hB2 : Blk w2 g 552 (arrB (List.replicate 256 0)) := by rw [← hw2, ← hg]; exact Blk.new w _ _
  have hU2 : Upd (fun _ => False) w w2 := by rw [← hw2]; exact (Upd.refl _ w).alloc _
  have HW2 := Lib.hid (And.intro hB2 hU2)
  clear hB2 hU2 hw2 hg
  go_loopw [1, 2, 3] (fun a b u wr => ∃ (k : Nat), k ≤ 255 ∧ u = .int .i64 (k : Int) ∧ a = .int .u8 ((boxAt k).p.toNat : Int) ∧ b = .int .u8 ((boxAt k).q.toNat : Int) ∧ Blk wr g 552 (arrB (boxAt k).s) ∧ Upd (fun q => q = g) w2 wr) (fun _ _ u _ => 255 - (intOf u).toNat)
  case atStart => exact ⟨0, by omega, rfl, rfl, rfl, HW2.out.1, Upd.refl _ _⟩
  case round =>
    obtain ⟨k, hk, rfl, rfl, rfl, hB, hu⟩ := hrel
    by_cases hlt : k < 255
    · have hsl := boxAt_len k
      have hnx : boxAt (k + 1) = (boxAt k).next := rfl
      obtain ⟨⟨p, q, s⟩, hbk⟩ : ∃ b, boxAt k = b := ⟨_, rfl⟩
      rw [hbk] at hB hsl hnx ⊢
      simp only at hB hsl ⊢
      have HNX := Lib.hid hnx
      have HB := Lib.hid (And.intro hB hu)
      have hf := hB.frozen p.toNat
      have hcell : ∃ v, w2.cell? ⟨g, p.toNat, none⟩ = some v := ⟨_, HW2.out.1.cellB p.toNat (by rw [List.length_replicate]; exact p.toNat_lt)⟩
      have hc := hB.cellB p.toNat (by rw [hsl]; exact p.toNat_lt)
      have hp : (p.toNat : Int) < 256 := by have := p.toNat_lt; omega
      -- the letters
      obtain ⟨r1, hr1⟩ : ∃ r, rolU q 1 = r := ⟨_, rfl⟩
      obtain ⟨r2, hr2⟩ : ∃ r, rolU q 2 = r := ⟨_, rfl⟩
      obtain ⟨r3, hr3⟩ : ∃ r, rolU q 3 = r := ⟨_, rfl⟩
      obtain ⟨r4, hr4⟩ : ∃ r, rolU q 4 = r := ⟨_, rfl⟩
      obtain ⟨tw, htw⟩ : ∃ r, twU p = r := ⟨_, rfl⟩
      have c1 := rot8_c q 1 (by simp)
      have c2 := rot8_c q 2 (by simp)
      have c3 := rot8_c q 3 (by simp)
      have c4 := rot8_c q 4 (by simp)
      have c5 := twice_c p
      rw [hr1] at c1
      rw [hr2] at c2
      rw [hr3] at c3
      rw [hr4] at c4
      rw [htw] at c5
      have C1 := Lib.hid c1
      have C2 := Lib.hid c2
      have C3 := Lib.hid c3
      have C4 := Lib.hid c4
      have C5 := Lib.hid c5
      have HR := Lib.hid (And.intro hr1 (And.intro hr2 (And.intro hr3 (And.intro hr4 htw))))
      clear c1 c2 c3 c4 c5 hr1 hr2 hr3 hr4 htw hbk hnx hB hu hsl hcell
      obtain ⟨y1, hy1⟩ : ∃ y, q ^^^ r1 = y := ⟨_, rfl⟩
      obtain ⟨y2, hy2⟩ : ∃ y, y1 ^^^ r2 = y := ⟨_, rfl⟩
      obtain ⟨y3, hy3⟩ : ∃ y, y2 ^^^ r3 = y := ⟨_, rfl⟩
      obtain ⟨y4, hy4⟩ : ∃ y, y3 ^^^ r4 = y := ⟨_, rfl⟩
      obtain ⟨y5, hy5⟩ : ∃ y, y4 ^^^ 99 = y := ⟨_, rfl⟩
      obtain ⟨p1, hp1⟩ : ∃ y, p ^^^ tw = y := ⟨_, rfl⟩
      obtain ⟨q1, hq1⟩ : ∃ y, q ^^^ (q <<< 1) = y := ⟨_, rfl⟩
      obtain ⟨q2, hq2⟩ : ∃ y, q1 ^^^ (q1 <<< 2) = y := ⟨_, rfl⟩
      obtain ⟨q3, hq3⟩ : ∃ y, q2 ^^^ (q2 <<< 4) = y := ⟨_, rfl⟩
      obtain ⟨q4, hq4⟩ : ∃ y, q3 ^^^ ((q3 >>> 7) * 9) = y := ⟨_, rfl⟩
      have e1 := xorB q r1
      have e2 := xorB y1 r2
      have e3 := xorB y2 r3
      have e4 := xorB y3 r4
      have e5 : bits .xor .u8 (y4.toNat : Int) 99 = ((y4 ^^^ 99).toNat : Int) := xorB y4 99
      have e6 := xorB p tw
      have e7 : bits .xor .u8 (q.toNat : Int) ((q.toNat : Int) * 2 % 256) = ((q ^^^ (q <<< 1)).toNat : Int) := xorZ q _ _ (shlB q 1 (by simp))
      have e8 : bits .xor .u8 (q1.toNat : Int) ((q1.toNat : Int) * 4 % 256) = ((q1 ^^^ (q1 <<< 2)).toNat : Int) := xorZ q1 _ _ (shlB q1 2 (by simp))
      have e9 : bits .xor .u8 (q2.toNat : Int) ((q2.toNat : Int) * 16 % 256) = ((q2 ^^^ (q2 <<< 4)).toNat : Int) := xorZ q2 _ _ (shlB q2 4 (by simp))
      have e10 : bits .xor .u8 (q3.toNat : Int) ((q3.toNat : Int) / 128 * 9) = ((q3 ^^^ ((q3 >>> 7) * 9)).toNat : Int) := xorZ q3 _ _ (mul9B q3)
      rw [hy1] at e1
      rw [hy2] at e2
      rw [hy3] at e3
      rw [hy4] at e4
      rw [hy5] at e5
      rw [hp1] at e6
      rw [hq1] at e7
      rw [hq2] at e8
      rw [hq3] at e9
      rw [hq4] at e10
      have b1 := q.toNat_lt
      have b2 := q1.toNat_lt
      have b3 := q2.toNat_lt
      have b4 := q3.toNat_lt
      have HY := Lib.hid (show (⟨p, q, s⟩ : BoxM).next = ⟨p1, q4, s.set p.toNat y5⟩ by
        obtain ⟨hr1, hr2, hr3, hr4, htw⟩ := HR.out
        unfold BoxM.next BoxM.q3 BoxM.q2 BoxM.q1
        simp only [hr1, hr2, hr3, hr4, htw, hy1, hy2, hy3, hy4, hy5, hp1, hq1, hq2, hq3, hq4])
      clear hy1 hy2 hy3 hy4 hy5 hp1 hq1 hq2 hq3 hq4
      go_wp2_with fail
      refine (C1.out _).mono ?_
      rintro e w' ⟨rfl, rfl⟩
      go_wp2_with fail
      refine (C2.out _).mono ?_
      rintro e w' ⟨rfl, rfl⟩
      go_wp2_with fail
      refine (C3.out _).mono ?_
      rintro e w' ⟨rfl, rfl⟩
      go_wp2_with fail
      refine (C4.out _).mono ?_
      rintro e w' ⟨rfl, rfl⟩
      go_wp2_with fail
      refine (C5.out _).mono ?_
      rintro e w' ⟨rfl, rfl⟩
      go_wp2_with fail
      go_roundw
      case rel =>
        refine ⟨k + 1, by omega, by go_num, ?_, ?_, ?_, HB.out.2.setCell (.inl rfl) _⟩
        · rw [HNX.out, HY.out]
        · rw [HNX.out, HY.out]
        · rw [HNX.out, HY.out]
          exact HB.out.1.setB _ _
      case measure => simp [intOf] <;> omega
    · obtain rfl : k = 255 := by omega
      have e255 : ((255 : Nat) : Int) = 255 := rfl
      rw [e255]
      have hB2 := hB.setB 0 0x63
      rw [show (boxAt 255).s.set 0 0x63 = boxL from rfl] at hB2
      have hl := boxL_len
      have hf := hB.frozen 0
      have hc := hB.cellB 0 (by rw [boxAt_len]; omega)
      have hb99 : Blk (wr.setCell ⟨g, 0, none⟩ (.int .u8 99)) g 552 (arrB boxL) := hB2
      have HU := Lib.hid (hu.setCell (p := ⟨g, 0, none⟩) (.inl rfl) (.int .u8 99))
      have HB2 := Lib.hid (And.intro hb99 hl)
      clear hB2 hb99 hl hB hu e255 hlt hk
      go_wp2_with (first
        | (show wpList _ _ _ (⟨none, Op.store _ _ (.tmp _), _, _, _, _⟩ :: _) _ _
           refine wpList_store_all rfl 552 _ _ rfl g (arrB boxL) rfl rfl 552 _ HB2.out.1 rfl (arrB_one _) (by rw [arrB_size, HB2.out.2]; kernel_rfl) ?_
           intro w14 hB14 hU14 hz14)
        | (refine wpList_load_all rfl _ _ rfl g rfl _ _ _ HB2.out.1 Tryz.underlying552 rfl (by rw [arrB_size, HB2.out.2]; kernel_rfl) ?_))
      refine bodyPost_ret (results_cell_row rfl _ _ g _ _ _ _ rfl hB14 Tryz.underlying552 rfl (by rw [arrB_size, HB2.out.2]; kernel_rfl)) rfl ⟨rfl, (HW2.out.2.then HU.out (fun q hq => .inr (by have := HG.out; omega))).then hU14 (fun q hq => .inr (by have := HG.out; omega))⟩
end Go.Proofs.YtdfgmieinbmfkaaGreat
