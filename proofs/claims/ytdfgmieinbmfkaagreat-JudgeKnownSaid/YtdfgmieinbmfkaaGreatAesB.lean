/-
  Package aes: a byte's double; S of each byte.
-/
import Derived.Test.YtdfgmieinbmfkaaGreatMac
namespace Go.Proofs.YtdfgmieinbmfkaaGreat
open Go Go.RowKit

/-- A list of which the first k are made anew. -/
def fillAt (f : Nat → UInt8) (l : List UInt8) (k : Nat) : List UInt8 := (List.range k).map f ++ l.drop k
theorem fillAt_len (f : Nat → UInt8) (l : List UInt8) (k : Nat) (hk : k ≤ l.length) : (fillAt f l k).length = l.length := by
  unfold fillAt
  rw [List.length_append, List.length_map, List.length_range, List.length_drop]
  omega
theorem fillAt_get (f : Nat → UInt8) (l : List UInt8) (k : Nat) : (fillAt f l k).getD k 0 = l.getD k 0 := by
  unfold fillAt
  have h1 : ((List.range k).map f).length = k := by rw [List.length_map, List.length_range]
  rw [List.getD_eq_getElem?_getD, List.getElem?_append_right (by omega), h1, Nat.sub_self, List.getElem?_drop, List.getD_eq_getElem?_getD]
  rfl
theorem fillAt_step (f : Nat → UInt8) (l : List UInt8) (k : Nat) (hk : k < l.length) : (fillAt f l k).set k (f k) = fillAt f l (k + 1) := by
  unfold fillAt
  have h1 : ((List.range k).map f).length = k := by rw [List.length_map, List.length_range]
  rw [List.set_append_right _ _ (by omega), h1, Nat.sub_self, List.range_succ, List.map_append, List.append_assoc, List.drop_eq_getElem_cons hk]
  rfl
theorem fillAt_all (f : Nat → UInt8) (l : List UInt8) (k : Nat) (hk : l.length = k) : fillAt f l k = (List.range k).map f := by
  unfold fillAt
  rw [List.drop_of_length_le (by omega), List.append_nil]
theorem twB (b : UInt8) : bits .xor .u8 ((b.toNat : Int) * 2 % 256) ((b.toNat : Int) / 128 * 27) = ((twU b).toNat : Int) := by
  have h : ∀ x : Fin 256, bits .xor .u8 ((x.val : Int) * 2 % 256) ((x.val : Int) / 128 * 27) = ((twU (UInt8.ofNat x.val)).toNat : Int) := by decide +kernel
  have := h ⟨b.toNat, b.toNat_lt⟩
  rw [UInt8.ofNat_toNat] at this
  exact this
set_option maxRecDepth 100000 in
theorem twice_c (b : UInt8) (w : World) : Calls Tryz.prog 448 #[.int .u8 (b.toNat : Int)] w fun e w' => e = .returned (.int .u8 ((twU b).toNat : Int)) ∧ w = w' := by
  have hb := b.toNat_lt
  have h := twB b
  go_enter Tryz.func448, Tryz.ntmps448
  go_wp2_with fail

  go_ret
  exact ⟨rfl, rfl⟩
theorem rolB (b : UInt8) (r : Nat) (hr : r = 1 ∨ r = 2 ∨ r = 3 ∨ r = 4) : bits .or .u8 ((b.toNat : Int) * 2 ^ r % 256) ((b.toNat : Int) / 2 ^ (8 - r)) = ((rolU b r).toNat : Int) := by
  have h : ∀ x : Fin 256, ∀ r : Fin 4, bits .or .u8 ((x.val : Int) * 2 ^ (r.val + 1) % 256) ((x.val : Int) / 2 ^ (8 - (r.val + 1))) = ((rolU (UInt8.ofNat x.val) (r.val + 1)).toNat : Int) := by decide +kernel
  have h1 := h ⟨b.toNat, b.toNat_lt⟩
  rw [UInt8.ofNat_toNat] at h1
  rcases hr with rfl | rfl | rfl | rfl
  · exact h1 0
  · exact h1 1
  · exact h1 2
  · exact h1 3
set_option maxRecDepth 100000 in
theorem rot8_c (b : UInt8) (r : Nat) (hr : r = 1 ∨ r = 2 ∨ r = 3 ∨ r = 4) (w : World) : Calls Tryz.prog 497 #[.int .u8 (b.toNat : Int), .int .i64 (r : Int)] w fun e w' => e = .returned (.int .u8 ((rolU b r).toNat : Int)) ∧ w = w' := by
  have hb := b.toNat_lt
  have HR := Lib.hid (rolB b r hr)
  have hk : bits .and .u64 (r : Int) 7 = (r : Int) := by rcases hr with rfl | rfl | rfl | rfl <;> decide +kernel
  have hk2 : IntKind.u64.wrap (8 - (r : Int)) = ((8 - r : Nat) : Int) := by rcases hr with rfl | rfl | rfl | rfl <;> decide +kernel
  have hr8 : r < 8 := by omega
  clear hr
  go_enter Tryz.func497, Tryz.ntmps497
  go_wp2_with fail

  go_ret
  exact ⟨by rw [← HR.out]; rfl, rfl⟩
theorem shlB (q : UInt8) (k : Nat) (hk : k = 1 ∨ k = 2 ∨ k = 4) : (q.toNat : Int) * 2 ^ k % 256 = ((q <<< (UInt8.ofNat k)).toNat : Int) := by
  have h : ∀ x : Fin 256, (x.val : Int) * 2 ^ 1 % 256 = ((UInt8.ofNat x.val <<< (1 : UInt8)).toNat : Int) ∧ (x.val : Int) * 2 ^ 2 % 256 = ((UInt8.ofNat x.val <<< (2 : UInt8)).toNat : Int) ∧ (x.val : Int) * 2 ^ 4 % 256 = ((UInt8.ofNat x.val <<< (4 : UInt8)).toNat : Int) := by decide +kernel
  have h1 := h ⟨q.toNat, q.toNat_lt⟩
  rw [UInt8.ofNat_toNat] at h1
  rcases hk with rfl | rfl | rfl
  · exact h1.1
  · exact h1.2.1
  · exact h1.2.2
theorem mul9B (q : UInt8) : (q.toNat : Int) / 128 * 9 = (((q >>> 7) * 9).toNat : Int) := by
  have h : ∀ x : Fin 256, (x.val : Int) / 128 * 9 = (((UInt8.ofNat x.val >>> 7) * 9).toNat : Int) := by decide +kernel
  have h1 := h ⟨q.toNat, q.toNat_lt⟩
  rw [UInt8.ofNat_toNat] at h1
  exact h1
theorem xorZ (a : UInt8) (z : Int) (b : UInt8) (h : z = (b.toNat : Int)) : bits .xor .u8 (a.toNat : Int) z = ((a ^^^ b).toNat : Int) := by rw [h]; exact xorB a b
set_option maxRecDepth 100000 in
set_option maxHeartbeats 2000000 in
theorem box_c (w : World) : Calls Tryz.prog 447 #[] w fun e w' => e = .returned (.agg (arrB boxL)) ∧ Upd (fun _ => False) w w' := by
  obtain ⟨g, hg⟩ : ∃ g, w.heap.size = g := ⟨_, rfl⟩
  have HG := Lib.hid hg
  go_enter Tryz.func447, Tryz.ntmps447
  go_wp2_with fail
  generalize hw2 : World.alloc _ _ = w2
  have hB2 : Blk w2 g 552 (arrB (List.replicate 256 0)) := by rw [← hw2, ← hg]; exact Blk.new w _ _
  have hU2 : Upd (fun _ => False) w w2 := by rw [← hw2]; exact (Upd.refl _ w).alloc _
  have HW2 := Lib.hid (And.intro hB2 hU2)
  clear hB2 hU2 hw2 hg
  go_loopw [1, 2, 3] (fun a b u wr => ∃ (k : Nat), k ≤ 255 ∧ u = .int .i64 (k : Int) ∧ a = .int .u8 ((boxAt k).p.toNat : Int) ∧ b = .int .u8 ((boxAt k).q.toNat : Int) ∧ Blk wr g 552 (arrB (boxAt k).s) ∧ Upd (fun q => q = g) w2 wr) (fun _ _ u _ => 255 - (intOf u).toNat)
  case atStart => exact ⟨0, by omega, rfl, rfl, rfl, HW2.out.1, Upd.refl _ _⟩
  case round =>
    obtain ⟨k, hk, rfl, rfl, rfl, hB, hu⟩ := hrel
    by_cases hlt : k < 255
    · have hsl := boxAt_len k
      have hnx : boxAt (k + 1) = (boxAt k).next := rfl
      obtain ⟨⟨p, q, s⟩, hbk⟩ : ∃ b, boxAt k = b := ⟨_, rfl⟩
      rw [hbk] at hB hsl hnx ⊢
      simp only at hB hsl ⊢
      have HNX := Lib.hid hnx
      have HB := Lib.hid (And.intro hB hu)
      have hf := hB.frozen p.toNat
      have hcell : ∃ v, w2.cell? ⟨g, p.toNat, none⟩ = some v := ⟨_, HW2.out.1.cellB p.toNat (by rw [List.length_replicate]; exact p.toNat_lt)⟩
      have hc := hB.cellB p.toNat (by rw [hsl]; exact p.toNat_lt)
      have hp : (p.toNat : Int) < 256 := by have := p.toNat_lt; omega
      -- the letters
      obtain ⟨r1, hr1⟩ : ∃ r, rolU q 1 = r := ⟨_, rfl⟩
      obtain ⟨r2, hr2⟩ : ∃ r, rolU q 2 = r := ⟨_, rfl⟩
      obtain ⟨r3, hr3⟩ : ∃ r, rolU q 3 = r := ⟨_, rfl⟩
      obtain ⟨r4, hr4⟩ : ∃ r, rolU q 4 = r := ⟨_, rfl⟩
      obtain ⟨tw, htw⟩ : ∃ r, twU p = r := ⟨_, rfl⟩
      have c1 := rot8_c q 1 (by simp)
      have c2 := rot8_c q 2 (by simp)
      have c3 := rot8_c q 3 (by simp)
      have c4 := rot8_c q 4 (by simp)
      have c5 := twice_c p
      rw [hr1] at c1
      rw [hr2] at c2
      rw [hr3] at c3
      rw [hr4] at c4
      rw [htw] at c5
      have C1 := Lib.hid c1
      have C2 := Lib.hid c2
      have C3 := Lib.hid c3
      have C4 := Lib.hid c4
      have C5 := Lib.hid c5
      have HR := Lib.hid (And.intro hr1 (And.intro hr2 (And.intro hr3 (And.intro hr4 htw))))
      clear c1 c2 c3 c4 c5 hr1 hr2 hr3 hr4 htw hbk hnx hB hu hsl hcell
      obtain ⟨y1, hy1⟩ : ∃ y, q ^^^ r1 = y := ⟨_, rfl⟩
      obtain ⟨y2, hy2⟩ : ∃ y, y1 ^^^ r2 = y := ⟨_, rfl⟩
      obtain ⟨y3, hy3⟩ : ∃ y, y2 ^^^ r3 = y := ⟨_, rfl⟩
      obtain ⟨y4, hy4⟩ : ∃ y, y3 ^^^ r4 = y := ⟨_, rfl⟩
      obtain ⟨y5, hy5⟩ : ∃ y, y4 ^^^ 99 = y := ⟨_, rfl⟩
      obtain ⟨p1, hp1⟩ : ∃ y, p ^^^ tw = y := ⟨_, rfl⟩
      obtain ⟨q1, hq1⟩ : ∃ y, q ^^^ (q <<< 1) = y := ⟨_, rfl⟩
      obtain ⟨q2, hq2⟩ : ∃ y, q1 ^^^ (q1 <<< 2) = y := ⟨_, rfl⟩
      obtain ⟨q3, hq3⟩ : ∃ y, q2 ^^^ (q2 <<< 4) = y := ⟨_, rfl⟩
      obtain ⟨q4, hq4⟩ : ∃ y, q3 ^^^ ((q3 >>> 7) * 9) = y := ⟨_, rfl⟩
      have e1 := xorB q r1
      have e2 := xorB y1 r2
      have e3 := xorB y2 r3
      have e4 := xorB y3 r4
      have e5 : bits .xor .u8 (y4.toNat : Int) 99 = ((y4 ^^^ 99).toNat : Int) := xorB y4 99
      have e6 := xorB p tw
      have e7 : bits .xor .u8 (q.toNat : Int) ((q.toNat : Int) * 2 % 256) = ((q ^^^ (q <<< 1)).toNat : Int) := xorZ q _ _ (shlB q 1 (by simp))
      have e8 : bits .xor .u8 (q1.toNat : Int) ((q1.toNat : Int) * 4 % 256) = ((q1 ^^^ (q1 <<< 2)).toNat : Int) := xorZ q1 _ _ (shlB q1 2 (by simp))
      have e9 : bits .xor .u8 (q2.toNat : Int) ((q2.toNat : Int) * 16 % 256) = ((q2 ^^^ (q2 <<< 4)).toNat : Int) := xorZ q2 _ _ (shlB q2 4 (by simp))
      have e10 : bits .xor .u8 (q3.toNat : Int) ((q3.toNat : Int) / 128 * 9) = ((q3 ^^^ ((q3 >>> 7) * 9)).toNat : Int) := xorZ q3 _ _ (mul9B q3)
      rw [hy1] at e1
      rw [hy2] at e2
      rw [hy3] at e3
      rw [hy4] at e4
      rw [hy5] at e5
      rw [hp1] at e6
      rw [hq1] at e7
      rw [hq2] at e8
      rw [hq3] at e9
      rw [hq4] at e10
      have b1 := q.toNat_lt
      have b2 := q1.toNat_lt
      have b3 := q2.toNat_lt
      have b4 := q3.toNat_lt
      have HY := Lib.hid (show (⟨p, q, s⟩ : BoxM).next = ⟨p1, q4, s.set p.toNat y5⟩ by
        obtain ⟨hr1, hr2, hr3, hr4, htw⟩ := HR.out
        unfold BoxM.next BoxM.q3 BoxM.q2 BoxM.q1
        simp only [hr1, hr2, hr3, hr4, htw, hy1, hy2, hy3, hy4, hy5, hp1, hq1, hq2, hq3, hq4])
      clear hy1 hy2 hy3 hy4 hy5 hp1 hq1 hq2 hq3 hq4
      go_wp2_with fail
      refine (C1.out _).mono ?_
      rintro e w' ⟨rfl, rfl⟩
      go_wp2_with fail
      refine (C2.out _).mono ?_
      rintro e w' ⟨rfl, rfl⟩
      go_wp2_with fail
      refine (C3.out _).mono ?_
      rintro e w' ⟨rfl, rfl⟩
      go_wp2_with fail
      refine (C4.out _).mono ?_
      rintro e w' ⟨rfl, rfl⟩
      go_wp2_with fail
      refine (C5.out _).mono ?_
      rintro e w' ⟨rfl, rfl⟩
      go_wp2_with fail
      go_roundw
      case rel =>
        refine ⟨k + 1, by omega, by go_num, ?_, ?_, ?_, HB.out.2.setCell (.inl rfl) _⟩
        · rw [HNX.out, HY.out]
        · rw [HNX.out, HY.out]
        · rw [HNX.out, HY.out]
          exact HB.out.1.setB _ _
      case measure => simp [intOf] <;> omega
    · obtain rfl : k = 255 := by omega
      have e255 : ((255 : Nat) : Int) = 255 := rfl
      rw [e255]
      have hB2 := hB.setB 0 0x63
      rw [show (boxAt 255).s.set 0 0x63 = boxL from rfl] at hB2
      have hl := boxL_len
      have hf := hB.frozen 0
      have hc := hB.cellB 0 (by rw [boxAt_len]; omega)
      have hb99 : Blk (wr.setCell ⟨g, 0, none⟩ (.int .u8 99)) g 552 (arrB boxL) := hB2
      have HU := Lib.hid (hu.setCell (p := ⟨g, 0, none⟩) (.inl rfl) (.int .u8 99))
      have HB2 := Lib.hid (And.intro hb99 hl)
      clear hB2 hb99 hl hB hu e255 hlt hk
      go_wp2_with (first
        | (show wpList _ _ _ (⟨none, Op.store _ _ (.tmp _), _, _, _, _⟩ :: _) _ _
           refine wpList_store_all rfl 552 _ _ rfl g (arrB boxL) rfl rfl 552 _ HB2.out.1 rfl (arrB_one _) (by rw [arrB_size, HB2.out.2]; kernel_rfl) ?_
           intro w14 hB14 hU14 hz14)
        | (refine wpList_load_all rfl _ _ rfl g rfl _ _ _ HB2.out.1 Tryz.underlying552 rfl (by rw [arrB_size, HB2.out.2]; kernel_rfl) ?_))
      refine bodyPost_ret (results_cell_row rfl _ _ g _ _ _ _ rfl hB14 Tryz.underlying552 rfl (by rw [arrB_size, HB2.out.2]; kernel_rfl)) rfl ⟨rfl, (HW2.out.2.then HU.out (fun q hq => .inr (by have := HG.out; omega))).then hU14 (fun q hq => .inr (by have := HG.out; omega))⟩
end Go.Proofs.YtdfgmieinbmfkaaGreat

/-
  Package aes: a key's schedule.
-/
namespace Go.Proofs.YtdfgmieinbmfkaaGreat
open Go Go.RowKit

theorem fold_set (off : Nat) : ∀ (vs : List Value) (n : Nat) (cells : Array Value), off + n + vs.length ≤ cells.size →
    (vs.zipIdx n).foldl (fun (cs : Array Value) p => cs.setIfInBounds (off + p.2) p.1) cells = (cells.toList.take (off + n) ++ vs ++ cells.toList.drop (off + n + vs.length)).toArray
  | [], n, cells, h => by simp
  | v :: r, n, cells, h => by
    rw [List.length_cons] at h
    rw [List.zipIdx_cons, List.foldl_cons, fold_set off r (n + 1) _ (by rw [Array.size_setIfInBounds]; omega)]
    have e := list_seg_step cells.toList (off + n) v r (by rw [Array.length_toList]; omega)
    rw [Array.toList_setIfInBounds]
    rw [show off + (n + 1) = off + n + 1 by omega]
    rw [show off + n + (v :: r).length = off + n + (r.length + 1) by rw [List.length_cons]]
    rw [← e]
set_option maxRecDepth 100000 in
theorem built_cipher (l : List UInt8) (hl : l.length = 256) : Tryz.prog.built 557 [(1, .agg (arrB l))] = some (arrB (List.replicate 240 0 ++ l)) := by
  obtain ⟨it, hit⟩ : ∃ it, Tryz.prog.info? 557 = some it := Option.isSome_iff_exists.1 (by kernel_rfl)
  have hz : it.zero = some (.agg (arrB (List.replicate 496 0))) := by
    have h : (Tryz.prog.info? 557).bind (·.zero) = some (.agg (arrB (List.replicate 496 0))) := by kernel_rfl
    rw [hit] at h
    exact h
  unfold Program.built
  rw [hit, Tryz.underlying557]
  simp only [hz]
  rw [show List.mapM (m := Option) _ _ = some [(0, 240), (240, 256)] from by kernel_rfl]
  simp only [Instr.fill]
  show (if (decide ((arrB l).size ≠ 256) || decide (240 + (arrB l).size > (arrB (List.replicate 496 0)).size)) = true then none else some (Array.foldl (fun cs x => cs.setIfInBounds (240 + x.snd) x.fst) (arrB (List.replicate 496 0)) (arrB l).zipIdx)) = _
  rw [if_neg (by rw [arrB_size, arrB_size, hl, List.length_replicate]; decide)]
  congr 1
  rw [← Array.foldl_toList, Array.toList_zipIdx]
  have h := fold_set 240 (bytesV l) 0 (arrB (List.replicate 496 0)) (by rw [bytesV_len, hl, arrB_size, List.length_replicate]; omega)
  refine Eq.trans h ?_
  unfold arrB
  congr 1
  rw [bytesV_len, hl, bytesV_app]
  show List.take 240 (bytesV (List.replicate 496 0)) ++ bytesV l ++ List.drop 496 (bytesV (List.replicate 496 0)) = _
  rw [List.drop_of_length_le (by rw [bytesV_len, List.length_replicate]; omega), List.append_nil]
  unfold bytesV
  rw [← List.map_take, List.take_replicate]
  rfl
/-- copy of the first bytes of a slice. -/
theorem copy_first {w : World} {g off n cap b o m c : Nat} {T : TypeId} {l0 l : List UInt8} (hB : Blk w g T (arrB l0)) (hn : n ≤ m) (hl : l.length = n) (hc : ∀ i, i < n → w.cell? ⟨b, o + i, none⟩ = some (.int .u8 ((l.getD i 0).toNat : Int))) (hf : off + n ≤ l0.length) :
    ∃ W r, (Builtin.copy_ #[223, 223] 3 #[.slice (some ⟨g, off, none⟩) n cap, .slice (some ⟨b, o, none⟩) m c]).run Tryz.prog w = .ok r W ∧ Blk W g T (arrB (l0.take off ++ l ++ l0.drop (off + n))) ∧ Upd (· = g) w W ∧ W.heap.size = w.heap.size := by
  have hrun := run_copy_row (P := Tryz.prog) w 223 223 3 5 g off n cap ⟨b, o, none⟩ m c (arrB l0) T (bytesV l) Tryz.underlying223 (by kernel_rfl) hB (by rw [bytesV_len, hl]; exact (Nat.min_eq_right hn).symm) (fun j u e => by
    have hj : j < l.length := by have := (List.getElem?_eq_some_iff.1 e).1; simpa [bytesV] using this
    rw [Addr.add_mid, hc j (by omega), ← e]
    simp [bytesV, hj]) (by rw [bytesV_len, arrB_size]; omega) (bytesV_one _)
  refine ⟨_, _, hrun, ?_, Upd.setRow_ _ _ _, by simp [World.setRow]⟩
  have e : ((arrB l0).toList.take off ++ bytesV l ++ (arrB l0).toList.drop (off + (bytesV l).length)).toArray = arrB (l0.take off ++ l ++ l0.drop (off + n)) := by
    rw [bytesV_len, hl]
    simp [arrB, bytesV, List.map_take, List.map_drop]
  rw [e]
  exact hB.setRow _
/-- Bytes laid ahead of noughts. -/
def layB (V B : List UInt8) : List UInt8 := V ++ List.replicate (240 - V.length) 0 ++ B
theorem layB_len (V B : List UInt8) (h : V.length ≤ 240) : (layB V B).length = 240 + B.length := by
  unfold layB
  rw [List.length_append, List.length_append, List.length_replicate]
  omega
theorem layB_put (V x B : List UInt8) (n : Nat) (hn : V.length = n) (h : n + x.length ≤ 240) : (layB V B).take n ++ x ++ (layB V B).drop (n + x.length) = layB (V ++ x) B := by
  subst hn
  unfold layB
  simp only [List.append_assoc]
  rw [List.take_left, List.drop_append, List.drop_of_length_le (by omega), List.nil_append, Nat.add_sub_cancel_left, List.drop_append_of_le_length (by rw [List.length_replicate]; omega), List.drop_replicate, List.length_append, show 240 - V.length - x.length = 240 - (V.length + x.length) by omega]
theorem layB_set (V B : List UInt8) (b : UInt8) (n : Nat) (hn : V.length = n) (h : n < 240) : (layB V B).set n b = layB (V ++ [b]) B := by
  subst hn
  unfold layB
  obtain ⟨m, hm⟩ : ∃ m, 240 - V.length = m + 1 := ⟨240 - V.length - 1, by omega⟩
  rw [List.append_assoc, List.set_append_right _ _ (Nat.le_refl _), Nat.sub_self, hm, List.replicate_succ, List.cons_append, List.set_cons_zero, List.length_append, List.length_singleton, show 240 - (V.length + 1) = m by omega]
  simp
theorem layB_get (V B : List UInt8) (i : Nat) (h : i < V.length) : (layB V B).getD i 0 = V.getD i 0 := by
  unfold layB
  rw [List.append_assoc, List.getD_eq_getElem?_getD, List.getElem?_append_left h, List.getD_eq_getElem?_getD]
theorem layB_box (V B : List UInt8) (hV : V.length ≤ 240) (i : Nat) : (layB V B).getD (240 + i) 0 = B.getD i 0 := by
  unfold layB
  have h1 : (V ++ List.replicate (240 - V.length) (0 : UInt8)).length = 240 := by rw [List.length_append, List.length_replicate]; omega
  rw [List.getD_eq_getElem?_getD, List.getElem?_append_right (by omega), h1, Nat.add_sub_cancel_left, List.getD_eq_getElem?_getD]
theorem sched_tail {P : Prop} (h : P := by
  go_wp2_with fail
  go_loopw [9, 77] (fun _ u w' => ∃ k : Nat, k ≤ 4 ∧ u = .int .i64 (k : Int) ∧ Blk w' gt 554 (arrB T) ∧ Blk w' c 557 (arrB (layB (V ++ (List.range k).map (fun k => V.getD (4 * n + k) 0 ^^^ T.getD k 0)) B)) ∧ Upd (· = c) w3 w') (fun _ u _ => 4 - (intOf u).toNat)
  case atStart => exact ⟨0, by omega, rfl, HT.out.1, by simpa using HT.out.2.1, HT.out.2.2.1⟩
  case round =>
    obtain ⟨k, hk, rfl, hBk, hCk, hUk⟩ := hrel
    by_cases hlt : k < 4
    · obtain ⟨hi, hm⟩ := HI.out
      have hVl := HB.out.2.2.1
      have hTl := HT.out.2.2.2.1
      have hUl : (V ++ (List.range k).map (fun k => V.getD (4 * n + k) 0 ^^^ T.getD k 0)).length = i * 4 + k := by rw [List.length_append, List.length_map, List.length_range]; omega
      have hc1 := hBk.cellB k (by omega)
      have hc2 := hCk.cellB (n * 4 + k) (by rw [layB_len _ _ (by omega)]; omega)
      rw [layB_get _ _ _ (by omega), show n * 4 + k = 4 * n + k by omega, List.getD_eq_getElem?_getD, List.getElem?_append_left (by omega), ← List.getD_eq_getElem?_getD] at hc2
      rw [show 4 * n + k = n * 4 + k by omega] at hc2
      have hc3 := hCk.cellB (i * 4 + k) (by rw [layB_len _ _ (by omega), HK.out.2.2.2]; omega)
      have hst := layB_set (V ++ (List.range k).map (fun k => V.getD (4 * n + k) 0 ^^^ T.getD k 0)) B (V.getD (4 * n + k) 0 ^^^ T.getD k 0) (i * 4 + k) hUl (by omega)
      rw [List.append_assoc, show (List.range k).map (fun k => V.getD (4 * n + k) 0 ^^^ T.getD k 0) ++ [V.getD (4 * n + k) 0 ^^^ T.getD k 0] = (List.range (k + 1)).map (fun k => V.getD (4 * n + k) 0 ^^^ T.getD k 0) by rw [List.range_succ, List.map_append]; rfl, show 4 * n + k = n * 4 + k by omega] at hst
      obtain ⟨x, hx⟩ : ∃ x, V.getD (n * 4 + k) 0 = x := ⟨_, rfl⟩
      obtain ⟨y, hy⟩ : ∃ y, T.getD k 0 = y := ⟨_, rfl⟩
      rw [hx] at hc2 hst
      rw [hy] at hc1 hst
      obtain ⟨z, hz⟩ : ∃ z, x ^^^ y = z := ⟨_, rfl⟩
      have hxy := xorB x y
      rw [hz] at hxy hst
      obtain ⟨old, hold⟩ : ∃ old, (layB (V ++ (List.range k).map (fun k => V.getD (4 * n + k) 0 ^^^ T.getD k 0)) B).getD (i * 4 + k) 0 = old := ⟨_, rfl⟩
      rw [hold] at hc3
      have hf := hCk.frozen (i * 4 + k)
      have j7 : (k : Int) < 4 := by omega
      have j9 : (n : Int) < 60 := by omega
      have HBk := Lib.hid (And.intro hBk (And.intro hCk (And.intro hUk hst)))
      have j6 : IntKind.i64.wrap ((i : Int) - 8) = (n : Int) := by rw [IntWalk.i64_in _ (by omega)]; omega
      clear hBk hCk hUk hst hx hy hz hold hVl hTl hUl hi hm
      go_wp2_with fail
      go_still_tail 20, (by kernel_rfl)
      change wpList _ _ _ _ _ (World.drew _)
      go_wp2_with fail
      clear j6
      go_roundw
      case rel =>
        refine ⟨k + 1, by omega, by go_num, ?_, ?_, ?_⟩
        · exact (HBk.out.1.far (p := ⟨c, i * 4 + k, none⟩) HQ.out.2.2.2.2 _).drew
        · rw [← HBk.out.2.2.2]; exact (HBk.out.2.1.setB (i * 4 + k) z).drew
        · exact (HBk.out.2.2.1.setCell (p := ⟨c, i * 4 + k, none⟩) (.inl rfl) _).drew
      case measure => simp [intOf] <;> omega
    · obtain rfl : k = 4 := by omega
      have e4 : ((4 : Nat) : Int) = 4 := rfl
      rw [e4]
      have hnx := HT.out.2.2.2.2
      have hfin : (schedAt key (n + 1)).1 = V ++ (List.range 4).map (fun k => V.getD (4 * n + k) 0 ^^^ T.getD k 0) := by rw [hnx]
      rw [← hfin] at hCk
      have hpw := congrArg Prod.snd hnx
      have HF := Lib.hid (And.intro hCk (And.intro hUk hpw))
      have HJ := Lib.hid (show (i : Int) + 1 = ((n + 1 + 8 : Nat) : Int) by have := HI.out.1; omega)
      clear hBk hCk hUk hnx hfin hpw e4 hlt hk
      go_wp2_with fail
      go_roundw
      case rel => exact ⟨n + 1, by omega, by rw [← HJ.out], by rw [HF.out.2.2], HF.out.2.1, HF.out.1⟩
      case measure => simp [intOf] <;> omega) : P := h
set_option maxRecDepth 100000 in
set_option maxHeartbeats 4000000 in
theorem schedule_c (key : List UInt8) (hk : key.length = 32) (w : World) :
    Calls Tryz.prog 376 #[.agg (arrB key)] w fun e w' => ∃ c, e = .returned (.pointer (some ⟨c, 0, none⟩)) ∧ Blk w' c 557 (arrB (schedL key ++ boxL)) ∧ w.heap.size ≤ c ∧ Upd (fun _ => False) w w' := by
  obtain ⟨S, hS⟩ : ∃ S, schedL key = S := ⟨_, rfl⟩
  obtain ⟨B, hB⟩ : ∃ B, boxL = B := ⟨_, rfl⟩
  have hbc := fun W => box_c W
  rw [hB] at hbc
  rw [hS, hB]
  have hBl : B.length = 256 := by rw [← hB]; exact boxL_len
  have hbu := built_cipher B hBl
  have HBC := Lib.hid hbc
  have HBU := Lib.hid hbu
  have HK := Lib.hid (And.intro hk (And.intro hS (And.intro hB hBl)))
  obtain ⟨g, hg⟩ : ∃ g, w.heap.size = g := ⟨_, rfl⟩
  have HG := Lib.hid hg
  clear hbc hbu hk hS hB hBl
  go_enter Tryz.func376, Tryz.ntmps376
  go_wp2_with fail
  generalize hw1 : World.alloc _ _ = w1
  have hB1 : Blk w1 g 139 (arrB key) := by rw [← hw1, ← hg]; exact Blk.new w _ _
  have hU1 : Upd (fun _ => False) w w1 := by rw [← hw1]; exact (Upd.refl _ w).alloc _
  have HW1 := Lib.hid (And.intro hB1 hU1)
  clear hB1 hU1 hw1 hg
  refine (HBC.out w1).mono ?_
  rintro e w2 ⟨rfl, hU2⟩
  have HU2 := Lib.hid hU2
  clear hU2
  go_wp2_with (first
    | (show wpList _ _ _ (⟨_, Op.build _ _, _, _, _, _⟩ :: _) _ _
       refine wpList_build_is rfl _ _ rfl [(1, .agg (arrB B))] _ (by kernel_rfl) HBU.out ?_))
  obtain ⟨c, hc⟩ : ∃ c, w2.heap.size = c := ⟨_, rfl⟩
  have HC := Lib.hid hc
  rw [hc]
  generalize hw3 : World.alloc _ _ = w3
  have hB3 : Blk w3 c 557 (arrB (List.replicate 240 0 ++ B)) := by rw [← hw3, ← hc]; exact Blk.new w2 _ _
  have hU3 : Upd (fun _ => False) w2 w3 := by rw [← hw3]; exact (Upd.refl _ w2).alloc _
  have hkb : Blk w3 g 139 (arrB key) := HW1.out.1.upd (HU2.out.then hU3 (fun _ e => e.elim)) (fun e => e)
  have hgc : g < c := by rw [← hc]; exact Nat.lt_of_lt_of_le HW1.out.1.lt HU2.out.size
  have HW3 := Lib.hid (And.intro hB3 (And.intro ((HW1.out.2.then HU2.out (fun _ e => e.elim)).then hU3 (fun _ e => e.elim)) hkb))
  clear hB3 hU3 hkb hw3 hc
  go_loopw [4, 13] (fun _ u wr => ∃ k : Nat, k ≤ 8 ∧ u = .int .i64 (k : Int) ∧ Upd (· = c) w3 wr ∧ Blk wr c 557 (arrB (layB (key.take (4 * k)) B))) (fun _ u _ => 8 - (intOf u).toNat)
  case atStart => exact ⟨0, by omega, rfl, Upd.refl _ _, HW3.out.1⟩
  case round =>
    obtain ⟨k, hk, rfl, hu, hB⟩ := hrel
    by_cases hlt : k < 8
    · have HB := Lib.hid (And.intro hu hB)
      have hkb := HW3.out.2.2.upd hu (fun e => by omega)
      have HKB := Lib.hid hkb
      obtain ⟨q, hq⟩ : ∃ q, 4 * k = q := ⟨_, rfl⟩
      have HQ := Lib.hid hq
      have i1 : (q : Int) ≤ 32 := by omega
      have i0 : (0 : Int) ≤ (q : Int) := by omega
      have i2 : q < 32 := by omega
      have i3 : ¬ 32 = q := by omega
      have i5 : (k : Int) < 60 := by omega
      have i4 : IntKind.i64.wrap (4 * (k : Int)) = (q : Int) := by rw [IntWalk.i64_in _ (by omega)]; omega
      clear hu hB hkb hq
      go_wp2_with fail
      go_still_tail 9, (by kernel_rfl)
      change wpList _ _ _ _ _ wr.drew
      go_wp2_with fail
      clear i4
      have hkl := HK.out.1
      have hq := HQ.out
      have hl4 : ((key.drop q).take 4).length = 4 := by rw [List.length_take, List.length_drop]; omega
      have htl : (key.take (4 * k)).length = 4 * k := by rw [List.length_take]; omega
      obtain ⟨W, r, hcp, hB4, hU4, hz4⟩ := copy_first (off := k * 4) (n := 4) (cap := 4) (b := g) (o := q) (m := 32 - q) (c := 32 - q) (l := (key.drop q).take 4) HB.out.2.drew (by omega) hl4 (fun i hi => by
        rw [World.cell?_drew, HKB.out.cellB (q + i) (by omega)]
        simp [List.getD_eq_getElem?_getD, hi]) (by rw [layB_len _ _ (by omega)]; omega)
      have hput := layB_put (key.take (4 * k)) ((key.drop q).take 4) B (k * 4) (by omega) (by omega)
      rw [hl4] at hput
      rw [hput] at hB4
      have htk : key.take (4 * k) ++ (key.drop q).take 4 = key.take (4 * (k + 1)) := by
        rw [← hq, show 4 * (k + 1) = 4 * k + 4 by omega, List.take_add]
      rw [htk] at hB4
      have HB4 := Lib.hid (And.intro hB4 (HB.out.1.drew.then hU4 (fun q hq => .inl hq)))
      rw [hcp]
      clear hkl hq hl4 htl hcp hB4 hU4 hz4 hput htk
      go_wp2_with fail
      go_roundw
      case rel => exact ⟨k + 1, by omega, by go_num, HB4.out.2, HB4.out.1⟩
      case measure => simp [intOf] <;> omega
    · obtain rfl : k = 8 := by omega
      have e8 : ((8 : Nat) : Int) = 8 := rfl
      rw [e8]
      have hkl := HK.out.1
      rw [List.take_of_length_le (by omega)] at hB
      have hsl : ∀ n, (schedAt key n).1.length = 32 + 4 * n := schedAt_len hkl
      have HSL := Lib.hid hsl
      have HB := Lib.hid (And.intro hu hB)
      clear hu hB hkl hlt hk e8 hsl
      go_wp2_with fail
      go_loopw [5, 6] (fun p u wr => ∃ n : Nat, n ≤ 52 ∧ u = .int .i64 ((n + 8 : Nat) : Int) ∧ p = .int .u8 ((schedAt key n).2.toNat : Int) ∧ Upd (· = c) w3 wr ∧ Blk wr c 557 (arrB (layB (schedAt key n).1 B))) (fun _ u _ => 60 - (intOf u).toNat)
      case atStart => exact ⟨0, by omega, rfl, rfl, HB.out.1, HB.out.2⟩
      case round =>
        clear HB
        obtain ⟨n, hn, rfl, rfl, hu, hB⟩ := hrel
        by_cases hlt : n < 52
        · have hWl := HSL.out n
          have hnx : schedAt key (n + 1) = ((schedAt key n).1 ++ (List.range 4).map (fun k => (schedAt key n).1.getD (4 * n + k) 0 ^^^ (wordK (n + 8) (schedAt key n).2 ((schedAt key n).1.drop (4 * (n + 7)))).getD k 0), if (n + 8) % 8 = 0 then twU (schedAt key n).2 else (schedAt key n).2) := rfl
          obtain ⟨⟨V, pw⟩, hVp⟩ : ∃ V, schedAt key n = V := ⟨_, rfl⟩
          rw [hVp] at hWl hnx hB ⊢
          simp only at hWl hnx hB ⊢
          have hl4 : (V.drop (4 * (n + 7))).length = 4 := by rw [List.length_drop]; omega
          obtain ⟨t0, t1, t2, t3, hT⟩ : ∃ a b c d, V.drop (4 * (n + 7)) = [a, b, c, d] := by
            match V.drop (4 * (n + 7)), hl4 with
            | [a, b, c, d], _ => exact ⟨a, b, c, d, rfl⟩
          rw [hT] at hnx
          have hgt : ∀ j, j < 4 → V.getD (4 * (n + 7) + j) 0 = [t0, t1, t2, t3].getD j 0 := fun j hj => by
            rw [← hT, List.getD_eq_getElem?_getD, List.getD_eq_getElem?_getD, List.getElem?_drop]
          have HB := Lib.hid (And.intro hu (And.intro hB (And.intro hWl (And.intro hgt hnx))))
          obtain ⟨i, hi⟩ : ∃ i, n + 8 = i := ⟨_, rfl⟩
          obtain ⟨m, hm⟩ : ∃ m, n + 7 = m := ⟨_, rfl⟩
          have HI := Lib.hid (And.intro hi hm)
          rw [hi]
          have j1 : IntKind.i64.wrap ((i : Int) - 1) = (m : Int) := by rw [IntWalk.i64_in _ (by omega)]; omega
          have j2 : (m : Int) < 60 := by omega
          have j3 : (i : Int) < 60 := by omega
          have j5 : ((i : Int) - 1) = (m : Int) := by omega
          clear hu hB hWl hgt hnx hVp hT hl4 hi hm
          have hpt : ∀ j v, ([.int .u8 (t0.toNat : Int), .int .u8 (t1.toNat : Int), .int .u8 (t2.toNat : Int), .int .u8 (t3.toNat : Int)] : List Value)[j]? = some v → (arrB (layB V B))[m * 4 + j]? = some v := fun j v e => by
            obtain ⟨hi, hm⟩ := HI.out
            have hWl := HB.out.2.2.1
            have hj : j < 4 := by have := (List.getElem?_eq_some_iff.1 e).1; simpa using this
            rw [arrB_get _ _ (by rw [layB_len _ _ (by omega)]; omega), layB_get _ _ _ (by omega), show m * 4 + j = 4 * (n + 7) + j by omega, HB.out.2.2.2.1 j hj, ← e]
            match j, hj with
            | 0, _ => rfl
            | 1, _ => rfl
            | 2, _ => rfl
            | 3, _ => rfl
          have HPT := Lib.hid hpt
          clear hpt
          by_cases h8 : i % 8 = 0
          ·
            --#a {
            have k1 : ((i : Int) % 8 == 0) = true := by simp; omega
            have k2 : ((i : Int) % 4 == 0) = true := by simp; omega
            go_wp2_with (first
              | (refine wpList_load_part rfl _ _ rfl c (m * 4) rfl _ _ [.int .u8 (t0.toNat : Int), .int .u8 (t1.toNat : Int), .int .u8 (t2.toNat : Int), .int .u8 (t3.toNat : Int)] _ HB.out.2.1 HPT.out Tryz.underlying554 rfl (by kernel_rfl) ?_))
            obtain ⟨gt, hgt⟩ : ∃ gt, wr.heap.size = gt := ⟨_, rfl⟩
            rw [hgt]
            generalize hwq : World.alloc _ _ = wq
            have hBq : Blk wq gt 554 (arrB [t1, t2, t3, t0]) := by rw [← hwq, ← hgt]; exact Blk.new wr _ _
            have hCq : Blk wq c 557 (arrB (layB V B)) := by rw [← hwq]; exact HB.out.2.1.alloc _
            have hUq : Upd (· = c) w3 wq := by rw [← hwq]; exact HB.out.1.alloc _
            have hgl : w3.heap.size ≤ gt := by rw [← hgt]; exact HB.out.1.size
            have hne : gt ≠ c := fun e => by have h1 := HB.out.2.1.lt; omega
            have HQ := Lib.hid (And.intro hBq (And.intro hCq (And.intro hUq (And.intro hgl hne))))
            clear hwq hBq hCq hUq hgl hne hgt
            go_loopw [8, 53] (fun _ u w' => ∃ k : Nat, k ≤ 4 ∧ u = .int .i64 (k : Int) ∧ Blk w' gt 554 (arrB (mapAt (fun b => B.getD b.toNat 0) [t1, t2, t3, t0] k)) ∧ Blk w' c 557 (arrB (layB V B)) ∧ Upd (· = c) w3 w') (fun _ u _ => 4 - (intOf u).toNat)
            case atStart => exact ⟨0, by omega, rfl, HQ.out.1, HQ.out.2.1, HQ.out.2.2.1⟩
            case round =>
              obtain ⟨k, hk, rfl, hBk, hCk, hUk⟩ := hrel
              by_cases hlt : k < 4
              · have hc1 := hBk.cellB k (by rw [mapAt_len]; exact hlt)
                rw [mapAt_get _ _ _ (by exact hlt)] at hc1
                have hst := mapAt_step (fun b => B.getD b.toNat 0) [t1, t2, t3, t0] k (by exact hlt)
                obtain ⟨x, hx⟩ : ∃ x, [t1, t2, t3, t0].getD k 0 = x := ⟨_, rfl⟩
                rw [hx] at hc1 hst
                have hxl := x.toNat_lt
                have hVl := HB.out.2.2.1
                have hc2 := hCk.cellB (240 + x.toNat) (by rw [layB_len _ _ (by omega), HK.out.2.2.2]; omega)
                rw [layB_box _ _ (by omega)] at hc2
                obtain ⟨y, hy⟩ : ∃ y, B.getD x.toNat 0 = y := ⟨_, rfl⟩
                rw [hy] at hc2
                simp only [hy] at hst
                have hf := hBk.frozen k
                have j7 : (k : Int) < 4 := by omega
                have j8 : (x.toNat : Int) < 256 := by omega
                have HBk := Lib.hid (And.intro hBk (And.intro hCk (And.intro hUk hst)))
                clear hBk hCk hUk hst hx hy hVl hxl j1 j5
                go_wp2_with fail
                go_still_tail 10, (by kernel_rfl)
                change wpList _ _ _ _ _ (World.drew _)
                go_wp2_with fail
                go_roundw
                case rel =>
                  refine ⟨k + 1, by omega, by go_num, ?_, ?_, ?_⟩
                  · rw [← HBk.out.2.2.2]; exact (HBk.out.1.setB k y).drew
                  · exact (HBk.out.2.1.far (p := ⟨gt, k, none⟩) (fun e => HQ.out.2.2.2.2 e.symm) _).drew
                  · exact (HBk.out.2.2.1.setCell (p := ⟨gt, k, none⟩) (.inr HQ.out.2.2.2.1) _).drew
                case measure => simp [intOf] <;> omega
              · obtain rfl : k = 4 := by omega
                have e4 : ((4 : Nat) : Int) = 4 := rfl
                rw [e4]
                rw [show mapAt (fun b => B.getD b.toNat 0) [t1, t2, t3, t0] 4 = [t1, t2, t3, t0].map (fun b => B.getD b.toNat 0) from mapAt_all _ [t1, t2, t3, t0]] at hBk
                clear e4 hlt hk
                have hc0 := hBk.cellB 0 (by show 0 < 4; omega)
                have hf0 := hBk.frozen 0
                have hx0 := xorB (B.getD t1.toNat 0) pw
                have HTW := Lib.hid (fun W => twice_c pw W)
                obtain ⟨a0, ha0⟩ : ∃ a, B.getD t1.toNat 0 = a := ⟨_, rfl⟩
                rw [show ([t1, t2, t3, t0].map (fun b => B.getD b.toNat 0)).getD 0 0 = a0 from ha0] at hc0
                rw [ha0] at hx0
                obtain ⟨z0, hz0⟩ : ∃ z, a0 ^^^ pw = z := ⟨_, rfl⟩
                rw [hz0] at hx0
                have HS := Lib.hid (And.intro hBk (And.intro hCk (And.intro hUk (And.intro ha0 hz0))))
                clear hBk hCk hUk ha0 hz0
                go_wp2_with fail
                refine (HTW.out _).mono ?_
                rintro e w9 ⟨rfl, rfl⟩
                have hBT := HS.out.1.setB 0 z0
                have hCT := HS.out.2.1.far (p := ⟨gt, 0, none⟩) (fun e => HQ.out.2.2.2.2 e.symm) (.int .u8 (z0.toNat : Int))
                have hUT := HS.out.2.2.1.setCell (p := ⟨gt, 0, none⟩) (.inr HQ.out.2.2.2.1) (.int .u8 (z0.toNat : Int))
                rw [show ([t1, t2, t3, t0].map fun b => B.getD b.toNat 0).set 0 z0 = [z0, B.getD t2.toNat 0, B.getD t3.toNat 0, B.getD t0.toNat 0] from rfl] at hBT
                obtain ⟨hax, hzx⟩ := HS.out.2.2.2
                clear HS hc0 hf0 hx0
                have hWl := HB.out.2.2.1
                obtain ⟨T, hT⟩ : ∃ T, [z0, B.getD t2.toNat 0, B.getD t3.toNat 0, B.getD t0.toNat 0] = T := ⟨_, rfl⟩
                rw [hT] at hBT
                have hTl : T.length = 4 := by rw [← hT]; rfl
                have hnx : schedAt key (n + 1) = (V ++ (List.range 4).map (fun k => V.getD (4 * n + k) 0 ^^^ T.getD k 0), twU pw) := by
                  obtain ⟨hi, hm⟩ := HI.out
                  rw [HB.out.2.2.2.2, ← hT]
                  have hBx := HK.out.2.2.1
                  subst hi
                  unfold wordK
                  simp only [hBx]
                  rw [if_pos h8, if_pos h8, if_pos (by omega : (n + 8) % 4 = 0), if_pos h8, ← hzx, ← hax]
                  rfl
                have HT := Lib.hid (And.intro hBT (And.intro hCT (And.intro hUT (And.intro hTl hnx))))
                clear hBT hCT hUT hTl hnx hT hWl j1 j5
                exact sched_tail

            --#a }
          · have k1 : ((i : Int) % 8 == 0) = false := by simp; omega
            by_cases h4 : i % 4 = 0
            ·
              --#b {
              have k2 : ((i : Int) % 4 == 0) = true := by simp; omega
              go_wp2_with (first
                | (refine wpList_load_part rfl _ _ rfl c (m * 4) rfl _ _ [.int .u8 (t0.toNat : Int), .int .u8 (t1.toNat : Int), .int .u8 (t2.toNat : Int), .int .u8 (t3.toNat : Int)] _ HB.out.2.1 HPT.out Tryz.underlying554 rfl (by kernel_rfl) ?_))
              obtain ⟨gt, hgt⟩ : ∃ gt, wr.heap.size = gt := ⟨_, rfl⟩
              rw [hgt]
              generalize hwq : World.alloc _ _ = wq
              have hBq : Blk wq gt 554 (arrB [t0, t1, t2, t3]) := by rw [← hwq, ← hgt]; exact Blk.new wr _ _
              have hCq : Blk wq c 557 (arrB (layB V B)) := by rw [← hwq]; exact HB.out.2.1.alloc _
              have hUq : Upd (· = c) w3 wq := by rw [← hwq]; exact HB.out.1.alloc _
              have hgl : w3.heap.size ≤ gt := by rw [← hgt]; exact HB.out.1.size
              have hne : gt ≠ c := fun e => by have h1 := HB.out.2.1.lt; omega
              have HQ := Lib.hid (And.intro hBq (And.intro hCq (And.intro hUq (And.intro hgl hne))))
              clear hwq hBq hCq hUq hgl hne hgt
              go_loopw [8, 53] (fun _ u w' => ∃ k : Nat, k ≤ 4 ∧ u = .int .i64 (k : Int) ∧ Blk w' gt 554 (arrB (mapAt (fun b => B.getD b.toNat 0) [t0, t1, t2, t3] k)) ∧ Blk w' c 557 (arrB (layB V B)) ∧ Upd (· = c) w3 w') (fun _ u _ => 4 - (intOf u).toNat)
              case atStart => exact ⟨0, by omega, rfl, HQ.out.1, HQ.out.2.1, HQ.out.2.2.1⟩
              case round =>
                obtain ⟨k, hk, rfl, hBk, hCk, hUk⟩ := hrel
                by_cases hlt : k < 4
                · have hc1 := hBk.cellB k (by rw [mapAt_len]; exact hlt)
                  rw [mapAt_get _ _ _ (by exact hlt)] at hc1
                  have hst := mapAt_step (fun b => B.getD b.toNat 0) [t0, t1, t2, t3] k (by exact hlt)
                  obtain ⟨x, hx⟩ : ∃ x, [t0, t1, t2, t3].getD k 0 = x := ⟨_, rfl⟩
                  rw [hx] at hc1 hst
                  have hxl := x.toNat_lt
                  have hVl := HB.out.2.2.1
                  have hc2 := hCk.cellB (240 + x.toNat) (by rw [layB_len _ _ (by omega), HK.out.2.2.2]; omega)
                  rw [layB_box _ _ (by omega)] at hc2
                  obtain ⟨y, hy⟩ : ∃ y, B.getD x.toNat 0 = y := ⟨_, rfl⟩
                  rw [hy] at hc2
                  simp only [hy] at hst
                  have hf := hBk.frozen k
                  have j7 : (k : Int) < 4 := by omega
                  have j8 : (x.toNat : Int) < 256 := by omega
                  have HBk := Lib.hid (And.intro hBk (And.intro hCk (And.intro hUk hst)))
                  clear hBk hCk hUk hst hx hy hVl hxl j1 j5
                  go_wp2_with fail
                  go_still_tail 10, (by kernel_rfl)
                  change wpList _ _ _ _ _ (World.drew _)
                  go_wp2_with fail
                  go_roundw
                  case rel =>
                    refine ⟨k + 1, by omega, by go_num, ?_, ?_, ?_⟩
                    · rw [← HBk.out.2.2.2]; exact (HBk.out.1.setB k y).drew
                    · exact (HBk.out.2.1.far (p := ⟨gt, k, none⟩) (fun e => HQ.out.2.2.2.2 e.symm) _).drew
                    · exact (HBk.out.2.2.1.setCell (p := ⟨gt, k, none⟩) (.inr HQ.out.2.2.2.1) _).drew
                  case measure => simp [intOf] <;> omega
                · obtain rfl : k = 4 := by omega
                  have e4 : ((4 : Nat) : Int) = 4 := rfl
                  rw [e4]
                  rw [show mapAt (fun b => B.getD b.toNat 0) [t0, t1, t2, t3] 4 = [t0, t1, t2, t3].map (fun b => B.getD b.toNat 0) from mapAt_all _ [t0, t1, t2, t3]] at hBk
                  clear e4 hlt hk
                  have hBT := hBk
                  have hCT := hCk
                  have hUT := hUk
                  clear hBk hCk hUk
                  have hWl := HB.out.2.2.1
                  obtain ⟨T, hT⟩ : ∃ T, ([t0, t1, t2, t3].map fun b => B.getD b.toNat 0) = T := ⟨_, rfl⟩
                  rw [hT] at hBT
                  have hTl : T.length = 4 := by rw [← hT]; rfl
                  have hnx : schedAt key (n + 1) = (V ++ (List.range 4).map (fun k => V.getD (4 * n + k) 0 ^^^ T.getD k 0), pw) := by
                    obtain ⟨hi, hm⟩ := HI.out
                    rw [HB.out.2.2.2.2, ← hT]
                    have hBx := HK.out.2.2.1
                    subst hi
                    unfold wordK
                    simp only [hBx]
                    rw [if_neg h8, if_neg h8, if_pos (by omega : (n + 8) % 4 = 0), if_neg h8]
                  have HT := Lib.hid (And.intro hBT (And.intro hCT (And.intro hUT (And.intro hTl hnx))))
                  clear hBT hCT hUT hTl hnx hT hWl j1 j5
                  exact sched_tail

              --#b }
            ·
              --#c {
              have k2 : ((i : Int) % 4 == 0) = false := by simp; omega
              go_wp2_with (first
                | (refine wpList_load_part rfl _ _ rfl c (m * 4) rfl _ _ [.int .u8 (t0.toNat : Int), .int .u8 (t1.toNat : Int), .int .u8 (t2.toNat : Int), .int .u8 (t3.toNat : Int)] _ HB.out.2.1 HPT.out Tryz.underlying554 rfl (by kernel_rfl) ?_))
              obtain ⟨gt, hgt⟩ : ∃ gt, wr.heap.size = gt := ⟨_, rfl⟩
              rw [hgt]
              generalize hwq : World.alloc _ _ = wq
              have hBq : Blk wq gt 554 (arrB [t0, t1, t2, t3]) := by rw [← hwq, ← hgt]; exact Blk.new wr _ _
              have hCq : Blk wq c 557 (arrB (layB V B)) := by rw [← hwq]; exact HB.out.2.1.alloc _
              have hUq : Upd (· = c) w3 wq := by rw [← hwq]; exact HB.out.1.alloc _
              have hgl : w3.heap.size ≤ gt := by rw [← hgt]; exact HB.out.1.size
              have hne : gt ≠ c := fun e => by have h1 := HB.out.2.1.lt; omega
              have HQ := Lib.hid (And.intro hBq (And.intro hCq (And.intro hUq (And.intro hgl hne))))
              clear hwq hBq hCq hUq hgl hne hgt
              have hBT := HQ.out.1
              have hCT := HQ.out.2.1
              have hUT := HQ.out.2.2.1
              have hWl := HB.out.2.2.1
              obtain ⟨T, hT⟩ : ∃ T, [t0, t1, t2, t3] = T := ⟨_, rfl⟩
              rw [hT] at hBT
              have hTl : T.length = 4 := by rw [← hT]; rfl
              have hnx : schedAt key (n + 1) = (V ++ (List.range 4).map (fun k => V.getD (4 * n + k) 0 ^^^ T.getD k 0), pw) := by
                obtain ⟨hi, hm⟩ := HI.out
                rw [HB.out.2.2.2.2, ← hT]
                have hBx := HK.out.2.2.1
                subst hi
                unfold wordK
                simp only [hBx]
                rw [if_neg h8, if_neg h8, if_neg (by omega : ¬ (n + 8) % 4 = 0), if_neg h8]
              have HT := Lib.hid (And.intro hBT (And.intro hCT (And.intro hUT (And.intro hTl hnx))))
              clear hBT hCT hUT hTl hnx hT hWl j1 j5
              exact sched_tail

              --#c }
        · obtain rfl : n = 52 := by omega
          have e60 : ((52 + 8 : Nat) : Int) = 60 := rfl
          have hWl := HSL.out 52
          have hfin : layB (schedAt key 52).1 B = S ++ B := by
            unfold layB
            rw [hWl, ← HK.out.2.1, show 240 - (32 + 4 * 52) = 0 from rfl, List.replicate_zero, List.append_nil]
            rfl
          rw [hfin] at hB
          rw [e60]
          clear hfin hWl e60 hlt hn
          go_wp2_with fail
          go_ret
          exact ⟨c, rfl, hB, by have := HG.out; omega, HW3.out.2.1.then hu (fun q hq => .inr (by have := HG.out; omega))⟩
end Go.Proofs.YtdfgmieinbmfkaaGreat
