/-
  The sum of a text, as the program computes it: the table of half bytes, and the loop over the text.
-/
import Derived.Test.YtdfgmieinbmfkaaGreatOwn
import Derived.Test.YtdfgmieinbmfkaaGreatProg
namespace Go.Proofs.YtdfgmieinbmfkaaGreat
open Go Go.RowKit

/-- One bit's step, in the model's own words. -/
def bst (c : Int) : Int := if bits .and .u32 c 1 = 1 then bits .xor .u32 (c / 2) 3988292384 else c / 2
def bstN : Nat → Int → Int
  | 0, c => c
  | n + 1, c => bst (bstN n c)
/-- What becomes of half a byte. -/
def tb (i : Nat) : Int := bstN 4 i
def tabV : Array Value := #[.int .u32 (tb 0), .int .u32 (tb 1), .int .u32 (tb 2), .int .u32 (tb 3), .int .u32 (tb 4), .int .u32 (tb 5), .int .u32 (tb 6), .int .u32 (tb 7), .int .u32 (tb 8), .int .u32 (tb 9), .int .u32 (tb 10), .int .u32 (tb 11), .int .u32 (tb 12), .int .u32 (tb 13), .int .u32 (tb 14), .int .u32 (tb 15)]
theorem tabV_size : tabV.size = 16 := rfl
theorem tabV_get (i : Nat) (hi : i < 16) : tabV[i]? = some (.int .u32 (tb i)) := by
  match i, hi with
  | 0, _ | 1, _ | 2, _ | 3, _ | 4, _ | 5, _ | 6, _ | 7, _ | 8, _ | 9, _ | 10, _ | 11, _ | 12, _ | 13, _ | 14, _ | 15, _ => rfl
  | n + 16, h => omega
theorem tabV_one : tabV.all (·.oneCell') = true := by simp [tabV, Value.oneCell']
theorem bst_yes {c : Int} (h : bits .and .u32 c 1 = 1) : bst c = bits .xor .u32 (c / 2) 3988292384 := by simp [bst, h]
theorem bst_no {c : Int} (h : ¬ bits .and .u32 c 1 = 1) : bst c = c / 2 := by simp [bst, h]
def nibI (x : Int) : Int := bits .xor .u32 (x / 16) (tb (bits .and .u32 x 15).toNat)
def crcB (c : Int) (y : UInt8) : Int := nibI (nibI (bits .xor .u32 c y.toNat))
/-- The register behind these bytes. -/
def crcL (l : List UInt8) : Int := l.foldl crcB 4294967295
/-- The sum. -/
def sumI (l : List UInt8) : Int := bits .xor .u32 IntKind.u32.max (crcL l)
theorem bits_u32_range (op : BinOp) (h : op = .xor ∨ op = .and) (a b : Int) : 0 ≤ bits op .u32 a b ∧ bits op .u32 a b < 4294967296 := by
  rcases h with rfl | rfl
  · have e : bits .xor .u32 a b = IntKind.u32.wrap ((BitVec.ofInt 32 a ^^^ BitVec.ofInt 32 b).toNat : Int) := rfl
    rw [e]
    generalize (BitVec.ofInt 32 a ^^^ BitVec.ofInt 32 b).toNat = n
    rw [IntKind.wrap_u32']
    omega
  · have e : bits .and .u32 a b = IntKind.u32.wrap ((BitVec.ofInt 32 a &&& BitVec.ofInt 32 b).toNat : Int) := rfl
    rw [e]
    generalize (BitVec.ofInt 32 a &&& BitVec.ofInt 32 b).toNat = n
    rw [IntKind.wrap_u32']
    omega
/-- The sum, as a natural number. -/
def sumN (l : List UInt8) : Nat := (sumI l).toNat
theorem sumI_eq (l : List UInt8) : sumI l = (sumN l : Int) := by
  have h := (bits_u32_range .xor (.inl rfl) IntKind.u32.max (crcL l)).1
  unfold sumN
  exact (Int.toNat_of_nonneg h).symm
theorem sumN_lt (l : List UInt8) : sumN l < 4294967296 := by
  have h := (bits_u32_range .xor (.inl rfl) IntKind.u32.max (crcL l))
  have e := sumI_eq l
  unfold sumI at e
  omega
theorem crcL_snoc (l : List UInt8) (y : UInt8) : crcL (l ++ [y]) = crcB (crcL l) y := by simp [crcL]
theorem nib (x : Int) : 0 ≤ bits .and .u32 x 15 ∧ bits .and .u32 x 15 < 16 := by
  have h : bits .and .u32 x 15 = IntKind.u32.wrap ((BitVec.ofInt 32 x &&& BitVec.ofInt 32 15).toNat : Int) := rfl
  have h2 : (BitVec.ofInt 32 x &&& BitVec.ofInt 32 15).toNat < 16 := by
    rw [BitVec.toNat_and]
    have : (BitVec.ofInt 32 15).toNat = 15 := rfl
    rw [this]
    exact Nat.lt_of_le_of_lt Nat.and_le_right (by omega)
  rw [h]
  generalize (BitVec.ofInt 32 x &&& BitVec.ofInt 32 15).toNat = n at h2
  rw [IntKind.wrap_u32']
  omega
theorem take_snoc (s : ByteArray) (k : Nat) (h : k < s.size) : s.data.toList.take (k + 1) = s.data.toList.take k ++ [s[k]] := by
  rw [List.take_succ_eq_append_getElem (by simpa using h)]; rfl

theorem nodup_ext16 {vs : Array Value} (h : vs.size = 16) (hall : ∀ j, j < 16 → vs[j]? = some (.int .u32 (tb j))) : vs = tabV := by
  apply Array.ext_getElem?
  intro i
  by_cases hi : i < 16
  · rw [hall i hi, tabV_get i hi]
  · rw [Array.getElem?_eq_none (by omega), Array.getElem?_eq_none (by rw [tabV_size]; omega)]

set_option maxRecDepth 100000 in
set_option maxHeartbeats 400000 in
theorem table_c (w : World) :
    Calls Tryz.prog 487 #[] w fun e w' => e = .returned (.agg tabV) ∧ Below w.heap.size w w' := by
  go_enter Tryz.func487, Tryz.ntmps487
  go_wp2_with fail
  go_loopw [1, 2, 3] (fun _ _ i wr => ∃ (k : Nat) (vs : Array Value), k ≤ 16 ∧ i = .int .i64 k ∧ Blk wr w.heap.size 579 vs ∧ vs.size = 16 ∧ (∀ j, j < k → vs[j]? = some (.int .u32 (tb j))) ∧ Below w.heap.size w wr) (fun _ _ i _ => 16 - (intOf i).toNat)
  case atStart => exact ⟨0, _, by omega, rfl, Blk.new _ _ _, rfl, by omega, (Below.refl _ _).alloc (Nat.le_refl _) _⟩
  case round =>
    obtain ⟨k, vs, hk, rfl, hB, hvs, hall, hbel⟩ := hrel
    by_cases hlt : k < 16
    · have Hall := Lib.hid hall
      clear hall
      go_wp2_with fail
      obtain ⟨wo, rfl⟩ : ∃ wo : World, wo = wr := ⟨_, rfl⟩
      go_loop [2, 8] (fun c m => ∃ (n : Nat), n ≤ 4 ∧ m = .int .i64 n ∧ c = .int .u32 (bstN n k)) (fun _ m => 4 - (intOf m).toNat)
      case atStart => exact ⟨0, by omega, rfl, rfl⟩
      case round =>
        obtain ⟨n, hn, rfl, rfl⟩ := hrel
        by_cases hn4 : n < 4
        · by_cases hbit : bits .and .u32 (bstN n k) 1 = 1
          · have hb1 : (bits .and .u32 (bstN n k) 1 == 1) = true := by simp [hbit]
            have hstep := Lib.hid (bst_yes hbit)
            clear hbit
            go_wp2
            go_round
            case rel => exact ⟨n + 1, by omega, by go_num, by rw [bstN, hstep.out]⟩
            case measure => simp [intOf]; omega
          · have hb1 : (bits .and .u32 (bstN n k) 1 == 1) = false := by simp [hbit]
            have hstep := Lib.hid (bst_no hbit)
            clear hbit
            go_wp2
            go_round
            case rel => exact ⟨n + 1, by omega, by go_num, by rw [bstN, hstep.out]⟩
            case measure => simp [intOf]; omega
        · obtain rfl : n = 4 := by omega
          have hc := hB.cell k
          have hf := hB.frozen k
          rw [Array.getElem?_eq_getElem (by omega)] at hc
          go_wp2
          go_roundw
          case rel =>
            refine ⟨k + 1, vs.setIfInBounds k (.int .u32 (bstN 4 k)), by omega, by go_num, hB.set_ k _, by simpa using hvs, ?_, hbel.setCell (Nat.le_refl _) _⟩
            intro j hj
            by_cases hjk : j = k
            · subst hjk
              simp [hvs, hlt, tb]
            · rw [Array.getElem?_setIfInBounds_ne (Ne.symm hjk)]
              exact Hall.out j (by omega)
          case measure => simp [intOf]; omega
    · obtain rfl : k = 16 := by omega
      have hv : vs = tabV := nodup_ext16 hvs hall
      subst hv
      clear hall
      go_wp2_with (first | (refine wpList_load_all rfl _ _ rfl w.heap.size rfl _ tabV _ hB Tryz.underlying579 rfl rfl ?_) | (refine wpList_store_all rfl 579 _ _ rfl w.heap.size tabV rfl rfl _ tabV hB rfl tabV_one (by kernel_rfl) ?_; intro w2 hB2 hU2 hs2))
      refine bodyPost_ret (results_cell_row rfl _ _ w.heap.size _ tabV _ _ rfl hB2 Tryz.underlying579 rfl rfl) rfl ⟨rfl, ?_⟩
      exact hbel.trans ⟨hU2.os, hU2.tape, hU2.output, hU2.size, fun b hb => hU2.block b (Nat.lt_of_lt_of_le hb hbel.size) (by omega)⟩
set_option maxRecDepth 100000 in
set_option maxHeartbeats 400000 in
theorem Sum_c (s : ByteArray) (w : World) (hs : s.size ≤ 9223372036854775807) :
    Calls Tryz.prog 418 #[.string s] w fun e w' => e = .returned (.int .u32 (sumN s.data.toList : Int)) ∧ Below w.heap.size w w' := by
  go_enter Tryz.func418, Tryz.ntmps418
  go_wp2_with fail
  refine (table_c _).mono ?_
  rintro e w1 ⟨rfl, hb1⟩
  unfold tabV
  go_wp2_with fail
  generalize hW : w1.alloc _ = W
  have hcell : ∀ i : Nat, i < 16 → W.cell? ⟨w1.heap.size, i, none⟩ = some (.int .u32 (tb i)) := by
    intro i hi
    rw [← hW, World.cell?_alloc_new]
    exact tabV_get i hi
  have hb2 : Below w.heap.size w W := by rw [← hW]; exact hb1.alloc hb1.size _
  have Hcell := Lib.hid hcell
  clear hcell hW
  go_loop [4, 9] (fun c i => ∃ k : Nat, k ≤ s.size ∧ i = .int .i64 k ∧ c = .int .u32 (crcL (s.data.toList.take k))) (fun _ i => s.size - (intOf i).toNat)
  case atStart => exact ⟨0, by omega, rfl, rfl⟩
  case round =>
    obtain ⟨k, hk, rfl, rfl⟩ := hrel
    by_cases hlt : k < s.size
    · have HS : Hid (crcL (s.data.toList.take (k + 1)) = crcB (crcL (s.data.toList.take k)) s[k]) := by rw [take_snoc s k hlt]; exact crcL_snoc _ _
      generalize crcL (s.data.toList.take k) = c' at HS
      have hy : ((s[k]'hlt).toNat : Int) < 256 := by have := (s[k]'hlt).toNat_lt; omega
      have l1 := nib (bits .xor .u32 c' (s[k]'hlt).toNat)
      have g1 := Hcell.out (bits .and .u32 (bits .xor .u32 c' (s[k]'hlt).toNat) 15).toNat (by omega)
      have l2 := nib (bits .xor .u32 (bits .xor .u32 c' (s[k]'hlt).toNat / 16) (tb (bits .and .u32 (bits .xor .u32 c' (s[k]'hlt).toNat) 15).toNat))
      have g2 := Hcell.out (bits .and .u32 (bits .xor .u32 (bits .xor .u32 c' (s[k]'hlt).toNat / 16) (tb (bits .and .u32 (bits .xor .u32 c' (s[k]'hlt).toNat) 15).toNat)) 15).toNat (by omega)
      go_wp2
      go_round
      case rel => exact ⟨k + 1, by omega, by go_num, by rw [HS.out]; rfl⟩
      case measure => simp [intOf]; omega
    · go_wp2
      go_ret
      refine ⟨?_, hb2⟩
      rw [List.take_of_length_le (by simp; omega), ← sumI_eq]
      rfl
end Go.Proofs.YtdfgmieinbmfkaaGreat
