/-
  The document's own Sum of chapter 07.
-/
import Derived.Test.YtafgohnpnaiomaaCrc
namespace Go.Proofs.Ytafgohnpnaiomaa
open Go Go.RowKit

theorem crcN_snoc (c : Nat) (l : List UInt8) (y : UInt8) : crcN c (l ++ [y]) = Bn 8 (crcN c l ^^^ y.toNat) := by simp [crcN]
theorem Bs_odd {x : Nat} (hx : x < 4294967296) (h : x % 2 = 1) : bits .xor .u32 ((x / 2 : Nat) : Int) 3988292384 = ((Bs x : Nat) : Int) := by
  have e : (3988292384 : Int) = ((3988292384 : Nat) : Int) := rfl
  rw [e, xorN _ _ (by omega) (by omega)]
  unfold Bs
  rw [if_pos h]
theorem Bs_even {x : Nat} (h : ¬ x % 2 = 1) : x / 2 = Bs x := by
  unfold Bs
  rw [if_neg h, Nat.xor_zero]
set_option maxRecDepth 100000 in
set_option maxHeartbeats 400000 in
theorem refSum_c (s : ByteArray) (w : World) (hs : s.size ≤ 9223372036854775807) :
    Calls Try.prog 72 #[.string s] w fun e w' => e = .returned (.int .u32 (sumN s.data.toList : Int)) ∧ w = w' := by
  go_enter Try.func72, Try.ntmps72
  go_wp2_with fail
  go_loop [3, 4, 5, 6] (fun c i _ _ => ∃ k : Nat, k ≤ s.size ∧ i = .int .i64 k ∧ c = .int .u32 (crcN 4294967295 (s.data.toList.take k) : Nat)) (fun _ i _ _ => s.size - (intOf i).toNat)
  case atStart => exact ⟨0, by omega, rfl, rfl⟩
  case round =>
    obtain ⟨k, hk, rfl, rfl⟩ := hrel
    by_cases hlt : k < s.size
    · have HS : Hid (crcN 4294967295 (s.data.toList.take (k + 1)) = Bn 8 (crcN 4294967295 (s.data.toList.take k) ^^^ (s[k]'hlt).toNat)) := by
        show _ = _
        rw [take_snoc s k hlt, crcN_snoc]
      have hc := crcN_lt 4294967295 (s.data.toList.take k) (by omega)
      generalize crcN 4294967295 (s.data.toList.take k) = c' at *
      have hy : ((s[k]'hlt).toNat : Int) < 256 := by have := (s[k]'hlt).toNat_lt; omega
      have hyn : (s[k]'hlt).toNat < 4294967296 := by omega
      have hx : c' ^^^ (s[k]'hlt).toNat < 4294967296 := Nat.xor_lt_two_pow (n := 32) hc hyn
      have hxe := xorN c' (s[k]'hlt).toNat hc hyn
      have HX := Lib.hid (And.intro hx hxe)
      clear hx hxe
      go_wp2_with fail
      rw [HX.out.2]
      have hx := HX.out.1
      clear HX
      generalize c' ^^^ (s[k]'hlt).toNat = X at *
      go_loop [3, 5, 6] (fun c m _ => ∃ (n : Nat), n ≤ 8 ∧ m = .int .i64 n ∧ c = .int .u32 (Bn n X : Nat)) (fun _ m _ => 8 - (intOf m).toNat)
      case atStart => exact ⟨0, by omega, rfl, rfl⟩
      case round =>
        obtain ⟨n, hn, rfl, rfl⟩ := hrel
        by_cases hn8 : n < 8
        · have hB := Bn_lt n X hx
          have HN : Hid (Bn (n + 1) X = Bs (Bn n X)) := Bn_succ n X
          generalize Bn n X = b at *
          by_cases hbit : b % 2 = 1
          · have HB := Lib.hid (Bs_odd hB hbit)
            have hb1 : ((b : Int) % 2 == 1) = true := by rw [beq_iff_eq]; omega
            clear hbit
            go_wp2_with fail
            go_round
            case rel => exact ⟨n + 1, by omega, by go_num, by rw [HN.out, ← HB.out]; rfl⟩
            case measure => simp [intOf]; omega
          · have HB := Lib.hid (Bs_even hbit)
            have hb1 : ((b : Int) % 2 == 1) = false := by rw [beq_eq_false_iff_ne]; omega
            clear hbit
            go_wp2_with fail
            go_round
            case rel => exact ⟨n + 1, by omega, by go_num, by rw [HN.out, ← HB.out]; rfl⟩
            case measure => simp [intOf]; omega
        · obtain rfl : n = 8 := by omega
          go_wp2_with fail
          go_round
          case rel => exact ⟨k + 1, by omega, by go_num, by rw [HS.out]⟩
          case measure => simp [intOf]; omega
    · go_wp2_with fail
      go_ret
      refine ⟨?_, rfl⟩
      have hc := crcN_lt 4294967295 s.data.toList (by omega)
      have e : (4294967295 : Int) = ((4294967295 : Nat) : Int) := rfl
      rw [List.take_of_length_le (by simp; omega), sumN_nat, e, xorN _ _ hc (by omega), Nat.xor_comm]
      rfl
theorem le4 (n : Nat) (h : n < 4294967296) : ((leB n 4).map fun b => ((b.toNat : Nat) : Int)) = [(n : Int) % 256, (n : Int) / 256 % 256, (n : Int) / 65536 % 256, (n : Int) / 16777216] := by
  have e : leB n 4 = [UInt8.ofNat (n / 2 ^ (8 * 0)), UInt8.ofNat (n / 2 ^ (8 * 1)), UInt8.ofNat (n / 2 ^ (8 * 2)), UInt8.ofNat (n / 2 ^ (8 * 3))] := rfl
  rw [e]
  simp only [List.map_cons, List.map_nil]
  rw [byteV, byteV, byteV, byteV]
  congr 1
  · simp
  · congr 1
    · congr 1
      · congr 1
        simp
        omega
theorem run_le4 (w : World) (n : Nat) (h : n < 4294967296) :
    (convert 30 9 (.slice (some ⟨w.heap.size, 0, none⟩) 4 4)).run Try.prog (w.alloc (.cells #[.int .u8 ((n : Int) % 256), .int .u8 ((n : Int) / 256 % 256), .int .u8 ((n : Int) / 65536 % 256), .int .u8 ((n : Int) / 16777216)] 5)) = .ok (.string (str (leB n 4))) (w.alloc (.cells #[.int .u8 ((n : Int) % 256), .int .u8 ((n : Int) / 256 % 256), .int .u8 ((n : Int) / 65536 % 256), .int .u8 ((n : Int) / 16777216)] 5)) := by
  rw [← strOfNums_bytes, le4 n h]
  refine run_convert_bytes_arg _ _ _ Try.underlying30 Try.underlying5 _ 0 4 4 _ rfl (fun i hi => ?_) _ Try.underlying9
  rw [Nat.zero_add, World.cell?_alloc_new]
  match i, hi with
  | 0, _ => rfl
  | 1, _ => rfl
  | 2, _ => rfl
  | 3, _ => rfl
theorem closeL_str (s : ByteArray) : s ++ str (leB (sumN s.data.toList) 4) = str (closeL s.data.toList) := by
  apply ByteArray.ext
  simp [str, closeL]

set_option maxRecDepth 100000 in
set_option maxHeartbeats 400000 in
theorem refClose_c (s : ByteArray) (w : World) (hs : s.size ≤ 4000) :
    Calls Try.prog 69 #[.string s] w fun e w' => e = .returned (.string (str (closeL s.data.toList))) ∧ Upd (fun _ => False) w w' := by
  have hlt := sumN_lt s.data.toList
  have hrun := run_le4 w _ hlt
  have hsz : (9223372036854775807 < s.size + (str (leB (sumN s.data.toList) 4)).size) = False := by
    rw [str_size, leB_len]
    simp
    omega
  go_enter Try.func69, Try.ntmps69
  go_wp2_with fail
  refine (refSum_c s _ (by omega)).mono ?_
  rintro e w' ⟨rfl, rfl⟩
  go_wp2_with fail
  go_ret
  refine ⟨?_, Upd.of_below ((Below.refl _ _).alloc (Nat.le_refl _) _) _⟩
  rw [closeL_str]
  rfl

theorem leB_leN (l : List UInt8) : leB (leN l) l.length = l := by
  induction l with
  | nil => rfl
  | cons b l ih =>
    have hb := b.toNat_lt
    unfold leB at ih ⊢
    rw [List.length_cons, List.range_succ_eq_map, List.map_cons, List.map_map]
    congr 1
    · apply UInt8.toNat.inj
      simp [leN]
    · refine Eq.trans (List.map_congr_left fun i _ => ?_) ih
      show UInt8.ofNat (leN (b :: l) / 2 ^ (8 * (i + 1))) = _
      congr 1
      rw [show 8 * (i + 1) = 8 + 8 * i by omega, Nat.pow_add, ← Nat.div_div_eq_div_mul]
      congr 1
      rw [leN]
      omega
/-- A sector is closed just if its sum is right. -/
theorem close_take {l : List UInt8} (h : l.length = 64) : closeL (l.take 60) = l ↔ leN (l.drop 60) = sumN (l.take 60) := by
  have h4 : (l.drop 60).length = 4 := by simp [h]
  have hlt := sumN_lt (l.take 60)
  have ht : l = l.take 60 ++ l.drop 60 := (List.take_append_drop 60 l).symm
  unfold closeL
  constructor
  · intro e
    have e2 : leB (sumN (l.take 60)) 4 = l.drop 60 := List.append_cancel_left (e.trans ht)
    rw [← e2, leN_leB _ _ (by omega)]
  · intro e
    rw [← e]
    have := leB_leN (l.drop 60)
    rw [h4] at this
    rw [this, ← ht]

def zerosV : Array Value := Array.replicate 64 (.int .u8 0)
theorem run_zeros (w : World) (b : Nat) (h : ∀ i, i < 64 → w.cell? ⟨b, i, none⟩ = some (.int .u8 0)) :
    (convert 30 9 (.slice (some ⟨b, 0, none⟩) 64 64)).run Try.prog w = .ok (.string (str (List.replicate 64 0))) w := by
  rw [← strOfNums_bytes]
  refine run_convert_bytes_arg _ _ _ Try.underlying30 Try.underlying5 _ 0 64 64 _ (by simp) (fun i hi => ?_) _ Try.underlying9
  rw [Nat.zero_add, h i hi, List.map_replicate, List.getD_eq_getElem?_getD, List.getElem?_replicate_of_lt hi]
  rfl
theorem mk_zeros (w : World) : (Instr.makeSlice 30 (.int .i64 64) (.int .i64 64)).run Try.prog w = .ok (.slice (some ⟨w.heap.size, 0, none⟩) 64 64) (w.alloc (.cells zerosV 5)) := by kernel_rfl
theorem list_beq {a b : ByteArray} : (a.toList == b.toList) = true ↔ a.data.toList = b.data.toList := by
  rw [beq_iff_eq, ByteArray.toList_eq, ByteArray.toList_eq]
theorem list_bne {a b : ByteArray} : (a.toList != b.toList) = true ↔ a.data.toList ≠ b.data.toList := by
  rw [bne_iff_ne, ByteArray.toList_eq, ByteArray.toList_eq]
set_option maxRecDepth 100000 in
set_option maxHeartbeats 800000 in
theorem refLook_c (s : ByteArray) (w : World) (hs : s.size ≤ 9223372036854775807) :
    Calls Try.prog 70 #[.string s] w fun e w' => e = .returned (.tuple #[.string (str (lookL s.data.toList).1), .int .i64 (lookL s.data.toList).2]) ∧ Upd (fun _ => False) w w' := by
  by_cases h64 : s.size = 64
  · have hb : ((s.size : Int) != 64) = false := by rw [h64]; rfl
    have hmk := mk_zeros w
    have hcv := run_zeros (w.alloc (.cells zerosV 5)) w.heap.size (fun i hi => by rw [World.cell?_alloc_new]; simp [zerosV, hi])
    have hu : Upd (fun _ => False) w (w.alloc (.cells zerosV 5)) := Upd.of_below ((Below.refl _ _).alloc (Nat.le_refl _) _) _
    generalize zerosV = Z at *
    by_cases hz : s.data.toList = List.replicate 64 0
    · have hl : lookL s.data.toList = ([], 0) := by unfold lookL; rw [if_neg (by simp [h64]), if_pos hz]
      have hq : (s.toList == (str (List.replicate 64 0)).toList) = true := list_beq.2 (by rw [str_list]; exact hz)
      rw [hl]
      clear hl hz h64
      generalize str (List.replicate 64 0) = zz at *
      go_enter Try.func70, Try.ntmps70
      go_wp2_with fail
      go_ret2
      exact ⟨rfl, hu⟩
    · have hq : (s.toList == (str (List.replicate 64 0)).toList) = false := by
        rw [← Bool.not_eq_true, list_beq, str_list]
        exact hz
      have hex := extract_str s 60
      have hge : 60 ≤ s.size := by omega
      have HZ := Lib.hid hz
      have H64 := Lib.hid h64
      clear hz h64
      generalize str (List.replicate 64 0) = zz at *
      go_enter Try.func70, Try.ntmps70
      by_cases hf : leN (s.data.toList.drop 60) = sumN (s.data.toList.take 60)
      · have hc : ((str (closeL (s.data.toList.take 60))).toList == s.toList) = true := by
          rw [list_beq, str_list]
          exact (close_take (by simpa using H64.out)).2 hf
        have HL : Hid (lookL s.data.toList = (s.data.toList.take 60, 1)) := by
          show _ = _
          unfold lookL; rw [if_neg (by simp [H64.out]), if_neg HZ.out, if_neg (by omega)]
        clear hf
        go_wp2_with fail
        refine (refClose_c (str (s.data.toList.take 60)) _ (by rw [str_size, List.length_take]; omega)).mono ?_
        rintro e w2 ⟨rfl, hu2⟩
        rw [str_list]
        generalize str (closeL (s.data.toList.take 60)) = C at *
        go_wp2_with fail
        go_ret2
        refine ⟨?_, hu.trans hu2 (fun _ h => h.elim) (fun _ h => h.elim)⟩
        rw [HL.out]
        dsimp only
        try rw [hex]
        generalize str (s.data.toList.take 60) = r
        rfl
      · have hc : ((str (closeL (s.data.toList.take 60))).toList == s.toList) = false := by
          rw [← Bool.not_eq_true, list_beq, str_list]
          exact fun e => hf ((close_take (by simpa using H64.out)).1 e)
        have HL : Hid (lookL s.data.toList = ([], 2)) := by
          show _ = _
          unfold lookL; rw [if_neg (by simp [H64.out]), if_neg HZ.out, if_pos (by omega)]
        clear hf
        go_wp2_with fail
        refine (refClose_c (str (s.data.toList.take 60)) _ (by rw [str_size, List.length_take]; omega)).mono ?_
        rintro e w2 ⟨rfl, hu2⟩
        rw [str_list]
        generalize str (closeL (s.data.toList.take 60)) = C at *
        go_wp2_with fail
        go_ret2
        refine ⟨?_, hu.trans hu2 (fun _ h => h.elim) (fun _ h => h.elim)⟩
        rw [HL.out]
        rfl
  · have hb : ((s.size : Int) != 64) = true := by rw [bne_iff_ne]; omega
    have hl : lookL s.data.toList = ([], 2) := by unfold lookL; rw [if_pos (by simpa using h64)]
    rw [hl]
    clear hl h64
    go_enter Try.func70, Try.ntmps70
    go_wp2_with fail
    go_ret2
    exact ⟨rfl, Upd.refl _ _⟩
end Go.Proofs.Ytafgohnpnaiomaa
