/-
  The document's records of chapter 10: numbers, and a record's sectors.
-/
import Derived.Test.YtpfbgmfkeofefaaGreatLogAdd
import Derived.Test.YtpfbgmfkeofefaaGreatRefH
import Derived.Test.YtpfbgmfkeofefaaGreatFlow
import Derived.Test.YtpfbgmfkeofefaaGreatOpen10
import Derived.Test.YtpfbgmfkeofefaaGreatArgs
import Derived.BigQuiet
namespace Go.Proofs.YtpfbgmfkeofefaaGreat
open Go Go.RowKit

set_option maxRecDepth 100000 in
set_option maxHeartbeats 400000 in
theorem refEight_c (gen : Nat) (w : World) :
    Calls Tryz.prog 92 #[.int .u64 (gen : Int)] w fun e w' => e = .returned (.string (str (leB gen 8))) ∧ Upd (fun _ => False) w w' := by
  go_enter Tryz.func92, Tryz.ntmps92
  go_wp2_with fail
  go_loopw [3, 4] (fun b i wx => ∃ j : Nat, j ≤ 8 ∧ i = .int .i64 (j : Int) ∧ b = .string (str (leB gen j)) ∧ Upd (fun _ => False) w wx) (fun _ i _ => 8 - (intOf i).toNat)
  case atStart => exact ⟨0, by omega, rfl, rfl, Upd.refl _ _⟩
  case round =>
    obtain ⟨j, hj, rfl, rfl, hU⟩ := hrel
    have HU := Lib.hid hU
    clear hU
    by_cases hj8 : j < 8
    · obtain ⟨y, hy⟩ : ∃ y, UInt8.ofNat (gen / 2 ^ (8 * j)) = y := ⟨_, rfl⟩
      have HS : Hid (str (leB gen j) ++ str [y] = str (leB gen (j + 1))) := by
        show _ = _
        rw [str_add, leB_snoc, hy]
      have hbs : (str (leB gen j)).size = j := by rw [str_size, leB_len]
      obtain ⟨S, hS⟩ : ∃ S, str (leB gen j) = S := ⟨_, rfl⟩
      rw [hS] at HS hbs ⊢
      have hadd : (9223372036854775807 < S.size + (str [y]).size) = False := by
        rw [str_size]; simp; omega
      have hcv : ∀ W : World, _ := fun W => conv_one W ((gen : Int) / 2 ^ (8 * j) % 256) y (by rw [← hy, byteV]; push_cast; rfl)
      clear hbs hS hy
      go_wp2_with fail
      rw [HS.out]
      go_roundw
      case rel => exact ⟨j + 1, by omega, by go_num, rfl, HU.out.alloc _⟩
      case measure => simp [intOf]; omega
    · obtain rfl : j = 8 := by omega
      go_wp2_with fail
      go_ret
      exact ⟨rfl, HU.out⟩
set_option maxRecDepth 100000 in
set_option maxHeartbeats 400000 in
theorem refNumber_c (s : ByteArray) (at_ : Nat) (w : World) (hs : at_ + 8 ≤ s.size) (hs2 : s.size ≤ 1000000) :
    Calls Tryz.prog 86 #[.string s, .int .i64 (at_ : Int)] w fun e w' => e = .returned (.int .u64 (leN ((s.data.toList.drop at_).take 8) : Int)) ∧ w = w' := by
  have hl : s.data.toList.length = s.size := by simp
  go_enter Tryz.func86, Tryz.ntmps86
  go_wp2_with fail
  go_loop [5, 6] (fun n i => ∃ m : Nat, m ≤ 8 ∧ i = .int .i64 ((m : Int) - 1) ∧ n = .int .u64 (leN (((s.data.toList.drop at_).take 8).drop m) : Int)) (fun _ i => ((intOf i) + 1).toNat)
  case atStart =>
    refine ⟨8, by omega, by go_num, ?_⟩
    rw [List.drop_of_length_le (by simp; omega)]
    rfl
  case round =>
    obtain ⟨m, hm, rfl, rfl⟩ := hrel
    cases m with
    | zero =>
      go_wp2_with fail
      go_ret
      exact ⟨rfl, rfl⟩
    | succ k =>
      have hst := leN_drop ((s.data.toList.drop at_).take 8) k (by rw [List.length_take, List.length_drop]; omega)
      have hlt := leN_lt (((s.data.toList.drop at_).take 8).drop (k + 1))
      have h7 : (((s.data.toList.drop at_).take 8).drop (k + 1)).length ≤ 7 := by simp; omega
      have hlt7 : leN (((s.data.toList.drop at_).take 8).drop (k + 1)) < 72057594037927936 := Nat.lt_of_lt_of_le hlt (Nat.pow_le_pow_right (by omega) (show 8 * (((s.data.toList.drop at_).take 8).drop (k + 1)).length ≤ 56 by omega))
      have hk : at_ + k < s.size := by omega
      have hb : (((s.data.toList.drop at_).take 8)[k]'(by rw [List.length_take, List.length_drop]; omega)).toNat = (s[at_ + k]).toNat := by rw [List.getElem_take, List.getElem_drop]; rfl
      rw [hb] at hst
      have hy := (s[at_ + k]).toNat_lt
      obtain ⟨N, hN⟩ : ∃ N, leN (((s.data.toList.drop at_).take 8).drop (k + 1)) = N := ⟨_, rfl⟩
      rw [hN] at hst hlt7 ⊢
      have HK := Lib.hid hst
      clear hst hN hlt h7 hb
      go_wp2_with fail
      go_round
      case rel =>
        refine ⟨k, by omega, by go_num, ?_⟩
        rw [HK.out]
        congr 1
        omega
      case measure => simp [intOf]
set_option maxRecDepth 100000 in
set_option maxHeartbeats 400000 in
theorem refParts_c (s : ByteArray) (w : World) (hs : s.size ≤ 1000000) :
    Calls Tryz.prog 88 #[.string s] w fun e w' => e = .returned (.int .i64 (partsOf s.size : Int)) ∧ w = w' := by
  obtain ⟨A, hA⟩ : ∃ A, partsOf s.size = A := ⟨_, rfl⟩
  rw [hA]
  have hA1 : 1 ≤ A := by rw [← hA]; unfold partsOf; omega
  have hA2 : ∀ n, 0 < n → s.size ≤ 32 * n → A ≤ n := by intro n h0 h1; rw [← hA]; unfold partsOf; omega
  have hA3 : s.size ≤ 32 * A := by rw [← hA]; unfold partsOf; omega
  have hA4 : A ≤ 40000 := by rw [← hA]; unfold partsOf; omega
  have HA2 := Lib.hid hA2
  clear hA hA2
  go_enter Tryz.func88, Tryz.ntmps88
  go_wp2_with fail
  go_loop [3] (fun n => ∃ k : Nat, k ≤ A ∧ n = .int .i64 (k : Int)) (fun n => A - (intOf n).toNat)
  case atStart => exact ⟨0, by omega, rfl⟩
  case round =>
    obtain ⟨k, hk, rfl⟩ := hrel
    by_cases h0 : k = 0
    · subst h0
      go_wp2_with fail
      go_round
      case rel => exact ⟨1, by omega, by go_num⟩
      case measure => simp [intOf]; omega
    · by_cases h1 : 32 * k < s.size
      · have hkA : k < A := by omega
        go_wp2_with fail
        go_round
        case rel => exact ⟨k + 1, by omega, by go_num⟩
        case measure => simp [intOf]; omega
      · obtain rfl : k = A := by have := HA2.out k (by omega) (by omega); omega
        have e0 : ((k : Int) == 0) = false := by rw [beq_eq_false_iff_ne]; omega
        have e1 : ¬ (32 * (k : Int) < (s.size : Int)) := by omega
        clear h0 h1
        go_wp2_with fail
        go_ret
        exact ⟨rfl, rfl⟩
theorem body_eq (ep sa ah k A : Nat) (t : List UInt8) : (⟨ep, sa, ah, k, A, t⟩ : Lp).body = leB ep 8 ++ leB sa 8 ++ leB ah 8 ++ [UInt8.ofNat k, UInt8.ofNat A, UInt8.ofNat t.length, 0] ++ t ++ List.replicate (32 - t.length) 0 := rfl
set_option maxRecDepth 100000 in
set_option maxHeartbeats 3200000 in
theorem refSectorsG_c (s : ByteArray) (ep sa ah : Nat) (w : World) (hs : s.size ≤ 2000) :
    Calls Tryz.prog 48 #[.string s, .int .u64 (ep : Int), .int .u64 (sa : Int), .int .u64 (ah : Int)] w fun e w' => ∃ v, e = .returned v ∧ Grows w w' v (partsOf s.size) ((cutG s.data.toList ep sa ah).map Lp.sec) := by
  obtain ⟨i0, hi0, hz0, hz1, hz2⟩ := info_parts infoStr
  obtain ⟨A, hA⟩ : ∃ A, partsOf s.size = A := ⟨_, rfl⟩
  have hlen : s.data.toList.length = s.size := by simp
  have HC : Hid (∀ k, k < A → (((cutG s.data.toList ep sa ah).map Lp.sec).take k) ++ [Lp.sec ⟨ep, sa, ah, k, A, (s.data.toList.drop (32 * k)).take 32⟩] = ((cutG s.data.toList ep sa ah).map Lp.sec).take (k + 1)) := by
    intro k hk
    rw [cutG, hlen, hA, List.map_map, ← List.map_take, ← List.map_take, List.take_range, List.take_range, Nat.min_eq_left (by omega), Nat.min_eq_left (by omega), List.range_succ, List.map_append]
    rfl
  have HL : Hid (((cutG s.data.toList ep sa ah).map Lp.sec).length = A) := by
    show _ = _
    rw [List.length_map, cutG_len, hlen, hA]
  have HP := Lib.hid (fun W => refParts_c s W (by omega))
  rw [hA] at HP ⊢
  have hA1 : 1 ≤ A := by rw [← hA]; unfold partsOf; omega
  have hA2 : 32 * (A - 1) ≤ s.size := by rw [← hA]; unfold partsOf; omega
  have hA3 : s.size ≤ 32 * A := by rw [← hA]; unfold partsOf; omega
  have hA4 : A ≤ 63 := by rw [← hA]; unfold partsOf; omega
  have HE := Lib.hid (fun n W => refEight_c n W)
  clear hA hlen
  go_enter Tryz.func48, Tryz.ntmps48
  go_wp2_with fail
  refine (HP.out _).mono ?_
  rintro e w1 ⟨rfl, rfl⟩
  go_wp2_with fail
  go_loopw [10, 11, 12, 13, 14] (fun v i _ _ _ wr => ∃ k : Nat, k ≤ A ∧ i = .int .i64 (k : Int) ∧ Grows w wr v k (((cutG s.data.toList ep sa ah).map Lp.sec).take k)) (fun _ i _ _ _ _ => A - (intOf i).toNat)
  case atStart =>
    exact ⟨0, by omega, rfl, by simpa using Grows.nil w⟩
  case round =>
    rename World => wa
    obtain ⟨k, hk, rfl, hG⟩ := hrel
    have HG := Lib.hid hG
    clear hG
    by_cases hlt : k < A
    · have hk32 : 32 * k ≤ s.size := by omega
      have hT : ∃ X : ByteArray, ∃ e : Nat, (e = min (32 * k + 32) s.size) ∧ s.extract (32 * k) e = X ∧ X.data.toList = (s.data.toList.drop (32 * k)).take 32 ∧ X.size ≤ 32 := by
        refine ⟨_, _, rfl, rfl, ?_, ?_⟩
        · rw [extract_str_from, str_list]
          by_cases hin : 32 * k + 32 ≤ s.size
          · rw [Nat.min_eq_left hin, show 32 * k + 32 - 32 * k = 32 by omega]
          · rw [Nat.min_eq_right (by omega), List.take_of_length_le (by simp), List.take_of_length_le (by simp; omega)]
        · rw [extract_str_from, str_size, List.length_take]
          omega
      obtain ⟨X, e, he, hX, hXl, hXs⟩ := hT
      have HX := Lib.hid hXl
      clear hXl
      have hcase : (e = 32 * k + 32 ∧ 32 * k + 32 ≤ s.size) ∨ (e = s.size ∧ s.size < 32 * k + 32) := by omega
      clear he
      obtain ⟨H, hH⟩ : ∃ H, leB ep 8 ++ leB sa 8 ++ leB ah 8 ++ [UInt8.ofNat k, UInt8.ofNat A, UInt8.ofNat X.size, 0] ++ X.data.toList = H := ⟨_, rfl⟩
      have hHl : H.length = 28 + X.size := by rw [← hH]; simp [leB_len]; omega
      obtain ⟨E, hE⟩ : ∃ E : Nat → ByteArray, ∀ n, str (leB n 8) = E n := ⟨_, fun _ => rfl⟩
      obtain ⟨S4, hS4⟩ : ∃ S, str [UInt8.ofNat k, UInt8.ofNat A, UInt8.ofNat X.size, 0] = S := ⟨_, rfl⟩
      obtain ⟨C1, hC1⟩ : ∃ S, E ep ++ E sa = S := ⟨_, rfl⟩
      obtain ⟨C2, hC2⟩ : ∃ S, C1 ++ E ah = S := ⟨_, rfl⟩
      obtain ⟨C3, hC3⟩ : ∃ S, C2 ++ S4 = S := ⟨_, rfl⟩
      have hC4 : C3 ++ X = str H := by
        rw [← hC3, ← hC2, ← hC1, ← hE, ← hE, ← hE, ← hS4, str_add, str_add, str_add, ← hH, ← str_add _ X.data.toList, str_eta]
      have z8 : ∀ n, (E n).size = 8 := by intro n; rw [← hE, str_size, leB_len]
      have z4 : S4.size = 4 := by rw [← hS4, str_size]; rfl
      have z1 : C1.size = 16 ∧ C2.size = 24 ∧ C3.size = 28 := by
        have e1 := z8 ep
        have e2 := z8 sa
        have e3 := z8 ah
        have a1 : C1.size = 16 := by rw [← hC1, ByteArray.size_append]; omega
        have a2 : C2.size = 24 := by rw [← hC2, ByteArray.size_append]; omega
        exact ⟨a1, a2, by rw [← hC3, ByteArray.size_append]; omega⟩
      have b1 : (9223372036854775807 < (E ep).size + (E sa).size) = False := by have := z8 ep; have := z8 sa; simp; omega
      have b2 : (9223372036854775807 < C1.size + (E ah).size) = False := by have := z8 ah; simp; omega
      have b3 : (9223372036854775807 < C2.size + S4.size) = False := by simp; omega
      have b4 : (9223372036854775807 < C3.size + X.size) = False := by simp; omega
      have HE1 : Hid (∀ (n : Nat) (W : World), Calls Tryz.prog 92 #[.int .u64 (n : Int)] W fun e w' => e = .returned (.string (E n)) ∧ Upd (fun _ => False) W w') := Lib.hid fun n W => hE n ▸ HE.out n W
      have hown : ∀ V : World, Own (V.alloc (.cells #[.int .u8 (k : Int), .int .u8 (A : Int), .int .u8 (X.size : Int), .int .u8 0] 5)) 5 1 (.slice (some ⟨V.heap.size, 0, none⟩) 4 4) 4 (bytesV [UInt8.ofNat k, UInt8.ofNat A, UInt8.ofNat X.size, 0]) := fun V => by
        have hby : (bytesV [UInt8.ofNat k, UInt8.ofNat A, UInt8.ofNat X.size, 0]).toArray = #[.int .u8 (k : Int), .int .u8 (A : Int), .int .u8 (X.size : Int), .int .u8 0] := by
          rw [byte_nat (show k < 256 by omega), byte_nat (show A < 256 by omega), byte_nat (show X.size < 256 by omega)]
          rfl
        have ho := own_bytes V [UInt8.ofNat k, UInt8.ofNat A, UInt8.ofNat X.size, 0] (by simp)
        rw [hby] at ho
        exact ho
      have HOwn := Lib.hid hown
      have hS4' := Lib.hid hS4
      clear hown
      have y1 : IntKind.u8.wrap (k : Int) = (k : Int) := IntWalk.u8_in _ (by omega)
      have y2 : IntKind.u8.wrap (A : Int) = (A : Int) := IntWalk.u8_in _ (by omega)
      have y3 : IntKind.u8.wrap (X.size : Int) = (X.size : Int) := IntWalk.u8_in _ (by omega)
      have HH := Lib.hid (And.intro hH hHl)
      clear hE hS4 hH hHl z8 z4 z1
      rcases hcase with ⟨rfl, hto⟩ | ⟨rfl, hto⟩
      all_goals
        go_upto_region 10 with fail
        rw [hX]
        clear hX hto
        obtain ⟨bb, hbb⟩ : ∃ bb, decide ((s.size : Int) < 32 * (k : Int) + 32) = bb := ⟨_, rfl⟩
        try rw [hbb]
        clear hbb
        go_cut [14] from 17 to 67 (fun t14 wx => t14 = .string (str H) ∧ Upd (fun _ => False) wa wx)
        case first =>
          refine wp_region_noPanic ?_
          refine wp_region_T (S := fun w' => Upd (fun _ => False) wa w') (T := fun _ => false) (by kernel_rfl) ?_
          have hS0 : Upd (fun _ => False) wa wa.drew := (Upd.refl _ _).drew
          refine wpAnyT_take (i := 0) (v := ?_) rfl (by kernel_rfl) (by kernel_rfl) (by kernel_rfl) (by kernel_rfl) (fun _ _ _ h => h) (takes_yield rfl (Or.inl ⟨by rfl, ?_⟩)) (by assumption) (by kernel_rfl) ?_
          rotate_left 1
          · intro w' hSw; go_split_ands; first | (go_simp; done) | (go_simp; rfl) | rfl
          simp only [Act.put, List.getElem_toArray, List.getElem_cons_zero, List.setIfInBounds_toArray, List.set_cons_zero, List.set_cons_succ]
          refine wpAnyT_take (i := 2) (v := ?_) rfl (by kernel_rfl) (by kernel_rfl) (by kernel_rfl) (by kernel_rfl) (fun _ _ _ h => h) (takes_yield rfl (Or.inl ⟨by rfl, ?_⟩)) (by assumption) (by kernel_rfl) ?_
          rotate_left 1
          · intro w' hSw; go_split_ands; first | (go_simp; done) | (go_simp; rfl) | rfl
          simp only [Act.put, List.getElem_toArray, List.getElem_cons_zero, List.getElem_cons_succ, List.setIfInBounds_toArray, List.set_cons_zero, List.set_cons_succ]
          refine wpAnyT_take (i := 5) (v := ?_) rfl (by kernel_rfl) (by kernel_rfl) (by kernel_rfl) (by kernel_rfl) (fun _ _ _ h => h) (takes_yield rfl (Or.inl ⟨by rfl, ?_⟩)) (by assumption) (by kernel_rfl) ?_
          rotate_left 1
          · intro w' hSw; go_split_ands; first | (go_simp; done) | (go_simp; rfl) | rfl
          simp only [Act.put, List.getElem_toArray, List.getElem_cons_zero, List.getElem_cons_succ, List.setIfInBounds_toArray, List.set_cons_zero, List.set_cons_succ]
          refine wpAnyT_take (i := 8) (v := ?_) rfl (by kernel_rfl) (by kernel_rfl) (by kernel_rfl) (by kernel_rfl) (fun _ _ _ h => h) (takes_yield rfl (Or.inl ⟨by rfl, ?_⟩)) (by assumption) (by kernel_rfl) ?_
          rotate_left 1
          · intro w' hSw; go_split_ands; first | (go_simp; done) | (go_simp; rfl) | rfl
          simp only [Act.put, List.getElem_toArray, List.getElem_cons_zero, List.getElem_cons_succ, List.setIfInBounds_toArray, List.set_cons_zero, List.set_cons_succ]
          refine wpAnyT_take (i := 9) (v := ?_) rfl (by kernel_rfl) (by kernel_rfl) (by kernel_rfl) (by kernel_rfl) (fun _ _ _ h => h) (takes_yield rfl (Or.inl ⟨by rfl, ?_⟩)) (by assumption) (by kernel_rfl) ?_
          rotate_left 1
          · intro w' hSw; go_split_ands; first | (go_simp; done) | (go_simp; rfl) | rfl
          simp only [Act.put, List.getElem_toArray, List.getElem_cons_zero, List.getElem_cons_succ, List.setIfInBounds_toArray, List.set_cons_zero, List.set_cons_succ]
          refine wpAnyT_take (i := 10) (v := ?_) rfl (by kernel_rfl) (by kernel_rfl) (by kernel_rfl) (by kernel_rfl) (fun _ _ _ h => h) (takes_yield rfl (Or.inl ⟨by rfl, ?_⟩)) (by assumption) (by kernel_rfl) ?_
          rotate_left 1
          · intro w' hSw; go_split_ands; first | (go_simp; done) | (go_simp; rfl) | rfl
          simp only [Act.put, List.getElem_toArray, List.getElem_cons_zero, List.getElem_cons_succ, List.setIfInBounds_toArray, List.set_cons_zero, List.set_cons_succ]
          refine wpAnyT_take (i := 11) (v := ?_) rfl (by kernel_rfl) (by kernel_rfl) (by kernel_rfl) (by kernel_rfl) (fun _ _ _ h => h) (takes_yield rfl (Or.inl ⟨by rfl, ?_⟩)) (by assumption) (by kernel_rfl) ?_
          rotate_left 1
          · intro w' hSw; go_split_ands; first | (go_simp; done) | (go_simp; rfl) | rfl
          simp only [Act.put, List.getElem_toArray, List.getElem_cons_zero, List.getElem_cons_succ, List.setIfInBounds_toArray, List.set_cons_zero, List.set_cons_succ]
          refine wpAnyT_take (i := 12) (v := ?_) rfl (by kernel_rfl) (by kernel_rfl) (by kernel_rfl) (by kernel_rfl) (fun _ _ _ h => h) (takes_yield rfl (Or.inl ⟨by rfl, ?_⟩)) (by assumption) (by kernel_rfl) ?_
          rotate_left 1
          · intro w' hSw; go_split_ands; first | (go_simp; done) | (go_simp; rfl) | rfl
          simp only [Act.put, List.getElem_toArray, List.getElem_cons_zero, List.getElem_cons_succ, List.setIfInBounds_toArray, List.set_cons_zero, List.set_cons_succ]
          refine wpAnyT_take (i := 13) (v := ?_) rfl (by kernel_rfl) (by kernel_rfl) (by kernel_rfl) (by kernel_rfl) (fun _ _ _ h => h) (takes_yield rfl (Or.inl ⟨by rfl, ?_⟩)) (by assumption) (by kernel_rfl) ?_
          rotate_left 1
          · intro w' hSw; go_split_ands; first | (go_simp; done) | (go_simp; rfl) | rfl
          simp only [Act.put, List.getElem_toArray, List.getElem_cons_zero, List.getElem_cons_succ, List.setIfInBounds_toArray, List.set_cons_zero, List.set_cons_succ]
          refine wpAnyT_take (i := 14) (v := ?_) rfl (by kernel_rfl) (by kernel_rfl) (by kernel_rfl) (by kernel_rfl) (fun _ _ _ h => h) (takes_yield rfl (Or.inl ⟨by rfl, ?_⟩)) (by assumption) (by kernel_rfl) ?_
          rotate_left 1
          · intro w' hSw; go_split_ands; first | (go_simp; done) | (go_simp; rfl) | rfl
          simp only [Act.put, List.getElem_toArray, List.getElem_cons_zero, List.getElem_cons_succ, List.setIfInBounds_toArray, List.set_cons_zero, List.set_cons_succ]
          refine wpAnyT_take (i := 18) (v := ?_) rfl (by kernel_rfl) (by kernel_rfl) (by kernel_rfl) (by kernel_rfl) (fun _ _ _ h => h) (takes_yield rfl (Or.inl ⟨by rfl, ?_⟩)) (by assumption) (by kernel_rfl) ?_
          rotate_left 1
          · intro w' hSw; go_split_ands; first | (go_simp; done) | (go_simp; rfl) | rfl
          simp only [Act.put, List.getElem_toArray, List.getElem_cons_zero, List.getElem_cons_succ, List.setIfInBounds_toArray, List.set_cons_zero, List.set_cons_succ]
          refine wpAnyT_flow (n := 10) [(1, 37), (3, 39), (4, 40), (6, 42), (7, 43), (15, 51), (16, 52), (17, 53), (19, 55), (20, 14)] [] (Upd (fun _ => False)) (fun i v w' => match i with
            | 1 => v = .string (E ep) | 3 => v = .string (E sa) | 4 => v = .string C1 | 6 => v = .string (E ah) | 7 => v = .string C2 | 15 => Own w' 5 1 v 4 (bytesV [UInt8.ofNat k, UInt8.ofNat A, UInt8.ofNat X.size, 0]) | 16 => v = .string S4 | 17 => v = .string C3 | 19 => v = .string (str H) | 20 => v = .string (str H) | _ => True)
            (by kernel_rfl) rfl (fun _ => Upd.refl _ _) (fun _ _ _ h1 h2 => h1.then h2 (fun _ e => e.elim)) (fun _ h => hS0.then h (fun _ e => e.elim)) (by
              intro i v w1 w2 h hu
              split at h
              all_goals first | exact h | exact h.upd hu (fun _ _ e => e)) ⟨?_, ?_, ?_, ?_, ?_, ?_, ?_, ?_, ?_, ?_, trivial⟩ (fun vs w' hU hR => ?_)
          · refine flow_step rfl (fun vs w1 hU hd K hK => ?_)
            simp only [puts, Act.put, List.getElem_toArray, List.getElem_cons_zero, List.getElem_cons_succ, List.setIfInBounds_toArray, List.set_cons_zero, List.set_cons_succ] at hK ⊢
            go_simp
            refine (HE1.out _ _).mono ?_
            rintro e w2 ⟨rfl, hU2⟩
            exact hK.out _ _ rfl hU2
          · refine flow_step rfl (fun vs w1 hU hd K hK => ?_)
            simp only [puts, Act.put, List.getElem_toArray, List.getElem_cons_zero, List.getElem_cons_succ, List.setIfInBounds_toArray, List.set_cons_zero, List.set_cons_succ] at hK ⊢
            go_simp
            refine (HE1.out _ _).mono ?_
            rintro e w2 ⟨rfl, hU2⟩
            exact hK.out _ _ rfl hU2
          · refine flow_step rfl (fun vs w1 hU hd K hK => ?_)
            have h1 := hd 1 (by kernel_rfl)
            have h3 := hd 3 (by kernel_rfl)
            simp only at h1 h3
            simp only [puts, Act.put, List.getElem_toArray, List.getElem_cons_zero, List.getElem_cons_succ, List.setIfInBounds_toArray, List.set_cons_zero, List.set_cons_succ, h1, h3] at hK ⊢
            go_simp
            exact hK.out _ _ rfl (Upd.refl _ _)
          · refine flow_step rfl (fun vs w1 hU hd K hK => ?_)
            simp only [puts, Act.put, List.getElem_toArray, List.getElem_cons_zero, List.getElem_cons_succ, List.setIfInBounds_toArray, List.set_cons_zero, List.set_cons_succ] at hK ⊢
            go_simp
            refine (HE1.out _ _).mono ?_
            rintro e w2 ⟨rfl, hU2⟩
            exact hK.out _ _ rfl hU2
          · refine flow_step rfl (fun vs w1 hU hd K hK => ?_)
            have h4 := hd 4 (by kernel_rfl)
            have h6 := hd 6 (by kernel_rfl)
            simp only at h4 h6
            simp only [puts, Act.put, List.getElem_toArray, List.getElem_cons_zero, List.getElem_cons_succ, List.setIfInBounds_toArray, List.set_cons_zero, List.set_cons_succ, h4, h6] at hK ⊢
            go_simp
            exact hK.out _ _ rfl (Upd.refl _ _)
          · refine flow_step rfl (fun vs w1 hU hd K hK => ?_)
            simp only [puts, Act.put, List.getElem_toArray, List.getElem_cons_zero, List.getElem_cons_succ, List.setIfInBounds_toArray, List.set_cons_zero, List.set_cons_succ] at hK ⊢
            go_simp
            exact hK.out _ _ (HOwn.out w1) ((Upd.refl _ _).alloc _)
          · refine flow_step rfl (fun vs w1 hU hd K hK => ?_)
            have h15 := hd 15 (by kernel_rfl)
            simp only at h15
            have hr := run_to_string h15
            rw [hS4'.out] at hr
            simp only [puts, Act.put, List.getElem_toArray, List.getElem_cons_zero, List.getElem_cons_succ, List.setIfInBounds_toArray, List.set_cons_zero, List.set_cons_succ] at hK ⊢
            go_simp
            exact hK.out _ _ rfl (Upd.refl _ _)
          · refine flow_step rfl (fun vs w1 hU hd K hK => ?_)
            have h7 := hd 7 (by kernel_rfl)
            have h16 := hd 16 (by kernel_rfl)
            simp only at h7 h16
            simp only [puts, Act.put, List.getElem_toArray, List.getElem_cons_zero, List.getElem_cons_succ, List.setIfInBounds_toArray, List.set_cons_zero, List.set_cons_succ, h7, h16] at hK ⊢
            go_simp
            exact hK.out _ _ rfl (Upd.refl _ _)
          · refine flow_step rfl (fun vs w1 hU hd K hK => ?_)
            have h17 := hd 17 (by kernel_rfl)
            simp only at h17
            simp only [puts, Act.put, List.getElem_toArray, List.getElem_cons_zero, List.getElem_cons_succ, List.setIfInBounds_toArray, List.set_cons_zero, List.set_cons_succ, h17] at hK ⊢
            go_simp
            exact hK.out _ _ rfl (Upd.refl _ _)
          · refine flow_step rfl (fun vs w1 hU hd K hK => ?_)
            have h19 := hd 19 (by kernel_rfl)
            simp only at h19
            simp only [puts, Act.put, List.getElem_toArray, List.getElem_cons_zero, List.getElem_cons_succ, List.setIfInBounds_toArray, List.set_cons_zero, List.set_cons_succ, h19] at hK ⊢
            go_simp
            exact hK.out _ _ rfl (Upd.refl _ _)
          · have h20 := hR 20 (by kernel_rfl)
            simp only at h20
            refine wpAnyT_done (by kernel_rfl) ?_ _
            refine NoPanic.normal ?_
            simp only [puts, Act.put, List.setIfInBounds_toArray, List.set_cons_zero, List.set_cons_succ, h20]
            go_wp2_with fail
            go_meet
            exact ⟨rfl, hS0.then hU (fun _ e => e.elim)⟩
        case rest =>
          obtain ⟨rfl, hUw⟩ := hcut
          rename World => wd
          have HU := Lib.hid hUw
          clear hUw HE1 HOwn hS4' hC1 hC2 hC3 hC4 b1 b2 b3 b4 y1 y2 y3
          have hH60 : H.length ≤ 60 := by have := HH.out.2; omega
          go_wp2_with fail
          go_loopw [14] (fun b wx => ∃ j : Nat, H.length + j ≤ 60 ∧ b = .string (str (H ++ List.replicate j 0)) ∧ Upd (fun _ => False) wa wx) (fun b _ => 60 - lenS b)
          case atStart => exact ⟨0, by omega, by simp, HU.out⟩
          case round =>
            obtain ⟨j, hj2, rfl, hU2⟩ := hrel
            have HU2 := Lib.hid hU2
            clear hU2
            have hsz : (str (H ++ List.replicate j 0)).size = H.length + j := by rw [str_size, List.length_append, List.length_replicate]
            by_cases hj60 : H.length + j < 60
            · have HS : Hid (str (H ++ List.replicate j 0) ++ str [0] = str (H ++ List.replicate (j + 1) 0)) := by
                show _ = _
                rw [str_add, List.append_assoc, List.replicate_succ']
              obtain ⟨S, hS⟩ : ∃ S, str (H ++ List.replicate j 0) = S := ⟨_, rfl⟩
              rw [hS] at HS hsz ⊢
              have hadd : (9223372036854775807 < S.size + (str [0]).size) = False := by
                rw [str_size]; simp; omega
              have hcv : ∀ W : World, _ := fun W => conv_one W 0 0 rfl
              have hslt : S.size < 60 := by omega
              have HSz := Lib.hid hsz
              clear hS hsz
              go_wp2_with fail
              rw [HS.out]
              go_roundw
              case rel => exact ⟨j + 1, by omega, rfl, HU2.out.alloc _⟩
              case measure => have := HSz.out; simp [lenS, str_size]; omega
            · have hjx : j = 32 - X.size := by have := HH.out.2; omega
              have hbody : Hid (H ++ List.replicate j 0 = (⟨ep, sa, ah, k, A, X.data.toList⟩ : Lp).body) := by
                show _ = _
                rw [body_eq, ← HH.out.1, hjx]
                simp
              have HCl := Lib.hid (fun W => refClose_c (str (H ++ List.replicate j 0)) W (by omega))
              rw [str_list] at HCl
              rw [hbody.out] at HCl hsz ⊢
              obtain ⟨S, hS⟩ : ∃ S, str (⟨ep, sa, ah, k, A, X.data.toList⟩ : Lp).body = S := ⟨_, rfl⟩
              rw [hS] at hsz HCl ⊢
              have hsge : ¬ S.size < 60 := by omega
              have hsec : Lp.sec ⟨ep, sa, ah, k, A, (s.data.toList.drop (32 * k)).take 32⟩ = str (closeL (⟨ep, sa, ah, k, A, X.data.toList⟩ : Lp).body) := by rw [← HX.out]; rfl
              have HCk := Lib.hid (HC.out k hlt)
              rw [hsec] at HCk
              obtain ⟨C, hC⟩ : ∃ C, str (closeL (⟨ep, sa, ah, k, A, X.data.toList⟩ : Lp).body) = C := ⟨_, rfl⟩
              rw [hC] at HCl HCk
              clear hS hsz hC hsec hjx
              go_wp2_with fail
              refine (HCl.out _).mono ?_
              rintro e w3 ⟨rfl, hU3⟩
              have HG3 := Lib.hid ((HG.out.still HU2.out).still hU3)
              clear hU3
              have hO3 := HG3.out.own.alloc (.cells #[.string C] 9)
              go_wp2_with (at_builtin; refine wpList_append_src rfl _ _ _ _ rfl 9 i0 _ 1 16 Tryz.underlying30 hi0 hz0 hz1 hz2 rfl u10 k _ rfl hO3 _ 1 [_] rfl (Src.of_new Tryz.underlying30 _) (by simp [Value.oneCell']) (by unfold maxLen; omega) (by omega) ?_; intro v2 w2 hO2 hU2 hl2 hs2)
              have hG2 := (HG3.out.still ((Upd.refl _ _).alloc (.cells #[.string C] 9))).app hO2 hU2 hl2
              rw [HCk.out] at hG2
              go_roundw
              case rel => exact ⟨k + 1, by omega, by go_num, hG2⟩
              case measure => simp only [intOf]; omega
    · obtain rfl : k = A := by omega
      go_wp2_with fail
      go_ret
      refine ⟨_, rfl, ?_⟩
      have := HG.out
      rw [List.take_of_length_le (by rw [HL.out]; omega)] at this
      exact this
end Go.Proofs.YtpfbgmfkeofefaaGreat

/-
  The document's records of chapter 10: the record that stands at the beginning of sectors.
-/
namespace Go.Proofs.YtpfbgmfkeofefaaGreat
open Go Go.RowKit

theorem texG_succ (L : List (List UInt8)) (n : Nat) : texG L (n + 1) = texG L n ++ ((lookL (L.getD n [])).1.drop 28).take ((lookL (L.getD n [])).1.getD 26 0).toNat := by
  unfold texG
  rw [List.range_succ, List.flatMap_append]
  simp
theorem texG_len (L : List (List UInt8)) (n : Nat) (h : ∀ j, j < n → ((lookL (L.getD j [])).1.getD 26 0).toNat ≤ 32) : (texG L n).length ≤ 32 * n := by
  induction n with
  | zero => simp [texG]
  | succ n ih =>
    rw [texG_succ, List.length_append, List.length_take]
    have := ih (fun j hj => h j (by omega))
    have := h n (by omega)
    omega
/-- The sectors ahead of one are sound parts. -/
def GoodG (M : List (List UInt8)) (k : Nat) : Prop := ∀ j, j < k → (lookL (M.getD j [])).2 = 1 ∧ ((lookL (M.getD j [])).1.getD 26 0).toNat ≤ 32
/-- The sectors ahead of one are the record's own. -/
def SameG (M : List (List UInt8)) (t : List UInt8) (e s a k : Nat) : Prop := ∀ i, i < k → ((cutG t e s a).map fun p => closeL p.body).getD i [] = M.getD i []
/-- A log's row, as the document has it. -/
abbrev Lg.rowR (g : Lg) (v : Value) : Array Value := #[.int .i64 (g.from_ : Int), .int .i64 (g.sectors : Int), .int .u64 (g.epoch : Int), v, .int .i64 (g.used : Int), .int .u64 (g.last : Int), .int .u64 (g.salt : Int), .bool g.broken]
theorem Blk.cells8 {w : World} {g : Nat} {t : TypeId} {a b c d e f h i : Value} (k : Blk w g t #[a, b, c, d, e, f, h, i]) : w.cell? ⟨g, 0, none⟩ = some a ∧ w.cell? ⟨g, 1, none⟩ = some b ∧ w.cell? ⟨g, 2, none⟩ = some c ∧ w.cell? ⟨g, 3, none⟩ = some d ∧ w.cell? ⟨g, 4, none⟩ = some e ∧ w.cell? ⟨g, 5, none⟩ = some f ∧ w.cell? ⟨g, 6, none⟩ = some h ∧ w.cell? ⟨g, 7, none⟩ = some i :=
  ⟨k.cell 0, k.cell 1, k.cell 2, k.cell 3, k.cell 4, k.cell 5, k.cell 6, k.cell 7⟩
theorem look_60G {s : List UInt8} (h : (lookL s).2 = 1) : (lookL s).1.length = 60 := (look_one h).2.2
theorem atR_open {e a n s : Nat} {M : List (List UInt8)} {B0 : List UInt8} (h : lookL (M.getD 0 []) = (B0, 1)) (hn : (B0.getD 25 0).toNat = n) (hs : leN ((B0.drop 8).take 8) = s) :
    atR e a M = if ∃ i, i < n ∧ ((lookL (M.getD i [])).2 ≠ 1 ∨ 32 < ((lookL (M.getD i [])).1.getD 26 0).toNat) then ([], 0, false) else if n = 0 ∨ 1024 < (texG M n).length then ([], 0, false) else
      if partsOf (texG M n).length ≠ n then ([], 0, false) else if ∀ i, i < n → ((cutG (texG M n) e s a).map fun p => closeL p.body).getD i [] = M.getD i [] then (texG M n, s, true) else ([], 0, false) := by
  unfold atR
  rw [h]
  simp only
  rw [hn, hs, if_neg (by simp)]
set_option maxRecDepth 100000 in
set_option maxHeartbeats 3200000 in
theorem refAt_c {w : World} {v vg : Value} {L : List ByteArray} (g : Lg) (hR : Row w v (L.map Value.string)) (hL : L.length ≤ 60) (hs : ∀ s ∈ L, s.size ≤ 64) :
    Calls Tryz.prog 87 #[.agg (g.rowR vg), v] w fun e w' => e = .returned (.tuple #[.string (str (atR g.epoch g.last (L.map fun s => s.data.toList)).1), .int .u64 ((atR g.epoch g.last (L.map fun s => s.data.toList)).2.1 : Int), .bool (atR g.epoch g.last (L.map fun s => s.data.toList)).2.2]) ∧ Upd (fun _ => False) w w' := by
  obtain ⟨A, cap, b, off, rfl, -, hA, hcell⟩ := hR.open_
  simp only [List.length_map] at hA hcell ⊢
  obtain ⟨n0, hn0⟩ : ∃ n0, L.length = n0 := ⟨_, rfl⟩
  obtain ⟨M, hM⟩ : ∃ M, (L.map fun s => s.data.toList) = M := ⟨_, rfl⟩
  have hMi : ∀ i (h : i < L.length), M.getD i [] = (L[i]'h).data.toList := by
    intro i h
    rw [← hM, List.getD_eq_getElem?_getD, List.getElem?_map, List.getElem?_eq_getElem h]
    rfl
  have hMn : ∀ i, n0 ≤ i → M.getD i [] = [] := by
    intro i h
    rw [← hM, List.getD_eq_getElem?_getD, List.getElem?_map, List.getElem?_eq_none (by omega)]
    rfl
  obtain ⟨wb, hwb⟩ : ∃ wb, w.alloc (.cells (g.rowR vg) 39) = wb := ⟨_, rfl⟩
  have hUb : Upd (fun _ => False) w wb := by rw [← hwb]; exact (Upd.refl _ w).alloc _
  have hBb : Blk wb w.heap.size 39 (g.rowR vg) := by rw [← hwb]; exact Blk.new w _ _
  have HCell : Hid (∀ w', Upd (fun _ => False) wb w' → ∀ i (h : i < L.length), w'.cell? ⟨b, off + i, none⟩ = some (.string (L[i]'h))) := by
    show ∀ w', _
    intro w' hu i h
    have := hcell w' (hUb.then hu (fun _ e => e.elim)) i h
    rw [List.getElem_map] at this
    exact this
  have hLook0 : ∀ W i (h : i < L.length), Calls Tryz.prog 58 #[.string (L[i]'h)] W fun e w' => e = .returned (.tuple #[.string (str (lookL (M.getD i [])).1), .int .i64 (lookL (M.getD i [])).2]) ∧ Upd (fun _ => False) W w' := by
    intro W i h
    rw [hMi i h]
    have := hs (L[i]'h) (List.getElem_mem _)
    exact refLook_c _ W (by omega)
  have HLook := Lib.hid hLook0
  have HMi := Lib.hid hMi
  have HMn := Lib.hid hMn
  have HB := Lib.hid (And.intro hBb hUb)
  have Hwb := Lib.hid hwb
  have HA := Lib.hid hA
  rw [hM]
  clear hcell hLook0 hM hs hMi hMn hR hBb hUb hwb hA
  obtain ⟨f_, se_, ep, l_, us_, la, sa_, br_⟩ := g
  simp only
  obtain ⟨R, hR⟩ : ∃ R, atR ep la M = R := ⟨_, rfl⟩
  rw [hR]
  have HR := Lib.hid hR
  clear hR
  by_cases hz0 : n0 = 0
  case pos =>
    subst hz0
    obtain rfl : R = ([], 0, false) := by
      rw [← HR.out]
      unfold atR
      rw [if_pos (by rw [HMn.out 0 (by omega)]; decide)]
    go_enter Tryz.func87, Tryz.ntmps87
    go_upto_region 1 with fail
    rw [Hwb.out]
    clear Hwb
    go_wp2_with fail
    go_ret3
    exact ⟨rfl, HB.out.2⟩
  case neg =>
  have hpos : 0 < L.length := by omega
  obtain rfl := HA.out hpos
  obtain ⟨s0, hs0⟩ : ∃ s0, L[0]'hpos = s0 := ⟨_, rfl⟩
  have HC0 : Hid (∀ w', Upd (fun _ => False) wb w' → w'.cell? ⟨b, off, none⟩ = some (.string s0)) := by
    show ∀ w', _
    intro w' hu
    have := HCell.out w' hu 0 hpos
    rw [hs0] at this
    simpa using this
  have hc0 := HC0.out wb (Upd.refl _ _)
  have hl0 : ∀ W, _ := fun W => HLook.out W 0 hpos
  rw [hs0] at hl0
  obtain ⟨⟨B0, z0⟩, hF⟩ : ∃ F, lookL (M.getD 0 []) = F := ⟨_, rfl⟩
  rw [hF] at hl0
  simp only at hl0
  have HL0 := Lib.hid hl0
  clear hl0 hs0
  by_cases hz : z0 = 1
  case neg =>
    have hz1 : (z0 != 1) = true := bne_iff_ne.2 hz
    obtain rfl : R = ([], 0, false) := by
      rw [← HR.out]
      unfold atR
      rw [if_pos (by rw [hF]; exact hz)]
    clear hz hF
    go_enter Tryz.func87, Tryz.ntmps87
    go_upto_region 1 with fail
    rw [Hwb.out]
    clear Hwb
    go_wp2_with fail
    refine (HL0.out _).mono ?_
    rintro e w1 ⟨rfl, hU⟩
    have H1 := Lib.hid hU
    clear hU hc0
    go_wp2_with fail
    go_ret3
    exact ⟨rfl, HB.out.2.then H1.out (fun _ e => e.elim)⟩
  case pos =>
    subst hz
    have hB60 : B0.length = 60 := by have := look_60G (s := M.getD 0 []) (by rw [hF]); rw [hF] at this; exact this
    obtain ⟨S0, hS0⟩ : ∃ S0, str B0 = S0 := ⟨_, rfl⟩
    have hsz0 : S0.size = 60 := by rw [← hS0, str_size, hB60]
    have hb0 : S0.data.toList = B0 := by rw [← hS0, str_list]
    have hgen : ∀ W, _ := fun W => refNumber_c S0 8 W (by omega) (by omega)
    rw [hb0] at hgen
    rw [hS0] at HL0
    obtain ⟨sl, hg⟩ : ∃ sl, leN ((B0.drop 8).take 8) = sl := ⟨_, rfl⟩
    rw [hg] at hgen
    have HG := Lib.hid hgen
    have h25 : 25 < S0.size := by omega
    obtain ⟨n, hn⟩ : ∃ n, (S0[25]'h25).toNat = n := ⟨_, rfl⟩
    have hn25 : (B0.getD 25 0).toNat = n := by
      rw [← hb0, ← hn, List.getD_eq_getElem?_getD, List.getElem?_eq_getElem (by simpa using h25)]
      rfl
    have hn256 : n < 256 := by rw [← hn]; exact (S0[25]'h25).toNat_lt
    have HRO : Hid (R = if ∃ i, i < n ∧ ((lookL (M.getD i [])).2 ≠ 1 ∨ 32 < ((lookL (M.getD i [])).1.getD 26 0).toNat) then ([], 0, false) else if n = 0 ∨ 1024 < (texG M n).length then ([], 0, false) else
      if partsOf (texG M n).length ≠ n then ([], 0, false) else if ∀ i, i < n → ((cutG (texG M n) ep sl la).map fun p => closeL p.body).getD i [] = M.getD i [] then (texG M n, sl, true) else ([], 0, false)) := by
      show R = _
      rw [← HR.out]
      exact atR_open hF hn25 hg
    clear hF hS0 hb0 hgen hn25 hB60 hg HR
    go_enter Tryz.func87, Tryz.ntmps87
    go_upto_region 1 with fail
    rw [Hwb.out]
    clear Hwb
    go_wp2_with fail
    refine (HL0.out _).mono ?_
    rintro e w1 ⟨rfl, hU⟩
    have H1 := Lib.hid hU
    clear hU hc0
    go_wp2_with fail
    clear hsz0 hn
    go_loopw [10, 11, 12, 13] (fun t i _ _ wr => ∃ k : Nat, k ≤ n ∧ i = .int .i64 (k : Int) ∧ t = .string (str (texG M k)) ∧ GoodG M k ∧ Upd (fun _ => False) wb wr) (fun _ i _ _ _ => n - (intOf i).toNat)
    case atStart => exact ⟨0, by omega, rfl, rfl, fun j hj => absurd hj (by omega), H1.out⟩
    case round =>
      rename World => wa
      obtain ⟨k, hk, rfl, rfl, hgood, hU⟩ := hrel
      have HU := Lib.hid (And.intro hgood hU)
      clear hgood hU
      by_cases hlt : k < n
      · by_cases hk10 : k < L.length
        case neg =>
          obtain rfl : R = ([], 0, false) := by
            rw [HRO.out, if_pos ⟨k, hlt, .inl (by rw [HMn.out k (by omega)]; decide)⟩]
          have hge : (n0 : Int) ≤ (k : Int) := by omega
          clear hk10
          go_wp2_with fail
          go_ret3
          exact ⟨rfl, HB.out.2.then HU.out.2 (fun _ e => e.elim)⟩
        have hck := HCell.out wa HU.out.2 k hk10
        have hlk : ∀ W, _ := fun W => HLook.out W k hk10
        obtain ⟨sk, hsk⟩ : ∃ sk, L[k]'hk10 = sk := ⟨_, rfl⟩
        rw [hsk] at hck hlk
        obtain ⟨⟨Bk, zk⟩, hFk⟩ : ∃ F, lookL (M.getD k []) = F := ⟨_, rfl⟩
        rw [hFk] at hlk
        simp only at hlk
        have HLk := Lib.hid hlk
        have hkn : k < n0 := by omega
        clear hlk hsk
        by_cases hzk : zk = 1
        case neg =>
          have hz1 : (zk != 1) = true := bne_iff_ne.2 hzk
          obtain rfl : R = ([], 0, false) := by
            rw [HRO.out, if_pos ⟨k, hlt, .inl (by rw [hFk]; exact hzk)⟩]
          clear hzk hFk
          go_wp2_with fail
          refine (HLk.out _).mono ?_
          rintro e w3 ⟨rfl, hU⟩
          have H3 := Lib.hid (HU.out.2.then hU (fun _ e => e.elim))
          clear hU hck
          go_wp2_with fail
          go_ret3
          exact ⟨rfl, HB.out.2.then H3.out (fun _ e => e.elim)⟩
        case pos =>
          subst hzk
          have hB60 : Bk.length = 60 := by have := look_60G (s := M.getD k []) (by rw [hFk]); rw [hFk] at this; exact this
          obtain ⟨Sk, hSk⟩ : ∃ S, str Bk = S := ⟨_, rfl⟩
          have hszk : Sk.size = 60 := by rw [← hSk, str_size, hB60]
          have hbk : Sk.data.toList = Bk := by rw [← hSk, str_list]
          rw [hSk] at HLk
          have h10 : 26 < Sk.size := by omega
          obtain ⟨m, hm⟩ : ∃ m, (Sk[26]'h10).toNat = m := ⟨_, rfl⟩
          have hm10 : (Bk.getD 26 0).toNat = m := by
            rw [← hbk, ← hm, List.getD_eq_getElem?_getD, List.getElem?_eq_getElem (by simpa using h10)]
            rfl
          have hm256 : m < 256 := by rw [← hm]; exact (Sk[26]'h10).toNat_lt
          have HFk := Lib.hid (And.intro hFk hm10)
          clear hFk hSk hm10 hB60
          by_cases hm48 : 32 < m
          case pos =>
            obtain rfl : R = ([], 0, false) := by
              rw [HRO.out, if_pos ⟨k, hlt, .inr (by rw [HFk.out.1]; simp only; rw [HFk.out.2]; exact hm48)⟩]
            clear hbk
            go_wp2_with fail
            refine (HLk.out _).mono ?_
            rintro e w3 ⟨rfl, hU⟩
            have H3 := Lib.hid (HU.out.2.then hU (fun _ e => e.elim))
            clear hU hck
            go_wp2_with fail
            go_ret3
            exact ⟨rfl, HB.out.2.then H3.out (fun _ e => e.elim)⟩
          case neg =>
            have hex : Sk.extract 28 (28 + m) = str ((Bk.drop 28).take m) := by
              rw [extract_str_from, hbk, show 28 + m - 28 = m by omega]
            have hXs : ((Bk.drop 28).take m).length ≤ 32 := by rw [List.length_take]; omega
            have hcat : Hid (str (texG M k) ++ str ((Bk.drop 28).take m) = str (texG M (k + 1))) := by
              show _ = _
              rw [str_add, texG_succ, HFk.out.1]
              simp only
              rw [HFk.out.2]
            have htl := texG_len M k (fun j hj => (HU.out.1 j hj).2)
            obtain ⟨T, hT⟩ : ∃ T, str (texG M k) = T := ⟨_, rfl⟩
            obtain ⟨X, hX⟩ : ∃ X, str ((Bk.drop 28).take m) = X := ⟨_, rfl⟩
            have hadd : (9223372036854775807 < T.size + X.size) = False := by
              rw [← hT, ← hX, str_size, str_size]
              simp
              simp at hXs
              omega
            rw [hT, hX] at hcat
            rw [hX] at hex
            rw [hT]
            have h12 : 28 + m ≤ Sk.size := by omega
            clear hbk htl hXs hT hX hszk
            go_wp2_with fail
            refine (HLk.out _).mono ?_
            rintro e w3 ⟨rfl, hU⟩
            have H3 := Lib.hid (HU.out.2.then hU (fun _ e => e.elim))
            clear hU hck
            go_wp2_with fail
            rw [hcat.out]
            go_roundw
            case rel =>
              refine ⟨k + 1, by omega, by go_num, rfl, fun j hj => ?_, H3.out⟩
              by_cases e : j = k
              · subst e
                rw [HFk.out.1]
                simp only
                rw [HFk.out.2]
                exact ⟨trivial, by omega⟩
              · exact HU.out.1 j (by omega)
            case measure => simp [intOf]; omega
      · obtain rfl : k = n := by omega
        have htl := texG_len M k (fun j hj => (HU.out.1 j hj).2)
        have hno : Hid (¬ ∃ i, i < k ∧ ((lookL (M.getD i [])).2 ≠ 1 ∨ 32 < ((lookL (M.getD i [])).1.getD 26 0).toNat)) := by
          show ¬ _
          rintro ⟨i, hi, hc⟩
          have := HU.out.1 i hi
          omega
        have hkL : k ≤ n0 := by
          apply Classical.byContradiction
          intro c
          have := (HU.out.1 n0 (by omega)).1
          rw [HMn.out n0 (Nat.le_refl _)] at this
          exact absurd this (by decide)
        obtain ⟨t, ht⟩ : ∃ t, texG M k = t := ⟨_, rfl⟩
        rw [ht] at htl ⊢
        have hRt : R = if k = 0 ∨ 1024 < t.length then ([], 0, false) else if partsOf t.length ≠ k then ([], 0, false) else
            if ∀ i, i < k → ((cutG t ep sl la).map fun p => closeL p.body).getD i [] = M.getD i [] then (t, sl, true) else ([], 0, false) := by
          rw [HRO.out, ← ht, if_neg hno.out]
        have HRt := Lib.hid hRt
        clear hRt ht
        obtain ⟨S, hS⟩ : ∃ S, str t = S := ⟨_, rfl⟩
        have hsz : S.size = t.length := by rw [← hS, str_size]
        have hst : S.data.toList = t := by rw [← hS, str_list]
        rw [hS]
        by_cases hk0 : k = 0
        case pos =>
          subst hk0
          obtain rfl : R = ([], 0, false) := by rw [HRt.out, if_pos (.inl rfl)]
          clear hsz hst hS htl
          go_wp2_with fail
          go_ret3
          exact ⟨rfl, HB.out.2.then HU.out.2 (fun _ e => e.elim)⟩
        have hk0' : ((k : Int) == 0) = false := by rw [beq_eq_false_iff_ne]; omega
        by_cases h400 : 1024 < t.length
        case pos =>
          obtain rfl : R = ([], 0, false) := by rw [HRt.out, if_pos (.inr h400)]
          have h400' : 1024 < S.size := by omega
          clear hsz hst hS h400 htl
          go_wp2_with fail
          go_ret3
          exact ⟨rfl, HB.out.2.then HU.out.2 (fun _ e => e.elim)⟩
        case neg =>
          have h400' : ¬ 1024 < S.size := by omega
          have hsec := fun W => refSectorsG_c S ep sl la W (by omega)
          rw [hst, hsz] at hsec
          have HS := Lib.hid hsec
          have HT := Lib.hid (And.intro h400 (And.intro hsz (And.intro hst hS)))
          clear hsec hsz hst hS h400 htl
          obtain ⟨A, hA⟩ : ∃ A, partsOf t.length = A := ⟨_, rfl⟩
          rw [hA] at HS HRt
          have hA30 : A ≤ 33 := by rw [← hA]; unfold partsOf; have := HT.out.1; omega
          have HA := Lib.hid hA
          have hcg := (HB.out.1.upd HU.out.2 (fun e => e)).cells8
          clear hA
          by_cases hAk : A = k
          case neg =>
            obtain rfl : R = ([], 0, false) := by rw [HRt.out, if_neg (by have := HT.out.1; omega), if_pos hAk]
            have hne : ((A : Int) != (k : Int)) = true := by rw [bne_iff_ne]; omega
            go_wp2_with fail
            refine (HG.out _).mono ?_
            rintro e w2 ⟨rfl, rfl⟩
            go_wp2_with fail
            refine (HS.out _).mono ?_
            rintro e w3 ⟨v3, rfl, hG⟩
            obtain ⟨A3, cap3, rfl, -, -⟩ := hG.own.shape
            have H3 := Lib.hid (HU.out.2.then hG.upd (fun _ e => e.elim))
            clear hG
            go_wp2_with fail
            go_ret3
            exact ⟨rfl, HB.out.2.then H3.out (fun _ e => e.elim)⟩
          case pos =>
            subst hAk
            have h1A : 1 ≤ A := by omega
            have hAL : A ≤ L.length := by omega
            go_wp2_with fail
            refine (HG.out _).mono ?_
            rintro e w2 ⟨rfl, rfl⟩
            go_wp2_with fail
            refine (HS.out _).mono ?_
            rintro e w3 ⟨v3, rfl, hGr⟩
            obtain ⟨g3, cap3, rfl, -, -⟩ := hGr.own.head (by omega)
            have HGr := Lib.hid hGr
            clear hGr hcg
            go_wp2_with fail
            go_loopw [16] (fun i wr => ∃ j : Nat, j ≤ A ∧ i = .int .i64 (j : Int) ∧ SameG M t ep sl la j ∧ Upd (fun _ => False) w3 wr) (fun i _ => A - (intOf i).toNat)
            case atStart => exact ⟨0, by omega, rfl, fun j hj => absurd hj (by omega), Upd.refl _ _⟩
            case round =>
              rename World => wc
              obtain ⟨j, hj, rfl, hsame, hU⟩ := hrel
              have HJ := Lib.hid (And.intro hsame hU)
              clear hsame hU
              by_cases hjA : j < A
              · have hj10 : j < L.length := by omega
                have hcl := HCell.out wc ((HU.out.2.then HGr.out.upd (fun _ e => e.elim)).then HJ.out.2 (fun _ e => e.elim)) j hj10
                have hlen : ((cutG t ep sl la).map Lp.sec).length = A := by rw [List.length_map, cutG_len, HA.out]
                have hco : wc.cell? ⟨g3, j, none⟩ = some (.string (((cutG t ep sl la).map Lp.sec)[j]'(by omega))) := by
                  rw [(HGr.out.own.upd HJ.out.2 (fun _ _ e => e)).cellAt j (by omega), strs_get, List.getElem?_eq_getElem (by omega)]
                  rfl
                have hMj : M.getD j [] = (L[j]'hj10).data.toList := HMi.out j hj10
                have hOj : ((cutG t ep sl la).map fun p => closeL p.body).getD j [] = (((cutG t ep sl la).map Lp.sec)[j]'(by omega)).data.toList := by
                  rw [List.getD_eq_getElem?_getD, List.getElem?_map, List.getElem_map, List.getElem?_eq_getElem (by simpa using (by omega : j < ((cutG t ep sl la).map Lp.sec).length))]
                  rfl
                obtain ⟨so, hso⟩ : ∃ so, ((cutG t ep sl la).map Lp.sec)[j]'(by omega) = so := ⟨_, rfl⟩
                obtain ⟨sq, hsl⟩ : ∃ sq, L[j]'hj10 = sq := ⟨_, rfl⟩
                rw [hso] at hco hOj
                rw [hsl] at hcl hMj
                have HM := Lib.hid (And.intro hMj hOj)
                have hjn : j < n0 := by omega
                clear hMj hOj hso hsl hlen
                by_cases heq : so.data.toList = sq.data.toList
                · have hne : (so.toList == sq.toList) = true := by
                    rw [ByteArray.toList_eq, ByteArray.toList_eq, heq]
                    simp
                  have HE := Lib.hid heq
                  clear heq
                  go_wp2_with fail
                  go_quiet (fail)
                  go_wp2_with fail
                  go_roundw
                  case rel =>
                    refine ⟨j + 1, by omega, by go_num, fun i hi => ?_, HJ.out.2.drewN _⟩
                    by_cases e : i = j
                    · subst e
                      rw [HM.out.1, HM.out.2, HE.out]
                    · exact HJ.out.1 i (by omega)
                  case measure => simp [intOf]; omega
                · have hne : (so.toList == sq.toList) = false := by
                    rw [ByteArray.toList_eq, ByteArray.toList_eq, beq_eq_false_iff_ne]
                    exact heq
                  obtain rfl : R = ([], 0, false) := by
                    rw [HRt.out, if_neg (by have := HT.out.1; omega), if_neg (by simp), if_neg]
                    intro hall
                    have := hall j hjA
                    rw [HM.out.1, HM.out.2] at this
                    exact heq this
                  clear heq
                  go_wp2_with fail
                  go_quiet (fail)
                  go_wp2_with fail
                  go_ret3
                  exact ⟨rfl, HB.out.2.then ((HU.out.2.then HGr.out.upd (fun _ e => e.elim)).then (HJ.out.2.drewN _) (fun _ e => e.elim)) (fun _ e => e.elim)⟩
              · obtain rfl : j = A := by omega
                obtain rfl : R = (t, sl, true) := by
                  rw [HRt.out, if_neg (by have := HT.out.1; omega), if_neg (by simp), if_pos (show ∀ i, _ from HJ.out.1)]
                go_wp2_with fail
                go_ret3
                exact ⟨by rw [← HT.out.2.2.2]; rfl, HB.out.2.then ((HU.out.2.then HGr.out.upd (fun _ e => e.elim)).then HJ.out.2 (fun _ e => e.elim)) (fun _ e => e.elim)⟩
end Go.Proofs.YtpfbgmfkeofefaaGreat

/-
  The document's records of chapter 10: Open.
-/
namespace Go.Proofs.YtpfbgmfkeofefaaGreat
open Go Go.RowKit

abbrev zeroLg : Array Value := #[.int .i64 0, .int .i64 0, .int .u64 0, .slice none 0 0, .int .i64 0, .int .u64 0, .int .u64 0, .bool false]
theorem zeroLg_one : zeroLg.all (·.oneCell') = true := by simp [Value.oneCell']
theorem Lg.rowR_one (g : Lg) (v : Value) (hv : v.oneCell' = true) : (g.rowR v).all (·.oneCell') = true := by
  simp only [List.all_toArray, List.all_cons, List.all_nil, hv]
  rfl
/-- What Open answers. -/
def openLg (o : Option Lg) (v : Value) : Array Value := match o with | some g => g.rowR v | none => zeroLg
/-- The records that Open has. -/
structure OpensL (w w' : World) (o : Option Lg) (v : Value) : Prop where
  upd : Upd (fun _ => False) w w'
  own : ∀ g, o = some g → Own w' 9 1 v g.l.length (strs g.l)
  nil : o = none → v = .slice none 0 0
  new : ∀ q, v.ownBlock = some q → w.heap.size ≤ q
set_option maxRecDepth 100000 in
set_option maxHeartbeats 1600000 in
theorem refOpenG_bad {w : World} {vl vw : Value} {r : Rd} (h : RdAt w vl vw r) (hf : r.fits) (f n e : Int) (hb : ¬ (0 ≤ f ∧ 1 ≤ n ∧ n ≤ r.lasts.length ∧ f ≤ (r.lasts.length : Int) - n ∧ 1 ≤ e)) (he : 0 ≤ e) :
    Calls Tryz.prog 38 #[.agg #[vl, vw, .int .i64 r.fuse, .bool r.off], .int .i64 f, .int .i64 n, .int .u64 e] w fun en w' => en = .returned (.tuple #[.agg zeroLg, .int .i64 1]) ∧ Upd (fun _ => False) w w' := by
  have hl1 := hf.lasts
  obtain ⟨A, cap, rfl, -, -⟩ := h.lasts.shape
  obtain ⟨A2, cap2, rfl, -, -⟩ := h.ws.shape
  obtain ⟨w3, hw3⟩ : ∃ w3, (w.alloc (.cells #[.slice A r.lasts.length cap, .slice A2 r.ws.length cap2, .int .i64 r.fuse, .bool r.off] 33)).alloc (.cells zeroLg 39) = w3 := ⟨_, rfl⟩
  obtain ⟨hU3, hB2, hB4, hsz⟩ := two_new w3 hw3
  have hc2 := hB2.cells4
  have HB := Lib.hid (And.intro hB2 hB4)
  have HU := Lib.hid hU3
  have Hw := Lib.hid hw3
  generalize r.lasts.length = L at *
  clear hB2 hB4 hU3 hw3 hsz h hf
  have hc : (f < 0) ∨ (¬ f < 0 ∧ n < 1) ∨ (¬ f < 0 ∧ ¬ n < 1 ∧ (L : Int) < n) ∨ (¬ f < 0 ∧ ¬ n < 1 ∧ ¬ (L : Int) < n ∧ (L : Int) - n < f) ∨ (¬ f < 0 ∧ ¬ n < 1 ∧ ¬ (L : Int) < n ∧ ¬ (L : Int) - n < f ∧ e = 0) := by omega
  clear hb
  rcases hc with h0 | ⟨h0, h1⟩ | ⟨h0, h1, h2⟩ | ⟨h0, h1, h2, h3⟩ | ⟨h0, h1, h2, h3, h4⟩
  all_goals
    try (subst h4)
    go_enter Tryz.func38, Tryz.ntmps38
    go_upto_region 1 with fail
    rw [Hw.out]
    clear Hw
    go_wp2_with (first
      | (refine wpList_store_all rfl 39 _ _ rfl (w.heap.size + 1) zeroLg rfl rfl _ _ HB.out.2 rfl zeroLg_one (by kernel_rfl) ?_
         intro w4 hB4 hU4 hs4))
    refine bodyPost_ret (results_cell_slot rfl _ _ (w.heap.size + 1) _ _ _ _ rfl hB4 Tryz.underlying39 rfl rfl (.int .i64 1) rfl) rfl ⟨rfl, ?_⟩
    exact HU.out.then hU4 (fun q e => .inr (by omega))
theorem number_same (s : ByteArray) (at_ : Nat) (w : World) (hs : at_ + 8 ≤ s.size) (hs2 : s.size ≤ 1000000) :
    Calls Tryz.prog 86 #[.string s, .int .i64 (at_ : Int)] w fun e w' => e = .returned (.int .u64 (leN ((s.data.toList.drop at_).take 8) : Int)) ∧ w' = w :=
  (refNumber_c s at_ w hs hs2).mono fun _ _ ⟨h1, h2⟩ => ⟨h1, h2.symm⟩
/-- What Open has behind some sectors. -/
structure Opens10 (w wr : World) (g : Nat) (v vl vw : Value) (d : Dk) (r : Rd) (f n e j : Nat) : Prop where
  list : Grows w wr v j (secsB d f j)
  kept : Blk wr g 39 (Lg.rowR ⟨f, n, e, [], 0, 0, (secsL d f j).foldl seeG 0, false⟩ (.slice none 0 0))
  box : Blk wr w.heap.size 33 #[vl, vw, .int .i64 r.fuse, .bool r.off]
  res : Blk wr (w.heap.size + 1) 39 zeroLg
  good : badL (secsL d f j) = false
theorem Opens10.still {w wr wx : World} {g : Nat} {v vl vw : Value} {d : Dk} {r : Rd} {f n e j : Nat} (h : Opens10 w wr g v vl vw d r f n e j) (hu : Upd (fun _ => False) wr wx) : Opens10 w wx g v vl vw d r f n e j :=
  ⟨h.list.still hu, h.kept.upd hu (fun e => e), h.box.upd hu (fun e => e), h.res.upd hu (fun e => e), h.good⟩
theorem Opens10.next {w wr wx : World} {g : Nat} {v v2 vl vw : Value} {d : Dk} {r : Rd} {f n e j m : Nat} {S : ByteArray} (h : Opens10 w wr g v vl vw d r f n e j) (hS : d.now (f + j) = S) (hl : (lookL S.data.toList).2 ≠ 2) (hm : seeG ((secsL d f j).foldl seeG 0) S.data.toList = m)
    (hG : Grows w wx v2 (j + 1) (secsB d f j ++ [S])) (hk : Blk wx g 39 (Lg.rowR ⟨f, n, e, [], 0, 0, m, false⟩ (.slice none 0 0))) (hb : Blk wx w.heap.size 33 #[vl, vw, .int .i64 r.fuse, .bool r.off]) (hr : Blk wx (w.heap.size + 1) 39 zeroLg) : Opens10 w wx g v2 vl vw d r f n e (j + 1) := by
  refine ⟨?_, ?_, hb, hr, ?_⟩
  · rw [secsB_succ, hS]
    exact hG
  · rw [secsL_succ, List.foldl_append, hS]
    show Blk wx g _ (Lg.rowR ⟨f, n, e, [], 0, 0, seeG ((secsL d f j).foldl seeG 0) S.data.toList, false⟩ (.slice none 0 0))
    rw [hm]
    exact hk
  · rw [secsL_succ, badL_app, h.good, hS]
    simp [badL, hl]
theorem seeG_one {m : Nat} {s B : List UInt8} (h : lookL s = (B, 1)) : seeG m s = max m (leN ((B.drop 8).take 8)) := by
  unfold seeG
  rw [h]
  exact if_pos rfl
theorem seeG_no {m : Nat} {s B : List UInt8} (h : lookL s = (B, 0)) : seeG m s = m := by
  unfold seeG
  rw [h]
  exact if_neg (by simp)
theorem badG_at {d : Dk} {f n e j : Nat} {S : ByteArray} (hj : j < n) (hS : d.now (f + j) = S) (hl : (lookL S.data.toList).2 = 2) : openGR d f n e = none := by
  unfold openGR
  rw [if_pos]
  unfold badL
  rw [List.any_eq_true]
  refine ⟨S.data.toList, ?_, by simpa using hl⟩
  unfold secsL
  rw [List.mem_map]
  exact ⟨j, List.mem_range.2 hj, by rw [hS]⟩
/-- What Open has behind some records. -/
structure Reads10 (w wr : World) (b : Nat) (v vg : Value) (L : List ByteArray) (g : Lg) (n : Nat) (G : Lg) : Prop where
  list : Grows w wr v L.length L
  kept : Blk wr b 39 (g.rowR vg)
  own : Own wr 9 1 vg g.l.length (strs g.l)
  new : ∀ q, vg.ownBlock = some q → w.heap.size ≤ q
  ne : ∀ q, vg.ownBlock = some q → v.ownBlock ≠ some q
  res : Blk wr (w.heap.size + 1) 39 zeroLg
  used : g.used ≤ L.length
  recs : g.l.length ≤ g.used
  last : g.last < 2 ^ (8 * 8)
  ep : 0 < g.epoch ∧ g.epoch < 2 ^ (8 * 8)
  end_ : ∃ m, (L.drop g.used).length < m ∧ loopR m g ((L.drop g.used).map fun s => s.data.toList) = G
theorem Reads10.still {w wr wx : World} {b : Nat} {v vg : Value} {L : List ByteArray} {g : Lg} {n : Nat} {G : Lg} (h : Reads10 w wr b v vg L g n G) (hu : Upd (fun _ => False) wr wx) : Reads10 w wx b v vg L g n G :=
  ⟨h.list.still hu, h.kept.upd hu (fun e => e), h.own.upd hu (fun _ _ e => e), h.new, h.ne, h.res.upd hu (fun e => e), h.used, h.recs, h.last, h.ep, h.end_⟩
/-- The next record is read. -/
theorem Reads10.next {w wr wx : World} {b : Nat} {v vg vg2 : Value} {L : List ByteArray} {g : Lg} {n : Nat} {G : Lg} {t : List UInt8} {s : Nat} (h : Reads10 w wr b v vg L g n G) (ha : atR g.epoch g.last ((L.drop g.used).map fun s => s.data.toList) = (t, s, true))
    (hl : Grows w wx v L.length L) (hk : Blk wx b 39 (Lg.rowR { g with l := g.l ++ [str t], used := g.used + partsOf t.length, last := s } vg2)) (ho : Own wx 9 1 vg2 (g.l.length + 1) (strs g.l ++ [.string (str t)]))
    (hn : ∀ q, vg2.ownBlock = some q → w.heap.size ≤ q ∧ v.ownBlock ≠ some q) (hr : Blk wx (w.heap.size + 1) 39 zeroLg) : Reads10 w wx b v vg2 L { g with l := g.l ++ [str t], used := g.used + partsOf t.length, last := s } n G := by
  obtain ⟨e1, e2⟩ := at_first (L := (L.drop g.used).map fun s => s.data.toList) h.ep.1 h.ep.2 h.last
  rw [ha] at e1 e2
  obtain ⟨a1, a2, a3, a4, a5, a6⟩ := e2 rfl
  simp only [List.length_map, List.length_drop] at a5
  have hp := partsOf_pos t.length
  have hu := h.used
  refine ⟨hl, hk, by simpa [strs] using ho, fun q hq => (hn q hq).1, fun q hq => (hn q hq).2, hr, by show g.used + _ ≤ _; omega, by show (g.l ++ [str t]).length ≤ g.used + _; rw [List.length_append, List.length_singleton]; have := h.recs; omega, a3, h.ep, ?_⟩
  obtain ⟨m, hm, hG⟩ := h.end_
  obtain ⟨m, rfl⟩ : ∃ k, m = k + 1 := ⟨m - 1, by omega⟩
  rw [loopR, ha, if_pos rfl] at hG
  refine ⟨m, by rw [List.length_drop] at hm ⊢; show L.length - (g.used + _) < m; omega, ?_⟩
  rw [← hG]
  show loopR m _ ((L.drop (g.used + partsOf t.length)).map _) = _
  simp only
  rw [← List.map_drop, List.drop_drop]
theorem Reads10.done {w wr : World} {b : Nat} {v vg : Value} {L : List ByteArray} {g : Lg} {n : Nat} {G : Lg} (h : Reads10 w wr b v vg L g n G) (ha : (atR g.epoch g.last ((L.drop g.used).map fun s => s.data.toList)).2.2 = false) : G = g := by
  obtain ⟨m, hm, hG⟩ := h.end_
  obtain ⟨m, rfl⟩ : ∃ k, m = k + 1 := ⟨m - 1, by omega⟩
  rw [loopR, ha, if_neg (by simp)] at hG
  exact hG.symm
/-- How many sectors are used, by the row. -/
def usedAt (w : World) (b : Nat) : Nat := ((w.cell? ⟨b, 4, none⟩).map fun v => (intOf v).toNat).getD 0
theorem Row.drop_own {w : World} {g cap n k : Nat} {L : List ByteArray} (h : Own w 9 1 (.slice (some ⟨g, 0, none⟩) n cap) n (strs L)) (hL : L.length = n) (hk : k ≤ n) (hn : n ≤ 5000) (A : Option Addr) (hA : k < n → A = some ⟨g, k, none⟩) (c : Nat) :
    Row w (.slice A (n - k) c) ((L.drop k).map Value.string) := by
  refine ⟨A, c, by rw [List.length_map, List.length_drop, hL], by rw [List.length_map, List.length_drop]; unfold maxLen; omega, fun h0 => ?_⟩
  rw [List.length_map, List.length_drop] at h0
  refine ⟨g, k, hA (by omega), h.lt (by simp [Value.ownBlock]), fun i hi => ?_⟩
  rw [List.length_map, List.length_drop] at hi
  rw [h.cellAt (k + i) (by omega), strs_get, List.getElem?_eq_getElem (by omega), List.getElem_map, List.getElem_drop]
  rfl
end Go.Proofs.YtpfbgmfkeofefaaGreat

/-
  The document's records of chapter 10: Open, on a disk whose power is on, or off.
-/
namespace Go.Proofs.YtpfbgmfkeofefaaGreat
open Go Go.RowKit

set_option maxRecDepth 100000 in
set_option maxHeartbeats 1600000 in
theorem refOpenG_off {w : World} {vl vw : Value} {d : Dk} {r : Rd} (h : RdAt w vl vw r) (hf : r.fits) (hI : RdIs d r) (hoff : d.off = true) (f n e : Nat) (hn1 : 1 ≤ n) (hr : f + n ≤ d.lasts.length) (he : 1 ≤ e) :
    Calls Tryz.prog 38 #[.agg #[vl, vw, .int .i64 r.fuse, .bool r.off], .int .i64 (f : Int), .int .i64 (n : Int), .int .u64 (e : Int)] w fun en w' => en = .returned (.tuple #[.agg zeroLg, .int .i64 14]) ∧ Upd (fun _ => False) w w' := by
  have hl1 := hf.lasts
  have hrl : r.lasts.length = d.lasts.length := by rw [hI.lasts]
  have hrd0 : ∀ W, Upd (fun _ => False) w W → Calls Tryz.prog 57 #[.agg #[vl, vw, .int .i64 r.fuse, .bool r.off], .int .i64 (f : Int)] W fun e w' => e = .returned (.tuple #[.string ByteArray.empty, .int .i64 14]) ∧ Upd (fun _ => False) W w' := by
    intro W hW
    have := rread_c (h.upd hW) hf (f : Int)
    rw [hI.read] at this
    unfold Dk.read at this
    rw [hoff, if_pos rfl] at this
    exact this
  have hrd := Lib.hid hrd0
  clear hrd0
  obtain ⟨A, cap, rfl, -, -⟩ := h.lasts.shape
  obtain ⟨A2, cap2, rfl, -, -⟩ := h.ws.shape
  obtain ⟨w3, hw3⟩ : ∃ w3, (w.alloc (.cells #[.slice A r.lasts.length cap, .slice A2 r.ws.length cap2, .int .i64 r.fuse, .bool r.off] 33)).alloc (.cells zeroLg 39) = w3 := ⟨_, rfl⟩
  obtain ⟨hU3, hB2, hB4, hsz⟩ := two_new w3 hw3
  have hc2 := hB2.cells4
  have HB := Lib.hid (And.intro hB2 hB4)
  have HU := Lib.hid (And.intro hU3 hsz)
  have Hw := Lib.hid hw3
  have hf1 : ¬ (r.lasts.length : Int) - (n : Int) < (f : Int) := by omega
  have hf2 : f ≤ 5000 := by omega
  have hf3 : ¬ (r.lasts.length : Int) < (n : Int) := by omega
  have hf4 : n ≤ 5000 := by omega
  have hf5 : ((e : Int) == 0) = false := by rw [beq_eq_false_iff_ne]; omega
  clear hB2 hB4 hU3 hw3 hsz h hf hI hoff hrl hr
  go_enter Tryz.func38, Tryz.ntmps38
  go_upto_region 1 with fail
  rw [Hw.out]
  clear Hw
  go_upto_region 4 with (first
    | (refine wpList_store_all rfl 39 _ _ rfl w3.heap.size (Lg.rowR ⟨f, n, e, [], 0, 0, 0, false⟩ (.slice none 0 0)) rfl rfl _ _ (Blk.new w3 _ _) rfl (Lg.rowR_one _ _ rfl) (by kernel_rfl) ?_
       intro w4 hB4 hU4 hs4))
  have hU : Upd (fun q => q = w3.heap.size) w3 w4 := ((Upd.refl _ w3).alloc _).then hU4 (fun q e => .inl e)
  have hs3 := HU.out.2
  have H4 := Lib.hid (And.intro (HU.out.1.then hU (fun q e => .inr (by omega)) : Upd (fun _ => False) w w4) (And.intro (HB.out.1.upd hU (fun e => by omega)) (HB.out.2.upd hU (fun e => by omega))))
  clear hB4 hU4 hs4 hc2 hU hs3 HB
  go_wp2_with fail
  go_loopw [11, 12, 13, 14, 15, 16] (fun v i _ _ _ _ wr => v = .slice none 0 0 ∧ i = .int .i64 0 ∧ w4 = wr) (fun _ _ _ _ _ _ _ => 0)
  case atStart => exact ⟨rfl, rfl, rfl⟩
  case round =>
    obtain ⟨rfl, rfl, rfl⟩ := hrel
    have HR := Lib.hid (hrd.out w4 H4.out.1)
    go_upto_region 9 with (first
      | (refine wpList_load_all rfl _ _ rfl w.heap.size rfl _ _ _ H4.out.2.1 Tryz.underlying33 rfl rfl ?_)
      | (go_at_call 57; refine HR.out.mono ?_; rintro e w5 ⟨rfl, hU5⟩
         have H5 := Lib.hid (And.intro (H4.out.1.then hU5 (fun _ e => e.elim)) (H4.out.2.2.upd hU5 (fun e => e)))
         clear hU5))
    go_upto_region 10 with fail
    go_wp2_with (first
      | (refine wpList_store_all rfl 39 _ _ rfl (w.heap.size + 1) zeroLg rfl rfl _ _ H5.out.2 rfl zeroLg_one (by kernel_rfl) ?_
         intro w7 hB7 hU7 hs7))
    refine bodyPost_ret (results_cell_slot rfl _ _ (w.heap.size + 1) _ _ _ _ rfl hB7 Tryz.underlying39 rfl rfl (.int .i64 14) rfl) rfl ⟨rfl, ?_⟩
    exact H5.out.1.then hU7 (fun q e => .inr (by omega))
theorem Grows.blk {w wr wx : World} {v : Value} {n : Nat} {l : List ByteArray} {g : Nat} {t : TypeId} {cs : Array Value} (h : Grows w wr v n l) (hB : Blk wr g t cs) (ht : 9 ≠ t) (hg : w.heap.size ≤ g) (hu : Upd (· = g) wr wx) : Grows w wx v n l :=
  ⟨h.own.upd hu (fun _ hq e => h.own.ne_blk hB ht (e ▸ hq)), h.upd.then hu (fun _ e => .inr (e ▸ hg)), h.new⟩
set_option maxRecDepth 100000 in
set_option maxHeartbeats 3200000 in
theorem refOpenG_on {w : World} {vl vw : Value} {d : Dk} {r : Rd} (h : RdAt w vl vw r) (hf : r.fits) (hI : RdIs d r) (hwf : d.wf) (hoff : d.off = false) (f n e : Nat) (hn1 : 1 ≤ n) (hn : n ≤ 60) (hr : f + n ≤ d.lasts.length) (he : 1 ≤ e) (he2 : e < 2 ^ (8 * 8)) :
    Calls Tryz.prog 38 #[.agg #[vl, vw, .int .i64 r.fuse, .bool r.off], .int .i64 (f : Int), .int .i64 (n : Int), .int .u64 (e : Int)] w fun en w' => ∃ vg, en = .returned (.tuple #[.agg (openLg (openGR d f n e) vg), .int .i64 (openErrG (openGR d f n e))]) ∧ OpensL w w' (openGR d f n e) vg := by
  have hl1 := hf.lasts
  have hrl : r.lasts.length = d.lasts.length := by rw [hI.lasts]
  obtain ⟨i0, hi0, hz0, hz1, hz2⟩ := info_parts infoStr
  have hrd0 : ∀ W, Upd (fun _ => False) w W → ∀ j : Nat, j < n → Calls Tryz.prog 57 #[.agg #[vl, vw, .int .i64 r.fuse, .bool r.off], .int .i64 ((f : Int) + (j : Int))] W fun e w' => e = .returned (.tuple #[.string (d.now (f + j)), .int .i64 0]) ∧ Upd (fun _ => False) W w' := by
    intro W hW j hj
    have := rread_c (h.upd hW) hf ((f : Int) + (j : Int))
    rw [hI.read, show ((f : Int) + (j : Int)) = ((f + j : Nat) : Int) by omega, Dk.read_there hoff (by omega)] at this
    exact this
  have hnow : Hid (∀ j, j < n → (d.now (f + j)).size = 64) := fun j hj => hwf.now_size (by omega)
  have hrd := Lib.hid hrd0
  clear hrd0
  obtain ⟨A, cap, rfl, -, -⟩ := h.lasts.shape
  obtain ⟨A2, cap2, rfl, -, -⟩ := h.ws.shape
  obtain ⟨w3, hw3⟩ : ∃ w3, (w.alloc (.cells #[.slice A r.lasts.length cap, .slice A2 r.ws.length cap2, .int .i64 r.fuse, .bool r.off] 33)).alloc (.cells zeroLg 39) = w3 := ⟨_, rfl⟩
  obtain ⟨hU3, hB2, hB4, hsz⟩ := two_new w3 hw3
  have hc2 := hB2.cells4
  have HB := Lib.hid (And.intro hB2 hB4)
  have HU := Lib.hid (And.intro hU3 hsz)
  have Hw := Lib.hid hw3
  have hf1 : ¬ (r.lasts.length : Int) - (n : Int) < (f : Int) := by omega
  have hf2 : f ≤ 5000 := by omega
  have hf3 : ¬ (r.lasts.length : Int) < (n : Int) := by omega
  have hf5 : ((e : Int) == 0) = false := by rw [beq_eq_false_iff_ne]; omega
  have HE := Lib.hid (And.intro he he2)
  clear hB2 hB4 hU3 hw3 hsz h hf hI hwf hoff hrl hr he he2
  obtain ⟨O, hO⟩ : ∃ O, openGR d f n e = O := ⟨_, rfl⟩
  rw [hO]
  have HO := Lib.hid hO
  clear hO
  go_enter Tryz.func38, Tryz.ntmps38
  go_upto_region 1 with fail
  rw [Hw.out]
  clear Hw
  go_upto_region 4 with (first
    | (refine wpList_store_all rfl 39 _ _ rfl w3.heap.size (Lg.rowR ⟨f, n, e, [], 0, 0, 0, false⟩ (.slice none 0 0)) rfl rfl _ _ (Blk.new w3 _ _) rfl (Lg.rowR_one _ _ rfl) (by kernel_rfl) ?_
       intro w4 hB4 hU4 hs4))
  have hO4 : Opens10 w w4 w3.heap.size (.slice none 0 0) (.slice A r.lasts.length cap) (.slice A2 r.ws.length cap2) d r f n e 0 := by
    have hU : Upd (fun q => q = w3.heap.size) w3 w4 := ((Upd.refl _ w3).alloc _).then hU4 (fun q e => .inl e)
    have hs3 := HU.out.2
    refine ⟨⟨Own.nil _ _ _, HU.out.1.then hU (fun q e => .inr (by omega)), by simp [Value.ownBlock]⟩, hB4, HB.out.1.upd hU (fun e => by omega), HB.out.2.upd hU (fun e => by omega), rfl⟩
  have HO4 := Lib.hid hO4
  clear hO4 hB4 hU4 hs4 hc2
  obtain ⟨g, hg⟩ : ∃ g, w3.heap.size = g := ⟨_, rfl⟩
  rw [hg] at HO4 ⊢
  have Hg : Hid (g = w.heap.size + 2) := by show _ = _; rw [← hg]; exact HU.out.2
  clear hg
  go_wp2_with fail
  go_loopw [11, 12, 13, 14, 15, 16] (fun v i _ _ _ _ wr => ∃ j : Nat, j ≤ n ∧ i = .int .i64 (j : Int) ∧ Opens10 w wr g v (.slice A r.lasts.length cap) (.slice A2 r.ws.length cap2) d r f n e j) (fun _ i _ _ _ _ _ => n - (intOf i).toNat)
  case atStart => exact ⟨0, by omega, rfl, HO4.out⟩
  case round =>
    rename World => wa
    obtain ⟨j, hj, rfl, hOp⟩ := hrel
    have H := Lib.hid hOp
    clear hOp HO4 HB
    by_cases hlt : j < n
    · obtain ⟨S, hS⟩ : ∃ S, d.now (f + j) = S := ⟨_, rfl⟩
      have hrj := hrd.out wa H.out.list.upd j hlt
      have hsz := hnow.out j hlt
      rw [hS] at hrj hsz
      have HR := Lib.hid hrj
      have hlo : ∀ W, _ := fun W => refLook_c S W (by omega)
      obtain ⟨⟨B, z⟩, hF⟩ : ∃ F, lookL S.data.toList = F := ⟨_, rfl⟩
      rw [hF] at hlo
      simp only at hlo
      have HLo := Lib.hid hlo
      have HF := Lib.hid (And.intro hS hF)
      have hwr : IntKind.i64.wrap ((f : Int) + (j : Int)) = (f : Int) + (j : Int) := IntWalk.i64_in _ (by omega)
      clear hS hrj hlo hF hsz
      have hz3 : z = 0 ∨ z = 1 ∨ z = 2 := by
        have := lookL_cases S.data.toList
        rw [HF.out.2] at this
        exact this
      go_upto_region 11 with (first
        | (refine wpList_load_all rfl _ _ rfl w.heap.size rfl _ _ _ H.out.box Tryz.underlying33 rfl rfl ?_)
        | (go_at_call 57; refine HR.out.mono ?_; rintro e w5 ⟨rfl, hU5⟩
           have H5 := Lib.hid (H.out.still hU5)
           clear hU5))
      go_wp2_with fail
      refine (HLo.out _).mono ?_
      rintro e w6 ⟨rfl, hU6⟩
      have H6 := Lib.hid (H5.out.still hU6)
      clear hU6 H5
      rcases hz3 with rfl | rfl | rfl
      · have hc6 := H6.out.kept.cells8
        go_wp2_with fail
        go_quiet (fail)
        have H7 := Lib.hid (H6.out.still ((Upd.refl _ w6).drewN nq))
        have hO7 := H7.out.list.own.alloc (.cells #[.string S] 9)
        go_wp2_with (at_builtin; refine wpList_append_src rfl _ _ _ _ rfl 9 i0 _ 1 16 Tryz.underlying30 hi0 hz0 hz1 hz2 rfl u11 j _ rfl hO7 _ 1 [_] rfl (Src.of_new Tryz.underlying30 _) (by simp [Value.oneCell']) (by unfold maxLen; omega) (by omega) ?_; intro v2 w8 hO8 hU8 hl8 hs8)
        have hal := Upd.refl (fun _ => False) (w6.drewN nq)
        have hG8 := (H7.out.list.still (hal.alloc (.cells #[.string S] 9))).app hO8 hU8 hl8
        have hno : ∀ q t cs, Blk (w6.drewN nq) q t cs → 9 ≠ t → Blk w8 q t cs := fun q t cs hB ht => (hB.alloc _).upd hU8 (H7.out.list.own.ne_blk hB ht)
        have hN := H7.out.next HF.out.1 (by rw [HF.out.2]; simp) (seeG_no HF.out.2) hG8 (hno _ _ _ H7.out.kept (by decide)) (hno _ _ _ H7.out.box (by decide)) (hno _ _ _ H7.out.res (by decide))
        go_roundw
        case rel => exact ⟨j + 1, by omega, by go_num, hN⟩
        case measure => simp only [intOf]; omega
      · obtain ⟨M, hM⟩ : ∃ M, (secsL d f j).foldl seeG 0 = M := ⟨_, rfl⟩
        have hB60 : B.length = 60 := by have := look_60G (s := S.data.toList) (by rw [HF.out.2]); rw [HF.out.2] at this; exact this
        obtain ⟨SB, hSB⟩ : ∃ SB, str B = SB := ⟨_, rfl⟩
        have hgen : ∀ W, _ := fun W => number_same SB 8 W (by rw [← hSB, str_size]; omega) (by rw [← hSB, str_size]; omega)
        rw [← hSB, str_list, hSB] at hgen
        obtain ⟨G, hG⟩ : ∃ G, leN ((B.drop 8).take 8) = G := ⟨_, rfl⟩
        rw [hG] at hgen
        rw [hSB]
        have HGen := Lib.hid hgen
        have hc6 := H6.out.kept.cells8
        have hf6 := H6.out.kept.frozen 6
        simp only [hM] at hc6
        have HM := Lib.hid (And.intro hM hG)
        clear hgen hSB hB60 hM hG
        by_cases hlt2 : M < G
        · have hd : decide (M < G) = true := decide_eq_true hlt2
          go_wp2_with fail
          go_quiet (first | (go_at_call 86; exact Calls.quiet_of_same (HGen.out _)))
          have H7 := Lib.hid (H6.out.still ((Upd.refl _ w6).drewN nq))
          have hne := H7.out.list.own.ne_blk H7.out.kept (by decide)
          have hO7 := (H7.out.list.own.far (p := ⟨g, 6, none⟩) hne (.int .u64 (G : Int))).alloc (.cells #[.string S] 9)
          go_wp2_with (first | (at_builtin; refine wpList_append_src rfl _ _ _ _ rfl 9 i0 _ 1 16 Tryz.underlying30 hi0 hz0 hz1 hz2 rfl u11 j _ rfl hO7 _ 1 [_] rfl (Src.of_new_at Tryz.underlying30 _ (by simp)) (by simp [Value.oneCell']) (by unfold maxLen; omega) (by omega) ?_; intro v2 w8 hO8 hU8 hl8 hs8) | (go_at_call 86; refine (HGen.out _).mono ?_; rintro e w9 ⟨rfl, rfl⟩))
          have hst : Upd (fun q => q = g) (w6.drewN nq) ((w6.drewN nq).setCell ⟨g, 6, none⟩ (.int .u64 (G : Int))) := (Upd.refl (· = g) (w6.drewN nq)).setCell (p := ⟨g, 6, none⟩) (.inl rfl) _
          have hG7 : Grows w ((w6.drewN nq).setCell ⟨g, 6, none⟩ (.int .u64 (G : Int))) u11 j (secsB d f j) := ⟨H7.out.list.own.far (p := ⟨g, 6, none⟩) hne _, H7.out.list.upd.then hst (fun q e => .inr (by have := Hg.out; omega)), H7.out.list.new⟩
          have hG8 := (hG7.still ((Upd.refl (fun _ => False) _).alloc (.cells #[.string S] 9))).app hO8 hU8 hl8
          have hno : ∀ q t cs, Blk ((w6.drewN nq).setCell ⟨g, 6, none⟩ (.int .u64 (G : Int))) q t cs → 9 ≠ t → Blk w8 q t cs := fun q t cs hB ht => (hB.alloc _).upd hU8 (hG7.own.ne_blk hB ht)
          have hk7 := H7.out.kept.set_ 6 (.int .u64 (G : Int))
          have hN := H7.out.next (m := G) HF.out.1 (by rw [HF.out.2]; simp) (by rw [seeG_one HF.out.2, HM.out.1, HM.out.2]; omega) hG8 (hno _ _ _ hk7 (by decide)) (hno _ _ _ (H7.out.box.upd hst (by have := Hg.out; omega)) (by decide)) (hno _ _ _ (H7.out.res.upd hst (by have := Hg.out; omega)) (by decide))
          go_roundw
          case rel => exact ⟨j + 1, by omega, by go_num, hN⟩
          case measure => simp only [intOf]; omega
        · have hd : decide (M < G) = false := decide_eq_false hlt2
          go_wp2_with fail
          go_quiet (first | (go_at_call 86; exact Calls.quiet_of_same (HGen.out _)))
          have H7 := Lib.hid (H6.out.still ((Upd.refl _ w6).drewN nq))
          have hO7 := H7.out.list.own.alloc (.cells #[.string S] 9)
          go_wp2_with (at_builtin; refine wpList_append_src rfl _ _ _ _ rfl 9 i0 _ 1 16 Tryz.underlying30 hi0 hz0 hz1 hz2 rfl u11 j _ rfl hO7 _ 1 [_] rfl (Src.of_new Tryz.underlying30 _) (by simp [Value.oneCell']) (by unfold maxLen; omega) (by omega) ?_; intro v2 w8 hO8 hU8 hl8 hs8)
          have hal := Upd.refl (fun _ => False) (w6.drewN nq)
          have hG8 := (H7.out.list.still (hal.alloc (.cells #[.string S] 9))).app hO8 hU8 hl8
          have hno : ∀ q t cs, Blk (w6.drewN nq) q t cs → 9 ≠ t → Blk w8 q t cs := fun q t cs hB ht => (hB.alloc _).upd hU8 (H7.out.list.own.ne_blk hB ht)
          have hN := H7.out.next HF.out.1 (by rw [HF.out.2]; simp) (by rw [seeG_one HF.out.2, HM.out.1, HM.out.2]; omega) hG8 (hno _ _ _ (HM.out.1 ▸ H7.out.kept) (by decide)) (hno _ _ _ H7.out.box (by decide)) (hno _ _ _ H7.out.res (by decide))
          go_roundw
          case rel => exact ⟨j + 1, by omega, by go_num, hN⟩
          case measure => simp only [intOf]; omega
      · go_wp2_with (first
          | (refine wpList_store_all rfl 39 _ _ rfl (w.heap.size + 1) zeroLg rfl rfl _ _ H6.out.res rfl zeroLg_one (by kernel_rfl) ?_
             intro w7 hB7 hU7 hs7))
        have hO := badG_at (e := e) hlt HF.out.1 (by rw [HF.out.2])
        rw [HO.out] at hO
        subst hO
        refine bodyPost_ret (results_cell_slot rfl _ _ (w.heap.size + 1) _ _ _ _ rfl hB7 Tryz.underlying39 rfl rfl (.int .i64 9) rfl) rfl ⟨.slice none 0 0, rfl, ⟨?_, fun g e => (by cases e), fun _ => rfl, by simp [Value.ownBlock]⟩⟩
        exact H6.out.list.upd.then hU7 (fun q e => .inr (by omega))
    · obtain rfl : j = n := by omega
      obtain ⟨gl, capl, rfl, hcl1, hcl2⟩ := H.out.list.own.head (by omega)
      obtain ⟨L, hL⟩ : ∃ L, secsB d f j = L := ⟨_, rfl⟩
      have hlist := secsB_lists d f j
      have hlen := secsB_len d f j
      have hsz : ∀ s ∈ secsB d f j, s.size ≤ 64 := by
        intro s hs
        unfold secsB at hs
        rw [List.mem_map] at hs
        obtain ⟨i, hi, rfl⟩ := hs
        rw [hnow.out i (List.mem_range.1 hi)]
        omega
      have hOp : openGR d f j e = some (loopR (j + 1) ⟨f, j, e, [], 0, 0, (secsL d f j).foldl seeG 0, false⟩ (secsL d f j)) := by
        unfold openGR
        rw [H.out.good, if_neg (by simp)]
      rw [HO.out] at hOp
      obtain ⟨G, hG⟩ : ∃ G, loopR (j + 1) ⟨f, j, e, [], 0, 0, (secsL d f j).foldl seeG 0, false⟩ (secsL d f j) = G := ⟨_, rfl⟩
      rw [hG] at hOp
      subst hOp
      have hgl := H.out.list
      rw [hL] at hlist hlen hsz hgl
      have hR0 : Reads10 w wa g (.slice (some ⟨gl, 0, none⟩) j capl) (.slice none 0 0) L ⟨f, j, e, [], 0, 0, (secsL d f j).foldl seeG 0, false⟩ j G :=
        ⟨by rw [hlen]; exact hgl, H.out.kept, Own.nil _ _ _, by simp [Value.ownBlock], by simp [Value.ownBlock], H.out.res, Nat.zero_le _, Nat.le_refl _, by show 0 < _; decide, HE.out, ⟨j + 1, by rw [List.drop_zero, hlen]; omega, by rw [List.drop_zero, hlist]; exact hG⟩⟩
      have HR0 := Lib.hid hR0
      have HL := Lib.hid (And.intro hlen hsz)
      clear hlist hlen hsz hL hG hgl hR0 hrd HE H HO hnow
      have hj5 : (j : Int) ≤ (capl : Int) := by omega
      go_wp2_with fail
      go_loopw [17, 18, 19] (fun _ _ _ wr => ∃ vg gg, Reads10 w wr g (.slice (some ⟨gl, 0, none⟩) j capl) vg L gg j G) (fun _ _ _ wr => j - usedAt wr g)
      case atStart => exact ⟨_, _, HR0.out⟩
      case round =>
        rename World => wr
        obtain ⟨vg, ⟨f_, n_, e_, l_, us, la, sa_, br⟩, hR⟩ := hrel
        have H := Lib.hid hR
        have husl := hR.used
        rw [HL.out.1] at husl
        simp only at husl
        have hat0 : ∀ W A c, Upd (fun _ => False) wr W → (us < j → A = some ⟨gl, us, none⟩) → Calls Tryz.prog 87 #[.agg (Lg.rowR ⟨f_, n_, e_, l_, us, la, sa_, br⟩ vg), .slice A (j - us) c] W fun e w' => e = .returned (.tuple #[.string (str (atR e_ la ((L.drop us).map fun s => s.data.toList)).1), .int .u64 ((atR e_ la ((L.drop us).map fun s => s.data.toList)).2.1 : Int), .bool (atR e_ la ((L.drop us).map fun s => s.data.toList)).2.2]) ∧ Upd (fun _ => False) W w' := by
          intro W A c hW hA
          have hown := (H.out.list.own.upd hW (fun _ _ e => e))
          rw [HL.out.1] at hown
          exact refAt_c ⟨f_, n_, e_, l_, us, la, sa_, br⟩ (Row.drop_own hown HL.out.1 husl (by omega) A hA c) (by rw [List.length_drop, HL.out.1]; omega) (fun s hs => HL.out.2 s (List.mem_of_mem_drop hs))
        obtain ⟨⟨t, s, ok⟩, hT⟩ : ∃ T, atR e_ la ((L.drop us).map fun s => s.data.toList) = T := ⟨_, rfl⟩
        rw [hT] at hat0
        simp only at hat0
        have hat := Lib.hid hat0
        have HT := Lib.hid hT
        clear hR hat0 hT HR0
        go_upto_region 17 with fail
        refine wp_region_noPanic ?_
        refine wp_region_T (S := fun w' => Upd (fun _ => False) wr w') (T := fun _ => false) (by kernel_rfl) ?_
        have hS0 : Upd (fun _ => False) wr wr.drew := (Upd.refl _ _).drew
        refine wpAnyT_take (i := 0) (v := ?_) rfl (by kernel_rfl) (by kernel_rfl) (by kernel_rfl) (by kernel_rfl) (fun _ _ _ h => h) (takes_yield rfl (Or.inl ⟨by rfl, ?_⟩)) (by assumption) (by kernel_rfl) ?_
        rotate_left 1
        · intro w' hSw; have hck := (H.out.kept.upd hSw (fun e => e)).cells8; go_split_ands; first | (go_simp; done) | (go_simp; rfl) | rfl
        simp only [Act.put, List.getElem_toArray, List.getElem_cons_zero, List.setIfInBounds_toArray, List.set_cons_zero, List.set_cons_succ]
        refine wpAnyT_take (i := 1) (v := ?_) rfl (by kernel_rfl) (by kernel_rfl) (by kernel_rfl) (by kernel_rfl) (fun _ _ _ h => h) (takes_yield rfl (Or.inl ⟨by rfl, ?_⟩)) (by assumption) (by kernel_rfl) ?_
        rotate_left 1
        · intro w' hSw; have hck := (H.out.kept.upd hSw (fun e => e)).cells8; go_split_ands; first | (go_simp; done) | (go_simp; rfl) | rfl
        simp only [Act.put, List.getElem_toArray, List.getElem_cons_zero, List.getElem_cons_succ, List.setIfInBounds_toArray, List.set_cons_zero, List.set_cons_succ]
        refine wpAnyT_take (i := 2) (v := ?_) rfl (by kernel_rfl) (by kernel_rfl) (by kernel_rfl) (by kernel_rfl) (fun _ _ _ h => h) (takes_yield rfl (Or.inl ⟨by rfl, ?_⟩)) (by assumption) (by kernel_rfl) ?_
        rotate_left 1
        · intro w' hSw; have hck := (H.out.kept.upd hSw (fun e => e)).cells8; go_split_ands; first | (go_simp; done) | (go_simp; rfl) | rfl
        simp only [Act.put, List.getElem_toArray, List.getElem_cons_zero, List.getElem_cons_succ, List.setIfInBounds_toArray, List.set_cons_zero, List.set_cons_succ]
        refine wpAnyT_take (i := 3) (v := ?_) rfl (by kernel_rfl) (by kernel_rfl) (by kernel_rfl) (by kernel_rfl) (fun _ _ _ h => h) (takes_yield rfl (Or.inl ⟨by rfl, ?_⟩)) (by assumption) (by kernel_rfl) ?_
        rotate_left 1
        · intro w' hSw; have hck := (H.out.kept.upd hSw (fun e => e)).cells8; go_split_ands; first | (go_simp; done) | (go_simp; rfl) | rfl
        simp only [Act.put, List.getElem_toArray, List.getElem_cons_zero, List.getElem_cons_succ, List.setIfInBounds_toArray, List.set_cons_zero, List.set_cons_succ]
        refine wpAnyT_take (i := 4) (v := ?_) rfl (by kernel_rfl) (by kernel_rfl) (by kernel_rfl) (by kernel_rfl) (fun _ _ _ h => h) (takes_yield rfl (Or.inl ⟨by rfl, ?_⟩)) (by assumption) (by kernel_rfl) ?_
        rotate_left 1
        · intro w' hSw; have hck := (H.out.kept.upd hSw (fun e => e)).cells8; go_split_ands; first | (go_simp; done) | (go_simp; rfl) | rfl
        simp only [Act.put, List.getElem_toArray, List.getElem_cons_zero, List.getElem_cons_succ, List.setIfInBounds_toArray, List.set_cons_zero, List.set_cons_succ]
        obtain ⟨A0, hA0⟩ : ∃ A0 : Option Addr, (if capl = us then some ⟨gl, 0, none⟩ else some ⟨gl, us, none⟩) = A0 := ⟨_, rfl⟩
        rw [hA0]
        have HA0 : Hid (us < j → A0 = some ⟨gl, us, none⟩) := Lib.hid fun h => by rw [← hA0, if_neg (by omega)]
        clear hA0
        refine wpAnyT_one (i := 5) (by kernel_rfl) rfl (fun K hK => ?_)
        go_simp
        refine (hat.out _ _ _ hS0 HA0.out).mono ?_
        rintro e w5 ⟨rfl, hU5⟩
        have hS5 := hS0.then hU5 (fun _ e => e.elim)
        refine hK.out _ _ hS5 ?_
        clear hK hS0 hU5
        refine wpAnyT_take (i := 6) (v := ?_) rfl (by kernel_rfl) (by kernel_rfl) (by kernel_rfl) (by kernel_rfl) (fun _ _ _ h => h) (takes_yield rfl (Or.inl ⟨by rfl, ?_⟩)) (by assumption) (by kernel_rfl) ?_
        rotate_left 1
        · intro w' hSw; go_split_ands; first | (go_simp; done) | (go_simp; rfl) | rfl
        simp only [Act.put, List.getElem_toArray, List.getElem_cons_zero, List.getElem_cons_succ, List.setIfInBounds_toArray, List.set_cons_zero, List.set_cons_succ]
        refine wpAnyT_take (i := 7) (v := ?_) rfl (by kernel_rfl) (by kernel_rfl) (by kernel_rfl) (by kernel_rfl) (fun _ _ _ h => h) (takes_yield rfl (Or.inl ⟨by rfl, ?_⟩)) (by assumption) (by kernel_rfl) ?_
        rotate_left 1
        · intro w' hSw; go_split_ands; first | (go_simp; done) | (go_simp; rfl) | rfl
        simp only [Act.put, List.getElem_toArray, List.getElem_cons_zero, List.getElem_cons_succ, List.setIfInBounds_toArray, List.set_cons_zero, List.set_cons_succ]
        refine wpAnyT_take (i := 8) (v := ?_) rfl (by kernel_rfl) (by kernel_rfl) (by kernel_rfl) (by kernel_rfl) (fun _ _ _ h => h) (takes_yield rfl (Or.inl ⟨by rfl, ?_⟩)) (by assumption) (by kernel_rfl) ?_
        rotate_left 1
        · intro w' hSw; go_split_ands; first | (go_simp; done) | (go_simp; rfl) | rfl
        simp only [Act.put, List.getElem_toArray, List.getElem_cons_zero, List.getElem_cons_succ, List.setIfInBounds_toArray, List.set_cons_zero, List.set_cons_succ]
        refine wpAnyT_take (i := 9) (v := ?_) rfl (by kernel_rfl) (by kernel_rfl) (by kernel_rfl) (by kernel_rfl) (fun _ _ _ h => h) (takes_yield rfl (Or.inl ⟨by rfl, ?_⟩)) (by assumption) (by kernel_rfl) ?_
        rotate_left 1
        · intro w' hSw; go_split_ands; first | (go_simp; done) | (go_simp; rfl) | rfl
        simp only [Act.put, List.getElem_toArray, List.getElem_cons_zero, List.getElem_cons_succ, List.setIfInBounds_toArray, List.set_cons_zero, List.set_cons_succ]
        refine wpAnyT_take (i := 10) (v := ?_) rfl (by kernel_rfl) (by kernel_rfl) (by kernel_rfl) (by kernel_rfl) (fun _ _ _ h => h) (takes_yield rfl (Or.inl ⟨by rfl, ?_⟩)) (by assumption) (by kernel_rfl) ?_
        rotate_left 1
        · intro w' hSw; go_split_ands; first | (go_simp; done) | (go_simp; rfl) | rfl
        simp only [Act.put, List.getElem_toArray, List.getElem_cons_zero, List.getElem_cons_succ, List.setIfInBounds_toArray, List.set_cons_zero, List.set_cons_succ]
        refine wpAnyT_take (i := 11) (v := ?_) rfl (by kernel_rfl) (by kernel_rfl) (by kernel_rfl) (by kernel_rfl) (fun _ _ _ h => h) (takes_yield rfl (Or.inl ⟨by rfl, ?_⟩)) (by assumption) (by kernel_rfl) ?_
        rotate_left 1
        · intro w' hSw; go_split_ands; first | (go_simp; done) | (go_simp; rfl) | rfl
        simp only [Act.put, List.getElem_toArray, List.getElem_cons_zero, List.getElem_cons_succ, List.setIfInBounds_toArray, List.set_cons_zero, List.set_cons_succ]
        refine wpAnyT_take (i := 12) (v := ?_) rfl (by kernel_rfl) (by kernel_rfl) (by kernel_rfl) (by kernel_rfl) (fun _ _ _ h => h) (takes_yield rfl (Or.inl ⟨by rfl, ?_⟩)) (by assumption) (by kernel_rfl) ?_
        rotate_left 1
        · intro w' hSw; go_split_ands; first | (go_simp; done) | (go_simp; rfl) | rfl
        simp only [Act.put, List.getElem_toArray, List.getElem_cons_zero, List.getElem_cons_succ, List.setIfInBounds_toArray, List.set_cons_zero, List.set_cons_succ]
        refine wpAnyT_done (by kernel_rfl) ?_ _
        refine NoPanic.normal ?_
        have hmu : usedAt wr g = us := by
          unfold usedAt
          rw [H.out.kept.cell 4]
          rfl
        have HMu := Lib.hid hmu
        have H5 := Lib.hid (H.out.still hS5)
        clear hS5 H hmu HA0
        cases ok
        · have hG := H5.out.done (by rw [HT.out])
          subst hG
          go_wp2_with (first
            | (refine wpList_load_all rfl _ _ rfl g rfl _ _ _ H5.out.kept Tryz.underlying39 rfl rfl ?_)
            | (refine wpList_store_all rfl 39 _ _ rfl (w.heap.size + 1) (Lg.rowR ⟨f_, n_, e_, l_, us, la, sa_, br⟩ vg) rfl rfl _ _ H5.out.res rfl (Lg.rowR_one _ _ H5.out.own.one) (by kernel_rfl) ?_
               intro w7 hB7 hU7 hs7))
          refine bodyPost_ret (results_cell_slot rfl _ _ (w.heap.size + 1) _ _ _ _ rfl hB7 Tryz.underlying39 rfl rfl (.int .i64 0) rfl) rfl ⟨vg, rfl, ⟨?_, fun g e => ?_, fun e => (by cases e), H5.out.new⟩⟩
          · exact H5.out.list.upd.then hU7 (fun q e => .inr (by omega))
          · cases e
            exact H5.out.own.upd hU7 (fun q hq e => H5.out.own.ne_blk H5.out.res (by decide) (e ▸ hq))
        · obtain ⟨e1, e2⟩ := at_first (L := (L.drop us).map fun s => s.data.toList) H5.out.ep.1 H5.out.ep.2 H5.out.last
          simp only [HT.out] at e1 e2
          obtain ⟨-, -, -, -, a5, a6⟩ := e2 trivial
          have hp1 := partsOf_pos t.length
          rw [List.length_map, List.length_drop, HL.out.1] at a5
          obtain ⟨pn, hpn⟩ : ∃ pn, partsOf t.length = pn := ⟨_, rfl⟩
          have hparts : ∀ W, Calls Tryz.prog 88 #[.string (str t)] W fun e w' => e = .returned (.int .i64 (pn : Int)) ∧ W = w' := fun W => by
            have := refParts_c (str t) W (by rw [str_size]; omega)
            rw [str_size, hpn] at this
            exact this
          rw [hpn] at a5 hp1
          have HPa := Lib.hid hparts
          have HPn := Lib.hid hpn
          have hrec := H5.out.recs
          simp only at hrec
          clear e1 e2 hparts hpn a6
          have hck := H5.out.kept.cells8
          have ho5 : Own (w5.alloc (.cells #[.string (str t)] 9)) 9 1 vg l_.length (strs l_) := H5.out.own.alloc (.cells #[.string (str t)] 9)
          go_upto_region 21 with (first | (at_builtin; refine wpList_append_src rfl _ _ _ _ rfl 9 i0 _ 1 16 Tryz.underlying30 hi0 hz0 hz1 hz2 rfl vg l_.length _ rfl ho5 _ 1 [_] rfl (Src.of_new Tryz.underlying30 _) (by simp [Value.oneCell']) (by unfold maxLen; omega) (by omega) ?_; intro v2 w8 hO8 hU8 hl8 hs8; have hk8 := (H5.out.kept.alloc (.cells #[.string (str t)] 9)).upd hU8 (H5.out.own.ne_blk H5.out.kept (by decide)); have hv8 := hO8.one) | (refine wpList_store_one rfl 30 _ _ rfl g 3 v2 rfl rfl _ _ hk8 (by simp) hv8 (by kernel_rfl) ?_; intro w9 hk9' hst hs9))
          have hk9 : Blk w9 g 39 (Lg.rowR ⟨f_, n_, e_, l_, us, la, sa_, br⟩ v2) := by
            simp at hk9'
            exact hk9'
          clear hk9'
          have hgr8 : Grows w w8 (.slice (some ⟨gl, 0, none⟩) j capl) L.length L := by
            have h1 := H5.out.list.still ((Upd.refl (fun _ => False) w5).alloc (.cells #[.string (str t)] 9))
            exact ⟨h1.own.upd hU8 (fun q hq e => H5.out.ne q e hq), h1.upd.then hU8 (fun q e => .inr (H5.out.new q e)), h1.new⟩
          have hgl := Hg.out
          have hgr9 := hgr8.blk hk8 (by decide) (by omega) hst
          have ho9 : Own w9 9 1 v2 (l_.length + 1) (strs l_ ++ [.string (str t)]) := hO8.upd hst (fun q hq e => hO8.ne_blk hk8 (by decide) (e ▸ hq))
          have hr9 : Blk w9 (w.heap.size + 1) 39 zeroLg := ((H5.out.res.alloc (.cells #[.string (str t)] 9)).upd hU8 (H5.out.own.ne_blk H5.out.res (by decide))).upd hst (by omega)
          have hn9 : ∀ q, v2.ownBlock = some q → w.heap.size ≤ q ∧ (Value.slice (some ⟨gl, 0, none⟩) j capl).ownBlock ≠ some q := fun q hq => by
            have hsz5 := H5.out.list.upd.size
            rcases hl8 with e | e
            · rw [e] at hq
              exact ⟨H5.out.new q hq, H5.out.ne q hq⟩
            · rw [e] at hq
              have hq2 := Option.some.inj hq
              simp at hq2
              refine ⟨by omega, fun e2 => ?_⟩
              have := H5.out.list.own.lt e2
              omega
          have H9 := Lib.hid (And.intro hgr9 (And.intro hk9 (And.intro ho9 (And.intro hr9 hn9))))
          have hc9 := hk9.cells8
          clear hst hs9 hk9 hgr8 hgr9 ho9 hr9 hn9 hO8 hU8 hl8 hs8 hk8 hv8 hck ho5 hgl
          have hwu : IntKind.i64.wrap ((us : Int) + (pn : Int)) = (us : Int) + (pn : Int) := IntWalk.i64_in _ (by omega)
          refine wp_region_noPanic ?_
          refine wp_region_T (S := fun w' => Blk w' g 39 (Lg.rowR ⟨f_, n_, e_, l_, us, la, sa_, br⟩ v2)) (T := fun k => k == 6) (by kernel_rfl) ?_
          have hS0 := H9.out.2.1.drew
          refine wpAnyT_take (i := 0) (v := ?_) rfl (by kernel_rfl) (by kernel_rfl) (by kernel_rfl) (by kernel_rfl) (fun _ _ _ h => h) (takes_yield rfl (Or.inl ⟨by rfl, ?_⟩)) (by assumption) (by kernel_rfl) ?_
          rotate_left 1
          · intro w' hSw; have hck := hSw.cells8; go_split_ands; first | (go_simp; done) | (go_simp; rfl) | rfl
          simp only [Act.put, List.getElem_toArray, List.getElem_cons_zero, List.setIfInBounds_toArray, List.set_cons_zero, List.set_cons_succ]
          refine wpAnyT_take (i := 1) (v := ?_) rfl (by kernel_rfl) (by kernel_rfl) (by kernel_rfl) (by kernel_rfl) (fun _ _ _ h => h) (takes_yield rfl (Or.inl ⟨by rfl, ?_⟩)) (by assumption) (by kernel_rfl) ?_
          rotate_left 1
          · intro w' hSw; have hck := hSw.cells8; go_split_ands; first | (go_simp; done) | (go_simp; rfl) | rfl
          simp only [Act.put, List.getElem_toArray, List.getElem_cons_zero, List.getElem_cons_succ, List.setIfInBounds_toArray, List.set_cons_zero, List.set_cons_succ]
          refine wpAnyT_take (i := 2) (v := ?_) rfl (by kernel_rfl) (by kernel_rfl) (by kernel_rfl) (by kernel_rfl) (fun _ _ _ h => h) (takes_yield rfl (Or.inl ⟨by rfl, ?_⟩)) (by assumption) (by kernel_rfl) ?_
          rotate_left 1
          · intro w' hSw; have hck := hSw.cells8; go_split_ands; first | (go_simp; done) | (go_simp; rfl) | rfl
          simp only [Act.put, List.getElem_toArray, List.getElem_cons_zero, List.getElem_cons_succ, List.setIfInBounds_toArray, List.set_cons_zero, List.set_cons_succ]
          refine wpAnyT_one (i := 3) (by kernel_rfl) rfl (fun K hK => ?_)
          go_simp
          refine (HPa.out _).mono ?_
          rintro e wz ⟨rfl, rfl⟩
          refine hK.out _ _ hS0 ?_
          clear hK
          refine wpAnyT_take (i := 4) (v := ?_) rfl (by kernel_rfl) (by kernel_rfl) (by kernel_rfl) (by kernel_rfl) (fun _ _ _ h => h) (takes_yield rfl (Or.inl ⟨by rfl, ?_⟩)) (by assumption) (by kernel_rfl) ?_
          rotate_left 1
          · intro w' hSw; go_split_ands; first | (go_simp; done) | (go_simp; rfl) | rfl
          simp only [Act.put, List.getElem_toArray, List.getElem_cons_zero, List.getElem_cons_succ, List.setIfInBounds_toArray, List.set_cons_zero, List.set_cons_succ]
          refine wpAnyT_take (i := 5) (v := ?_) rfl (by kernel_rfl) (by kernel_rfl) (by kernel_rfl) (by kernel_rfl) (fun _ _ _ h => h) (takes_yield rfl (Or.inl ⟨by rfl, ?_⟩)) (by assumption) (by kernel_rfl) ?_
          rotate_left 1
          · intro w' hSw; go_split_ands; first | (go_simp; done) | (go_simp; rfl) | rfl
          simp only [Act.put, List.getElem_toArray, List.getElem_cons_zero, List.getElem_cons_succ, List.setIfInBounds_toArray, List.set_cons_zero, List.set_cons_succ]
          refine wpAnyT_oneT (i := 6) (by kernel_rfl) rfl (by kernel_rfl) (fun K hK => ?_)
          refine step_store_one (by rfl) 3 _ _ (by rfl) g 4 (.int .i64 ((us : Int) + (pn : Int))) (by rfl) (by rfl) _ _ (Lg.rowR ⟨f_, n_, e_, l_, us + pn, la, sa_, br⟩ v2) hS0 (by simp) ?_ rfl (by kernel_rfl) ?_
          · simp
          intro wy hBy hUy hsy
          refine hK.out _ _ ?_
          clear hK
          refine wpAnyT_done (by kernel_rfl) ?_ _
          refine NoPanic.normal ?_
          have hcy := hBy.cells8
          have hfy := hBy.frozen 5
          have hgl := Hg.out
          have hst : Upd (· = g) wy (wy.setCell ⟨g, 5, none⟩ (.int .u64 (s : Int))) := (Upd.refl (· = g) wy).setCell (p := ⟨g, 5, none⟩) (.inl rfl) _
          have hk2 : Blk (wy.setCell ⟨g, 5, none⟩ (.int .u64 (s : Int))) g 39 (Lg.rowR ⟨f_, n_, e_, l_, us + pn, s, sa_, br⟩ v2) := hBy.set_ 5 (.int .u64 (s : Int))
          have hup : Upd (· = g) w9 (wy.setCell ⟨g, 5, none⟩ (.int .u64 (s : Int))) := (((Upd.refl (· = g) w9).drew).then hUy (fun _ e => .inl e)).then hst (fun _ e => .inl e)
          have hN : Reads10 w (wy.setCell ⟨g, 5, none⟩ (.int .u64 (s : Int))) g (.slice (some ⟨gl, 0, none⟩) j capl) v2 L ⟨f_, n_, e_, l_ ++ [str t], us + partsOf t.length, s, sa_, br⟩ j G :=
            H5.out.next HT.out (H9.out.1.blk H9.out.2.1 (by decide) (by omega) hup) (by rw [HPn.out]; exact hk2) (H9.out.2.2.1.upd hup (fun q hq e => H9.out.2.2.1.ne_blk H9.out.2.1 (by decide) (e ▸ hq))) H9.out.2.2.2.2 (H9.out.2.2.2.1.upd hup (by omega))
          have hm2 : usedAt (wy.setCell ⟨g, 5, none⟩ (.int .u64 (s : Int))) g = us + pn := by
            unfold usedAt
            rw [hk2.cell 4]
            rfl
          have HN := Lib.hid (And.intro hN hm2)
          clear hst hk2 hup hN hm2 hS0 hc9 hBy hUy hsy hgl
          go_wp2_with fail
          go_roundw
          case rel => exact ⟨v2, _, HN.out.1⟩
          case measure => rw [HN.out.2, HMu.out]; omega
end Go.Proofs.YtpfbgmfkeofefaaGreat

/-
  The document's records of chapter 10: Add. (Printed by mk_ref10.py.)
-/
namespace Go.Proofs.YtpfbgmfkeofefaaGreat
open Go Go.RowKit

/-- What an Add of the document's has. -/
structure Adds10 (w wr : World) (vl vw vl' vw' : Value) (r' : Rd) (g' : Lg) (vg : Value) : Prop where
  left : RdLeft w wr vl vw vl' vw' r'
  kept : Blk wr w.heap.size 39 (g'.rowR vg)
  disk : Blk wr (w.heap.size + 1) 33 #[vl', vw', .int .i64 r'.fuse, .bool r'.off]
  res1 : Blk wr (w.heap.size + 1 + 1) 39 zeroLg
  res2 : Blk wr (w.heap.size + 1 + 1 + 1) 33 zeroRd
theorem Adds10.still {w wr wx : World} {vl vw vl' vw' : Value} {r' : Rd} {g' : Lg} {vg : Value} (h : Adds10 w wr vl vw vl' vw' r' g' vg) (hu : Upd (fun _ => False) wr wx) : Adds10 w wx vl vw vl' vw' r' g' vg :=
  ⟨h.left.post hu, h.kept.upd hu (fun e => e), h.disk.upd hu (fun e => e), h.res1.upd hu (fun e => e), h.res2.upd hu (fun e => e)⟩
/-- The answer of an Add: both results are stored, one behind the other. -/
theorem Adds10.ends {w wr w1 w2 : World} {vl vw vl' vw' : Value} {r' : Rd} {g' : Lg} {vg : Value} (h : Adds10 w wr vl vw vl' vw' r' g' vg) {c1 : Array Value} (_h1 : Blk w1 (w.heap.size + 1 + 1) 39 c1) (u1 : Upd (· = w.heap.size + 1 + 1) wr w1)
    (_h2 : Blk w2 (w.heap.size + 1 + 1 + 1) 33 #[vl', vw', .int .i64 r'.fuse, .bool r'.off]) (u2 : Upd (· = w.heap.size + 1 + 1 + 1) w1 w2) : RdLeft w w2 vl vw vl' vw' r' := by
  have e1 : ∀ q, RdX vl' vw' q → q ≠ w.heap.size + 1 + 1 := fun q hq e => h.left.at_.ne h.res1 (by decide) (by decide) (e ▸ hq)
  have l1 := h.left.store u1 e1 (by omega)
  exact l1.store u2 (fun q hq e => h.left.at_.ne h.res2 (by decide) (by decide) (e ▸ hq)) (by omega)
/-- The document's disk is put into its box. -/
theorem Adds10.box {w wa wx wy : World} {vl vw vw' vw2 : Value} {r' r2 : Rd} {g' : Lg} {vg : Value} {g2 : Nat} (h : Adds10 w wa vl vw vl vw' r' g' vg) (hW : Wrote9 wa wx vl vw' vw2 r2 g2) (hB : Blk wy (w.heap.size + 1) 33 #[vl, vw2, .int .i64 r2.fuse, .bool r2.off]) (hU : Upd (· = w.heap.size + 1) wx wy) : Adds10 w wy vl vw vl vw2 r2 g' vg := by
  have h2 := h.still hW.left.upd
  refine ⟨(h.left.trans hW.left).store hU (fun q hq e => hW.left.at_.ne h2.disk (by decide) (by decide) (e ▸ hq)) (by omega), h2.kept.upd hU (by omega), hB, h2.res1.upd hU (by omega), h2.res2.upd hU (by omega)⟩
section
variable {w : World} {vl vw : Value} {r : Rd}
set_option maxRecDepth 100000 in
set_option maxHeartbeats 3200000 in
theorem refAdd_broken (h : RdAt w vl vw r) (f_ se ep : Nat) (l : List ByteArray) (us la sa : Nat) (vg : Value) (hO : Own w 9 1 vg l.length (strs l)) (s : ByteArray) :
    Calls Tryz.prog 44 #[.agg (Lg.rowR ⟨f_, se, ep, l, us, la, sa, true⟩ vg), .agg #[vl, vw, .int .i64 r.fuse, .bool r.off], .string s] w fun e w' => e = .returned (.tuple #[.agg (Lg.rowR ⟨f_, se, ep, l, us, la, sa, true⟩ vg), .agg #[vl, vw, .int .i64 r.fuse, .bool r.off], .int .i64 11]) ∧ RdLeft w w' vl vw vl vw r := by
  have hvg := hO.one
  obtain ⟨w3, hw3⟩ : ∃ w3, (((w.alloc (.cells (Lg.rowR ⟨f_, se, ep, l, us, la, sa, true⟩ vg) 39)).alloc (.cells #[vl, vw, .int .i64 r.fuse, .bool r.off] 33)).alloc (.cells zeroLg 39)).alloc (.cells zeroRd 33) = w3 := ⟨_, rfl⟩
  obtain ⟨hU3, b1, b2, b3, b4, hsz⟩ := four_new w3 hw3
  have HP : Hid (Adds10 w w3 vl vw vl vw r ⟨f_, se, ep, l, us, la, sa, true⟩ vg) := Lib.hid ⟨(RdLeft.refl h).post hU3, b1, b2, b3, b4⟩
  have hc3 := b1.cells8
  have Hw := Lib.hid hw3
  have HOne := Lib.hid hvg
  have HOw := Lib.hid (hO.upd hU3 (fun _ _ e => e))
  clear hU3 b1 b2 b3 b4 hsz hw3 h hO hvg HOw
  go_enter Tryz.func44, Tryz.ntmps44
  go_upto_region 1 with fail
  rw [Hw.out]
  clear Hw
  go_upto_region 2 with fail
  refine wp_region_noPanic ?_
  refine wp_region_T (S := fun w' => Blk w' w.heap.size 39 (Lg.rowR ⟨f_, se, ep, l, us, la, sa, true⟩ vg) ∧ Blk w' (w.heap.size + 1) 33 #[vl, vw, .int .i64 r.fuse, .bool r.off]) (T := fun _ => false) (by kernel_rfl) ?_
  have hS0 := And.intro HP.out.kept.drew HP.out.disk.drew
  refine wpAnyT_take (i := 0) (v := ?_) rfl (by kernel_rfl) (by kernel_rfl) (by kernel_rfl) (by kernel_rfl) (fun _ _ _ h => h) (takes_yield rfl (Or.inl ⟨by rfl, ?_⟩)) (by assumption) (by kernel_rfl) ?_
  rotate_left 1
  · intro w' hSw; have hcw := hSw.1.cells8; have hcd := hSw.2.cells4; go_split_ands; first | (go_simp; done) | (go_simp; rfl) | rfl
  simp only [Act.put, List.getElem_toArray, List.getElem_cons_zero, List.setIfInBounds_toArray, List.set_cons_zero, List.set_cons_succ]
  refine wpAnyT_take (i := 1) (v := ?_) rfl (by kernel_rfl) (by kernel_rfl) (by kernel_rfl) (by kernel_rfl) (fun _ _ _ h => h) (takes_yield rfl (Or.inl ⟨by rfl, ?_⟩)) (by assumption) (by kernel_rfl) ?_
  rotate_left 1
  · intro w' hSw; have hcw := hSw.1.cells8; have hcd := hSw.2.cells4; go_split_ands; first | (go_simp; done) | (go_simp; rfl) | rfl
  simp only [Act.put, List.getElem_toArray, List.getElem_cons_zero, List.getElem_cons_succ, List.setIfInBounds_toArray, List.set_cons_zero, List.set_cons_succ]
  refine wpAnyT_one (i := 2) (by kernel_rfl) rfl (fun K hK => ?_)
  refine step_store_all (by rfl) 39 _ _ (by rfl) (w.heap.size + 1 + 1) (Lg.rowR ⟨f_, se, ep, l, us, la, sa, true⟩ vg) (by rfl) (by rfl) _ _ HP.out.res1.drew rfl (Lg.rowR_one _ _ HOne.out) (by kernel_rfl) ?_
  intro x4 hB4 hU4 hs4
  have hS4 := And.intro (hS0.1.upd hU4 (by omega)) (hS0.2.upd hU4 (by omega))
  refine hK.out _ _ hS4 ?_
  clear hK
  refine wpAnyT_one (i := 3) (by kernel_rfl) rfl (fun K hK => ?_)
  refine step_store_all (by rfl) 33 _ _ (by rfl) (w.heap.size + 1 + 1 + 1) #[vl, vw, .int .i64 r.fuse, .bool r.off] (by rfl) (by rfl) _ _ (HP.out.res2.drew.upd hU4 (by omega)) rfl (rdrow_one r HP.out.left.at_) (by kernel_rfl) ?_
  intro x5 hB5 hU5 hs5
  have hS5 := And.intro (hS4.1.upd hU5 (by omega)) (hS4.2.upd hU5 (by omega))
  refine hK.out _ _ hS5 ?_
  have hl := (HP.out.still (Upd.refl _ w3).drew).ends hB4 hU4 hB5 hU5
  have HE := Lib.hid (And.intro (hB4.upd hU5 (by omega)) (And.intro hB5 hl))
  clear hK hS0 hS4 hl hB4 hU4 hs4 hB5 hU5 hs5
  refine wpAnyT_take (i := 4) (v := ?_) rfl (by kernel_rfl) (by kernel_rfl) (by kernel_rfl) (by kernel_rfl) (fun _ _ _ h => h) (takes_yield rfl (Or.inl ⟨by rfl, ?_⟩)) (by assumption) (by kernel_rfl) ?_
  rotate_left 1
  · intro w' hSw; go_split_ands; first | (go_simp; done) | (go_simp; rfl) | rfl
  simp only [Act.put, List.getElem_toArray, List.getElem_cons_zero, List.getElem_cons_succ, List.setIfInBounds_toArray, List.set_cons_zero, List.set_cons_succ]
  refine wpAnyT_done (by kernel_rfl) ?_ _
  refine NoPanic.normal ?_
  go_wp2_with fail
  refine bodyPost_ret (results_cells2_slot rfl _ _ (w.heap.size + 1 + 1) (w.heap.size + 1 + 1 + 1) _ _ _ _ _ _ _ _ rfl HE.out.1 rfl HE.out.2.1 Tryz.underlying39 rfl rfl Tryz.underlying33 rfl rfl (.int .i64 11) rfl) rfl ⟨rfl, HE.out.2.2⟩
set_option maxRecDepth 100000 in
set_option maxHeartbeats 3200000 in
theorem refAdd_long (h : RdAt w vl vw r) (f_ se ep : Nat) (l : List ByteArray) (us la sa : Nat) (vg : Value) (hO : Own w 9 1 vg l.length (strs l)) (s : ByteArray) (hl : 1024 < s.size) :
    Calls Tryz.prog 44 #[.agg (Lg.rowR ⟨f_, se, ep, l, us, la, sa, false⟩ vg), .agg #[vl, vw, .int .i64 r.fuse, .bool r.off], .string s] w fun e w' => e = .returned (.tuple #[.agg (Lg.rowR ⟨f_, se, ep, l, us, la, sa, false⟩ vg), .agg #[vl, vw, .int .i64 r.fuse, .bool r.off], .int .i64 3]) ∧ RdLeft w w' vl vw vl vw r := by
  have hvg := hO.one
  obtain ⟨w3, hw3⟩ : ∃ w3, (((w.alloc (.cells (Lg.rowR ⟨f_, se, ep, l, us, la, sa, false⟩ vg) 39)).alloc (.cells #[vl, vw, .int .i64 r.fuse, .bool r.off] 33)).alloc (.cells zeroLg 39)).alloc (.cells zeroRd 33) = w3 := ⟨_, rfl⟩
  obtain ⟨hU3, b1, b2, b3, b4, hsz⟩ := four_new w3 hw3
  have HP : Hid (Adds10 w w3 vl vw vl vw r ⟨f_, se, ep, l, us, la, sa, false⟩ vg) := Lib.hid ⟨(RdLeft.refl h).post hU3, b1, b2, b3, b4⟩
  have hc3 := b1.cells8
  have Hw := Lib.hid hw3
  have HOne := Lib.hid hvg
  have HOw := Lib.hid (hO.upd hU3 (fun _ _ e => e))
  clear hU3 b1 b2 b3 b4 hsz hw3 h hO hvg HOw
  go_enter Tryz.func44, Tryz.ntmps44
  go_upto_region 1 with fail
  rw [Hw.out]
  clear Hw
  go_upto_region 4 with fail
  refine wp_region_noPanic ?_
  refine wp_region_T (S := fun w' => Blk w' w.heap.size 39 (Lg.rowR ⟨f_, se, ep, l, us, la, sa, false⟩ vg) ∧ Blk w' (w.heap.size + 1) 33 #[vl, vw, .int .i64 r.fuse, .bool r.off]) (T := fun _ => false) (by kernel_rfl) ?_
  have hS0 := And.intro HP.out.kept.drew HP.out.disk.drew
  refine wpAnyT_take (i := 0) (v := ?_) rfl (by kernel_rfl) (by kernel_rfl) (by kernel_rfl) (by kernel_rfl) (fun _ _ _ h => h) (takes_yield rfl (Or.inl ⟨by rfl, ?_⟩)) (by assumption) (by kernel_rfl) ?_
  rotate_left 1
  · intro w' hSw; have hcw := hSw.1.cells8; have hcd := hSw.2.cells4; go_split_ands; first | (go_simp; done) | (go_simp; rfl) | rfl
  simp only [Act.put, List.getElem_toArray, List.getElem_cons_zero, List.setIfInBounds_toArray, List.set_cons_zero, List.set_cons_succ]
  refine wpAnyT_take (i := 1) (v := ?_) rfl (by kernel_rfl) (by kernel_rfl) (by kernel_rfl) (by kernel_rfl) (fun _ _ _ h => h) (takes_yield rfl (Or.inl ⟨by rfl, ?_⟩)) (by assumption) (by kernel_rfl) ?_
  rotate_left 1
  · intro w' hSw; have hcw := hSw.1.cells8; have hcd := hSw.2.cells4; go_split_ands; first | (go_simp; done) | (go_simp; rfl) | rfl
  simp only [Act.put, List.getElem_toArray, List.getElem_cons_zero, List.getElem_cons_succ, List.setIfInBounds_toArray, List.set_cons_zero, List.set_cons_succ]
  refine wpAnyT_one (i := 2) (by kernel_rfl) rfl (fun K hK => ?_)
  refine step_store_all (by rfl) 39 _ _ (by rfl) (w.heap.size + 1 + 1) (Lg.rowR ⟨f_, se, ep, l, us, la, sa, false⟩ vg) (by rfl) (by rfl) _ _ HP.out.res1.drew rfl (Lg.rowR_one _ _ HOne.out) (by kernel_rfl) ?_
  intro x4 hB4 hU4 hs4
  have hS4 := And.intro (hS0.1.upd hU4 (by omega)) (hS0.2.upd hU4 (by omega))
  refine hK.out _ _ hS4 ?_
  clear hK
  refine wpAnyT_one (i := 3) (by kernel_rfl) rfl (fun K hK => ?_)
  refine step_store_all (by rfl) 33 _ _ (by rfl) (w.heap.size + 1 + 1 + 1) #[vl, vw, .int .i64 r.fuse, .bool r.off] (by rfl) (by rfl) _ _ (HP.out.res2.drew.upd hU4 (by omega)) rfl (rdrow_one r HP.out.left.at_) (by kernel_rfl) ?_
  intro x5 hB5 hU5 hs5
  have hS5 := And.intro (hS4.1.upd hU5 (by omega)) (hS4.2.upd hU5 (by omega))
  refine hK.out _ _ hS5 ?_
  have hl := (HP.out.still (Upd.refl _ w3).drew).ends hB4 hU4 hB5 hU5
  have HE := Lib.hid (And.intro (hB4.upd hU5 (by omega)) (And.intro hB5 hl))
  clear hK hS0 hS4 hl hB4 hU4 hs4 hB5 hU5 hs5
  refine wpAnyT_take (i := 4) (v := ?_) rfl (by kernel_rfl) (by kernel_rfl) (by kernel_rfl) (by kernel_rfl) (fun _ _ _ h => h) (takes_yield rfl (Or.inl ⟨by rfl, ?_⟩)) (by assumption) (by kernel_rfl) ?_
  rotate_left 1
  · intro w' hSw; go_split_ands; first | (go_simp; done) | (go_simp; rfl) | rfl
  simp only [Act.put, List.getElem_toArray, List.getElem_cons_zero, List.getElem_cons_succ, List.setIfInBounds_toArray, List.set_cons_zero, List.set_cons_succ]
  refine wpAnyT_done (by kernel_rfl) ?_ _
  refine NoPanic.normal ?_
  go_wp2_with fail
  refine bodyPost_ret (results_cells2_slot rfl _ _ (w.heap.size + 1 + 1) (w.heap.size + 1 + 1 + 1) _ _ _ _ _ _ _ _ rfl HE.out.1 rfl HE.out.2.1 Tryz.underlying39 rfl rfl Tryz.underlying33 rfl rfl (.int .i64 3) rfl) rfl ⟨rfl, HE.out.2.2⟩
set_option maxRecDepth 100000 in
set_option maxHeartbeats 3200000 in
theorem refAdd_room (h : RdAt w vl vw r) (f_ se ep : Nat) (l : List ByteArray) (us la sa : Nat) (vg : Value) (hO : Own w 9 1 vg l.length (strs l)) (s : ByteArray) (hl : s.size ≤ 1024) (hu : us ≤ se) (hse : se ≤ 5000) (hr : se - us < partsOf s.size) :
    Calls Tryz.prog 44 #[.agg (Lg.rowR ⟨f_, se, ep, l, us, la, sa, false⟩ vg), .agg #[vl, vw, .int .i64 r.fuse, .bool r.off], .string s] w fun e w' => e = .returned (.tuple #[.agg (Lg.rowR ⟨f_, se, ep, l, us, la, sa, false⟩ vg), .agg #[vl, vw, .int .i64 r.fuse, .bool r.off], .int .i64 6]) ∧ RdLeft w w' vl vw vl vw r := by
  have hvg := hO.one
  obtain ⟨w3, hw3⟩ : ∃ w3, (((w.alloc (.cells (Lg.rowR ⟨f_, se, ep, l, us, la, sa, false⟩ vg) 39)).alloc (.cells #[vl, vw, .int .i64 r.fuse, .bool r.off] 33)).alloc (.cells zeroLg 39)).alloc (.cells zeroRd 33) = w3 := ⟨_, rfl⟩
  obtain ⟨hU3, b1, b2, b3, b4, hsz⟩ := four_new w3 hw3
  have HP : Hid (Adds10 w w3 vl vw vl vw r ⟨f_, se, ep, l, us, la, sa, false⟩ vg) := Lib.hid ⟨(RdLeft.refl h).post hU3, b1, b2, b3, b4⟩
  have hc3 := b1.cells8
  have Hw := Lib.hid hw3
  have HOne := Lib.hid hvg
  have HOw := Lib.hid (hO.upd hU3 (fun _ _ e => e))
  obtain ⟨pn, hpn⟩ : ∃ pn, partsOf s.size = pn := ⟨_, rfl⟩
  have hparts : ∀ W, Calls Tryz.prog 88 #[.string s] W fun e w' => e = .returned (.int .i64 (pn : Int)) ∧ w' = W := fun W => (hpn ▸ refParts_c s W (by omega)).mono fun _ _ ⟨h1, h2⟩ => ⟨h1, h2.symm⟩
  have HPa := Lib.hid hparts
  have hwr : IntKind.i64.wrap ((se : Int) - (us : Int)) = (se : Int) - (us : Int) := IntWalk.i64_in _ (by omega)
  have hlong : ¬ 1024 < s.size := by omega
  have hd : decide ((se : Int) - (us : Int) < (pn : Int)) = true := decide_eq_true (by omega)
  clear hpn hparts hr
  clear hU3 b1 b2 b3 b4 hsz hw3 h hO hvg HOw
  go_enter Tryz.func44, Tryz.ntmps44
  go_upto_region 1 with fail
  rw [Hw.out]
  clear Hw
  go_upto_region 5 with fail
  go_quiet (first | (go_at_call 88; exact Calls.quiet_of_same (HPa.out _)))
  have HQ := Lib.hid (HP.out.still ((Upd.refl (fun _ => False) w3).drewN nq))
  go_upto_region 6 with fail
  refine wp_region_noPanic ?_
  refine wp_region_T (S := fun w' => Blk w' w.heap.size 39 (Lg.rowR ⟨f_, se, ep, l, us, la, sa, false⟩ vg) ∧ Blk w' (w.heap.size + 1) 33 #[vl, vw, .int .i64 r.fuse, .bool r.off]) (T := fun _ => false) (by kernel_rfl) ?_
  have hS0 := And.intro HQ.out.kept.drew HQ.out.disk.drew
  refine wpAnyT_take (i := 0) (v := ?_) rfl (by kernel_rfl) (by kernel_rfl) (by kernel_rfl) (by kernel_rfl) (fun _ _ _ h => h) (takes_yield rfl (Or.inl ⟨by rfl, ?_⟩)) (by assumption) (by kernel_rfl) ?_
  rotate_left 1
  · intro w' hSw; have hcw := hSw.1.cells8; have hcd := hSw.2.cells4; go_split_ands; first | (go_simp; done) | (go_simp; rfl) | rfl
  simp only [Act.put, List.getElem_toArray, List.getElem_cons_zero, List.setIfInBounds_toArray, List.set_cons_zero, List.set_cons_succ]
  refine wpAnyT_take (i := 1) (v := ?_) rfl (by kernel_rfl) (by kernel_rfl) (by kernel_rfl) (by kernel_rfl) (fun _ _ _ h => h) (takes_yield rfl (Or.inl ⟨by rfl, ?_⟩)) (by assumption) (by kernel_rfl) ?_
  rotate_left 1
  · intro w' hSw; have hcw := hSw.1.cells8; have hcd := hSw.2.cells4; go_split_ands; first | (go_simp; done) | (go_simp; rfl) | rfl
  simp only [Act.put, List.getElem_toArray, List.getElem_cons_zero, List.getElem_cons_succ, List.setIfInBounds_toArray, List.set_cons_zero, List.set_cons_succ]
  refine wpAnyT_one (i := 2) (by kernel_rfl) rfl (fun K hK => ?_)
  refine step_store_all (by rfl) 39 _ _ (by rfl) (w.heap.size + 1 + 1) (Lg.rowR ⟨f_, se, ep, l, us, la, sa, false⟩ vg) (by rfl) (by rfl) _ _ HQ.out.res1.drew rfl (Lg.rowR_one _ _ HOne.out) (by kernel_rfl) ?_
  intro x4 hB4 hU4 hs4
  have hS4 := And.intro (hS0.1.upd hU4 (by omega)) (hS0.2.upd hU4 (by omega))
  refine hK.out _ _ hS4 ?_
  clear hK
  refine wpAnyT_one (i := 3) (by kernel_rfl) rfl (fun K hK => ?_)
  refine step_store_all (by rfl) 33 _ _ (by rfl) (w.heap.size + 1 + 1 + 1) #[vl, vw, .int .i64 r.fuse, .bool r.off] (by rfl) (by rfl) _ _ (HQ.out.res2.drew.upd hU4 (by omega)) rfl (rdrow_one r HQ.out.left.at_) (by kernel_rfl) ?_
  intro x5 hB5 hU5 hs5
  have hS5 := And.intro (hS4.1.upd hU5 (by omega)) (hS4.2.upd hU5 (by omega))
  refine hK.out _ _ hS5 ?_
  have hl := (HQ.out.still (Upd.refl _ (w3.drewN nq)).drew).ends hB4 hU4 hB5 hU5
  have HE := Lib.hid (And.intro (hB4.upd hU5 (by omega)) (And.intro hB5 hl))
  clear hK hS0 hS4 hl hB4 hU4 hs4 hB5 hU5 hs5
  refine wpAnyT_take (i := 4) (v := ?_) rfl (by kernel_rfl) (by kernel_rfl) (by kernel_rfl) (by kernel_rfl) (fun _ _ _ h => h) (takes_yield rfl (Or.inl ⟨by rfl, ?_⟩)) (by assumption) (by kernel_rfl) ?_
  rotate_left 1
  · intro w' hSw; go_split_ands; first | (go_simp; done) | (go_simp; rfl) | rfl
  simp only [Act.put, List.getElem_toArray, List.getElem_cons_zero, List.getElem_cons_succ, List.setIfInBounds_toArray, List.set_cons_zero, List.set_cons_succ]
  refine wpAnyT_done (by kernel_rfl) ?_ _
  refine NoPanic.normal ?_
  go_wp2_with fail
  refine bodyPost_ret (results_cells2_slot rfl _ _ (w.heap.size + 1 + 1) (w.heap.size + 1 + 1 + 1) _ _ _ _ _ _ _ _ rfl HE.out.1 rfl HE.out.2.1 Tryz.underlying39 rfl rfl Tryz.underlying33 rfl rfl (.int .i64 6) rfl) rfl ⟨rfl, HE.out.2.2⟩
set_option maxRecDepth 100000 in
set_option maxHeartbeats 3200000 in
theorem refAdd_salt (h : RdAt w vl vw r) (f_ se ep : Nat) (l : List ByteArray) (us la sa : Nat) (vg : Value) (hO : Own w 9 1 vg l.length (strs l)) (s : ByteArray) (hl : s.size ≤ 1024) (hu : us ≤ se) (hse : se ≤ 5000) (hr : ¬ se - us < partsOf s.size) (hsa : sa = 18446744073709551615) :
    Calls Tryz.prog 44 #[.agg (Lg.rowR ⟨f_, se, ep, l, us, la, sa, false⟩ vg), .agg #[vl, vw, .int .i64 r.fuse, .bool r.off], .string s] w fun e w' => e = .returned (.tuple #[.agg (Lg.rowR ⟨f_, se, ep, l, us, la, sa, false⟩ vg), .agg #[vl, vw, .int .i64 r.fuse, .bool r.off], .int .i64 6]) ∧ RdLeft w w' vl vw vl vw r := by
  have hvg := hO.one
  obtain ⟨w3, hw3⟩ : ∃ w3, (((w.alloc (.cells (Lg.rowR ⟨f_, se, ep, l, us, la, sa, false⟩ vg) 39)).alloc (.cells #[vl, vw, .int .i64 r.fuse, .bool r.off] 33)).alloc (.cells zeroLg 39)).alloc (.cells zeroRd 33) = w3 := ⟨_, rfl⟩
  obtain ⟨hU3, b1, b2, b3, b4, hsz⟩ := four_new w3 hw3
  have HP : Hid (Adds10 w w3 vl vw vl vw r ⟨f_, se, ep, l, us, la, sa, false⟩ vg) := Lib.hid ⟨(RdLeft.refl h).post hU3, b1, b2, b3, b4⟩
  have hc3 := b1.cells8
  have Hw := Lib.hid hw3
  have HOne := Lib.hid hvg
  have HOw := Lib.hid (hO.upd hU3 (fun _ _ e => e))
  obtain ⟨pn, hpn⟩ : ∃ pn, partsOf s.size = pn := ⟨_, rfl⟩
  have hparts : ∀ W, Calls Tryz.prog 88 #[.string s] W fun e w' => e = .returned (.int .i64 (pn : Int)) ∧ w' = W := fun W => (hpn ▸ refParts_c s W (by omega)).mono fun _ _ ⟨h1, h2⟩ => ⟨h1, h2.symm⟩
  have HPa := Lib.hid hparts
  have hwr : IntKind.i64.wrap ((se : Int) - (us : Int)) = (se : Int) - (us : Int) := IntWalk.i64_in _ (by omega)
  have hlong : ¬ 1024 < s.size := by omega
  have hd : decide ((se : Int) - (us : Int) < (pn : Int)) = false := decide_eq_false (by omega)
  have hsa' : ((sa : Int) == 18446744073709551615) = true := by rw [hsa]; rfl
  clear hpn hparts hr hsa
  clear hU3 b1 b2 b3 b4 hsz hw3 h hO hvg HOw
  go_enter Tryz.func44, Tryz.ntmps44
  go_upto_region 1 with fail
  rw [Hw.out]
  clear Hw
  go_upto_region 5 with fail
  go_quiet (first | (go_at_call 88; exact Calls.quiet_of_same (HPa.out _)))
  have HQ := Lib.hid (HP.out.still ((Upd.refl (fun _ => False) w3).drewN nq))
  go_upto_region 6 with fail
  refine wp_region_noPanic ?_
  refine wp_region_T (S := fun w' => Blk w' w.heap.size 39 (Lg.rowR ⟨f_, se, ep, l, us, la, sa, false⟩ vg) ∧ Blk w' (w.heap.size + 1) 33 #[vl, vw, .int .i64 r.fuse, .bool r.off]) (T := fun _ => false) (by kernel_rfl) ?_
  have hS0 := And.intro HQ.out.kept.drew HQ.out.disk.drew
  refine wpAnyT_take (i := 0) (v := ?_) rfl (by kernel_rfl) (by kernel_rfl) (by kernel_rfl) (by kernel_rfl) (fun _ _ _ h => h) (takes_yield rfl (Or.inl ⟨by rfl, ?_⟩)) (by assumption) (by kernel_rfl) ?_
  rotate_left 1
  · intro w' hSw; have hcw := hSw.1.cells8; have hcd := hSw.2.cells4; go_split_ands; first | (go_simp; done) | (go_simp; rfl) | rfl
  simp only [Act.put, List.getElem_toArray, List.getElem_cons_zero, List.setIfInBounds_toArray, List.set_cons_zero, List.set_cons_succ]
  refine wpAnyT_take (i := 1) (v := ?_) rfl (by kernel_rfl) (by kernel_rfl) (by kernel_rfl) (by kernel_rfl) (fun _ _ _ h => h) (takes_yield rfl (Or.inl ⟨by rfl, ?_⟩)) (by assumption) (by kernel_rfl) ?_
  rotate_left 1
  · intro w' hSw; have hcw := hSw.1.cells8; have hcd := hSw.2.cells4; go_split_ands; first | (go_simp; done) | (go_simp; rfl) | rfl
  simp only [Act.put, List.getElem_toArray, List.getElem_cons_zero, List.getElem_cons_succ, List.setIfInBounds_toArray, List.set_cons_zero, List.set_cons_succ]
  refine wpAnyT_one (i := 2) (by kernel_rfl) rfl (fun K hK => ?_)
  refine step_store_all (by rfl) 39 _ _ (by rfl) (w.heap.size + 1 + 1) (Lg.rowR ⟨f_, se, ep, l, us, la, sa, false⟩ vg) (by rfl) (by rfl) _ _ HQ.out.res1.drew rfl (Lg.rowR_one _ _ HOne.out) (by kernel_rfl) ?_
  intro x4 hB4 hU4 hs4
  have hS4 := And.intro (hS0.1.upd hU4 (by omega)) (hS0.2.upd hU4 (by omega))
  refine hK.out _ _ hS4 ?_
  clear hK
  refine wpAnyT_one (i := 3) (by kernel_rfl) rfl (fun K hK => ?_)
  refine step_store_all (by rfl) 33 _ _ (by rfl) (w.heap.size + 1 + 1 + 1) #[vl, vw, .int .i64 r.fuse, .bool r.off] (by rfl) (by rfl) _ _ (HQ.out.res2.drew.upd hU4 (by omega)) rfl (rdrow_one r HQ.out.left.at_) (by kernel_rfl) ?_
  intro x5 hB5 hU5 hs5
  have hS5 := And.intro (hS4.1.upd hU5 (by omega)) (hS4.2.upd hU5 (by omega))
  refine hK.out _ _ hS5 ?_
  have hl := (HQ.out.still (Upd.refl _ (w3.drewN nq)).drew).ends hB4 hU4 hB5 hU5
  have HE := Lib.hid (And.intro (hB4.upd hU5 (by omega)) (And.intro hB5 hl))
  clear hK hS0 hS4 hl hB4 hU4 hs4 hB5 hU5 hs5
  refine wpAnyT_take (i := 4) (v := ?_) rfl (by kernel_rfl) (by kernel_rfl) (by kernel_rfl) (by kernel_rfl) (fun _ _ _ h => h) (takes_yield rfl (Or.inl ⟨by rfl, ?_⟩)) (by assumption) (by kernel_rfl) ?_
  rotate_left 1
  · intro w' hSw; go_split_ands; first | (go_simp; done) | (go_simp; rfl) | rfl
  simp only [Act.put, List.getElem_toArray, List.getElem_cons_zero, List.getElem_cons_succ, List.setIfInBounds_toArray, List.set_cons_zero, List.set_cons_succ]
  refine wpAnyT_done (by kernel_rfl) ?_ _
  refine NoPanic.normal ?_
  go_wp2_with fail
  refine bodyPost_ret (results_cells2_slot rfl _ _ (w.heap.size + 1 + 1) (w.heap.size + 1 + 1 + 1) _ _ _ _ _ _ _ _ rfl HE.out.1 rfl HE.out.2.1 Tryz.underlying39 rfl rfl Tryz.underlying33 rfl rfl (.int .i64 6) rfl) rfl ⟨rfl, HE.out.2.2⟩
/-- The records that an Add leaves: as they were, or in memory of its own. -/
structure AddV (w w' : World) (vg vg' : Value) (l : List ByteArray) : Prop where
  own : Own w' 9 1 vg' l.length (strs l)
  new : ∀ q, vg'.ownBlock = some q → vg.ownBlock = some q ∨ w.heap.size ≤ q
set_option maxRecDepth 100000 in
set_option maxHeartbeats 6400000 in
theorem refAdd_goes (h : RdAt w vl vw r) (hf : r.fits) (f_ se ep : Nat) (l : List ByteArray) (us la sa : Nat) (vg : Value) (hO : Own w 9 1 vg l.length (strs l)) (s : ByteArray) (hl : s.size ≤ 1024) (hlu : l.length ≤ us) (hus : us ≤ se) (hse : se ≤ 5000) (hr : ¬ se - us < partsOf s.size)
    (hsa : sa < 18446744073709551615) (hff : f_ ≤ 5000) (hp : r.ws.length + 40 ≤ 1000000) :
    Calls Tryz.prog 44 #[.agg (Lg.rowR ⟨f_, se, ep, l, us, la, sa, false⟩ vg), .agg #[vl, vw, .int .i64 r.fuse, .bool r.off], .string s] w fun e w' =>
      ∃ vl' vw' vg', e = .returned (.tuple #[.agg ((addR r ⟨f_, se, ep, l, us, la, sa, false⟩ s).2.1.rowR vg'), .agg #[vl', vw', .int .i64 (addR r ⟨f_, se, ep, l, us, la, sa, false⟩ s).1.fuse, .bool (addR r ⟨f_, se, ep, l, us, la, sa, false⟩ s).1.off], .int .i64 (addR r ⟨f_, se, ep, l, us, la, sa, false⟩ s).2.2]) ∧
        RdLeft w w' vl vw vl' vw' (addR r ⟨f_, se, ep, l, us, la, sa, false⟩ s).1 ∧ AddV w w' vg vg' (addR r ⟨f_, se, ep, l, us, la, sa, false⟩ s).2.1.l := by
  obtain ⟨i0, hi0, hz0, hz1, hz2⟩ := info_parts infoStr
  have hlen : s.data.toList.length = s.size := by simp
  obtain ⟨R, hR⟩ : ∃ R, addR r ⟨f_, se, ep, l, us, la, sa, false⟩ s = R := ⟨_, rfl⟩
  rw [hR]
  obtain ⟨n, hn⟩ : ∃ n, partsOf s.size = n := ⟨_, rfl⟩
  obtain ⟨A, hA⟩ : ∃ A, f_ + us = A := ⟨_, rfl⟩
  obtain ⟨BL, hBL⟩ : ∃ BL, (cutG s.data.toList ep (sa + 1) la).map Lp.sec = BL := ⟨_, rfl⟩
  have hBl : BL.length = n := by rw [← hBL, List.length_map, cutG_len, hlen, hn]
  have hRv : R = if (writeBR r A BL n).2 ≠ 0 then ((writeBR r A BL n).1, ⟨f_, se, ep, l, us, la, sa, true⟩, (writeBR r A BL n).2) else
      if (writeBR r A BL n).1.sync.2 ≠ 0 then ((writeBR r A BL n).1.sync.1, ⟨f_, se, ep, l, us, la, sa, true⟩, (writeBR r A BL n).1.sync.2) else
      ((writeBR r A BL n).1.sync.1, ⟨f_, se, ep, l ++ [s], us + n, sa + 1, sa + 1, false⟩, 0) := by
    rw [← hR]
    unfold addR wroteR secsG
    simp only [hlen, hn, hA, hBL]
    rw [if_neg (by simp), if_neg (by omega), if_neg (by omega)]
  have HRv := Lib.hid hRv
  have hn1 : 1 ≤ n := by rw [← hn]; exact partsOf_pos _
  have hn9 : n ≤ 33 := by rw [← hn]; unfold partsOf; omega
  have hsec : ∀ W, _ := fun W => refSectorsG_c s ep (sa + 1) la W (by omega)
  rw [hn, hBL] at hsec
  have HSec := Lib.hid hsec
  have HLn := Lib.hid hBl
  have hparts : ∀ W, Calls Tryz.prog 88 #[.string s] W fun e w' => e = .returned (.int .i64 (n : Int)) ∧ w' = W := fun W => (hn ▸ refParts_c s W (by omega)).mono fun _ _ ⟨h1, h2⟩ => ⟨h1, h2.symm⟩
  have HPa := Lib.hid hparts
  rw [hn] at hr
  have hwr : IntKind.i64.wrap ((se : Int) - (us : Int)) = (se : Int) - (us : Int) := IntWalk.i64_in _ (by omega)
  have hd : decide ((se : Int) - (us : Int) < (n : Int)) = false := decide_eq_false (by omega)
  have hsa' : ((sa : Int) == 18446744073709551615) = false := by rw [beq_eq_false_iff_ne]; omega
  have hlong : ¬ 1024 < s.size := by omega
  clear hRv hR hn hsec hlen hBL hBl hparts hr
  have hHA : (f_ : Int) + (us : Int) = (A : Int) := by rw [← hA]; omega
  have HA := Lib.hid hHA
  have hA2 : A ≤ 10000 := by omega
  clear hA hHA
  have hvg := hO.one
  obtain ⟨w3, hw3⟩ : ∃ w3, (((w.alloc (.cells (Lg.rowR ⟨f_, se, ep, l, us, la, sa, false⟩ vg) 39)).alloc (.cells #[vl, vw, .int .i64 r.fuse, .bool r.off] 33)).alloc (.cells zeroLg 39)).alloc (.cells zeroRd 33) = w3 := ⟨_, rfl⟩
  obtain ⟨hU3, b1, b2, b3, b4, hsz⟩ := four_new w3 hw3
  have HP : Hid (Adds10 w w3 vl vw vl vw r ⟨f_, se, ep, l, us, la, sa, false⟩ vg) := Lib.hid ⟨(RdLeft.refl h).post hU3, b1, b2, b3, b4⟩
  have hc3 := b1.cells8
  have Hw := Lib.hid hw3
  have HOne := Lib.hid hvg
  have HOw := Lib.hid (hO.upd hU3 (fun _ _ e => e))
  have Hf := Lib.hid hf
  have hws : Hid (r.ws.length + 40 ≤ 1000000) := hp
  clear hU3 b1 b2 b3 b4 hsz hw3 h hO hvg hf hp
  have hs1 : ((sa : Int) + 1) = ((sa + 1 : Nat) : Int) := by omega
  have Hs1 := Lib.hid hs1
  clear hs1
  go_enter Tryz.func44, Tryz.ntmps44
  go_upto_region 1 with fail
  rw [Hw.out]
  clear Hw
  go_upto_region 5 with fail
  go_quiet (first | (go_at_call 88; exact Calls.quiet_of_same (HPa.out _)))
  have HQ := Lib.hid (HP.out.still ((Upd.refl (fun _ => False) w3).drewN nq))
  have HOq := Lib.hid (HOw.out.upd ((Upd.refl (fun _ => False) w3).drewN nq) (fun _ _ e => e))
  have hcq := HQ.out.kept.cells8
  clear hc3 HP HOw hd hsa' hwr
  go_wp2_with fail
  rw [Hs1.out]
  refine (HSec.out _).mono ?_
  rintro e w4 ⟨v9, rfl, hG⟩
  obtain ⟨g9, cap9, rfl, -, -⟩ := hG.own.head (by omega)
  have HP4 := Lib.hid (HQ.out.still hG.upd)
  have HO4 := Lib.hid (HOq.out.upd hG.upd (fun _ _ e => e))
  have HG := Lib.hid hG
  have hc4 := HP4.out.kept.cells8
  have hf4 := HP4.out.kept.frozen 7
  clear hG hcq HQ HOq
  go_upto_region 10 with fail
  have hU5 : Upd (· = w.heap.size) w4 (w4.setCell ⟨w.heap.size, 7, none⟩ (.bool true)) := (Upd.refl (· = w.heap.size) w4).setCell (p := ⟨w.heap.size, 7, none⟩) (.inl rfl) _
  have hk5 : Blk (w4.setCell ⟨w.heap.size, 7, none⟩ (.bool true)) w.heap.size 39 (Lg.rowR ⟨f_, se, ep, l, us, la, sa, true⟩ vg) := HP4.out.kept.set_ 7 (.bool true)
  obtain ⟨w5, hw5⟩ : ∃ w5, w4.setCell ⟨w.heap.size, 7, none⟩ (.bool true) = w5 := ⟨_, rfl⟩
  rw [hw5] at hU5 hk5 ⊢
  have HP5 : Hid (Adds10 w w5 vl vw vl vw r ⟨f_, se, ep, l, us, la, sa, true⟩ vg) := Lib.hid ⟨HP4.out.left.store hU5 (fun q hq e => HP4.out.left.at_.ne HP4.out.kept (by decide) (by decide) (e ▸ hq)) (Nat.le_refl _), hk5, HP4.out.disk.upd hU5 (by omega), HP4.out.res1.upd hU5 (by omega), HP4.out.res2.upd hU5 (by omega)⟩
  have HO5 : Hid (Own w5 9 1 (.slice (some ⟨g9, 0, none⟩) n cap9) n (strs BL)) := Lib.hid (HG.out.own.upd hU5 (fun q hq e => HG.out.own.ne_blk HP4.out.kept (by decide) (e ▸ hq)))
  have HV5 : Hid (Own w5 9 1 vg l.length (strs l)) := Lib.hid (HO4.out.upd hU5 (fun q hq e => HO4.out.ne_blk HP4.out.kept (by decide) (e ▸ hq)))
  clear hU5 hk5 hw5 hc4 hf4 HP4 HG HO4
  go_wp2_with fail
  go_loopw [10, 11, 12] (fun i _ _ wr => ∃ (j : Nat) (vw' : Value) (r' : Rd), j ≤ n ∧ i = .int .i64 (j : Int) ∧ writeBR r A BL j = (r', 0) ∧ r'.fits ∧ r'.ws.length ≤ r.ws.length + j ∧ Adds10 w wr vl vw vl vw' r' ⟨f_, se, ep, l, us, la, sa, true⟩ vg ∧ Own wr 9 1 (.slice (some ⟨g9, 0, none⟩) n cap9) n (strs BL) ∧ Own wr 9 1 vg l.length (strs l)) (fun i _ _ _ => n - (intOf i).toNat)
  case atStart => exact ⟨0, vw, r, by omega, rfl, rfl, Hf.out, Nat.le_refl _, HP5.out, HO5.out, HV5.out⟩
  case round =>
    rename World => wa
    obtain ⟨j, vw', r', hj, rfl, hwn, hfit, hwl, hPu, hOw, hVg⟩ := hrel
    have H := Lib.hid hPu
    have HO := Lib.hid hOw
    have HV := Lib.hid hVg
    clear hPu hOw HP5 HO5 hVg HV5
    by_cases hlt : j < n
    · have hjl : j < BL.length := by rw [HLn.out]; exact hlt
      obtain ⟨b, hb⟩ : ∃ b, BL[j]'hjl = b := ⟨_, rfl⟩
      have hsecj : BL.getD j ByteArray.empty = b := by
        rw [← hb, List.getD_eq_getElem?_getD, List.getElem?_eq_getElem hjl]
        rfl
      have HCl : Hid (∀ w', Upd (fun _ => False) wa w' → w'.cell? ⟨g9, j, none⟩ = some (.string b)) := by
        show ∀ w', _
        intro w' hu
        rw [(HO.out.upd hu (fun _ _ e => e)).cellAt j (by omega), strs_get, List.getElem?_eq_getElem hjl, hb]
        rfl
      obtain ⟨Wr, hWr⟩ : ∃ Wr, r'.write ((A + j : Nat) : Int) b = Wr := ⟨_, rfl⟩
      have hnext : writeBR r A BL (j + 1) = Wr := by
        rw [writeBR, hwn, if_neg (by simp), hsecj, hWr]
      obtain ⟨hfit2, hwl2⟩ := hfit.write ((A + j : Nat) : Int) b (by have := hws.out; omega)
      rw [hWr] at hfit2 hwl2
      have hdo0 : ∀ W, Upd (fun _ => False) wa W → Calls Tryz.prog 16 #[.agg #[vl, vw', .int .i64 r'.fuse, .bool r'.off], .int .i64 ((f_ : Int) + (us : Int) + (j : Int)), .string b] W fun e w' => ∃ vw2, e = .returned (.tuple #[.agg #[vl, vw2, .int .i64 Wr.1.fuse, .bool Wr.1.off], .int .i64 Wr.2]) ∧ RdLeft W w' vl vw' vl vw2 Wr.1 := fun W hW => by
        rw [HA.out, show ((A : Int) + (j : Int)) = ((A + j : Nat) : Int) by omega, ← hWr]
        exact rwrite_c (H.out.left.at_.upd hW) hfit _ b (by have := hws.out; omega)
      obtain ⟨r2, err⟩ := Wr
      simp only at hfit2 hwl2 hdo0
      have hdo := Lib.hid hdo0
      have HN := Lib.hid (And.intro hnext (And.intro hfit2 (show r2.ws.length ≤ r.ws.length + (j + 1) by omega)))
      clear hb hsecj hWr hnext hfit2 hwl2 hdo0 hjl hwn hfit hwl
      have hw1 : IntKind.i64.wrap ((f_ : Int) + (us : Int)) = (f_ : Int) + (us : Int) := IntWalk.i64_in _ (by omega)
      have hw4 : IntKind.i64.wrap ((f_ : Int) + (us : Int) + (j : Int)) = (f_ : Int) + (us : Int) + (j : Int) := IntWalk.i64_in _ (by omega)
      go_upto_region 12 with fail
      go_cut [11, 12] from 49 to 76 (fun t11 t12 wx => ∃ (g2 : Nat) (vw2 : Value), t11 = .pointer (some ⟨g2, 0, none⟩) ∧ t12 = .int .i64 err ∧ Wrote9 wa wx vl vw' vw2 r2 g2)
      case first =>
        refine wp_region_noPanic ?_
        refine wp_region_T (S := fun w' => Upd (fun _ => False) wa w') (T := fun _ => false) (by kernel_rfl) ?_
        have hS0 : Upd (fun _ => False) wa wa.drew := (Upd.refl _ _).drew
        refine wpAnyT_take (i := 0) (v := ?_) rfl (by kernel_rfl) (by kernel_rfl) (by kernel_rfl) (by kernel_rfl) (fun _ _ _ h => h) (takes_yield rfl (Or.inl ⟨by rfl, ?_⟩)) (by assumption) (by kernel_rfl) ?_
        rotate_left 1
        · intro w' hSw; have hcw := (H.out.kept.upd hSw (fun e => e)).cells8; have hcd := (H.out.disk.upd hSw (fun e => e)).cells4; have hcl := HCl.out w' hSw; go_split_ands; first | (go_simp; done) | (go_simp; rfl) | rfl
        simp only [Act.put, List.getElem_toArray, List.getElem_cons_zero, List.setIfInBounds_toArray, List.set_cons_zero, List.set_cons_succ]
        refine wpAnyT_take (i := 1) (v := ?_) rfl (by kernel_rfl) (by kernel_rfl) (by kernel_rfl) (by kernel_rfl) (fun _ _ _ h => h) (takes_yield rfl (Or.inl ⟨by rfl, ?_⟩)) (by assumption) (by kernel_rfl) ?_
        rotate_left 1
        · intro w' hSw; have hcw := (H.out.kept.upd hSw (fun e => e)).cells8; have hcd := (H.out.disk.upd hSw (fun e => e)).cells4; have hcl := HCl.out w' hSw; go_split_ands; first | (go_simp; done) | (go_simp; rfl) | rfl
        simp only [Act.put, List.getElem_toArray, List.getElem_cons_zero, List.getElem_cons_succ, List.setIfInBounds_toArray, List.set_cons_zero, List.set_cons_succ]
        refine wpAnyT_take (i := 2) (v := ?_) rfl (by kernel_rfl) (by kernel_rfl) (by kernel_rfl) (by kernel_rfl) (fun _ _ _ h => h) (takes_yield rfl (Or.inl ⟨by rfl, ?_⟩)) (by assumption) (by kernel_rfl) ?_
        rotate_left 1
        · intro w' hSw; have hcw := (H.out.kept.upd hSw (fun e => e)).cells8; have hcd := (H.out.disk.upd hSw (fun e => e)).cells4; have hcl := HCl.out w' hSw; go_split_ands; first | (go_simp; done) | (go_simp; rfl) | rfl
        simp only [Act.put, List.getElem_toArray, List.getElem_cons_zero, List.getElem_cons_succ, List.setIfInBounds_toArray, List.set_cons_zero, List.set_cons_succ]
        refine wpAnyT_take (i := 3) (v := ?_) rfl (by kernel_rfl) (by kernel_rfl) (by kernel_rfl) (by kernel_rfl) (fun _ _ _ h => h) (takes_yield rfl (Or.inl ⟨by rfl, ?_⟩)) (by assumption) (by kernel_rfl) ?_
        rotate_left 1
        · intro w' hSw; have hcw := (H.out.kept.upd hSw (fun e => e)).cells8; have hcd := (H.out.disk.upd hSw (fun e => e)).cells4; have hcl := HCl.out w' hSw; go_split_ands; first | (go_simp; done) | (go_simp; rfl) | rfl
        simp only [Act.put, List.getElem_toArray, List.getElem_cons_zero, List.getElem_cons_succ, List.setIfInBounds_toArray, List.set_cons_zero, List.set_cons_succ]
        refine wpAnyT_take (i := 4) (v := ?_) rfl (by kernel_rfl) (by kernel_rfl) (by kernel_rfl) (by kernel_rfl) (fun _ _ _ h => h) (takes_yield rfl (Or.inl ⟨by rfl, ?_⟩)) (by assumption) (by kernel_rfl) ?_
        rotate_left 1
        · intro w' hSw; have hcw := (H.out.kept.upd hSw (fun e => e)).cells8; have hcd := (H.out.disk.upd hSw (fun e => e)).cells4; have hcl := HCl.out w' hSw; go_split_ands; first | (go_simp; done) | (go_simp; rfl) | rfl
        simp only [Act.put, List.getElem_toArray, List.getElem_cons_zero, List.getElem_cons_succ, List.setIfInBounds_toArray, List.set_cons_zero, List.set_cons_succ]
        refine wpAnyT_take (i := 5) (v := ?_) rfl (by kernel_rfl) (by kernel_rfl) (by kernel_rfl) (by kernel_rfl) (fun _ _ _ h => h) (takes_yield rfl (Or.inl ⟨by rfl, ?_⟩)) (by assumption) (by kernel_rfl) ?_
        rotate_left 1
        · intro w' hSw; have hcw := (H.out.kept.upd hSw (fun e => e)).cells8; have hcd := (H.out.disk.upd hSw (fun e => e)).cells4; have hcl := HCl.out w' hSw; go_split_ands; first | (go_simp; done) | (go_simp; rfl) | rfl
        simp only [Act.put, List.getElem_toArray, List.getElem_cons_zero, List.getElem_cons_succ, List.setIfInBounds_toArray, List.set_cons_zero, List.set_cons_succ]
        refine wpAnyT_take (i := 6) (v := ?_) rfl (by kernel_rfl) (by kernel_rfl) (by kernel_rfl) (by kernel_rfl) (fun _ _ _ h => h) (takes_yield rfl (Or.inl ⟨by rfl, ?_⟩)) (by assumption) (by kernel_rfl) ?_
        rotate_left 1
        · intro w' hSw; have hcw := (H.out.kept.upd hSw (fun e => e)).cells8; have hcd := (H.out.disk.upd hSw (fun e => e)).cells4; have hcl := HCl.out w' hSw; go_split_ands; first | (go_simp; done) | (go_simp; rfl) | rfl
        simp only [Act.put, List.getElem_toArray, List.getElem_cons_zero, List.getElem_cons_succ, List.setIfInBounds_toArray, List.set_cons_zero, List.set_cons_succ]
        refine wpAnyT_take (i := 7) (v := ?_) rfl (by kernel_rfl) (by kernel_rfl) (by kernel_rfl) (by kernel_rfl) (fun _ _ _ h => h) (takes_yield rfl (Or.inl ⟨by rfl, ?_⟩)) (by assumption) (by kernel_rfl) ?_
        rotate_left 1
        · intro w' hSw; have hcw := (H.out.kept.upd hSw (fun e => e)).cells8; have hcd := (H.out.disk.upd hSw (fun e => e)).cells4; have hcl := HCl.out w' hSw; go_split_ands; first | (go_simp; done) | (go_simp; rfl) | rfl
        simp only [Act.put, List.getElem_toArray, List.getElem_cons_zero, List.getElem_cons_succ, List.setIfInBounds_toArray, List.set_cons_zero, List.set_cons_succ]
        refine wpAnyT_take (i := 8) (v := ?_) rfl (by kernel_rfl) (by kernel_rfl) (by kernel_rfl) (by kernel_rfl) (fun _ _ _ h => h) (takes_yield rfl (Or.inl ⟨by rfl, ?_⟩)) (by assumption) (by kernel_rfl) ?_
        rotate_left 1
        · intro w' hSw; have hcw := (H.out.kept.upd hSw (fun e => e)).cells8; have hcd := (H.out.disk.upd hSw (fun e => e)).cells4; have hcl := HCl.out w' hSw; go_split_ands; first | (go_simp; done) | (go_simp; rfl) | rfl
        simp only [Act.put, List.getElem_toArray, List.getElem_cons_zero, List.getElem_cons_succ, List.setIfInBounds_toArray, List.set_cons_zero, List.set_cons_succ]
        refine wpAnyT_take (i := 9) (v := ?_) rfl (by kernel_rfl) (by kernel_rfl) (by kernel_rfl) (by kernel_rfl) (fun _ _ _ h => h) (takes_yield rfl (Or.inl ⟨by rfl, ?_⟩)) (by assumption) (by kernel_rfl) ?_
        rotate_left 1
        · intro w' hSw; have hcw := (H.out.kept.upd hSw (fun e => e)).cells8; have hcd := (H.out.disk.upd hSw (fun e => e)).cells4; have hcl := HCl.out w' hSw; go_split_ands; first | (go_simp; done) | (go_simp; rfl) | rfl
        simp only [Act.put, List.getElem_toArray, List.getElem_cons_zero, List.getElem_cons_succ, List.setIfInBounds_toArray, List.set_cons_zero, List.set_cons_succ]
        refine wpAnyT_take (i := 10) (v := ?_) rfl (by kernel_rfl) (by kernel_rfl) (by kernel_rfl) (by kernel_rfl) (fun _ _ _ h => h) (takes_yield rfl (Or.inl ⟨by rfl, ?_⟩)) (by assumption) (by kernel_rfl) ?_
        rotate_left 1
        · intro w' hSw; have hcw := (H.out.kept.upd hSw (fun e => e)).cells8; have hcd := (H.out.disk.upd hSw (fun e => e)).cells4; have hcl := HCl.out w' hSw; go_split_ands; first | (go_simp; done) | (go_simp; rfl) | rfl
        simp only [Act.put, List.getElem_toArray, List.getElem_cons_zero, List.getElem_cons_succ, List.setIfInBounds_toArray, List.set_cons_zero, List.set_cons_succ]
        refine wpAnyT_take (i := 11) (v := ?_) rfl (by kernel_rfl) (by kernel_rfl) (by kernel_rfl) (by kernel_rfl) (fun _ _ _ h => h) (takes_yield rfl (Or.inl ⟨by rfl, ?_⟩)) (by assumption) (by kernel_rfl) ?_
        rotate_left 1
        · intro w' hSw; have hcw := (H.out.kept.upd hSw (fun e => e)).cells8; have hcd := (H.out.disk.upd hSw (fun e => e)).cells4; have hcl := HCl.out w' hSw; go_split_ands; first | (go_simp; done) | (go_simp; rfl) | rfl
        simp only [Act.put, List.getElem_toArray, List.getElem_cons_zero, List.getElem_cons_succ, List.setIfInBounds_toArray, List.set_cons_zero, List.set_cons_succ]
        refine wpAnyT_two (i := 12) (j := 16) (by kernel_rfl) rfl rfl (fun K hK => ?_) (fun K hK => ?_)
        · skip
          go_simp
          refine (hdo.out _ (Upd.refl _ _).drew).mono ?_
          rintro e w6 ⟨vw2, rfl, hL⟩
          have hS6 := hS0.then hL.upd (fun _ e => e.elim)
          refine hK.out _ _ hS6 ?_
          have HL := Lib.hid hL
          clear hK hS0 hL
          refine wpAnyT_take (i := 13) (v := ?_) rfl (by kernel_rfl) (by kernel_rfl) (by kernel_rfl) (by kernel_rfl) (fun _ _ _ h => h) (takes_yield rfl (Or.inl ⟨by rfl, ?_⟩)) (by assumption) (by kernel_rfl) ?_
          rotate_left 1
          · intro w' hSw; go_split_ands; first | (go_simp; done) | (go_simp; rfl) | rfl
          simp only [Act.put, List.getElem_toArray, List.getElem_cons_zero, List.getElem_cons_succ, List.setIfInBounds_toArray, List.set_cons_zero, List.set_cons_succ]
          refine wpAnyT_take (i := 14) (v := ?_) rfl (by kernel_rfl) (by kernel_rfl) (by kernel_rfl) (by kernel_rfl) (fun _ _ _ h => h) (takes_yield rfl (Or.inl ⟨by rfl, ?_⟩)) (by assumption) (by kernel_rfl) ?_
          rotate_left 1
          · intro w' hSw; go_split_ands; first | (go_simp; done) | (go_simp; rfl) | rfl
          simp only [Act.put, List.getElem_toArray, List.getElem_cons_zero, List.getElem_cons_succ, List.setIfInBounds_toArray, List.set_cons_zero, List.set_cons_succ]
          refine wpAnyT_take (i := 15) (v := ?_) rfl (by kernel_rfl) (by kernel_rfl) (by kernel_rfl) (by kernel_rfl) (fun _ _ _ h => h) (takes_yield rfl (Or.inl ⟨by rfl, ?_⟩)) (by assumption) (by kernel_rfl) ?_
          rotate_left 1
          · intro w' hSw; go_split_ands; first | (go_simp; done) | (go_simp; rfl) | rfl
          simp only [Act.put, List.getElem_toArray, List.getElem_cons_zero, List.getElem_cons_succ, List.setIfInBounds_toArray, List.set_cons_zero, List.set_cons_succ]
          refine wpAnyT_one (i := 16) (by kernel_rfl) rfl (fun K hK => ?_)
          go_simp
          have hS7 := hS6.alloc (.cells zeroRd 33)
          refine hK.out _ _ hS7 ?_
          clear hK
          refine wpAnyT_one (i := 17) (by kernel_rfl) rfl (fun K hK => ?_)
          refine step_store_all (by rfl) 33 _ _ (by rfl) w6.heap.size #[vl, vw2, .int .i64 r2.fuse, .bool r2.off] (by rfl) (by rfl) _ _ (Blk.new w6 _ _) rfl (rdrow_one r2 HL.out.at_) (by kernel_rfl) ?_
          intro wz hBz hUz hsz
          have hge : wa.heap.size ≤ w6.heap.size := hS6.size
          have hSz := hS7.then hUz (fun q e => .inr (by omega))
          refine hK.out _ _ hSz ?_
          have hLz := ((HL.out.pre ((Upd.refl _ wa).drew)).post ((Upd.refl _ w6).alloc (.cells zeroRd 33))).store hUz (fun q hq e => by rcases hq with c | c; exact absurd (HL.out.at_.lasts.lt c) (by omega); exact absurd (HL.out.at_.ws.lt c) (by omega)) hge
          have HZ := Lib.hid (show Wrote9 wa wz vl vw' vw2 r2 w6.heap.size from ⟨hBz, hLz⟩)
          clear hK hBz hUz hsz hLz hS7 hS6
          refine wpAnyT_take (i := 18) (v := ?_) rfl (by kernel_rfl) (by kernel_rfl) (by kernel_rfl) (by kernel_rfl) (fun _ _ _ h => h) (takes_yield rfl (Or.inl ⟨by rfl, ?_⟩)) (by assumption) (by kernel_rfl) ?_
          rotate_left 1
          · intro w' hSw; go_split_ands; first | (go_simp; done) | (go_simp; rfl) | rfl
          simp only [Act.put, List.getElem_toArray, List.getElem_cons_zero, List.getElem_cons_succ, List.setIfInBounds_toArray, List.set_cons_zero, List.set_cons_succ]
          refine wpAnyT_done (by kernel_rfl) ?_ _
          refine NoPanic.normal ?_
          go_wp2_with fail
          go_meet
          exact ⟨_, vw2, rfl, rfl, HZ.out⟩
        · skip
          go_simp
          have hS5 := hS0.alloc (.cells zeroRd 33)
          refine hK.out _ _ hS5 ?_
          clear hK
          refine wpAnyT_one (i := 12) (by kernel_rfl) rfl (fun K hK => ?_)
          go_simp
          refine (hdo.out _ hS5).mono ?_
          rintro e w6 ⟨vw2, rfl, hL⟩
          have hS6 := hS5.then hL.upd (fun _ e => e.elim)
          refine hK.out _ _ hS6 ?_
          have hBn := (Blk.new wa.drew 33 zeroRd).upd hL.upd (fun e => e)
          have HL := Lib.hid (And.intro hL hBn)
          clear hK hL hBn
          refine wpAnyT_take (i := 13) (v := ?_) rfl (by kernel_rfl) (by kernel_rfl) (by kernel_rfl) (by kernel_rfl) (fun _ _ _ h => h) (takes_yield rfl (Or.inl ⟨by rfl, ?_⟩)) (by assumption) (by kernel_rfl) ?_
          rotate_left 1
          · intro w' hSw; go_split_ands; first | (go_simp; done) | (go_simp; rfl) | rfl
          simp only [Act.put, List.getElem_toArray, List.getElem_cons_zero, List.getElem_cons_succ, List.setIfInBounds_toArray, List.set_cons_zero, List.set_cons_succ]
          refine wpAnyT_take (i := 14) (v := ?_) rfl (by kernel_rfl) (by kernel_rfl) (by kernel_rfl) (by kernel_rfl) (fun _ _ _ h => h) (takes_yield rfl (Or.inl ⟨by rfl, ?_⟩)) (by assumption) (by kernel_rfl) ?_
          rotate_left 1
          · intro w' hSw; go_split_ands; first | (go_simp; done) | (go_simp; rfl) | rfl
          simp only [Act.put, List.getElem_toArray, List.getElem_cons_zero, List.getElem_cons_succ, List.setIfInBounds_toArray, List.set_cons_zero, List.set_cons_succ]
          refine wpAnyT_take (i := 15) (v := ?_) rfl (by kernel_rfl) (by kernel_rfl) (by kernel_rfl) (by kernel_rfl) (fun _ _ _ h => h) (takes_yield rfl (Or.inl ⟨by rfl, ?_⟩)) (by assumption) (by kernel_rfl) ?_
          rotate_left 1
          · intro w' hSw; go_split_ands; first | (go_simp; done) | (go_simp; rfl) | rfl
          simp only [Act.put, List.getElem_toArray, List.getElem_cons_zero, List.getElem_cons_succ, List.setIfInBounds_toArray, List.set_cons_zero, List.set_cons_succ]
          refine wpAnyT_one (i := 17) (by kernel_rfl) rfl (fun K hK => ?_)
          refine step_store_all (by rfl) 33 _ _ (by rfl) wa.drew.heap.size #[vl, vw2, .int .i64 r2.fuse, .bool r2.off] (by rfl) (by rfl) _ _ HL.out.2 rfl (rdrow_one r2 HL.out.1.at_) (by kernel_rfl) ?_
          intro wz hBz hUz hsz
          have hSz := hS6.then hUz (fun q e => .inr (by rw [e]; exact Nat.le_refl _))
          refine hK.out _ _ hSz ?_
          have hLz := (HL.out.1.pre hS5).store hUz (fun q hq e => HL.out.1.at_.ne HL.out.2 (by decide) (by decide) (e ▸ hq)) (Nat.le_refl _)
          have HZ := Lib.hid (show Wrote9 wa wz vl vw' vw2 r2 wa.drew.heap.size from ⟨hBz, hLz⟩)
          clear hK hBz hUz hsz hLz hS6
          refine wpAnyT_take (i := 18) (v := ?_) rfl (by kernel_rfl) (by kernel_rfl) (by kernel_rfl) (by kernel_rfl) (fun _ _ _ h => h) (takes_yield rfl (Or.inl ⟨by rfl, ?_⟩)) (by assumption) (by kernel_rfl) ?_
          rotate_left 1
          · intro w' hSw; go_split_ands; first | (go_simp; done) | (go_simp; rfl) | rfl
          simp only [Act.put, List.getElem_toArray, List.getElem_cons_zero, List.getElem_cons_succ, List.setIfInBounds_toArray, List.set_cons_zero, List.set_cons_succ]
          refine wpAnyT_done (by kernel_rfl) ?_ _
          refine NoPanic.normal ?_
          go_wp2_with fail
          go_meet
          exact ⟨_, vw2, rfl, rfl, HZ.out⟩
      case rest =>
        obtain ⟨g2, vw2, rfl, rfl, hW⟩ := hcut
        have HW := Lib.hid hW
        clear hW hw1 hw4
        go_upto_region 13 with fail
        go_upto_region 14 with (first
          | (refine wpList_load_all rfl _ _ rfl g2 rfl _ _ _ HW.out.blk Tryz.underlying33 rfl rfl ?_)
          | (refine wpList_store_all rfl 33 _ _ rfl (w.heap.size + 1) #[vl, vw2, .int .i64 r2.fuse, .bool r2.off] rfl rfl _ _ (H.out.disk.upd HW.out.left.upd (fun e => e)) rfl (rdrow_one r2 HW.out.left.at_) (by kernel_rfl) ?_
             intro wy hBy hUy hsy))
        have HPy := Lib.hid (H.out.box HW.out hBy hUy)
        have HOy := Lib.hid ((HO.out.upd HW.out.left.upd (fun _ _ e => e)).upd hUy (fun q hq e => HO.out.ne_blk H.out.disk (by decide) (e ▸ hq)))
        have HVy := Lib.hid ((HV.out.upd HW.out.left.upd (fun _ _ e => e)).upd hUy (fun q hq e => HV.out.ne_blk H.out.disk (by decide) (e ▸ hq)))
        clear hBy hUy hsy
        by_cases he : err = 0
        · subst he
          go_wp2_with fail
          go_roundw
          case rel => exact ⟨j + 1, vw2, r2, by omega, by go_num, HN.out.1, HN.out.2.1, HN.out.2.2, HPy.out, HOy.out, HVy.out⟩
          case measure => simp only [intOf]; omega
        · have hne : (err != 0) = true := bne_iff_ne.2 he
          have hst := writeBR_stop (m := n) (by rw [HN.out.1]; exact he) (show j + 1 ≤ n by omega)
          rw [HN.out.1] at hst
          obtain rfl : R = (r2, ⟨f_, se, ep, l, us, la, sa, true⟩, err) := by rw [HRv.out, hst, if_pos he]
          clear he hst
          go_upto_region 15 with fail
          refine wp_region_noPanic ?_
          refine wp_region_T (S := fun w' => Blk w' w.heap.size 39 (Lg.rowR ⟨f_, se, ep, l, us, la, sa, true⟩ vg) ∧ Blk w' (w.heap.size + 1) 33 #[vl, vw2, .int .i64 r2.fuse, .bool r2.off]) (T := fun _ => false) (by kernel_rfl) ?_
          have hS0 := And.intro HPy.out.kept.drew HPy.out.disk.drew
          refine wpAnyT_take (i := 0) (v := ?_) rfl (by kernel_rfl) (by kernel_rfl) (by kernel_rfl) (by kernel_rfl) (fun _ _ _ h => h) (takes_yield rfl (Or.inl ⟨by rfl, ?_⟩)) (by assumption) (by kernel_rfl) ?_
          rotate_left 1
          · intro w' hSw; have hcw := hSw.1.cells8; have hcd := hSw.2.cells4; go_split_ands; first | (go_simp; done) | (go_simp; rfl) | rfl
          simp only [Act.put, List.getElem_toArray, List.getElem_cons_zero, List.setIfInBounds_toArray, List.set_cons_zero, List.set_cons_succ]
          refine wpAnyT_take (i := 1) (v := ?_) rfl (by kernel_rfl) (by kernel_rfl) (by kernel_rfl) (by kernel_rfl) (fun _ _ _ h => h) (takes_yield rfl (Or.inl ⟨by rfl, ?_⟩)) (by assumption) (by kernel_rfl) ?_
          rotate_left 1
          · intro w' hSw; have hcw := hSw.1.cells8; have hcd := hSw.2.cells4; go_split_ands; first | (go_simp; done) | (go_simp; rfl) | rfl
          simp only [Act.put, List.getElem_toArray, List.getElem_cons_zero, List.getElem_cons_succ, List.setIfInBounds_toArray, List.set_cons_zero, List.set_cons_succ]
          refine wpAnyT_take (i := 2) (v := ?_) rfl (by kernel_rfl) (by kernel_rfl) (by kernel_rfl) (by kernel_rfl) (fun _ _ _ h => h) (takes_yield rfl (Or.inl ⟨by rfl, ?_⟩)) (by assumption) (by kernel_rfl) ?_
          rotate_left 1
          · intro w' hSw; have hcw := hSw.1.cells8; have hcd := hSw.2.cells4; go_split_ands; first | (go_simp; done) | (go_simp; rfl) | rfl
          simp only [Act.put, List.getElem_toArray, List.getElem_cons_zero, List.getElem_cons_succ, List.setIfInBounds_toArray, List.set_cons_zero, List.set_cons_succ]
          refine wpAnyT_one (i := 3) (by kernel_rfl) rfl (fun K hK => ?_)
          refine step_store_all (by rfl) 39 _ _ (by rfl) (w.heap.size + 1 + 1) (Lg.rowR ⟨f_, se, ep, l, us, la, sa, true⟩ vg) (by rfl) (by rfl) _ _ HPy.out.res1.drew rfl (Lg.rowR_one _ _ HOne.out) (by kernel_rfl) ?_
          intro x4 hB4 hU4 hs4
          have hS4 := And.intro (hS0.1.upd hU4 (by omega)) (hS0.2.upd hU4 (by omega))
          refine hK.out _ _ hS4 ?_
          clear hK
          refine wpAnyT_one (i := 4) (by kernel_rfl) rfl (fun K hK => ?_)
          refine step_store_all (by rfl) 33 _ _ (by rfl) (w.heap.size + 1 + 1 + 1) #[vl, vw2, .int .i64 r2.fuse, .bool r2.off] (by rfl) (by rfl) _ _ (HPy.out.res2.drew.upd hU4 (by omega)) rfl (rdrow_one r2 HPy.out.left.at_) (by kernel_rfl) ?_
          intro x5 hB5 hU5 hs5
          have hS5 := And.intro (hS4.1.upd hU5 (by omega)) (hS4.2.upd hU5 (by omega))
          refine hK.out _ _ hS5 ?_
          have hl := (HPy.out.still (Upd.refl _ wy).drew).ends hB4 hU4 hB5 hU5
          have hv := ((HVy.out.upd (Upd.refl (fun _ => False) wy).drew (fun _ _ e => e)).upd hU4 (fun q hq e => HVy.out.ne_blk HPy.out.res1 (by decide) (e ▸ hq))).upd hU5 (fun q hq e => HVy.out.ne_blk HPy.out.res2 (by decide) (e ▸ hq))
          have HE := Lib.hid (And.intro (hB4.upd hU5 (by omega)) (And.intro hB5 (And.intro hl hv)))
          clear hK hS0 hS4 hl hv hB4 hU4 hs4 hB5 hU5 hs5
          refine wpAnyT_take (i := 5) (v := ?_) rfl (by kernel_rfl) (by kernel_rfl) (by kernel_rfl) (by kernel_rfl) (fun _ _ _ h => h) (takes_yield rfl (Or.inl ⟨by rfl, ?_⟩)) (by assumption) (by kernel_rfl) ?_
          rotate_left 1
          · intro w' hSw; go_split_ands; first | (go_simp; done) | (go_simp; rfl) | rfl
          simp only [Act.put, List.getElem_toArray, List.getElem_cons_zero, List.getElem_cons_succ, List.setIfInBounds_toArray, List.set_cons_zero, List.set_cons_succ]
          refine wpAnyT_done (by kernel_rfl) ?_ _
          refine NoPanic.normal ?_
          go_wp2_with fail
          refine bodyPost_ret (results_cells2_slot rfl _ _ (w.heap.size + 1 + 1) (w.heap.size + 1 + 1 + 1) _ _ _ _ _ _ _ _ rfl HE.out.1 rfl HE.out.2.1 Tryz.underlying39 rfl rfl Tryz.underlying33 rfl rfl (.int .i64 err) rfl) rfl ⟨_, _, vg, rfl, HE.out.2.2.1, ⟨HE.out.2.2.2, fun q hq => .inl hq⟩⟩
    · obtain rfl : j = n := by omega
      have hRs : R = if r'.sync.2 ≠ 0 then (r'.sync.1, ⟨f_, se, ep, l, us, la, sa, true⟩, r'.sync.2) else (r'.sync.1, ⟨f_, se, ep, l ++ [s], us + j, sa + 1, sa + 1, false⟩, 0) := by
        rw [HRv.out, hwn, if_neg (by simp)]
      have hsy := rsync_c H.out.left.at_ hfit
      obtain ⟨⟨r2, err⟩, hq⟩ : ∃ q, r'.sync = q := ⟨_, rfl⟩
      rw [hq] at hRs hsy
      simp only at hRs hsy
      have HSy := Lib.hid hsy
      have HRs := Lib.hid hRs
      clear hsy hRs hq hwn hfit
      go_upto_region 16 with fail
      go_upto_region 17 with (first
        | (refine wpList_load_all rfl _ _ rfl (w.heap.size + 1) rfl _ _ _ H.out.disk Tryz.underlying33 rfl rfl ?_)
        | (go_at_call 62; refine HSy.out.mono ?_; rintro e w6 ⟨vl2, vw2, rfl, hL⟩
           have HL := Lib.hid hL
           clear hL)
        | (refine wpList_store_all rfl 33 _ _ rfl (w.heap.size + 1) #[vl2, vw2, .int .i64 r2.fuse, .bool r2.off] rfl rfl _ _ (H.out.disk.upd HL.out.upd (fun e => e)) rfl (rdrow_one r2 HL.out.at_) (by kernel_rfl) ?_
           intro wy hBy hUy hsy))
      have HPy : Hid (Adds10 w wy vl vw vl2 vw2 r2 ⟨f_, se, ep, l, us, la, sa, true⟩ vg) := by
        have h2 := H.out.still HL.out.upd
        exact Lib.hid ⟨(H.out.left.trans HL.out).store hUy (fun q hq e => HL.out.at_.ne h2.disk (by decide) (by decide) (e ▸ hq)) (by omega), h2.kept.upd hUy (by omega), hBy, h2.res1.upd hUy (by omega), h2.res2.upd hUy (by omega)⟩
      have HVy := Lib.hid ((HV.out.upd HL.out.upd (fun _ _ e => e)).upd hUy (fun q hq e => (HV.out.upd HL.out.upd (fun _ _ e => e)).ne_blk (H.out.disk.upd HL.out.upd (fun e => e)) (by decide) (e ▸ hq)))
      clear hBy hUy hsy
      by_cases he : err = 0
      · subst he
        obtain rfl : R = (r2, ⟨f_, se, ep, l ++ [s], us + j, sa + 1, sa + 1, false⟩, 0) := by rw [HRs.out, if_neg (by simp)]
        have hw1 : IntKind.i64.wrap ((us : Int) + (j : Int)) = (us : Int) + (j : Int) := IntWalk.i64_in _ (by omega)
        have hw2 : IntKind.u64.wrap ((sa : Int) + 1) = (sa : Int) + 1 := IntWalk.u64_in _ (by omega)
        have HRow : Hid (∀ v : Value, #[.int .i64 (f_ : Int), .int .i64 (se : Int), .int .u64 (ep : Int), v, .int .i64 ((us : Int) + (j : Int)), .int .u64 ((sa : Int) + 1), .int .u64 ((sa : Int) + 1), .bool false] = Lg.rowR ⟨f_, se, ep, l ++ [s], us + j, sa + 1, sa + 1, false⟩ v) := by
          intro v
          show _ = (#[.int .i64 (f_ : Int), .int .i64 (se : Int), .int .u64 (ep : Int), v, .int .i64 ((us + j : Nat) : Int), .int .u64 ((sa + 1 : Nat) : Int), .int .u64 ((sa + 1 : Nat) : Int), .bool false] : Array Value)
          rw [show (((us + j : Nat)) : Int) = (us : Int) + (j : Int) by omega, show (((sa + 1 : Nat)) : Int) = (sa : Int) + 1 by omega]
        have hcy := HPy.out.kept.cells8
        have hge : w.heap.size ≤ wy.heap.size := HPy.out.left.upd.size
        go_upto_region 21 with (at_builtin; refine wpList_append_src rfl _ _ _ _ rfl 9 i0 _ 1 16 Tryz.underlying30 hi0 hz0 hz1 hz2 rfl (.slice none 0 0) 0 [] rfl (Own.nil _ _ _) vg l.length (strs l) rfl (Src.of_own Tryz.underlying30 HVy.out) (strs_one l) (by unfold maxLen; omega) (by omega) ?_; intro va w7 hO7 hU7 hl7 hs7)
        rw [Nat.zero_add, List.nil_append] at hO7
        have hva := hO7.one
        have hUy7 : Upd (fun _ => False) wy w7 := hU7.mono (fun _ e => by simp [Value.ownBlock] at e)
        have hn7 : ∀ q, va.ownBlock = some q → wy.heap.size ≤ q := fun q hq => by
          rcases hl7 with e | e
          · rw [e] at hq; simp [Value.ownBlock] at hq
          · rw [e] at hq
            have := Option.some.inj hq
            omega
        have H7 := Lib.hid (And.intro hO7 (And.intro hUy7 hn7))
        clear hO7 hU7 hl7 hs7 hUy7 hn7 hcy
        refine wp_region_noPanic ?_
        refine wp_region_T (S := fun w' => Blk w' w.heap.size 39 (Lg.rowR ⟨f_, se, ep, l, us, la, sa, true⟩ vg) ∧ Blk w' (w.heap.size + 1) 33 #[vl2, vw2, .int .i64 r2.fuse, .bool r2.off]) (T := fun _ => false) (by kernel_rfl) ?_
        have hS0 := And.intro (HPy.out.kept.upd H7.out.2.1 (fun e => e)).drew (HPy.out.disk.upd H7.out.2.1 (fun e => e)).drew
        refine wpAnyT_take (i := 0) (v := ?_) rfl (by kernel_rfl) (by kernel_rfl) (by kernel_rfl) (by kernel_rfl) (fun _ _ _ h => h) (takes_yield rfl (Or.inl ⟨by rfl, ?_⟩)) (by assumption) (by kernel_rfl) ?_
        rotate_left 1
        · intro w' hSw; have hcw := hSw.1.cells8; have hcd := hSw.2.cells4; go_split_ands; first | (go_simp; done) | (go_simp; rfl) | rfl
        simp only [Act.put, List.getElem_toArray, List.getElem_cons_zero, List.setIfInBounds_toArray, List.set_cons_zero, List.set_cons_succ]
        refine wpAnyT_take (i := 1) (v := ?_) rfl (by kernel_rfl) (by kernel_rfl) (by kernel_rfl) (by kernel_rfl) (fun _ _ _ h => h) (takes_yield rfl (Or.inl ⟨by rfl, ?_⟩)) (by assumption) (by kernel_rfl) ?_
        rotate_left 1
        · intro w' hSw; have hcw := hSw.1.cells8; have hcd := hSw.2.cells4; go_split_ands; first | (go_simp; done) | (go_simp; rfl) | rfl
        simp only [Act.put, List.getElem_toArray, List.getElem_cons_zero, List.getElem_cons_succ, List.setIfInBounds_toArray, List.set_cons_zero, List.set_cons_succ]
        refine wpAnyT_take (i := 2) (v := ?_) rfl (by kernel_rfl) (by kernel_rfl) (by kernel_rfl) (by kernel_rfl) (fun _ _ _ h => h) (takes_yield rfl (Or.inl ⟨by rfl, ?_⟩)) (by assumption) (by kernel_rfl) ?_
        rotate_left 1
        · intro w' hSw; have hcw := hSw.1.cells8; have hcd := hSw.2.cells4; go_split_ands; first | (go_simp; done) | (go_simp; rfl) | rfl
        simp only [Act.put, List.getElem_toArray, List.getElem_cons_zero, List.getElem_cons_succ, List.setIfInBounds_toArray, List.set_cons_zero, List.set_cons_succ]
        refine wpAnyT_take (i := 3) (v := ?_) rfl (by kernel_rfl) (by kernel_rfl) (by kernel_rfl) (by kernel_rfl) (fun _ _ _ h => h) (takes_yield rfl (Or.inl ⟨by rfl, ?_⟩)) (by assumption) (by kernel_rfl) ?_
        rotate_left 1
        · intro w' hSw; have hcw := hSw.1.cells8; have hcd := hSw.2.cells4; go_split_ands; first | (go_simp; done) | (go_simp; rfl) | rfl
        simp only [Act.put, List.getElem_toArray, List.getElem_cons_zero, List.getElem_cons_succ, List.setIfInBounds_toArray, List.set_cons_zero, List.set_cons_succ]
        refine wpAnyT_take (i := 4) (v := ?_) rfl (by kernel_rfl) (by kernel_rfl) (by kernel_rfl) (by kernel_rfl) (fun _ _ _ h => h) (takes_yield rfl (Or.inl ⟨by rfl, ?_⟩)) (by assumption) (by kernel_rfl) ?_
        rotate_left 1
        · intro w' hSw; have hcw := hSw.1.cells8; have hcd := hSw.2.cells4; go_split_ands; first | (go_simp; done) | (go_simp; rfl) | rfl
        simp only [Act.put, List.getElem_toArray, List.getElem_cons_zero, List.getElem_cons_succ, List.setIfInBounds_toArray, List.set_cons_zero, List.set_cons_succ]
        refine wpAnyT_take (i := 5) (v := ?_) rfl (by kernel_rfl) (by kernel_rfl) (by kernel_rfl) (by kernel_rfl) (fun _ _ _ h => h) (takes_yield rfl (Or.inl ⟨by rfl, ?_⟩)) (by assumption) (by kernel_rfl) ?_
        rotate_left 1
        · intro w' hSw; have hcw := hSw.1.cells8; have hcd := hSw.2.cells4; go_split_ands; first | (go_simp; done) | (go_simp; rfl) | rfl
        simp only [Act.put, List.getElem_toArray, List.getElem_cons_zero, List.getElem_cons_succ, List.setIfInBounds_toArray, List.set_cons_zero, List.set_cons_succ]
        refine wpAnyT_take (i := 6) (v := ?_) rfl (by kernel_rfl) (by kernel_rfl) (by kernel_rfl) (by kernel_rfl) (fun _ _ _ h => h) (takes_yield rfl (Or.inl ⟨by rfl, ?_⟩)) (by assumption) (by kernel_rfl) ?_
        rotate_left 1
        · intro w' hSw; have hcw := hSw.1.cells8; have hcd := hSw.2.cells4; go_split_ands; first | (go_simp; done) | (go_simp; rfl) | rfl
        simp only [Act.put, List.getElem_toArray, List.getElem_cons_zero, List.getElem_cons_succ, List.setIfInBounds_toArray, List.set_cons_zero, List.set_cons_succ]
        refine wpAnyT_take (i := 7) (v := ?_) rfl (by kernel_rfl) (by kernel_rfl) (by kernel_rfl) (by kernel_rfl) (fun _ _ _ h => h) (takes_yield rfl (Or.inl ⟨by rfl, ?_⟩)) (by assumption) (by kernel_rfl) ?_
        rotate_left 1
        · intro w' hSw; have hcw := hSw.1.cells8; have hcd := hSw.2.cells4; go_split_ands; first | (go_simp; done) | (go_simp; rfl) | rfl
        simp only [Act.put, List.getElem_toArray, List.getElem_cons_zero, List.getElem_cons_succ, List.setIfInBounds_toArray, List.set_cons_zero, List.set_cons_succ]
        refine wpAnyT_take (i := 10) (v := ?_) rfl (by kernel_rfl) (by kernel_rfl) (by kernel_rfl) (by kernel_rfl) (fun _ _ _ h => h) (takes_yield rfl (Or.inl ⟨by rfl, ?_⟩)) (by assumption) (by kernel_rfl) ?_
        rotate_left 1
        · intro w' hSw; have hcw := hSw.1.cells8; have hcd := hSw.2.cells4; go_split_ands; first | (go_simp; done) | (go_simp; rfl) | rfl
        simp only [Act.put, List.getElem_toArray, List.getElem_cons_zero, List.getElem_cons_succ, List.setIfInBounds_toArray, List.set_cons_zero, List.set_cons_succ]
        refine wpAnyT_take (i := 11) (v := ?_) rfl (by kernel_rfl) (by kernel_rfl) (by kernel_rfl) (by kernel_rfl) (fun _ _ _ h => h) (takes_yield rfl (Or.inl ⟨by rfl, ?_⟩)) (by assumption) (by kernel_rfl) ?_
        rotate_left 1
        · intro w' hSw; have hcw := hSw.1.cells8; have hcd := hSw.2.cells4; go_split_ands; first | (go_simp; done) | (go_simp; rfl) | rfl
        simp only [Act.put, List.getElem_toArray, List.getElem_cons_zero, List.getElem_cons_succ, List.setIfInBounds_toArray, List.set_cons_zero, List.set_cons_succ]
        refine wpAnyT_take (i := 12) (v := ?_) rfl (by kernel_rfl) (by kernel_rfl) (by kernel_rfl) (by kernel_rfl) (fun _ _ _ h => h) (takes_yield rfl (Or.inl ⟨by rfl, ?_⟩)) (by assumption) (by kernel_rfl) ?_
        rotate_left 1
        · intro w' hSw; have hcw := hSw.1.cells8; have hcd := hSw.2.cells4; go_split_ands; first | (go_simp; done) | (go_simp; rfl) | rfl
        simp only [Act.put, List.getElem_toArray, List.getElem_cons_zero, List.getElem_cons_succ, List.setIfInBounds_toArray, List.set_cons_zero, List.set_cons_succ]
        refine wpAnyT_take (i := 13) (v := ?_) rfl (by kernel_rfl) (by kernel_rfl) (by kernel_rfl) (by kernel_rfl) (fun _ _ _ h => h) (takes_yield rfl (Or.inl ⟨by rfl, ?_⟩)) (by assumption) (by kernel_rfl) ?_
        rotate_left 1
        · intro w' hSw; have hcw := hSw.1.cells8; have hcd := hSw.2.cells4; go_split_ands; first | (go_simp; done) | (go_simp; rfl) | rfl
        simp only [Act.put, List.getElem_toArray, List.getElem_cons_zero, List.getElem_cons_succ, List.setIfInBounds_toArray, List.set_cons_zero, List.set_cons_succ]
        refine wpAnyT_take (i := 14) (v := ?_) rfl (by kernel_rfl) (by kernel_rfl) (by kernel_rfl) (by kernel_rfl) (fun _ _ _ h => h) (takes_yield rfl (Or.inl ⟨by rfl, ?_⟩)) (by assumption) (by kernel_rfl) ?_
        rotate_left 1
        · intro w' hSw; have hcw := hSw.1.cells8; have hcd := hSw.2.cells4; go_split_ands; first | (go_simp; done) | (go_simp; rfl) | rfl
        simp only [Act.put, List.getElem_toArray, List.getElem_cons_zero, List.getElem_cons_succ, List.setIfInBounds_toArray, List.set_cons_zero, List.set_cons_succ]
        refine wpAnyT_take (i := 15) (v := ?_) rfl (by kernel_rfl) (by kernel_rfl) (by kernel_rfl) (by kernel_rfl) (fun _ _ _ h => h) (takes_yield rfl (Or.inl ⟨by rfl, ?_⟩)) (by assumption) (by kernel_rfl) ?_
        rotate_left 1
        · intro w' hSw; have hcw := hSw.1.cells8; have hcd := hSw.2.cells4; go_split_ands; first | (go_simp; done) | (go_simp; rfl) | rfl
        simp only [Act.put, List.getElem_toArray, List.getElem_cons_zero, List.getElem_cons_succ, List.setIfInBounds_toArray, List.set_cons_zero, List.set_cons_succ]
        refine wpAnyT_take (i := 16) (v := ?_) rfl (by kernel_rfl) (by kernel_rfl) (by kernel_rfl) (by kernel_rfl) (fun _ _ _ h => h) (takes_yield rfl (Or.inl ⟨by rfl, ?_⟩)) (by assumption) (by kernel_rfl) ?_
        rotate_left 1
        · intro w' hSw; have hcw := hSw.1.cells8; have hcd := hSw.2.cells4; go_split_ands; first | (go_simp; done) | (go_simp; rfl) | rfl
        simp only [Act.put, List.getElem_toArray, List.getElem_cons_zero, List.getElem_cons_succ, List.setIfInBounds_toArray, List.set_cons_zero, List.set_cons_succ]
        refine wpAnyT_take (i := 17) (v := ?_) rfl (by kernel_rfl) (by kernel_rfl) (by kernel_rfl) (by kernel_rfl) (fun _ _ _ h => h) (takes_yield rfl (Or.inl ⟨by rfl, ?_⟩)) (by assumption) (by kernel_rfl) ?_
        rotate_left 1
        · intro w' hSw; have hcw := hSw.1.cells8; have hcd := hSw.2.cells4; go_split_ands; first | (go_simp; done) | (go_simp; rfl) | rfl
        simp only [Act.put, List.getElem_toArray, List.getElem_cons_zero, List.getElem_cons_succ, List.setIfInBounds_toArray, List.set_cons_zero, List.set_cons_succ]
        refine wpAnyT_take (i := 18) (v := ?_) rfl (by kernel_rfl) (by kernel_rfl) (by kernel_rfl) (by kernel_rfl) (fun _ _ _ h => h) (takes_yield rfl (Or.inl ⟨by rfl, ?_⟩)) (by assumption) (by kernel_rfl) ?_
        rotate_left 1
        · intro w' hSw; have hcw := hSw.1.cells8; have hcd := hSw.2.cells4; go_split_ands; first | (go_simp; done) | (go_simp; rfl) | rfl
        simp only [Act.put, List.getElem_toArray, List.getElem_cons_zero, List.getElem_cons_succ, List.setIfInBounds_toArray, List.set_cons_zero, List.set_cons_succ]
        refine wpAnyT_take (i := 19) (v := ?_) rfl (by kernel_rfl) (by kernel_rfl) (by kernel_rfl) (by kernel_rfl) (fun _ _ _ h => h) (takes_yield rfl (Or.inl ⟨by rfl, ?_⟩)) (by assumption) (by kernel_rfl) ?_
        rotate_left 1
        · intro w' hSw; have hcw := hSw.1.cells8; have hcd := hSw.2.cells4; go_split_ands; first | (go_simp; done) | (go_simp; rfl) | rfl
        simp only [Act.put, List.getElem_toArray, List.getElem_cons_zero, List.getElem_cons_succ, List.setIfInBounds_toArray, List.set_cons_zero, List.set_cons_succ]
        refine wpAnyT_take (i := 20) (v := ?_) rfl (by kernel_rfl) (by kernel_rfl) (by kernel_rfl) (by kernel_rfl) (fun _ _ _ h => h) (takes_yield rfl (Or.inl ⟨by rfl, ?_⟩)) (by assumption) (by kernel_rfl) ?_
        rotate_left 1
        · intro w' hSw; have hcw := hSw.1.cells8; have hcd := hSw.2.cells4; go_split_ands; first | (go_simp; done) | (go_simp; rfl) | rfl
        simp only [Act.put, List.getElem_toArray, List.getElem_cons_zero, List.getElem_cons_succ, List.setIfInBounds_toArray, List.set_cons_zero, List.set_cons_succ]
        refine wpAnyT_take (i := 22) (v := ?_) rfl (by kernel_rfl) (by kernel_rfl) (by kernel_rfl) (by kernel_rfl) (fun _ _ _ h => h) (takes_yield rfl (Or.inl ⟨by rfl, ?_⟩)) (by assumption) (by kernel_rfl) ?_
        rotate_left 1
        · intro w' hSw; have hcw := hSw.1.cells8; have hcd := hSw.2.cells4; go_split_ands; first | (go_simp; done) | (go_simp; rfl) | rfl
        simp only [Act.put, List.getElem_toArray, List.getElem_cons_zero, List.getElem_cons_succ, List.setIfInBounds_toArray, List.set_cons_zero, List.set_cons_succ]
        refine wpAnyT_one (i := 8) (by kernel_rfl) rfl (fun K hK => ?_)
        go_simp
        have hS8 := And.intro (hS0.1.alloc (.cells #[.string s] 9)) (hS0.2.alloc (.cells #[.string s] 9))
        refine hK.out _ _ hS8 ?_
        clear hK
        have hOa := (H7.out.1.upd (Upd.refl (fun _ => False) w7).drew (fun _ _ e => e)).alloc (.cells #[.string s] 9)
        have hsrc : Src Tryz.prog ((w7.drew).alloc (.cells #[.string s] 9)) 30 1 (.slice (some ⟨w7.drew.heap.size, 0, none⟩) 1 1) 1 [.string s] := Src.of_new Tryz.underlying30 _
        refine wpAnyT_one (i := 9) (by kernel_rfl) rfl (fun K hK => ?_)
        refine step_append_src (by rfl) _ _ _ _ (by rfl) 9 i0 _ 1 16 Tryz.underlying30 hi0 hz0 hz1 hz2 rfl va l.length (strs l) (by rfl) hOa _ 1 [.string s] (by rfl) hsrc (by simp [Value.oneCell']) (by unfold maxLen; omega) (by omega) ?_
        intro v8 w8 hO8 hU8 hl8 hs8
        obtain ⟨g8, cap8, rfl, -, -⟩ := hO8.head (by omega)
        have hUn : Upd (fun _ => False) wy w8 := (((H7.out.2.1.drew).alloc (.cells #[.string s] 9))).then hU8 (fun q e => .inr (H7.out.2.2 q e))
        have hn8 : ∀ q, (Value.slice (some ⟨g8, 0, none⟩) (l.length + 1) cap8).ownBlock = some q → w.heap.size ≤ q := fun q hq => by
          rcases hl8 with e | e
          · rw [e] at hq
            have := H7.out.2.2 q hq
            omega
          · rw [e] at hq
            have h1 := Option.some.inj hq
            have h2 := H7.out.2.1.size
            simp at h1
            omega
        have HP8 := Lib.hid (HPy.out.still hUn)
        have hv8 := hO8.one
        have hS9 := And.intro HP8.out.kept HP8.out.disk
        refine hK.out _ _ hS9 ?_
        have H8 := Lib.hid (And.intro hO8 hn8)
        have HV8 := Lib.hid hv8
        clear hK hS0 hS8 hOa hsrc hO8 hU8 hl8 hs8 hUn hn8 hv8
        refine wpAnyT_take (i := 21) (v := ?_) rfl (by kernel_rfl) (by kernel_rfl) (by kernel_rfl) (by kernel_rfl) (fun _ _ _ h => h) (takes_yield rfl (Or.inl ⟨by rfl, ?_⟩)) (by assumption) (by kernel_rfl) ?_
        rotate_left 1
        · intro w' hSw; go_split_ands; first | (go_simp; done) | (go_simp; rfl) | rfl
        simp only [Act.put, List.getElem_toArray, List.getElem_cons_zero, List.getElem_cons_succ, List.setIfInBounds_toArray, List.set_cons_zero, List.set_cons_succ]
        refine wpAnyT_one (i := 23) (by kernel_rfl) rfl (fun K hK => ?_)
        refine step_store_all (by rfl) 39 _ _ (by rfl) (w.heap.size + 1 + 1) #[.int .i64 (f_ : Int), .int .i64 (se : Int), .int .u64 (ep : Int), (.slice (some ⟨g8, 0, none⟩) (l.length + 1) cap8), .int .i64 ((us : Int) + (j : Int)), .int .u64 ((sa : Int) + 1), .int .u64 ((sa : Int) + 1), .bool false] (by rfl) (by rfl) _ _ HP8.out.res1 rfl (by rw [HRow.out]; exact Lg.rowR_one _ _ HV8.out) (by kernel_rfl) ?_
        intro x4 hB4 hU4 hs4
        have hS4 := And.intro (hS9.1.upd hU4 (by omega)) (hS9.2.upd hU4 (by omega))
        refine hK.out _ _ hS4 ?_
        clear hK
        refine wpAnyT_one (i := 24) (by kernel_rfl) rfl (fun K hK => ?_)
        refine step_store_all (by rfl) 33 _ _ (by rfl) (w.heap.size + 1 + 1 + 1) #[vl2, vw2, .int .i64 r2.fuse, .bool r2.off] (by rfl) (by rfl) _ _ (HP8.out.res2.upd hU4 (by omega)) rfl (rdrow_one r2 HP8.out.left.at_) (by kernel_rfl) ?_
        intro x5 hB5 hU5 hs5
        have hS5 := And.intro (hS4.1.upd hU5 (by omega)) (hS4.2.upd hU5 (by omega))
        refine hK.out _ _ hS5 ?_
        have hl := HP8.out.ends hB4 hU4 hB5 hU5
        have hv := (H8.out.1.upd hU4 (fun q hq e => H8.out.1.ne_blk HP8.out.res1 (by decide) (e ▸ hq))).upd hU5 (fun q hq e => H8.out.1.ne_blk HP8.out.res2 (by decide) (e ▸ hq))
        have HE := Lib.hid (And.intro (hB4.upd hU5 (by omega)) (And.intro hB5 (And.intro hl hv)))
        clear hK hS9 hS4 hl hv hB4 hU4 hs4 hB5 hU5 hs5
        refine wpAnyT_take (i := 25) (v := ?_) rfl (by kernel_rfl) (by kernel_rfl) (by kernel_rfl) (by kernel_rfl) (fun _ _ _ h => h) (takes_yield rfl (Or.inl ⟨by rfl, ?_⟩)) (by assumption) (by kernel_rfl) ?_
        rotate_left 1
        · intro w' hSw; go_split_ands; first | (go_simp; done) | (go_simp; rfl) | rfl
        simp only [Act.put, List.getElem_toArray, List.getElem_cons_zero, List.getElem_cons_succ, List.setIfInBounds_toArray, List.set_cons_zero, List.set_cons_succ]
        refine wpAnyT_done (by kernel_rfl) ?_ _
        refine NoPanic.normal ?_
        go_wp2_with fail
        refine bodyPost_ret (results_cells2_slot rfl _ _ (w.heap.size + 1 + 1) (w.heap.size + 1 + 1 + 1) _ _ _ _ _ _ _ _ rfl HE.out.1 rfl HE.out.2.1 Tryz.underlying39 rfl rfl Tryz.underlying33 rfl rfl (.int .i64 0) rfl) rfl ⟨_, _, (.slice (some ⟨g8, 0, none⟩) (l.length + 1) cap8), by rw [← HRow.out], HE.out.2.2.1, ⟨?_, fun q hq => .inr (H8.out.2 q hq)⟩⟩
        have := HE.out.2.2.2
        simp only [List.length_append, List.length_singleton, strs, List.map_append, List.map_cons, List.map_nil] at this ⊢
        exact this
      · have hne : (err != 0) = true := bne_iff_ne.2 he
        obtain rfl : R = (r2, ⟨f_, se, ep, l, us, la, sa, true⟩, err) := by rw [HRs.out, if_pos he]
        clear he
        go_upto_region 18 with fail
        refine wp_region_noPanic ?_
        refine wp_region_T (S := fun w' => Blk w' w.heap.size 39 (Lg.rowR ⟨f_, se, ep, l, us, la, sa, true⟩ vg) ∧ Blk w' (w.heap.size + 1) 33 #[vl2, vw2, .int .i64 r2.fuse, .bool r2.off]) (T := fun _ => false) (by kernel_rfl) ?_
        have hS0 := And.intro HPy.out.kept.drew HPy.out.disk.drew
        refine wpAnyT_take (i := 0) (v := ?_) rfl (by kernel_rfl) (by kernel_rfl) (by kernel_rfl) (by kernel_rfl) (fun _ _ _ h => h) (takes_yield rfl (Or.inl ⟨by rfl, ?_⟩)) (by assumption) (by kernel_rfl) ?_
        rotate_left 1
        · intro w' hSw; have hcw := hSw.1.cells8; have hcd := hSw.2.cells4; go_split_ands; first | (go_simp; done) | (go_simp; rfl) | rfl
        simp only [Act.put, List.getElem_toArray, List.getElem_cons_zero, List.setIfInBounds_toArray, List.set_cons_zero, List.set_cons_succ]
        refine wpAnyT_take (i := 1) (v := ?_) rfl (by kernel_rfl) (by kernel_rfl) (by kernel_rfl) (by kernel_rfl) (fun _ _ _ h => h) (takes_yield rfl (Or.inl ⟨by rfl, ?_⟩)) (by assumption) (by kernel_rfl) ?_
        rotate_left 1
        · intro w' hSw; have hcw := hSw.1.cells8; have hcd := hSw.2.cells4; go_split_ands; first | (go_simp; done) | (go_simp; rfl) | rfl
        simp only [Act.put, List.getElem_toArray, List.getElem_cons_zero, List.getElem_cons_succ, List.setIfInBounds_toArray, List.set_cons_zero, List.set_cons_succ]
        refine wpAnyT_take (i := 2) (v := ?_) rfl (by kernel_rfl) (by kernel_rfl) (by kernel_rfl) (by kernel_rfl) (fun _ _ _ h => h) (takes_yield rfl (Or.inl ⟨by rfl, ?_⟩)) (by assumption) (by kernel_rfl) ?_
        rotate_left 1
        · intro w' hSw; have hcw := hSw.1.cells8; have hcd := hSw.2.cells4; go_split_ands; first | (go_simp; done) | (go_simp; rfl) | rfl
        simp only [Act.put, List.getElem_toArray, List.getElem_cons_zero, List.getElem_cons_succ, List.setIfInBounds_toArray, List.set_cons_zero, List.set_cons_succ]
        refine wpAnyT_one (i := 3) (by kernel_rfl) rfl (fun K hK => ?_)
        refine step_store_all (by rfl) 39 _ _ (by rfl) (w.heap.size + 1 + 1) (Lg.rowR ⟨f_, se, ep, l, us, la, sa, true⟩ vg) (by rfl) (by rfl) _ _ HPy.out.res1.drew rfl (Lg.rowR_one _ _ HOne.out) (by kernel_rfl) ?_
        intro x4 hB4 hU4 hs4
        have hS4 := And.intro (hS0.1.upd hU4 (by omega)) (hS0.2.upd hU4 (by omega))
        refine hK.out _ _ hS4 ?_
        clear hK
        refine wpAnyT_one (i := 4) (by kernel_rfl) rfl (fun K hK => ?_)
        refine step_store_all (by rfl) 33 _ _ (by rfl) (w.heap.size + 1 + 1 + 1) #[vl2, vw2, .int .i64 r2.fuse, .bool r2.off] (by rfl) (by rfl) _ _ (HPy.out.res2.drew.upd hU4 (by omega)) rfl (rdrow_one r2 HPy.out.left.at_) (by kernel_rfl) ?_
        intro x5 hB5 hU5 hs5
        have hS5 := And.intro (hS4.1.upd hU5 (by omega)) (hS4.2.upd hU5 (by omega))
        refine hK.out _ _ hS5 ?_
        have hl := (HPy.out.still (Upd.refl _ wy).drew).ends hB4 hU4 hB5 hU5
        have hv := ((HVy.out.upd (Upd.refl (fun _ => False) wy).drew (fun _ _ e => e)).upd hU4 (fun q hq e => HVy.out.ne_blk HPy.out.res1 (by decide) (e ▸ hq))).upd hU5 (fun q hq e => HVy.out.ne_blk HPy.out.res2 (by decide) (e ▸ hq))
        have HE := Lib.hid (And.intro (hB4.upd hU5 (by omega)) (And.intro hB5 (And.intro hl hv)))
        clear hK hS0 hS4 hl hv hB4 hU4 hs4 hB5 hU5 hs5
        refine wpAnyT_take (i := 5) (v := ?_) rfl (by kernel_rfl) (by kernel_rfl) (by kernel_rfl) (by kernel_rfl) (fun _ _ _ h => h) (takes_yield rfl (Or.inl ⟨by rfl, ?_⟩)) (by assumption) (by kernel_rfl) ?_
        rotate_left 1
        · intro w' hSw; go_split_ands; first | (go_simp; done) | (go_simp; rfl) | rfl
        simp only [Act.put, List.getElem_toArray, List.getElem_cons_zero, List.getElem_cons_succ, List.setIfInBounds_toArray, List.set_cons_zero, List.set_cons_succ]
        refine wpAnyT_done (by kernel_rfl) ?_ _
        refine NoPanic.normal ?_
        go_wp2_with fail
        refine bodyPost_ret (results_cells2_slot rfl _ _ (w.heap.size + 1 + 1) (w.heap.size + 1 + 1 + 1) _ _ _ _ _ _ _ _ rfl HE.out.1 rfl HE.out.2.1 Tryz.underlying39 rfl rfl Tryz.underlying33 rfl rfl (.int .i64 err) rfl) rfl ⟨_, _, vg, rfl, HE.out.2.2.1, ⟨HE.out.2.2.2, fun q hq => .inl hq⟩⟩
end
end Go.Proofs.YtpfbgmfkeofefaaGreat
