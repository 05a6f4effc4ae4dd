/-
  The document's records of chapter 09: a generation read, and a record's sectors.
-/
import Derived.Test.YtpfbgmfkeofefaaGreatRefH
import Derived.Test.YtpfbgmfkeofefaaGreatKeptA
import Derived.Test.YtpfbgmfkeofefaaGreatClose
import Derived.Test.YtpfbgmfkeofefaaGreatOpen9
import Derived.Test.YtpfbgmfkeofefaaGreatArgs
import Derived.BigQuiet
import Derived.Test.YtpfbgmfkeofefaaGreatRef07
import Derived.Test.YtpfbgmfkeofefaaGreatPart
import Derived.Test.YtpfbgmfkeofefaaGreatPlayD
namespace Go.Proofs.YtpfbgmfkeofefaaGreat
open Go Go.RowKit

set_option maxRecDepth 100000 in
set_option maxHeartbeats 400000 in
theorem refGen_c (s : ByteArray) (w : World) (hs : 8 ≤ s.size) (hs2 : s.size ≤ 1000000) :
    Calls Tryz.prog 59 #[.string s] w fun e w' => e = .returned (.int .u64 (leN (s.data.toList.take 8) : Int)) ∧ w = w' := by
  have hl : s.data.toList.length = s.size := by simp
  go_enter Tryz.func59, Tryz.ntmps59
  go_wp2_with fail
  go_loop [3, 4] (fun n i => ∃ m : Nat, m ≤ 8 ∧ i = .int .i64 ((m : Int) - 1) ∧ n = .int .u64 (leN ((s.data.toList.take 8).drop m) : Int)) (fun _ i => ((intOf i) + 1).toNat)
  case atStart =>
    refine ⟨8, by omega, by go_num, ?_⟩
    rw [List.drop_of_length_le (by simp; omega)]
    rfl
  case round =>
    obtain ⟨m, hm, rfl, rfl⟩ := hrel
    cases m with
    | zero =>
      go_wp2_with fail
      go_ret
      exact ⟨rfl, rfl⟩
    | succ k =>
      have hst := leN_drop (s.data.toList.take 8) k (by rw [List.length_take]; omega)
      have hlt := leN_lt ((s.data.toList.take 8).drop (k + 1))
      have h7 : ((s.data.toList.take 8).drop (k + 1)).length ≤ 7 := by simp; omega
      have hlt7 : leN ((s.data.toList.take 8).drop (k + 1)) < 72057594037927936 := Nat.lt_of_lt_of_le hlt (Nat.pow_le_pow_right (by omega) (show 8 * ((s.data.toList.take 8).drop (k + 1)).length ≤ 56 by omega))
      have hk : k < s.size := by omega
      have hb : ((s.data.toList.take 8)[k]'(by rw [List.length_take]; omega)).toNat = (s[k]).toNat := by rw [List.getElem_take]; rfl
      rw [hb] at hst
      have hy := (s[k]).toNat_lt
      obtain ⟨N, hN⟩ : ∃ N, leN ((s.data.toList.take 8).drop (k + 1)) = N := ⟨_, rfl⟩
      rw [hN] at hst hlt7 ⊢
      have HK := Lib.hid hst
      clear hst hN hlt h7 hb
      go_wp2_with fail
      go_round
      case rel =>
        refine ⟨k, by omega, by go_num, ?_⟩
        rw [HK.out]
        congr 1
        omega
      case measure => simp [intOf]
/-- A part's sector. -/
def Pt.secR (p : Pt) : ByteArray := str (closeL p.body)
set_option maxRecDepth 100000 in
set_option maxHeartbeats 3200000 in
theorem refSectors_c (s : ByteArray) (gen : Nat) (w : World) (hs : s.size ≤ 1000) :
    Calls Tryz.prog 61 #[.string s, .int .u64 (gen : Int)] w fun e w' => ∃ v, e = .returned v ∧ Grows w w' v (allOf s.size) ((cutL s.data.toList gen).map Pt.secR) := by
  obtain ⟨i0, hi0, hz0, hz1, hz2⟩ := info_parts infoStr
  obtain ⟨A, hA⟩ : ∃ A, allOf s.size = A := ⟨_, rfl⟩
  have hlen : s.data.toList.length = s.size := by simp
  have HC : Hid (∀ k, k < A → (((cutL s.data.toList gen).map Pt.secR).take k) ++ [Pt.secR ⟨gen, k, A, (s.data.toList.drop (48 * k)).take 48⟩] = ((cutL s.data.toList gen).map Pt.secR).take (k + 1)) := by
    intro k hk
    rw [cutL, hlen, hA, List.map_map, ← List.map_take, ← List.map_take, List.take_range, List.take_range, Nat.min_eq_left (by omega), Nat.min_eq_left (by omega), List.range_succ, List.map_append]
    rfl
  have HL : Hid (((cutL s.data.toList gen).map Pt.secR).length = A) := by
    show _ = _
    rw [List.length_map, cutL_len, hlen, hA]
  rw [hA]
  have hA1 : 1 ≤ A := by rw [← hA]; unfold allOf; omega
  have hA2 : 48 * (A - 1) ≤ s.size := by rw [← hA]; unfold allOf; omega
  have hA3 : s.size ≤ 48 * A := by rw [← hA]; unfold allOf; omega
  have hA4 : A ≤ 30 := by rw [← hA]; unfold allOf; omega
  have hA0 : s.size = 0 → A = 1 := by intro e; rw [← hA, e]; rfl
  have hA5 : ((A : Nat) : Int) = max (((s.size : Int) + 47) / 48) 1 := by rw [← hA]; unfold allOf; omega
  have HA0 := Lib.hid (And.intro hA0 hA5)
  clear hA hlen hA0 hA5
  go_enter Tryz.func61, Tryz.ntmps61
  go_upto_if 17 with fail
  go_cut [5] (fun n wx => n = .int .i64 (A : Int) ∧ w = wx)
  case first =>
    have hA5 := HA0.out.2
    by_cases hs0 : s.size = 0
    all_goals
      clear hA5
      go_wp2_with fail
      go_meet
      refine ⟨?_, rfl⟩
      rw [HA0.out.2]
      congr 1
      omega
  case rest =>
    obtain ⟨rfl, rfl⟩ := hcut
    go_wp2_with fail
    go_loopw [6, 7, 8, 9, 10, 11] (fun v i _ _ _ _ wr => ∃ k : Nat, k ≤ A ∧ i = .int .i64 (k : Int) ∧ Grows w wr v k (((cutL s.data.toList gen).map Pt.secR).take k)) (fun _ i _ _ _ _ _ => A - (intOf i).toNat)
    case atStart =>
      exact ⟨0, by omega, rfl, by simpa using Grows.nil w⟩
    case round =>
      rename World => wa
      obtain ⟨k, hk, rfl, hG⟩ := hrel
      have HG := Lib.hid hG
      clear hG
      by_cases hlt : k < A
      · have hk48 : 48 * k ≤ s.size := by omega
        have hT : ∃ X : ByteArray, ∃ e : Nat, (e = min (48 * k + 48) s.size) ∧ s.extract (48 * k) e = X ∧ X.data.toList = (s.data.toList.drop (48 * k)).take 48 ∧ X.size ≤ 48 := by
          refine ⟨_, _, rfl, rfl, ?_, ?_⟩
          · rw [extract_str_from, str_list]
            by_cases hin : 48 * k + 48 ≤ s.size
            · rw [Nat.min_eq_left hin, show 48 * k + 48 - 48 * k = 48 by omega]
            · rw [Nat.min_eq_right (by omega), List.take_of_length_le (by simp), List.take_of_length_le (by simp; omega)]
          · rw [extract_str_from, str_size, List.length_take]
            omega
        obtain ⟨X, e, he, hX, hXl, hXs⟩ := hT
        have HX := Lib.hid hXl
        clear hXl
        have hcase : (e = 48 * k + 48 ∧ 48 * k + 48 ≤ s.size) ∨ (e = s.size ∧ s.size < 48 * k + 48) := by omega
        clear he
        rcases hcase with ⟨rfl, hto⟩ | ⟨rfl, hto⟩
        all_goals
          go_wp2_with fail
          rw [hX]
          clear hX hto
          go_loopw [10, 11] (fun b i wx => ∃ j : Nat, j ≤ 8 ∧ i = .int .i64 (j : Int) ∧ b = .string (str (leB gen j)) ∧ Upd (fun _ => False) wa wx) (fun _ i _ => 8 - (intOf i).toNat)
          case atStart => exact ⟨0, by omega, rfl, rfl, Upd.refl _ _⟩
          case round =>
            obtain ⟨j, hj, rfl, rfl, hU⟩ := hrel
            have HU := Lib.hid hU
            clear hU
            by_cases hj8 : j < 8
            · obtain ⟨y, hy⟩ : ∃ y, UInt8.ofNat (gen / 2 ^ (8 * j)) = y := ⟨_, rfl⟩
              have HS : Hid (str (leB gen j) ++ str [y] = str (leB gen (j + 1))) := by
                show _ = _
                rw [str_add, leB_snoc, hy]
              have hbs : (str (leB gen j)).size = j := by rw [str_size, leB_len]
              obtain ⟨S, hS⟩ : ∃ S, str (leB gen j) = S := ⟨_, rfl⟩
              rw [hS] at HS hbs ⊢
              have hadd : (9223372036854775807 < S.size + (str [y]).size) = False := by
                rw [str_size]; simp; omega
              have hcv : ∀ W : World, _ := fun W => conv_one W ((gen : Int) / 2 ^ (8 * j) % 256) y (by rw [← hy, byteV]; push_cast; rfl)
              clear hbs hS hy
              go_wp2_with fail
              rw [HS.out]
              go_roundw
              case rel => exact ⟨j + 1, by omega, by go_num, rfl, HU.out.alloc _⟩
              case measure => simp [intOf]; omega
            · obtain rfl : j = 8 := by omega
              have hcv4 : ∀ W : World, _ := fun W => conv_four W (k : Int) (A : Int) (X.size : Int) 0 (UInt8.ofNat k) (UInt8.ofNat A) (UInt8.ofNat X.size) 0 (byte_nat (by omega)) (byte_nat (by omega)) (byte_nat (by omega)) rfl
              have HS : Hid (str (leB gen 8) ++ str [UInt8.ofNat k, UInt8.ofNat A, UInt8.ofNat X.size, 0] = str (leB gen 8 ++ [UInt8.ofNat k, UInt8.ofNat A, UInt8.ofNat X.size, 0])) := str_add _ _
              have HS2 : Hid (str (leB gen 8 ++ [UInt8.ofNat k, UInt8.ofNat A, UInt8.ofNat X.size, 0]) ++ X = str (leB gen 8 ++ [UInt8.ofNat k, UInt8.ofNat A, UInt8.ofNat X.size, 0] ++ X.data.toList)) := by
                have := str_add (leB gen 8 ++ [UInt8.ofNat k, UInt8.ofNat A, UInt8.ofNat X.size, 0]) X.data.toList
                rw [str_eta] at this
                exact this
              have hadd : (9223372036854775807 < (str (leB gen 8)).size + (str [UInt8.ofNat k, UInt8.ofNat A, UInt8.ofNat X.size, 0]).size) = False := by
                rw [str_size, str_size, leB_len]; simp
              have hadd2 : (9223372036854775807 < (str (leB gen 8 ++ [UInt8.ofNat k, UInt8.ofNat A, UInt8.ofNat X.size, 0])).size + X.size) = False := by
                rw [str_size, List.length_append, leB_len]; simp; omega
              have hbl : (leB gen 8 ++ [UInt8.ofNat k, UInt8.ofNat A, UInt8.ofNat X.size, 0] ++ X.data.toList).length = 12 + X.size := by simp [leB_len]; omega
              obtain ⟨S8, hS8⟩ : ∃ S, str (leB gen 8) = S := ⟨_, rfl⟩
              obtain ⟨S4, hS4⟩ : ∃ S, str [UInt8.ofNat k, UInt8.ofNat A, UInt8.ofNat X.size, 0] = S := ⟨_, rfl⟩
              obtain ⟨S12, hS12⟩ : ∃ S, str (leB gen 8 ++ [UInt8.ofNat k, UInt8.ofNat A, UInt8.ofNat X.size, 0]) = S := ⟨_, rfl⟩
              obtain ⟨H, hH⟩ : ∃ H, leB gen 8 ++ [UInt8.ofNat k, UInt8.ofNat A, UInt8.ofNat X.size, 0] ++ X.data.toList = H := ⟨_, rfl⟩
              rw [hS8, hS4] at hadd
              rw [hS12] at hadd2 HS2
              rw [hS8, hS4, hS12] at HS
              rw [hH] at HS2 hbl
              rw [hS4] at hcv4
              rw [hS8]
              have hcat := HS.out
              have hcat2 := HS2.out
              have HH := Lib.hid hH
              have HHl := Lib.hid hbl
              have hH60 : H.length ≤ 60 := by omega
              have hHs : (str H).size = H.length := str_size _
              clear hS8 hS4 hS12 hH HS HS2 hbl
              go_wp2_with fail
              clear hadd hadd2 hcat hcat2 hcv4
              go_loopw [10] (fun b wx => ∃ j : Nat, H.length + j ≤ 60 ∧ b = .string (str (H ++ List.replicate j 0)) ∧ Upd (fun _ => False) wa wx) (fun b _ => 60 - lenS b)
              case atStart => exact ⟨0, by omega, by simp, HU.out.alloc _⟩
              case round =>
                obtain ⟨j, hj2, rfl, hU2⟩ := hrel
                have HU2 := Lib.hid hU2
                clear hU2 hHs
                have hsz : (str (H ++ List.replicate j 0)).size = H.length + j := by rw [str_size, List.length_append, List.length_replicate]
                by_cases hj60 : H.length + j < 60
                · have HS : Hid (str (H ++ List.replicate j 0) ++ str [0] = str (H ++ List.replicate (j + 1) 0)) := by
                    show _ = _
                    rw [str_add, List.append_assoc, List.replicate_succ']
                  obtain ⟨S, hS⟩ : ∃ S, str (H ++ List.replicate j 0) = S := ⟨_, rfl⟩
                  rw [hS] at HS hsz ⊢
                  have hadd : (9223372036854775807 < S.size + (str [0]).size) = False := by
                    rw [str_size]; simp; omega
                  have hcv : ∀ W : World, _ := fun W => conv_one W 0 0 rfl
                  have hslt : S.size < 60 := by omega
                  have HSz := Lib.hid hsz
                  clear hS hsz
                  go_wp2_with fail
                  rw [HS.out]
                  go_roundw
                  case rel => exact ⟨j + 1, by omega, rfl, HU2.out.alloc _⟩
                  case measure => have := HSz.out; simp [lenS, str_size]; omega
                · have hjx : j = 48 - X.size := by have := HHl.out; omega
                  have hbody : Hid (H ++ List.replicate j 0 = (⟨gen, k, A, X.data.toList⟩ : Pt).body) := by
                    show _ = _
                    rw [← HH.out, hjx, Pt.body]
                    simp
                  have HCl := Lib.hid (fun W => refClose_c (str (H ++ List.replicate j 0)) W (by omega))
                  rw [str_list] at HCl
                  rw [hbody.out] at HCl hsz ⊢
                  obtain ⟨S, hS⟩ : ∃ S, str (⟨gen, k, A, X.data.toList⟩ : Pt).body = S := ⟨_, rfl⟩
                  rw [hS] at hsz HCl ⊢
                  have hsge : ¬ S.size < 60 := by omega
                  have hsec : Pt.secR ⟨gen, k, A, (s.data.toList.drop (48 * k)).take 48⟩ = str (closeL (⟨gen, k, A, X.data.toList⟩ : Pt).body) := by rw [← HX.out]; rfl
                  have HCk := Lib.hid (HC.out k hlt)
                  rw [hsec] at HCk
                  obtain ⟨C, hC⟩ : ∃ C, str (closeL (⟨gen, k, A, X.data.toList⟩ : Pt).body) = C := ⟨_, rfl⟩
                  rw [hC] at HCl HCk
                  clear hS hsz hC hsec hjx
                  go_wp2_with fail
                  refine (HCl.out _).mono ?_
                  rintro e w3 ⟨rfl, hU3⟩
                  have HG3 := Lib.hid ((HG.out.still HU2.out).still hU3)
                  clear hU3
                  have hO3 := HG3.out.own.alloc (.cells #[.string C] 9)
                  go_wp2_with (at_builtin; refine wpList_append_src rfl _ _ _ _ rfl 9 i0 _ 1 16 Tryz.underlying30 hi0 hz0 hz1 hz2 rfl u6 k _ rfl hO3 _ 1 [_] rfl (Src.of_new Tryz.underlying30 _) (by simp [Value.oneCell']) (by unfold maxLen; omega) (by omega) ?_; intro v2 w2 hO2 hU2 hl2 hs2)
                  have hG2 := (HG3.out.still ((Upd.refl _ _).alloc (.cells #[.string C] 9))).app hO2 hU2 hl2
                  rw [HCk.out] at hG2
                  go_roundw
                  case rel => exact ⟨k + 1, by omega, by go_num, hG2⟩
                  case measure => simp only [intOf]; omega
      · obtain rfl : k = A := by omega
        go_wp2_with fail
        go_ret
        refine ⟨_, rfl, ?_⟩
        have := HG.out
        rw [List.take_of_length_le (by rw [HL.out]; omega)] at this
        exact this
end Go.Proofs.YtpfbgmfkeofefaaGreat

/-
  The document's records of chapter 09: what ten sectors hold.
-/
namespace Go.Proofs.YtpfbgmfkeofefaaGreat
open Go Go.RowKit

theorem textR_succ (L : List (List UInt8)) (n : Nat) : holdsR.textR L (n + 1) = holdsR.textR L n ++ ((lookL (L.getD n [])).1.drop 12).take ((lookL (L.getD n [])).1.getD 10 0).toNat := by
  unfold holdsR.textR
  rw [List.range_succ, List.flatMap_append]
  simp
theorem look_60 {s : List UInt8} (h : (lookL s).2 = 1) : (lookL s).1.length = 60 := (look_one h).2.2
theorem textR_len (L : List (List UInt8)) (n : Nat) (h : ∀ j, j < n → ((lookL (L.getD j [])).1.getD 10 0).toNat ≤ 48) : (holdsR.textR L n).length ≤ 48 * n := by
  induction n with
  | zero => simp [holdsR.textR]
  | succ n ih =>
    rw [textR_succ, List.length_append, List.length_take]
    have := ih (fun j hj => h j (by omega))
    have := h n (by omega)
    omega
/-- The sectors ahead of one are sound parts. -/
def GoodTo (M : List (List UInt8)) (k : Nat) : Prop := ∀ j, j < k → (lookL (M.getD j [])).2 = 1 ∧ ((lookL (M.getD j [])).1.getD 10 0).toNat ≤ 48
/-- The sectors ahead of one are the record's own. -/
def SameTo (M : List (List UInt8)) (t : List UInt8) (g k : Nat) : Prop := ∀ i, i < k → ((cutL t g).map fun p => closeL p.body).getD i [] = M.getD i []
set_option maxRecDepth 100000 in
set_option maxHeartbeats 3200000 in
theorem refHolds_c {w : World} {v : Value} {L : List ByteArray} (hR : Row w v (L.map Value.string)) (hL : L.length = 10) (hs : ∀ s ∈ L, s.size ≤ 64) :
    Calls Tryz.prog 60 #[v] w fun e w' => e = .returned (.tuple #[.string (str (holdsR (L.map fun s => s.data.toList)).1), .int .u64 ((holdsR (L.map fun s => s.data.toList)).2 : Int)]) ∧ Upd (fun _ => False) w w' := by
  obtain ⟨A, cap, b, off, rfl, -, hA, hcell⟩ := hR.open_
  simp only [List.length_map, hL] at hA hcell ⊢
  obtain rfl := hA (by omega)
  obtain ⟨M, hM⟩ : ∃ M, (L.map fun s => s.data.toList) = M := ⟨_, rfl⟩
  have hMi : ∀ i (h : i < 10), M.getD i [] = (L[i]'(by omega)).data.toList := by
    intro i h
    rw [← hM, List.getD_eq_getElem?_getD, List.getElem?_map, List.getElem?_eq_getElem (by omega)]
    rfl
  have HCell : Hid (∀ w', Upd (fun _ => False) w w' → ∀ i (h : i < 10), w'.cell? ⟨b, off + i, none⟩ = some (.string (L[i]'(by omega)))) := by
    show ∀ w', _
    intro w' hu i h
    have := hcell w' hu i h
    rw [List.getElem_map] at this
    exact this
  have hLook0 : ∀ W i (h : i < 10), Calls Tryz.prog 58 #[.string (L[i]'(by omega))] W fun e w' => e = .returned (.tuple #[.string (str (lookL (M.getD i [])).1), .int .i64 (lookL (M.getD i [])).2]) ∧ Upd (fun _ => False) W w' := by
    intro W i h
    rw [hMi i h]
    have := hs (L[i]'(by omega)) (List.getElem_mem _)
    exact refLook_c _ W (by omega)
  have HLook := Lib.hid hLook0
  have HMi := Lib.hid hMi
  rw [hM]
  clear hcell hLook0 hM hs hMi hR
  obtain ⟨R, hR⟩ : ∃ R, holdsR M = R := ⟨_, rfl⟩
  rw [hR]
  have HR := Lib.hid hR
  clear hR
  obtain ⟨s0, hs0⟩ : ∃ s0, L[0]'(show 0 < L.length by omega) = s0 := ⟨_, rfl⟩
  have HC0 : Hid (∀ w', Upd (fun _ => False) w w' → w'.cell? ⟨b, off, none⟩ = some (.string s0)) := by
    show ∀ w', _
    intro w' hu
    have := HCell.out w' hu 0 (by omega)
    rw [hs0] at this
    simpa using this
  have hc0 := HC0.out w (Upd.refl _ _)
  have hl0 : ∀ W, _ := fun W => HLook.out W 0 (by omega)
  rw [hs0] at hl0
  obtain ⟨⟨B0, z0⟩, hF⟩ : ∃ F, lookL (M.getD 0 []) = F := ⟨_, rfl⟩
  rw [hF] at hl0
  simp only at hl0
  have HL0 := Lib.hid hl0
  clear hl0 hs0
  by_cases hz : z0 = 1
  case neg =>
    have hz1 : (z0 != 1) = true := bne_iff_ne.2 hz
    obtain rfl : R = ([], 0) := by
      rw [← HR.out]
      unfold holdsR
      rw [if_pos (.inl (by rw [hF]; exact hz))]
    clear hz hF
    go_enter Tryz.func60, Tryz.ntmps60
    go_wp2_with fail
    refine (HL0.out _).mono ?_
    rintro e w1 ⟨rfl, hU⟩
    have H1 := Lib.hid hU
    clear hU hc0
    go_wp2_with fail
    go_ret2
    exact ⟨rfl, H1.out⟩
  case pos =>
    subst hz
    have hB60 : B0.length = 60 := by have := look_60 (s := M.getD 0 []) (by rw [hF]); rw [hF] at this; exact this
    obtain ⟨S0, hS0⟩ : ∃ S0, str B0 = S0 := ⟨_, rfl⟩
    have hsz0 : S0.size = 60 := by rw [← hS0, str_size, hB60]
    have hb0 : S0.data.toList = B0 := by rw [← hS0, str_list]
    have hgen : ∀ W, _ := fun W => refGen_c S0 W (by omega) (by omega)
    rw [hb0] at hgen
    rw [hS0] at HL0
    obtain ⟨g, hg⟩ : ∃ g, leN (B0.take 8) = g := ⟨_, rfl⟩
    rw [hg] at hgen
    have HG := Lib.hid hgen
    have h960 : 9 < S0.size := by omega
    obtain ⟨n, hn⟩ : ∃ n, (S0[9]'h960).toNat = n := ⟨_, rfl⟩
    have hn9 : (B0.getD 9 0).toNat = n := by
      rw [← hb0, ← hn, List.getD_eq_getElem?_getD, List.getElem?_eq_getElem (by simpa using h960)]
      rfl
    have hn256 : n < 256 := by rw [← hn]; exact (S0[9]'h960).toNat_lt
    have HF := Lib.hid (And.intro hF (And.intro hg hn9))
    clear hF hS0 hb0 hgen hn9 hB60
    by_cases hg0 : g = 0
    case pos =>
      subst hg0
      obtain rfl : R = ([], 0) := by
        rw [← HR.out]
        unfold holdsR
        rw [if_pos (.inr (by rw [HF.out.1]; exact HF.out.2.1))]
      clear hn hsz0 hg
      go_enter Tryz.func60, Tryz.ntmps60
      go_wp2_with fail
      refine (HL0.out _).mono ?_
      rintro e w1 ⟨rfl, hU⟩
      have H1 := Lib.hid hU
      clear hU hc0
      go_wp2_with fail
      refine (HG.out _).mono ?_
      rintro e w2 ⟨rfl, rfl⟩
      go_wp2_with fail
      go_ret2
      exact ⟨rfl, H1.out⟩
    case neg =>
      clear hg
      have hgt : ((g : Int) == 0) = false := by rw [beq_eq_false_iff_ne]; omega
      have hglt : g < 18446744073709551616 := by
        rw [← HF.out.2.1]
        refine Nat.lt_of_lt_of_le (leN_lt _) (Nat.pow_le_pow_right (by omega) (show 8 * _ ≤ 64 from ?_))
        rw [List.length_take]; omega
      by_cases hnn : n < 1 ∨ 9 < n
      case pos =>
        obtain rfl : R = ([], 0) := by
          rw [← HR.out]
          unfold holdsR
          rw [HF.out.1]
          simp only
          rw [HF.out.2.1, HF.out.2.2, if_neg (by simp; omega), if_pos hnn]
        rcases hnn with h | h
        all_goals
          go_enter Tryz.func60, Tryz.ntmps60
          go_wp2_with fail
          refine (HL0.out _).mono ?_
          rintro e w1 ⟨rfl, hU⟩
          have H1 := Lib.hid hU
          clear hU hc0
          go_wp2_with fail
          refine (HG.out _).mono ?_
          rintro e w2 ⟨rfl, rfl⟩
          go_wp2_with fail
          go_ret2
          exact ⟨rfl, H1.out⟩
      case neg =>
        have hn1 : 1 ≤ n := by omega
        have hn2 : n ≤ 9 := by omega
        have HN : Hid (¬ (n < 1 ∨ 9 < n)) := hnn
        clear hnn
        go_enter Tryz.func60, Tryz.ntmps60
        go_wp2_with fail
        refine (HL0.out _).mono ?_
        rintro e w1 ⟨rfl, hU⟩
        have H1 := Lib.hid hU
        clear hU hc0
        go_wp2_with fail
        refine (HG.out _).mono ?_
        rintro e w2 ⟨rfl, rfl⟩
        go_wp2_with fail
        clear hsz0 hn
        go_loopw [7, 8, 9, 10] (fun t i _ _ wr => ∃ k : Nat, k ≤ n ∧ i = .int .i64 (k : Int) ∧ t = .string (str (holdsR.textR M k)) ∧ GoodTo M k ∧ Upd (fun _ => False) w wr) (fun _ i _ _ _ => n - (intOf i).toNat)
        case atStart => exact ⟨0, by omega, rfl, rfl, fun j hj => absurd hj (by omega), H1.out⟩
        case round =>
          rename World => wa
          obtain ⟨k, hk, rfl, rfl, hgood, hU⟩ := hrel
          have HU := Lib.hid (And.intro hgood hU)
          clear hgood hU
          by_cases hlt : k < n
          · have hk10 : k < 10 := by omega
            have hck := HCell.out wa HU.out.2 k hk10
            have hlk : ∀ W, _ := fun W => HLook.out W k hk10
            obtain ⟨sk, hsk⟩ : ∃ sk, L[k]'(by omega) = sk := ⟨_, rfl⟩
            rw [hsk] at hck hlk
            obtain ⟨⟨Bk, zk⟩, hFk⟩ : ∃ F, lookL (M.getD k []) = F := ⟨_, rfl⟩
            rw [hFk] at hlk
            simp only at hlk
            have HLk := Lib.hid hlk
            clear hlk hsk
            by_cases hzk : zk = 1
            case neg =>
              have hz1 : (zk != 1) = true := bne_iff_ne.2 hzk
              obtain rfl : R = ([], 0) := by
                rw [← HR.out]
                unfold holdsR
                rw [HF.out.1]
                simp only
                rw [HF.out.2.1, HF.out.2.2, if_neg (by simp; omega), if_neg HN.out, if_pos ⟨k, hlt, .inl (by rw [hFk]; exact hzk)⟩]
              clear hzk hFk
              go_wp2_with fail
              refine (HLk.out _).mono ?_
              rintro e w3 ⟨rfl, hU⟩
              have H3 := Lib.hid (HU.out.2.then hU (fun _ e => e.elim))
              clear hU hck
              go_wp2_with fail
              go_ret2
              exact ⟨rfl, H3.out⟩
            case pos =>
              subst hzk
              have hB60 : Bk.length = 60 := by have := look_60 (s := M.getD k []) (by rw [hFk]); rw [hFk] at this; exact this
              obtain ⟨Sk, hSk⟩ : ∃ S, str Bk = S := ⟨_, rfl⟩
              have hszk : Sk.size = 60 := by rw [← hSk, str_size, hB60]
              have hbk : Sk.data.toList = Bk := by rw [← hSk, str_list]
              rw [hSk] at HLk
              have h10 : 10 < Sk.size := by omega
              obtain ⟨m, hm⟩ : ∃ m, (Sk[10]'h10).toNat = m := ⟨_, rfl⟩
              have hm10 : (Bk.getD 10 0).toNat = m := by
                rw [← hbk, ← hm, List.getD_eq_getElem?_getD, List.getElem?_eq_getElem (by simpa using h10)]
                rfl
              have hm256 : m < 256 := by rw [← hm]; exact (Sk[10]'h10).toNat_lt
              have HFk := Lib.hid (And.intro hFk hm10)
              clear hFk hSk hm10 hB60
              by_cases hm48 : 48 < m
              case pos =>
                obtain rfl : R = ([], 0) := by
                  rw [← HR.out]
                  unfold holdsR
                  rw [HF.out.1]
                  simp only
                  rw [HF.out.2.1, HF.out.2.2, if_neg (by simp; omega), if_neg HN.out, if_pos ⟨k, hlt, .inr (by rw [HFk.out.1]; simp only; rw [HFk.out.2]; exact hm48)⟩]
                clear hbk
                go_wp2_with fail
                refine (HLk.out _).mono ?_
                rintro e w3 ⟨rfl, hU⟩
                have H3 := Lib.hid (HU.out.2.then hU (fun _ e => e.elim))
                clear hU hck
                go_wp2_with fail
                go_ret2
                exact ⟨rfl, H3.out⟩
              case neg =>
                have hex : Sk.extract 12 (12 + m) = str ((Bk.drop 12).take m) := by
                  rw [extract_str_from, hbk, show 12 + m - 12 = m by omega]
                have hXs : ((Bk.drop 12).take m).length ≤ 48 := by rw [List.length_take]; omega
                have hcat : Hid (str (holdsR.textR M k) ++ str ((Bk.drop 12).take m) = str (holdsR.textR M (k + 1))) := by
                  show _ = _
                  rw [str_add, textR_succ, HFk.out.1]
                  simp only
                  rw [HFk.out.2]
                have htl := textR_len M k (fun j hj => (HU.out.1 j hj).2)
                obtain ⟨T, hT⟩ : ∃ T, str (holdsR.textR M k) = T := ⟨_, rfl⟩
                obtain ⟨X, hX⟩ : ∃ X, str ((Bk.drop 12).take m) = X := ⟨_, rfl⟩
                have hadd : (9223372036854775807 < T.size + X.size) = False := by
                  rw [← hT, ← hX, str_size, str_size]
                  simp
                  simp at hXs
                  omega
                rw [hT, hX] at hcat
                rw [hX] at hex
                rw [hT]
                have h12 : 12 + m ≤ Sk.size := by omega
                clear hbk htl hXs hT hX hszk
                go_wp2_with fail
                refine (HLk.out _).mono ?_
                rintro e w3 ⟨rfl, hU⟩
                have H3 := Lib.hid (HU.out.2.then hU (fun _ e => e.elim))
                clear hU hck
                go_wp2_with fail
                rw [hcat.out]
                go_roundw
                case rel =>
                  refine ⟨k + 1, by omega, by go_num, rfl, fun j hj => ?_, H3.out⟩
                  by_cases e : j = k
                  · subst e
                    rw [HFk.out.1]
                    simp only
                    rw [HFk.out.2]
                    exact ⟨trivial, by omega⟩
                  · exact HU.out.1 j (by omega)
                case measure => simp [intOf]; omega
          · obtain rfl : k = n := by omega
            have htl := textR_len M k (fun j hj => (HU.out.1 j hj).2)
            have hno : Hid (¬ ∃ i, i < k ∧ ((lookL (M.getD i [])).2 ≠ 1 ∨ 48 < ((lookL (M.getD i [])).1.getD 10 0).toNat)) := by
              show ¬ _
              rintro ⟨i, hi, hc⟩
              have := HU.out.1 i hi
              omega
            obtain ⟨t, ht⟩ : ∃ t, holdsR.textR M k = t := ⟨_, rfl⟩
            rw [ht] at htl ⊢
            have hRt : R = if 400 < t.length then ([], 0) else if allOf t.length ≠ k then ([], 0) else
                if ∀ i, i < k → ((cutL t g).map fun p => closeL p.body).getD i [] = M.getD i [] then (t, g) else ([], 0) := by
              rw [← HR.out, ← ht]
              unfold holdsR
              rw [HF.out.1]
              simp only
              rw [HF.out.2.1, HF.out.2.2, if_neg (by simp; omega), if_neg HN.out, if_neg hno.out]
            have HRt := Lib.hid hRt
            clear hRt ht
            obtain ⟨S, hS⟩ : ∃ S, str t = S := ⟨_, rfl⟩
            have hsz : S.size = t.length := by rw [← hS, str_size]
            have hst : S.data.toList = t := by rw [← hS, str_list]
            rw [hS]
            by_cases h400 : 400 < t.length
            case pos =>
              obtain rfl : R = ([], 0) := by rw [HRt.out, if_pos h400]
              have h400' : 400 < S.size := by omega
              clear hsz hst hS h400 htl
              go_wp2_with fail
              go_ret2
              exact ⟨rfl, HU.out.2⟩
            case neg =>
              have h400' : ¬ 400 < S.size := by omega
              have hsec := fun W => refSectors_c S g W (by omega)
              rw [hst, hsz] at hsec
              have HS := Lib.hid hsec
              have HT := Lib.hid (And.intro h400 (And.intro hsz (And.intro hst hS)))
              clear hsec hsz hst hS h400 htl
              obtain ⟨A, hA⟩ : ∃ A, allOf t.length = A := ⟨_, rfl⟩
              rw [hA] at HS HRt
              have hA30 : A ≤ 30 := by rw [← hA]; unfold allOf; have := HT.out.1; omega
              have HA := Lib.hid hA
              clear hA
              by_cases hAk : A = k
              case neg =>
                obtain rfl : R = ([], 0) := by rw [HRt.out, if_neg HT.out.1, if_pos hAk]
                have hne : ((A : Int) != (k : Int)) = true := by rw [bne_iff_ne]; omega
                go_wp2_with fail
                refine (HG.out _).mono ?_
                rintro e w2 ⟨rfl, rfl⟩
                go_wp2_with fail
                refine (HS.out _).mono ?_
                rintro e w3 ⟨v3, rfl, hG⟩
                obtain ⟨A3, cap3, rfl, -, -⟩ := hG.own.shape
                have H3 := Lib.hid (HU.out.2.then hG.upd (fun _ e => e.elim))
                clear hG
                go_wp2_with fail
                go_ret2
                exact ⟨rfl, H3.out⟩
              case pos =>
                subst hAk
                have h1A : 1 ≤ A := hn1
                go_wp2_with fail
                refine (HG.out _).mono ?_
                rintro e w2 ⟨rfl, rfl⟩
                go_wp2_with fail
                refine (HS.out _).mono ?_
                rintro e w3 ⟨v3, rfl, hGr⟩
                obtain ⟨g3, cap3, rfl, -, -⟩ := hGr.own.head (by omega)
                have HGr := Lib.hid hGr
                clear hGr
                go_wp2_with fail
                go_loopw [12] (fun i wr => ∃ j : Nat, j ≤ A ∧ i = .int .i64 (j : Int) ∧ SameTo M t g j ∧ Upd (fun _ => False) w3 wr) (fun i _ => A - (intOf i).toNat)
                case atStart => exact ⟨0, by omega, rfl, fun j hj => absurd hj (by omega), Upd.refl _ _⟩
                case round =>
                  rename World => wb
                  obtain ⟨j, hj, rfl, hsame, hU⟩ := hrel
                  have HJ := Lib.hid (And.intro hsame hU)
                  clear hsame hU
                  by_cases hjA : j < A
                  · have hj10 : j < 10 := by omega
                    have hcl := HCell.out wb ((HU.out.2.then HGr.out.upd (fun _ e => e.elim)).then HJ.out.2 (fun _ e => e.elim)) j hj10
                    have hlen : ((cutL t g).map Pt.secR).length = A := by rw [List.length_map, cutL_len, HA.out]
                    have hco : wb.cell? ⟨g3, j, none⟩ = some (.string (((cutL t g).map Pt.secR)[j]'(by omega))) := by
                      rw [(HGr.out.own.upd HJ.out.2 (fun _ _ e => e)).cellAt j (by omega), strs_get, List.getElem?_eq_getElem (by omega)]
                      rfl
                    have hMj : M.getD j [] = (L[j]'(by omega)).data.toList := HMi.out j hj10
                    have hOj : ((cutL t g).map fun p => closeL p.body).getD j [] = (((cutL t g).map Pt.secR)[j]'(by omega)).data.toList := by
                      rw [List.getD_eq_getElem?_getD, List.getElem?_map, List.getElem_map, List.getElem?_eq_getElem (by simpa using (by omega : j < ((cutL t g).map Pt.secR).length))]
                      rfl
                    obtain ⟨so, hso⟩ : ∃ so, ((cutL t g).map Pt.secR)[j]'(by omega) = so := ⟨_, rfl⟩
                    obtain ⟨sl, hsl⟩ : ∃ sl, L[j]'(by omega) = sl := ⟨_, rfl⟩
                    rw [hso] at hco hOj
                    rw [hsl] at hcl hMj
                    have HM := Lib.hid (And.intro hMj hOj)
                    clear hMj hOj hso hsl hlen
                    by_cases heq : so.data.toList = sl.data.toList
                    · have hne : (so.toList == sl.toList) = true := by
                        rw [ByteArray.toList_eq, ByteArray.toList_eq, heq]
                        simp
                      have HE := Lib.hid heq
                      clear heq
                      go_wp2_with fail
                      go_quiet (fail)
                      go_wp2_with fail
                      go_roundw
                      case rel =>
                        refine ⟨j + 1, by omega, by go_num, fun i hi => ?_, HJ.out.2.drewN _⟩
                        by_cases e : i = j
                        · subst e
                          rw [HM.out.1, HM.out.2, HE.out]
                        · exact HJ.out.1 i (by omega)
                      case measure => simp [intOf]; omega
                    · have hne : (so.toList == sl.toList) = false := by
                        rw [ByteArray.toList_eq, ByteArray.toList_eq, beq_eq_false_iff_ne]
                        exact heq
                      obtain rfl : R = ([], 0) := by
                        rw [HRt.out, if_neg HT.out.1, if_neg (by simp), if_neg]
                        intro hall
                        have := hall j hjA
                        rw [HM.out.1, HM.out.2] at this
                        exact heq this
                      clear heq
                      go_wp2_with fail
                      go_quiet (fail)
                      go_wp2_with fail
                      go_ret2
                      exact ⟨rfl, (HU.out.2.then HGr.out.upd (fun _ e => e.elim)).then (HJ.out.2.drewN _) (fun _ e => e.elim)⟩
                  · obtain rfl : j = A := by omega
                    obtain rfl : R = (t, g) := by
                      rw [HRt.out, if_neg HT.out.1, if_neg (by simp), if_pos (show ∀ i, _ from HJ.out.1)]
                    go_wp2_with fail
                    refine (HG.out _).mono ?_
                    rintro e w4 ⟨rfl, rfl⟩
                    go_wp2_with fail
                    go_ret2
                    exact ⟨by rw [← HT.out.2.2.2]; rfl, (HU.out.2.then HGr.out.upd (fun _ e => e.elim)).then HJ.out.2 (fun _ e => e.elim)⟩
end Go.Proofs.YtpfbgmfkeofefaaGreat

/-
  The document's records of chapter 09: Open.
-/
namespace Go.Proofs.YtpfbgmfkeofefaaGreat
open Go Go.RowKit

abbrev zeroKp : Array Value := #[.int .i64 0, .string ⟨#[]⟩, .int .u64 0, .int .i64 0, .int .u64 0, .bool false]
abbrev Kp.row (k : Kp) : Array Value := #[.int .i64 (k.from_ : Int), .string (str k.text), .int .u64 (k.gen : Int), .int .i64 (k.at_ : Int), .int .u64 (k.seen : Int), .bool k.broken]
theorem zeroKp_one : zeroKp.all (·.oneCell') = true := by simp [Value.oneCell']
theorem Kp.row_one (k : Kp) : k.row.all (·.oneCell') = true := by simp [Value.oneCell']
set_option maxRecDepth 100000 in
set_option maxHeartbeats 1600000 in
theorem refOpen_bad {w : World} {vl vw : Value} {r : Rd} (h : RdAt w vl vw r) (hf : r.fits) (f : Int) (hb : f < 0 ∨ (r.lasts.length : Int) - 20 < f) :
    Calls Tryz.prog 21 #[.agg #[vl, vw, .int .i64 r.fuse, .bool r.off], .int .i64 f] w fun e w' => e = .returned (.tuple #[.agg zeroKp, .int .i64 1]) ∧ Upd (fun _ => False) w w' := by
  have hl1 := hf.lasts
  obtain ⟨A, cap, rfl, -, -⟩ := h.lasts.shape
  obtain ⟨A2, cap2, rfl, -, -⟩ := h.ws.shape
  obtain ⟨w3, hw3⟩ : ∃ w3, (w.alloc (.cells #[.slice A r.lasts.length cap, .slice A2 r.ws.length cap2, .int .i64 r.fuse, .bool r.off] 33)).alloc (.cells zeroKp 61) = w3 := ⟨_, rfl⟩
  obtain ⟨hU3, hB2, hB4, hsz⟩ := two_new w3 hw3
  have hc2 := hB2.cells4
  have HB := Lib.hid (And.intro hB2 hB4)
  have HU := Lib.hid hU3
  have Hw := Lib.hid hw3
  clear hB2 hB4 hU3 hw3 hsz h hf
  have hb' : f < 0 ∨ (0 ≤ f ∧ (r.lasts.length : Int) - 20 < f) := by omega
  clear hb
  rcases hb' with h0 | ⟨h0, h1⟩
  all_goals
    go_enter Tryz.func21, Tryz.ntmps21
    go_upto_region 1 with fail
    rw [Hw.out]
    clear Hw
    go_wp2_with (first
      | (refine wpList_store_all rfl 61 _ _ rfl (w.heap.size + 1) zeroKp rfl rfl _ _ HB.out.2 rfl zeroKp_one (by kernel_rfl) ?_
         intro w4 hB4 hU4 hs4))
    refine bodyPost_ret (results_cell_slot rfl _ _ (w.heap.size + 1) _ _ _ _ rfl hB4 Tryz.underlying61 rfl rfl (.int .i64 1) rfl) rfl ⟨rfl, ?_⟩
    exact HU.out.then hU4 (fun q e => .inr (by omega))
theorem gen_same (s : ByteArray) (w : World) (hs : 8 ≤ s.size) (hs2 : s.size ≤ 1000000) :
    Calls Tryz.prog 59 #[.string s] w fun e w' => e = .returned (.int .u64 (leN (s.data.toList.take 8) : Int)) ∧ w' = w :=
  (refGen_c s w hs hs2).mono fun _ _ ⟨h1, h2⟩ => ⟨h1, h2.symm⟩
/-- What Open has behind some sectors. -/
structure Opens9 (w wr : World) (g : Nat) (v vl vw : Value) (d : Dk) (r : Rd) (f j : Nat) : Prop where
  list : Grows w wr v j (secsB d f j)
  kept : Blk wr g 61 (Kp.row ⟨f, [], 0, 1, (secsL d f j).foldl seeS 0, false⟩)
  box : Blk wr w.heap.size 33 #[vl, vw, .int .i64 r.fuse, .bool r.off]
  res : Blk wr (w.heap.size + 1) 61 zeroKp
  good : badL (secsL d f j) = false
theorem Opens9.still {w wr wx : World} {g : Nat} {v vl vw : Value} {d : Dk} {r : Rd} {f j : Nat} (h : Opens9 w wr g v vl vw d r f j) (hu : Upd (fun _ => False) wr wx) : Opens9 w wx g v vl vw d r f j :=
  ⟨h.list.still hu, h.kept.upd hu (fun e => e), h.box.upd hu (fun e => e), h.res.upd hu (fun e => e), h.good⟩
theorem Opens9.next {w wr wx : World} {g : Nat} {v v2 vl vw : Value} {d : Dk} {r : Rd} {f j m : Nat} {S : ByteArray} (h : Opens9 w wr g v vl vw d r f j) (hS : d.now (f + j) = S) (hl : (lookL S.data.toList).2 ≠ 2) (hm : seeS ((secsL d f j).foldl seeS 0) S.data.toList = m)
    (hG : Grows w wx v2 (j + 1) (secsB d f j ++ [S])) (hk : Blk wx g 61 (Kp.row ⟨f, [], 0, 1, m, false⟩)) (hb : Blk wx w.heap.size 33 #[vl, vw, .int .i64 r.fuse, .bool r.off]) (hr : Blk wx (w.heap.size + 1) 61 zeroKp) : Opens9 w wx g v2 vl vw d r f (j + 1) := by
  refine ⟨?_, ?_, hb, hr, ?_⟩
  · rw [secsB_succ, hS]
    exact hG
  · rw [secsL_succ, List.foldl_append, hS]
    show Blk wx g _ (Kp.row ⟨f, [], 0, 1, seeS ((secsL d f j).foldl seeS 0) S.data.toList, false⟩)
    rw [hm]
    exact hk
  · rw [secsL_succ, badL_app, h.good, hS]
    simp [badL, hl]
theorem seeS_one {m : Nat} {s B : List UInt8} (h : lookL s = (B, 1)) : seeS m s = max m (leN (B.take 8)) := by
  unfold seeS
  rw [h]
  exact if_pos rfl
theorem seeS_no {m : Nat} {s B : List UInt8} (h : lookL s = (B, 0)) : seeS m s = m := by
  unfold seeS
  rw [h]
  exact if_neg (by simp)
theorem bad_at {d : Dk} {f j : Nat} {S : ByteArray} (hj : j < 20) (hS : d.now (f + j) = S) (hl : (lookL S.data.toList).2 = 2) : openR d f = none := by
  unfold openR
  rw [if_pos]
  unfold badL
  rw [List.any_eq_true]
  refine ⟨S.data.toList, ?_, by simpa using hl⟩
  unfold secsL
  rw [List.mem_map]
  exact ⟨j, List.mem_range.2 hj, by rw [hS]⟩
/-- What Open answers. -/
def openKp (o : Option Kp) : Array Value := match o with | some k => k.row | none => zeroKp
set_option maxRecDepth 100000 in
set_option maxHeartbeats 3200000 in
theorem refOpen_on {w : World} {vl vw : Value} {d : Dk} {r : Rd} (h : RdAt w vl vw r) (hf : r.fits) (hI : RdIs d r) (hwf : d.wf) (hoff : d.off = false) (f : Nat) (hr : f + 20 ≤ d.lasts.length) :
    Calls Tryz.prog 21 #[.agg #[vl, vw, .int .i64 r.fuse, .bool r.off], .int .i64 (f : Int)] w fun e w' => e = .returned (.tuple #[.agg (openKp (openR d f)), .int .i64 (openErr (openR d f))]) ∧ Upd (fun _ => False) w w' := by
  have hl1 := hf.lasts
  have hrl : r.lasts.length = d.lasts.length := by rw [hI.lasts]
  obtain ⟨i0, hi0, hz0, hz1, hz2⟩ := info_parts infoStr
  have hrd0 : ∀ W, Upd (fun _ => False) w W → ∀ j : Nat, j < 20 → Calls Tryz.prog 57 #[.agg #[vl, vw, .int .i64 r.fuse, .bool r.off], .int .i64 ((f : Int) + (j : Int))] W fun e w' => e = .returned (.tuple #[.string (d.now (f + j)), .int .i64 0]) ∧ Upd (fun _ => False) W w' := by
    intro W hW j hj
    have := rread_c (h.upd hW) hf ((f : Int) + (j : Int))
    rw [hI.read, show ((f : Int) + (j : Int)) = ((f + j : Nat) : Int) by omega, Dk.read_there hoff (by omega)] at this
    exact this
  have hnow : Hid (∀ j, j < 20 → (d.now (f + j)).size = 64) := fun j hj => hwf.now_size (by omega)
  have hrd := Lib.hid hrd0
  clear hrd0
  obtain ⟨A, cap, rfl, -, -⟩ := h.lasts.shape
  obtain ⟨A2, cap2, rfl, -, -⟩ := h.ws.shape
  obtain ⟨w3, hw3⟩ : ∃ w3, (w.alloc (.cells #[.slice A r.lasts.length cap, .slice A2 r.ws.length cap2, .int .i64 r.fuse, .bool r.off] 33)).alloc (.cells zeroKp 61) = w3 := ⟨_, rfl⟩
  obtain ⟨hU3, hB2, hB4, hsz⟩ := two_new w3 hw3
  have hc2 := hB2.cells4
  have HB := Lib.hid (And.intro hB2 hB4)
  have HU := Lib.hid (And.intro hU3 hsz)
  have Hw := Lib.hid hw3
  have hf1 : ¬ (r.lasts.length : Int) - 20 < (f : Int) := by omega
  have hf2 : f ≤ 5000 := by omega
  clear hB2 hB4 hU3 hw3 hsz h hf hI hwf hoff hrl hr
  obtain ⟨O, hO⟩ : ∃ O, openR d f = O := ⟨_, rfl⟩
  rw [hO]
  have HO := Lib.hid hO
  clear hO
  go_enter Tryz.func21, Tryz.ntmps21
  go_upto_region 1 with fail
  rw [Hw.out]
  clear Hw
  go_upto_region 4 with (first
    | (refine wpList_store_all rfl 61 _ _ rfl w3.heap.size (Kp.row ⟨f, [], 0, 1, 0, false⟩) rfl rfl _ _ (Blk.new w3 _ _) rfl (Kp.row_one _) (by kernel_rfl) ?_
       intro w4 hB4 hU4 hs4))
  have hO4 : Opens9 w w4 w3.heap.size (.slice none 0 0) (.slice A r.lasts.length cap) (.slice A2 r.ws.length cap2) d r f 0 := by
    have hU : Upd (fun q => q = w3.heap.size) w3 w4 := ((Upd.refl _ w3).alloc _).then hU4 (fun q e => .inl e)
    have hs3 := HU.out.2
    refine ⟨⟨Own.nil _ _ _, HU.out.1.then hU (fun q e => .inr (by omega)), by simp [Value.ownBlock]⟩, hB4, HB.out.1.upd hU (fun e => by omega), HB.out.2.upd hU (fun e => by omega), rfl⟩
  have HO4 := Lib.hid hO4
  clear hO4 hB4 hU4 hs4 hc2
  obtain ⟨g, hg⟩ : ∃ g, w3.heap.size = g := ⟨_, rfl⟩
  rw [hg] at HO4 ⊢
  have Hg : Hid (g = w.heap.size + 2) := by show _ = _; rw [← hg]; exact HU.out.2
  clear hg
  go_wp2_with fail
  go_loopw [7, 8, 9, 10, 11, 12] (fun v i _ _ _ _ wr => ∃ j : Nat, j ≤ 20 ∧ i = .int .i64 (j : Int) ∧ Opens9 w wr g v (.slice A r.lasts.length cap) (.slice A2 r.ws.length cap2) d r f j) (fun _ i _ _ _ _ _ => 20 - (intOf i).toNat)
  case atStart => exact ⟨0, by omega, rfl, HO4.out⟩
  case round =>
    rename World => wa
    obtain ⟨j, hj, rfl, hOp⟩ := hrel
    have H := Lib.hid hOp
    clear hOp HO4 HB
    by_cases hlt : j < 20
    · obtain ⟨S, hS⟩ : ∃ S, d.now (f + j) = S := ⟨_, rfl⟩
      have hrj := hrd.out wa H.out.list.upd j hlt
      have hsz := hnow.out j hlt
      rw [hS] at hrj hsz
      have HR := Lib.hid hrj
      have hlo : ∀ W, _ := fun W => refLook_c S W (by omega)
      obtain ⟨⟨B, z⟩, hF⟩ : ∃ F, lookL S.data.toList = F := ⟨_, rfl⟩
      rw [hF] at hlo
      simp only at hlo
      have HLo := Lib.hid hlo
      have HF := Lib.hid (And.intro hS hF)
      have hwr : IntKind.i64.wrap ((f : Int) + (j : Int)) = (f : Int) + (j : Int) := IntWalk.i64_in _ (by omega)
      clear hS hrj hlo hF hsz
      have hz3 : z = 0 ∨ z = 1 ∨ z = 2 := by
        have := lookL_cases S.data.toList
        rw [HF.out.2] at this
        exact this
      go_upto_region 11 with (first
        | (refine wpList_load_all rfl _ _ rfl w.heap.size rfl _ _ _ H.out.box Tryz.underlying33 rfl rfl ?_)
        | (go_at_call 57; refine HR.out.mono ?_; rintro e w5 ⟨rfl, hU5⟩
           have H5 := Lib.hid (H.out.still hU5)
           clear hU5))
      go_wp2_with fail
      refine (HLo.out _).mono ?_
      rintro e w6 ⟨rfl, hU6⟩
      have H6 := Lib.hid (H5.out.still hU6)
      clear hU6 H5
      rcases hz3 with rfl | rfl | rfl
      · have hc6 := H6.out.kept.cells6
        go_wp2_with fail
        go_quiet (fail)
        have H7 := Lib.hid (H6.out.still ((Upd.refl _ w6).drewN nq))
        have hO7 := H7.out.list.own.alloc (.cells #[.string S] 9)
        go_wp2_with (at_builtin; refine wpList_append_src rfl _ _ _ _ rfl 9 i0 _ 1 16 Tryz.underlying30 hi0 hz0 hz1 hz2 rfl u7 j _ rfl hO7 _ 1 [_] rfl (Src.of_new Tryz.underlying30 _) (by simp [Value.oneCell']) (by unfold maxLen; omega) (by omega) ?_; intro v2 w8 hO8 hU8 hl8 hs8)
        have hal := Upd.refl (fun _ => False) (w6.drewN nq)
        have hG8 := (H7.out.list.still (hal.alloc (.cells #[.string S] 9))).app hO8 hU8 hl8
        have hno : ∀ q t cs, Blk (w6.drewN nq) q t cs → 9 ≠ t → Blk w8 q t cs := fun q t cs hB ht => (hB.alloc _).upd hU8 (H7.out.list.own.ne_blk hB ht)
        have hN := H7.out.next HF.out.1 (by rw [HF.out.2]; simp) (seeS_no HF.out.2) hG8 (hno _ _ _ H7.out.kept (by decide)) (hno _ _ _ H7.out.box (by decide)) (hno _ _ _ H7.out.res (by decide))
        go_roundw
        case rel => exact ⟨j + 1, by omega, by go_num, hN⟩
        case measure => simp only [intOf]; omega
      · obtain ⟨M, hM⟩ : ∃ M, (secsL d f j).foldl seeS 0 = M := ⟨_, rfl⟩
        have hB60 : B.length = 60 := by have := look_60 (s := S.data.toList) (by rw [HF.out.2]); rw [HF.out.2] at this; exact this
        obtain ⟨SB, hSB⟩ : ∃ SB, str B = SB := ⟨_, rfl⟩
        have hgen : ∀ W, _ := fun W => gen_same SB W (by rw [← hSB, str_size]; omega) (by rw [← hSB, str_size]; omega)
        rw [← hSB, str_list, hSB] at hgen
        obtain ⟨G, hG⟩ : ∃ G, leN (B.take 8) = G := ⟨_, rfl⟩
        rw [hG] at hgen
        rw [hSB]
        have HGen := Lib.hid hgen
        have hc6 := H6.out.kept.cells6
        have hf6 := H6.out.kept.frozen 4
        simp only [hM] at hc6
        have HM := Lib.hid (And.intro hM hG)
        clear hgen hSB hB60 hM hG
        by_cases hlt2 : M < G
        · have hd : decide (M < G) = true := decide_eq_true hlt2
          go_wp2_with fail
          go_quiet (first | (go_at_call 59; exact Calls.quiet_of_same (HGen.out _)))
          have H7 := Lib.hid (H6.out.still ((Upd.refl _ w6).drewN nq))
          have hne := H7.out.list.own.ne_blk H7.out.kept (by decide)
          have hO7 := (H7.out.list.own.far (p := ⟨g, 4, none⟩) hne (.int .u64 (G : Int))).alloc (.cells #[.string S] 9)
          go_wp2_with (first | (at_builtin; refine wpList_append_src rfl _ _ _ _ rfl 9 i0 _ 1 16 Tryz.underlying30 hi0 hz0 hz1 hz2 rfl u7 j _ rfl hO7 _ 1 [_] rfl (Src.of_new_at Tryz.underlying30 _ (by simp)) (by simp [Value.oneCell']) (by unfold maxLen; omega) (by omega) ?_; intro v2 w8 hO8 hU8 hl8 hs8) | (go_at_call 59; refine (HGen.out _).mono ?_; rintro e w9 ⟨rfl, rfl⟩))
          have hst : Upd (fun q => q = g) (w6.drewN nq) ((w6.drewN nq).setCell ⟨g, 4, none⟩ (.int .u64 (G : Int))) := (Upd.refl (· = g) (w6.drewN nq)).setCell (p := ⟨g, 4, none⟩) (.inl rfl) _
          have hG7 : Grows w ((w6.drewN nq).setCell ⟨g, 4, none⟩ (.int .u64 (G : Int))) u7 j (secsB d f j) := ⟨H7.out.list.own.far (p := ⟨g, 4, none⟩) hne _, H7.out.list.upd.then hst (fun q e => .inr (by have := Hg.out; omega)), H7.out.list.new⟩
          have hG8 := (hG7.still ((Upd.refl (fun _ => False) _).alloc (.cells #[.string S] 9))).app hO8 hU8 hl8
          have hno : ∀ q t cs, Blk ((w6.drewN nq).setCell ⟨g, 4, none⟩ (.int .u64 (G : Int))) q t cs → 9 ≠ t → Blk w8 q t cs := fun q t cs hB ht => (hB.alloc _).upd hU8 (hG7.own.ne_blk hB ht)
          have hk7 := H7.out.kept.set_ 4 (.int .u64 (G : Int))
          rw [HM.out.1] at hk7
          have hN := H7.out.next (m := G) HF.out.1 (by rw [HF.out.2]; simp) (by rw [seeS_one HF.out.2, HM.out.1, HM.out.2]; omega) hG8 (hno _ _ _ hk7 (by decide)) (hno _ _ _ (H7.out.box.upd hst (by have := Hg.out; omega)) (by decide)) (hno _ _ _ (H7.out.res.upd hst (by have := Hg.out; omega)) (by decide))
          go_roundw
          case rel => exact ⟨j + 1, by omega, by go_num, hN⟩
          case measure => simp only [intOf]; omega
        · have hd : decide (M < G) = false := decide_eq_false hlt2
          go_wp2_with fail
          go_quiet (first | (go_at_call 59; exact Calls.quiet_of_same (HGen.out _)))
          have H7 := Lib.hid (H6.out.still ((Upd.refl _ w6).drewN nq))
          have hO7 := H7.out.list.own.alloc (.cells #[.string S] 9)
          go_wp2_with (at_builtin; refine wpList_append_src rfl _ _ _ _ rfl 9 i0 _ 1 16 Tryz.underlying30 hi0 hz0 hz1 hz2 rfl u7 j _ rfl hO7 _ 1 [_] rfl (Src.of_new Tryz.underlying30 _) (by simp [Value.oneCell']) (by unfold maxLen; omega) (by omega) ?_; intro v2 w8 hO8 hU8 hl8 hs8)
          have hal := Upd.refl (fun _ => False) (w6.drewN nq)
          have hG8 := (H7.out.list.still (hal.alloc (.cells #[.string S] 9))).app hO8 hU8 hl8
          have hno : ∀ q t cs, Blk (w6.drewN nq) q t cs → 9 ≠ t → Blk w8 q t cs := fun q t cs hB ht => (hB.alloc _).upd hU8 (H7.out.list.own.ne_blk hB ht)
          have hN := H7.out.next HF.out.1 (by rw [HF.out.2]; simp) (by rw [seeS_one HF.out.2, HM.out.1, HM.out.2]; omega) hG8 (hno _ _ _ (HM.out.1 ▸ H7.out.kept) (by decide)) (hno _ _ _ H7.out.box (by decide)) (hno _ _ _ H7.out.res (by decide))
          go_roundw
          case rel => exact ⟨j + 1, by omega, by go_num, hN⟩
          case measure => simp only [intOf]; omega
      · go_wp2_with (first
          | (refine wpList_store_all rfl 61 _ _ rfl (w.heap.size + 1) zeroKp rfl rfl _ _ H6.out.res rfl zeroKp_one (by kernel_rfl) ?_
             intro w7 hB7 hU7 hs7))
        have hO := bad_at hlt HF.out.1 (by rw [HF.out.2])
        rw [HO.out] at hO
        subst hO
        refine bodyPost_ret (results_cell_slot rfl _ _ (w.heap.size + 1) _ _ _ _ rfl hB7 Tryz.underlying61 rfl rfl (.int .i64 9) rfl) rfl ⟨rfl, ?_⟩
        exact H6.out.list.upd.then hU7 (fun q e => .inr (by omega))
    · obtain rfl : j = 20 := by omega
      obtain ⟨gl, capl, rfl, hcl1, hcl2⟩ := H.out.list.own.head (by omega)
      have hlist := secsB_lists d f 20
      have hlen := secsB_len d f 20
      have hro : ∀ (W : World), Upd (fun _ => False) wa W → ∀ i (hi : i < 20), W.cell? ⟨gl, i, none⟩ = some (.string ((secsB d f 20)[i]'(by omega))) := by
        intro W hW i hi
        rw [(H.out.list.own.upd hW (fun _ _ e => e)).cellAt i (by omega), strs_get, List.getElem?_eq_getElem (by omega)]
        rfl
      have hsz : ∀ s ∈ secsB d f 20, s.size ≤ 64 := by
        intro s hs
        unfold secsB at hs
        rw [List.mem_map] at hs
        obtain ⟨i, hi, rfl⟩ := hs
        rw [hnow.out i (List.mem_range.1 hi)]
        omega
      have hlo0 : ∀ (W : World), Upd (fun _ => False) wa W → Calls Tryz.prog 60 #[.slice (some ⟨gl, 0, none⟩) 10 capl] W fun e w' => e = .returned (.tuple #[.string (str (holdsR ((secsL d f 20).take 10)).1), .int .u64 ((holdsR ((secsL d f 20).take 10)).2 : Int)]) ∧ Upd (fun _ => False) W w' := by
        intro W hW
        have hr : Row W (.slice (some ⟨gl, 0, none⟩) 10 capl) (((secsB d f 20).take 10).map Value.string) := by
          have := isRow_of (w := W) (a := ⟨gl, 0, none⟩) (cap := capl) (vs := ((secsB d f 20).take 10).map Value.string) (by simp [maxLen]; omega) (fun i hi => by
            simp at hi
            rw [show (⟨gl, 0, none⟩ : Addr).add i = ⟨gl, 0 + i, none⟩ from Addr.add_mid _ _ _, Nat.zero_add, hro W hW i (by omega), List.getElem_map, List.getElem_take])
          simpa [hlen] using this
        have := refHolds_c hr (by rw [List.length_take]; omega) (fun s hs => hsz s (List.mem_of_mem_take hs))
        rw [List.map_take, hlist] at this
        exact this
      have hhi0 : ∀ (W : World), Upd (fun _ => False) wa W → Calls Tryz.prog 60 #[.slice (some ⟨gl, 10, none⟩) 10 (capl - 10)] W fun e w' => e = .returned (.tuple #[.string (str (holdsR ((secsL d f 20).drop 10)).1), .int .u64 ((holdsR ((secsL d f 20).drop 10)).2 : Int)]) ∧ Upd (fun _ => False) W w' := by
        intro W hW
        have hr : Row W (.slice (some ⟨gl, 10, none⟩) 10 (capl - 10)) (((secsB d f 20).drop 10).map Value.string) := by
          have := isRow_of (w := W) (a := ⟨gl, 10, none⟩) (cap := capl - 10) (vs := ((secsB d f 20).drop 10).map Value.string) (by simp [maxLen]; omega) (fun i hi => by
            simp at hi
            rw [show (⟨gl, 10, none⟩ : Addr).add i = ⟨gl, 10 + i, none⟩ from Addr.add_mid _ _ _, hro W hW (10 + i) (by omega), List.getElem_map, List.getElem_drop])
          simpa [hlen] using this
        have := refHolds_c hr (by rw [List.length_drop]; omega) (fun s hs => hsz s (List.mem_of_mem_drop hs))
        rw [List.map_drop, hlist] at this
        exact this
      obtain ⟨⟨ta, ga⟩, hA⟩ : ∃ q, holdsR ((secsL d f 20).take 10) = q := ⟨_, rfl⟩
      obtain ⟨⟨tb, gb⟩, hB⟩ : ∃ q, holdsR ((secsL d f 20).drop 10) = q := ⟨_, rfl⟩
      rw [hA] at hlo0
      rw [hB] at hhi0
      simp only at hlo0 hhi0
      have hOp : openR d f = some (if 0 < ga ∧ gb ≤ ga then ⟨f, ta, ga, 0, (secsL d f 20).foldl seeS 0, false⟩ else if 0 < gb then ⟨f, tb, gb, 1, (secsL d f 20).foldl seeS 0, false⟩ else ⟨f, [], 0, 1, (secsL d f 20).foldl seeS 0, false⟩) := by
        unfold openR
        rw [H.out.good, if_neg (by simp)]
        unfold pickR
        rw [hA, hB]
      rw [HO.out] at hOp
      have HOp := Lib.hid hOp
      have HLo := Lib.hid hlo0
      have HHi := Lib.hid hhi0
      clear hlist hlen hro hsz hlo0 hhi0 hA hB hOp
      obtain ⟨M, hM⟩ : ∃ M, (secsL d f 20).foldl seeS 0 = M := ⟨_, rfl⟩
      rw [hM] at HOp
      have hk := H.out.kept
      rw [hM] at hk
      have HK := Lib.hid hk
      clear hM hk
      go_wp2_with fail
      refine (HLo.out _ (Upd.refl _ _)).mono ?_
      rintro e w5 ⟨rfl, hU5⟩
      have H5 := Lib.hid hU5
      clear hU5
      go_wp2_with fail
      refine (HHi.out _ H5.out).mono ?_
      rintro e w6 ⟨rfl, hU6⟩
      have H6 := Lib.hid (H5.out.then hU6 (fun _ e => e.elim))
      clear hU6 H5
      have hk6 : Blk w6 g 61 #[.int .i64 (f : Int), .string (str []), .int .u64 0, .int .i64 1, .int .u64 (M : Int), .bool false] := HK.out.upd H6.out (fun e => e)
      have hr6 := H.out.res.upd H6.out (fun e => e)
      have hc6 := hk6.cells6
      by_cases hA : 0 < ga ∧ gb ≤ ga
      · obtain rfl : O = some ⟨f, ta, ga, 0, M, false⟩ := by rw [HOp.out, if_pos hA]
        have hd1 : decide (0 < ga) = true := decide_eq_true hA.1
        have hd2 : decide (gb ≤ ga) = true := decide_eq_true hA.2
        clear hA
        have hrow : Blk (((w6.setCell ⟨g, 1, none⟩ (.string (str ta))).setCell ⟨g, 2, none⟩ (.int .u64 (ga : Int))).setCell ⟨g, 3, none⟩ (.int .i64 0)) g 61 #[.int .i64 (f : Int), .string (str ta), .int .u64 (ga : Int), .int .i64 0, .int .u64 (M : Int), .bool false] := by
          have := ((hk6.set_ 1 (.string (str ta))).set_ 2 (.int .u64 (ga : Int))).set_ 3 (.int .i64 0)
          simp at this
          exact this
        have hst : Upd (fun q => q = g) w6 (((w6.setCell ⟨g, 1, none⟩ (.string (str ta))).setCell ⟨g, 2, none⟩ (.int .u64 (ga : Int))).setCell ⟨g, 3, none⟩ (.int .i64 0)) :=
          (((Upd.refl (· = g) w6).setCell (p := ⟨g, 1, none⟩) (.inl rfl) _).setCell (p := ⟨g, 2, none⟩) (.inl rfl) _).setCell (p := ⟨g, 3, none⟩) (.inl rfl) _
        have hres := hr6.upd hst (by have := Hg.out; omega)
        have HR := Lib.hid (And.intro hrow (And.intro hst hres))
        have hf1 := hk6.frozen 1
        have hf2 := hk6.frozen 2
        have hf3 := hk6.frozen 3
        clear hrow hst hres hk6 hr6
        go_upto_region 23 with fail
        go_wp2_with (first
          | (refine wpList_load_all rfl _ _ rfl g rfl _ _ _ HR.out.1 Tryz.underlying61 rfl rfl ?_)
          | (refine wpList_store_all rfl 61 _ _ rfl (w.heap.size + 1) #[.int .i64 (f : Int), .string (str ta), .int .u64 (ga : Int), .int .i64 0, .int .u64 (M : Int), .bool false] rfl rfl _ _ HR.out.2.2 rfl (by simp [Value.oneCell']) (by kernel_rfl) ?_
             intro w7 hB7 hU7 hs7))
        refine bodyPost_ret (results_cell_slot rfl _ _ (w.heap.size + 1) _ _ _ _ rfl hB7 Tryz.underlying61 rfl rfl (.int .i64 0) rfl) rfl ⟨rfl, ?_⟩
        exact ((H.out.list.upd.then H6.out (fun _ e => e.elim)).then HR.out.2.1 (fun q e => .inr (by have := Hg.out; omega))).then hU7 (fun q e => .inr (by omega))
      · by_cases hB : 0 < gb
        · obtain rfl : O = some ⟨f, tb, gb, 1, M, false⟩ := by rw [HOp.out, if_neg hA, if_pos hB]
          have hd3 : decide (0 < gb) = true := decide_eq_true hB
          have hc : (decide (0 < ga) = true ∧ decide (gb ≤ ga) = false) ∨ decide (0 < ga) = false := by
            by_cases h1 : 0 < ga
            · left
              exact ⟨decide_eq_true h1, decide_eq_false fun h2 => hA ⟨h1, h2⟩⟩
            · exact .inr (decide_eq_false h1)
          clear hA hB
          rcases hc with ⟨hd1, hd2⟩ | hd1
          all_goals
            have hrow : Blk (((w6.setCell ⟨g, 1, none⟩ (.string (str tb))).setCell ⟨g, 2, none⟩ (.int .u64 (gb : Int))).setCell ⟨g, 3, none⟩ (.int .i64 1)) g 61 #[.int .i64 (f : Int), .string (str tb), .int .u64 (gb : Int), .int .i64 1, .int .u64 (M : Int), .bool false] := by
              have := ((hk6.set_ 1 (.string (str tb))).set_ 2 (.int .u64 (gb : Int))).set_ 3 (.int .i64 1)
              simp at this
              exact this
            have hst : Upd (fun q => q = g) w6 (((w6.setCell ⟨g, 1, none⟩ (.string (str tb))).setCell ⟨g, 2, none⟩ (.int .u64 (gb : Int))).setCell ⟨g, 3, none⟩ (.int .i64 1)) :=
              (((Upd.refl (· = g) w6).setCell (p := ⟨g, 1, none⟩) (.inl rfl) _).setCell (p := ⟨g, 2, none⟩) (.inl rfl) _).setCell (p := ⟨g, 3, none⟩) (.inl rfl) _
            have hres := hr6.upd hst (by have := Hg.out; omega)
            have HR := Lib.hid (And.intro hrow (And.intro hst hres))
            have hf1 := hk6.frozen 1
            have hf2 := hk6.frozen 2
            have hf3 := hk6.frozen 3
            clear hrow hst hres hk6 hr6
            go_upto_region 23 with fail
            go_wp2_with (first
              | (refine wpList_load_all rfl _ _ rfl g rfl _ _ _ HR.out.1 Tryz.underlying61 rfl rfl ?_)
              | (refine wpList_store_all rfl 61 _ _ rfl (w.heap.size + 1) #[.int .i64 (f : Int), .string (str tb), .int .u64 (gb : Int), .int .i64 1, .int .u64 (M : Int), .bool false] rfl rfl _ _ HR.out.2.2 rfl (by simp [Value.oneCell']) (by kernel_rfl) ?_
                 intro w7 hB7 hU7 hs7))
            refine bodyPost_ret (results_cell_slot rfl _ _ (w.heap.size + 1) _ _ _ _ rfl hB7 Tryz.underlying61 rfl rfl (.int .i64 0) rfl) rfl ⟨rfl, ?_⟩
            exact ((H.out.list.upd.then H6.out (fun _ e => e.elim)).then HR.out.2.1 (fun q e => .inr (by have := Hg.out; omega))).then hU7 (fun q e => .inr (by omega))
        · obtain rfl : O = some ⟨f, [], 0, 1, M, false⟩ := by rw [HOp.out, if_neg hA, if_neg hB]
          have hd3 : decide (0 < gb) = false := decide_eq_false hB
          have hd1 : decide (0 < ga) = false := decide_eq_false fun h => hA ⟨h, by omega⟩
          have HR := Lib.hid (And.intro hk6 hr6)
          clear hA hB hk6 hr6
          go_upto_region 23 with fail
          go_wp2_with (first
            | (refine wpList_load_all rfl _ _ rfl g rfl _ _ _ HR.out.1 Tryz.underlying61 rfl rfl ?_)
            | (refine wpList_store_all rfl 61 _ _ rfl (w.heap.size + 1) #[.int .i64 (f : Int), .string (str []), .int .u64 0, .int .i64 1, .int .u64 (M : Int), .bool false] rfl rfl _ _ HR.out.2 rfl (by simp [Value.oneCell']) (by kernel_rfl) ?_
               intro w7 hB7 hU7 hs7))
          refine bodyPost_ret (results_cell_slot rfl _ _ (w.heap.size + 1) _ _ _ _ rfl hB7 Tryz.underlying61 rfl rfl (.int .i64 0) rfl) rfl ⟨rfl, ?_⟩
          exact (H.out.list.upd.then H6.out (fun _ e => e.elim)).then hU7 (fun q e => .inr (by omega))
end Go.Proofs.YtpfbgmfkeofefaaGreat

/-
  The document's records of chapter 09: Put.
-/
namespace Go.Proofs.YtpfbgmfkeofefaaGreat
open Go Go.RowKit

set_option maxRecDepth 100000 in
set_option maxHeartbeats 1600000 in
theorem refOpen_off {w : World} {vl vw : Value} {d : Dk} {r : Rd} (h : RdAt w vl vw r) (hf : r.fits) (hI : RdIs d r) (hoff : d.off = true) (f : Nat) (hr : f + 20 ≤ d.lasts.length) :
    Calls Tryz.prog 21 #[.agg #[vl, vw, .int .i64 r.fuse, .bool r.off], .int .i64 (f : Int)] w fun e w' => e = .returned (.tuple #[.agg zeroKp, .int .i64 14]) ∧ Upd (fun _ => False) w w' := by
  have hl1 := hf.lasts
  have hrl : r.lasts.length = d.lasts.length := by rw [hI.lasts]
  have hrd0 : ∀ W, Upd (fun _ => False) w W → Calls Tryz.prog 57 #[.agg #[vl, vw, .int .i64 r.fuse, .bool r.off], .int .i64 (f : Int)] W fun e w' => e = .returned (.tuple #[.string ByteArray.empty, .int .i64 14]) ∧ Upd (fun _ => False) W w' := by
    intro W hW
    have := rread_c (h.upd hW) hf (f : Int)
    rw [hI.read] at this
    unfold Dk.read at this
    rw [hoff, if_pos rfl] at this
    exact this
  have hrd := Lib.hid hrd0
  clear hrd0
  obtain ⟨A, cap, rfl, -, -⟩ := h.lasts.shape
  obtain ⟨A2, cap2, rfl, -, -⟩ := h.ws.shape
  obtain ⟨w3, hw3⟩ : ∃ w3, (w.alloc (.cells #[.slice A r.lasts.length cap, .slice A2 r.ws.length cap2, .int .i64 r.fuse, .bool r.off] 33)).alloc (.cells zeroKp 61) = w3 := ⟨_, rfl⟩
  obtain ⟨hU3, hB2, hB4, hsz⟩ := two_new w3 hw3
  have hc2 := hB2.cells4
  have HB := Lib.hid (And.intro hB2 hB4)
  have HU := Lib.hid (And.intro hU3 hsz)
  have Hw := Lib.hid hw3
  have hf1 : ¬ (r.lasts.length : Int) - 20 < (f : Int) := by omega
  have hf2 : f ≤ 5000 := by omega
  clear hB2 hB4 hU3 hw3 hsz h hf hI hoff hrl hr
  go_enter Tryz.func21, Tryz.ntmps21
  go_upto_region 1 with fail
  rw [Hw.out]
  clear Hw
  go_upto_region 4 with (first
    | (refine wpList_store_all rfl 61 _ _ rfl w3.heap.size (Kp.row ⟨f, [], 0, 1, 0, false⟩) rfl rfl _ _ (Blk.new w3 _ _) rfl (Kp.row_one _) (by kernel_rfl) ?_
       intro w4 hB4 hU4 hs4))
  have hU : Upd (fun q => q = w3.heap.size) w3 w4 := ((Upd.refl _ w3).alloc _).then hU4 (fun q e => .inl e)
  have hs3 := HU.out.2
  have H4 := Lib.hid (And.intro (HU.out.1.then hU (fun q e => .inr (by omega)) : Upd (fun _ => False) w w4) (And.intro (HB.out.1.upd hU (fun e => by omega)) (HB.out.2.upd hU (fun e => by omega))))
  clear hB4 hU4 hs4 hc2 hU hs3 HB
  go_wp2_with fail
  go_loopw [7, 8, 9, 10, 11, 12] (fun v i _ _ _ _ wr => v = .slice none 0 0 ∧ i = .int .i64 0 ∧ w4 = wr) (fun _ _ _ _ _ _ _ => 0)
  case atStart => exact ⟨rfl, rfl, rfl⟩
  case round =>
    obtain ⟨rfl, rfl, rfl⟩ := hrel
    have HR := Lib.hid (hrd.out w4 H4.out.1)
    go_upto_region 9 with (first
      | (refine wpList_load_all rfl _ _ rfl w.heap.size rfl _ _ _ H4.out.2.1 Tryz.underlying33 rfl rfl ?_)
      | (go_at_call 57; refine HR.out.mono ?_; rintro e w5 ⟨rfl, hU5⟩
         have H5 := Lib.hid (And.intro (H4.out.1.then hU5 (fun _ e => e.elim)) (H4.out.2.2.upd hU5 (fun e => e)))
         clear hU5))
    go_upto_region 10 with fail
    go_wp2_with (first
      | (refine wpList_store_all rfl 61 _ _ rfl (w.heap.size + 1) zeroKp rfl rfl _ _ H5.out.2 rfl zeroKp_one (by kernel_rfl) ?_
         intro w7 hB7 hU7 hs7))
    refine bodyPost_ret (results_cell_slot rfl _ _ (w.heap.size + 1) _ _ _ _ rfl hB7 Tryz.underlying61 rfl rfl (.int .i64 14) rfl) rfl ⟨rfl, ?_⟩
    exact H5.out.1.then hU7 (fun q e => .inr (by omega))
/-- What a Put of the document's has. -/
structure Puts9 (w wr : World) (vl vw vl' vw' : Value) (r' : Rd) (k' : Kp) : Prop where
  left : RdLeft w wr vl vw vl' vw' r'
  kept : Blk wr w.heap.size 61 k'.row
  disk : Blk wr (w.heap.size + 1) 33 #[vl', vw', .int .i64 r'.fuse, .bool r'.off]
  res1 : Blk wr (w.heap.size + 1 + 1) 61 zeroKp
  res2 : Blk wr (w.heap.size + 1 + 1 + 1) 33 zeroRd
theorem Puts9.still {w wr wx : World} {vl vw vl' vw' : Value} {r' : Rd} {k' : Kp} (h : Puts9 w wr vl vw vl' vw' r' k') (hu : Upd (fun _ => False) wr wx) : Puts9 w wx vl vw vl' vw' r' k' :=
  ⟨h.left.post hu, h.kept.upd hu (fun e => e), h.disk.upd hu (fun e => e), h.res1.upd hu (fun e => e), h.res2.upd hu (fun e => e)⟩
/-- The answer of a Put: both results are stored, one behind the other. -/
theorem Puts9.ends {w wr w1 w2 : World} {vl vw vl' vw' : Value} {r' : Rd} {k' : Kp} (h : Puts9 w wr vl vw vl' vw' r' k') {c1 : Array Value} (_h1 : Blk w1 (w.heap.size + 1 + 1) 61 c1) (u1 : Upd (· = w.heap.size + 1 + 1) wr w1)
    (_h2 : Blk w2 (w.heap.size + 1 + 1 + 1) 33 #[vl', vw', .int .i64 r'.fuse, .bool r'.off]) (u2 : Upd (· = w.heap.size + 1 + 1 + 1) w1 w2) : RdLeft w w2 vl vw vl' vw' r' := by
  have e1 : ∀ q, RdX vl' vw' q → q ≠ w.heap.size + 1 + 1 := fun q hq e => h.left.at_.ne h.res1 (by decide) (by decide) (e ▸ hq)
  have l1 := h.left.store u1 e1 (by omega)
  exact l1.store u2 (fun q hq e => h.left.at_.ne h.res2 (by decide) (by decide) (e ▸ hq)) (by omega)
section
variable {w : World} {vl vw : Value} {r : Rd} {k : Kp}
set_option maxRecDepth 100000 in
set_option maxHeartbeats 3200000 in
theorem refPut_broken (h : RdAt w vl vw r) (f : Nat) (t : List UInt8) (g a se : Nat) (s : ByteArray) :
    Calls Tryz.prog 22 #[.agg #[.int .i64 (f : Int), .string (str t), .int .u64 (g : Int), .int .i64 (a : Int), .int .u64 (se : Int), .bool true], .agg #[vl, vw, .int .i64 r.fuse, .bool r.off], .string s] w fun e w' => e = .returned (.tuple #[.agg #[.int .i64 (f : Int), .string (str t), .int .u64 (g : Int), .int .i64 (a : Int), .int .u64 (se : Int), .bool true], .agg #[vl, vw, .int .i64 r.fuse, .bool r.off], .int .i64 11]) ∧ RdLeft w w' vl vw vl vw r := by
  obtain ⟨w3, hw3⟩ : ∃ w3, (((w.alloc (.cells #[.int .i64 (f : Int), .string (str t), .int .u64 (g : Int), .int .i64 (a : Int), .int .u64 (se : Int), .bool true] 61)).alloc (.cells #[vl, vw, .int .i64 r.fuse, .bool r.off] 33)).alloc (.cells zeroKp 61)).alloc (.cells zeroRd 33) = w3 := ⟨_, rfl⟩
  obtain ⟨hU3, b1, b2, b3, b4, hsz⟩ := four_new w3 hw3
  have HP : Hid (Puts9 w w3 vl vw vl vw r ⟨f, t, g, a, se, true⟩) := Lib.hid ⟨(RdLeft.refl h).post hU3, b1, b2, b3, b4⟩
  have hc3 := b1.cells6
  have Hw := Lib.hid hw3
  clear hU3 b1 b2 b3 b4 hsz hw3 h
  go_enter Tryz.func22, Tryz.ntmps22
  go_upto_region 1 with fail
  rw [Hw.out]
  clear Hw
  go_upto_region 2 with fail
  refine wp_region_noPanic ?_
  refine wp_region_T (S := fun w' => Blk w' w.heap.size 61 #[.int .i64 (f : Int), .string (str t), .int .u64 (g : Int), .int .i64 (a : Int), .int .u64 (se : Int), .bool true] ∧ Blk w' (w.heap.size + 1) 33 #[vl, vw, .int .i64 r.fuse, .bool r.off]) (T := fun _ => false) (by kernel_rfl) ?_
  have hS0 := And.intro HP.out.kept.drew HP.out.disk.drew
  refine wpAnyT_take (i := 0) (v := ?_) rfl (by kernel_rfl) (by kernel_rfl) (by kernel_rfl) (by kernel_rfl) (fun _ _ _ h => h) (takes_yield rfl (Or.inl ⟨by rfl, ?_⟩)) (by assumption) (by kernel_rfl) ?_
  rotate_left 1
  · intro w' hSw; have hcw := hSw.1.cells6; have hcd := hSw.2.cells4; go_split_ands; first | (go_simp; done) | (go_simp; rfl) | rfl
  simp only [Act.put, List.getElem_toArray, List.getElem_cons_zero, List.setIfInBounds_toArray, List.set_cons_zero, List.set_cons_succ]
  refine wpAnyT_take (i := 1) (v := ?_) rfl (by kernel_rfl) (by kernel_rfl) (by kernel_rfl) (by kernel_rfl) (fun _ _ _ h => h) (takes_yield rfl (Or.inl ⟨by rfl, ?_⟩)) (by assumption) (by kernel_rfl) ?_
  rotate_left 1
  · intro w' hSw; have hcw := hSw.1.cells6; have hcd := hSw.2.cells4; go_split_ands; first | (go_simp; done) | (go_simp; rfl) | rfl
  simp only [Act.put, List.getElem_toArray, List.getElem_cons_zero, List.getElem_cons_succ, List.setIfInBounds_toArray, List.set_cons_zero, List.set_cons_succ]
  refine wpAnyT_one (i := 2) (by kernel_rfl) rfl (fun K hK => ?_)
  refine step_store_all (by rfl) 61 _ _ (by rfl) (w.heap.size + 1 + 1) #[.int .i64 (f : Int), .string (str t), .int .u64 (g : Int), .int .i64 (a : Int), .int .u64 (se : Int), .bool true] (by rfl) (by rfl) _ _ HP.out.res1.drew rfl (by simp [Value.oneCell']) (by kernel_rfl) ?_
  intro w4 hB4 hU4 hs4
  have hS4 := And.intro (hS0.1.upd hU4 (by omega)) (hS0.2.upd hU4 (by omega))
  refine hK.out _ _ hS4 ?_
  clear hK
  refine wpAnyT_one (i := 3) (by kernel_rfl) rfl (fun K hK => ?_)
  refine step_store_all (by rfl) 33 _ _ (by rfl) (w.heap.size + 1 + 1 + 1) #[vl, vw, .int .i64 r.fuse, .bool r.off] (by rfl) (by rfl) _ _ (HP.out.res2.drew.upd hU4 (by omega)) rfl (rdrow_one r HP.out.left.at_) (by kernel_rfl) ?_
  intro w5 hB5 hU5 hs5
  have hS5 := And.intro (hS4.1.upd hU5 (by omega)) (hS4.2.upd hU5 (by omega))
  refine hK.out _ _ hS5 ?_
  have hl := (HP.out.still (Upd.refl _ w3).drew).ends hB4 hU4 hB5 hU5
  have HE := Lib.hid (And.intro (hB4.upd hU5 (by omega)) (And.intro hB5 hl))
  clear hK hS0 hS4 hl hB4 hU4 hs4 hB5 hU5 hs5
  refine wpAnyT_take (i := 4) (v := ?_) rfl (by kernel_rfl) (by kernel_rfl) (by kernel_rfl) (by kernel_rfl) (fun _ _ _ h => h) (takes_yield rfl (Or.inl ⟨by rfl, ?_⟩)) (by assumption) (by kernel_rfl) ?_
  rotate_left 1
  · intro w' hSw; go_split_ands; first | (go_simp; done) | (go_simp; rfl) | rfl
  simp only [Act.put, List.getElem_toArray, List.getElem_cons_zero, List.getElem_cons_succ, List.setIfInBounds_toArray, List.set_cons_zero, List.set_cons_succ]
  refine wpAnyT_done (by kernel_rfl) ?_ _
  refine NoPanic.normal ?_
  go_wp2_with fail
  refine bodyPost_ret (results_cells2_slot rfl _ _ (w.heap.size + 1 + 1) (w.heap.size + 1 + 1 + 1) _ _ _ _ _ _ _ _ rfl HE.out.1 rfl HE.out.2.1 Tryz.underlying61 rfl rfl Tryz.underlying33 rfl rfl (.int .i64 11) rfl) rfl ⟨rfl, HE.out.2.2⟩
set_option maxRecDepth 100000 in
set_option maxHeartbeats 3200000 in
theorem refPut_long (h : RdAt w vl vw r) (f : Nat) (t : List UInt8) (g a se : Nat) (s : ByteArray) (hl : 400 < s.size) :
    Calls Tryz.prog 22 #[.agg #[.int .i64 (f : Int), .string (str t), .int .u64 (g : Int), .int .i64 (a : Int), .int .u64 (se : Int), .bool false], .agg #[vl, vw, .int .i64 r.fuse, .bool r.off], .string s] w fun e w' => e = .returned (.tuple #[.agg #[.int .i64 (f : Int), .string (str t), .int .u64 (g : Int), .int .i64 (a : Int), .int .u64 (se : Int), .bool false], .agg #[vl, vw, .int .i64 r.fuse, .bool r.off], .int .i64 3]) ∧ RdLeft w w' vl vw vl vw r := by
  obtain ⟨w3, hw3⟩ : ∃ w3, (((w.alloc (.cells #[.int .i64 (f : Int), .string (str t), .int .u64 (g : Int), .int .i64 (a : Int), .int .u64 (se : Int), .bool false] 61)).alloc (.cells #[vl, vw, .int .i64 r.fuse, .bool r.off] 33)).alloc (.cells zeroKp 61)).alloc (.cells zeroRd 33) = w3 := ⟨_, rfl⟩
  obtain ⟨hU3, b1, b2, b3, b4, hsz⟩ := four_new w3 hw3
  have HP : Hid (Puts9 w w3 vl vw vl vw r ⟨f, t, g, a, se, false⟩) := Lib.hid ⟨(RdLeft.refl h).post hU3, b1, b2, b3, b4⟩
  have hc3 := b1.cells6
  have Hw := Lib.hid hw3
  clear hU3 b1 b2 b3 b4 hsz hw3 h
  go_enter Tryz.func22, Tryz.ntmps22
  go_upto_region 1 with fail
  rw [Hw.out]
  clear Hw
  go_upto_region 4 with fail
  refine wp_region_noPanic ?_
  refine wp_region_T (S := fun w' => Blk w' w.heap.size 61 #[.int .i64 (f : Int), .string (str t), .int .u64 (g : Int), .int .i64 (a : Int), .int .u64 (se : Int), .bool false] ∧ Blk w' (w.heap.size + 1) 33 #[vl, vw, .int .i64 r.fuse, .bool r.off]) (T := fun _ => false) (by kernel_rfl) ?_
  have hS0 := And.intro HP.out.kept.drew HP.out.disk.drew
  refine wpAnyT_take (i := 0) (v := ?_) rfl (by kernel_rfl) (by kernel_rfl) (by kernel_rfl) (by kernel_rfl) (fun _ _ _ h => h) (takes_yield rfl (Or.inl ⟨by rfl, ?_⟩)) (by assumption) (by kernel_rfl) ?_
  rotate_left 1
  · intro w' hSw; have hcw := hSw.1.cells6; have hcd := hSw.2.cells4; go_split_ands; first | (go_simp; done) | (go_simp; rfl) | rfl
  simp only [Act.put, List.getElem_toArray, List.getElem_cons_zero, List.setIfInBounds_toArray, List.set_cons_zero, List.set_cons_succ]
  refine wpAnyT_take (i := 1) (v := ?_) rfl (by kernel_rfl) (by kernel_rfl) (by kernel_rfl) (by kernel_rfl) (fun _ _ _ h => h) (takes_yield rfl (Or.inl ⟨by rfl, ?_⟩)) (by assumption) (by kernel_rfl) ?_
  rotate_left 1
  · intro w' hSw; have hcw := hSw.1.cells6; have hcd := hSw.2.cells4; go_split_ands; first | (go_simp; done) | (go_simp; rfl) | rfl
  simp only [Act.put, List.getElem_toArray, List.getElem_cons_zero, List.getElem_cons_succ, List.setIfInBounds_toArray, List.set_cons_zero, List.set_cons_succ]
  refine wpAnyT_one (i := 2) (by kernel_rfl) rfl (fun K hK => ?_)
  refine step_store_all (by rfl) 61 _ _ (by rfl) (w.heap.size + 1 + 1) #[.int .i64 (f : Int), .string (str t), .int .u64 (g : Int), .int .i64 (a : Int), .int .u64 (se : Int), .bool false] (by rfl) (by rfl) _ _ HP.out.res1.drew rfl (by simp [Value.oneCell']) (by kernel_rfl) ?_
  intro w4 hB4 hU4 hs4
  have hS4 := And.intro (hS0.1.upd hU4 (by omega)) (hS0.2.upd hU4 (by omega))
  refine hK.out _ _ hS4 ?_
  clear hK
  refine wpAnyT_one (i := 3) (by kernel_rfl) rfl (fun K hK => ?_)
  refine step_store_all (by rfl) 33 _ _ (by rfl) (w.heap.size + 1 + 1 + 1) #[vl, vw, .int .i64 r.fuse, .bool r.off] (by rfl) (by rfl) _ _ (HP.out.res2.drew.upd hU4 (by omega)) rfl (rdrow_one r HP.out.left.at_) (by kernel_rfl) ?_
  intro w5 hB5 hU5 hs5
  have hS5 := And.intro (hS4.1.upd hU5 (by omega)) (hS4.2.upd hU5 (by omega))
  refine hK.out _ _ hS5 ?_
  have hl := (HP.out.still (Upd.refl _ w3).drew).ends hB4 hU4 hB5 hU5
  have HE := Lib.hid (And.intro (hB4.upd hU5 (by omega)) (And.intro hB5 hl))
  clear hK hS0 hS4 hl hB4 hU4 hs4 hB5 hU5 hs5
  refine wpAnyT_take (i := 4) (v := ?_) rfl (by kernel_rfl) (by kernel_rfl) (by kernel_rfl) (by kernel_rfl) (fun _ _ _ h => h) (takes_yield rfl (Or.inl ⟨by rfl, ?_⟩)) (by assumption) (by kernel_rfl) ?_
  rotate_left 1
  · intro w' hSw; go_split_ands; first | (go_simp; done) | (go_simp; rfl) | rfl
  simp only [Act.put, List.getElem_toArray, List.getElem_cons_zero, List.getElem_cons_succ, List.setIfInBounds_toArray, List.set_cons_zero, List.set_cons_succ]
  refine wpAnyT_done (by kernel_rfl) ?_ _
  refine NoPanic.normal ?_
  go_wp2_with fail
  refine bodyPost_ret (results_cells2_slot rfl _ _ (w.heap.size + 1 + 1) (w.heap.size + 1 + 1 + 1) _ _ _ _ _ _ _ _ rfl HE.out.1 rfl HE.out.2.1 Tryz.underlying61 rfl rfl Tryz.underlying33 rfl rfl (.int .i64 3) rfl) rfl ⟨rfl, HE.out.2.2⟩
set_option maxRecDepth 100000 in
set_option maxHeartbeats 3200000 in
theorem refPut_full (h : RdAt w vl vw r) (f : Nat) (t : List UInt8) (g a : Nat) (s : ByteArray) (hl : s.size ≤ 400) :
    Calls Tryz.prog 22 #[.agg #[.int .i64 (f : Int), .string (str t), .int .u64 (g : Int), .int .i64 (a : Int), .int .u64 18446744073709551615, .bool false], .agg #[vl, vw, .int .i64 r.fuse, .bool r.off], .string s] w fun e w' => e = .returned (.tuple #[.agg #[.int .i64 (f : Int), .string (str t), .int .u64 (g : Int), .int .i64 (a : Int), .int .u64 18446744073709551615, .bool false], .agg #[vl, vw, .int .i64 r.fuse, .bool r.off], .int .i64 6]) ∧ RdLeft w w' vl vw vl vw r := by
  obtain ⟨w3, hw3⟩ : ∃ w3, (((w.alloc (.cells #[.int .i64 (f : Int), .string (str t), .int .u64 (g : Int), .int .i64 (a : Int), .int .u64 18446744073709551615, .bool false] 61)).alloc (.cells #[vl, vw, .int .i64 r.fuse, .bool r.off] 33)).alloc (.cells zeroKp 61)).alloc (.cells zeroRd 33) = w3 := ⟨_, rfl⟩
  obtain ⟨hU3, b1, b2, b3, b4, hsz⟩ := four_new w3 hw3
  have HP : Hid (Puts9 w w3 vl vw vl vw r ⟨f, t, g, a, 18446744073709551615, false⟩) := Lib.hid ⟨(RdLeft.refl h).post hU3, b1, b2, b3, b4⟩
  have hc3 := b1.cells6
  have Hw := Lib.hid hw3
  clear hU3 b1 b2 b3 b4 hsz hw3 h
  go_enter Tryz.func22, Tryz.ntmps22
  go_upto_region 1 with fail
  rw [Hw.out]
  clear Hw
  go_upto_region 6 with fail
  refine wp_region_noPanic ?_
  refine wp_region_T (S := fun w' => Blk w' w.heap.size 61 #[.int .i64 (f : Int), .string (str t), .int .u64 (g : Int), .int .i64 (a : Int), .int .u64 18446744073709551615, .bool false] ∧ Blk w' (w.heap.size + 1) 33 #[vl, vw, .int .i64 r.fuse, .bool r.off]) (T := fun _ => false) (by kernel_rfl) ?_
  have hS0 := And.intro HP.out.kept.drew HP.out.disk.drew
  refine wpAnyT_take (i := 0) (v := ?_) rfl (by kernel_rfl) (by kernel_rfl) (by kernel_rfl) (by kernel_rfl) (fun _ _ _ h => h) (takes_yield rfl (Or.inl ⟨by rfl, ?_⟩)) (by assumption) (by kernel_rfl) ?_
  rotate_left 1
  · intro w' hSw; have hcw := hSw.1.cells6; have hcd := hSw.2.cells4; go_split_ands; first | (go_simp; done) | (go_simp; rfl) | rfl
  simp only [Act.put, List.getElem_toArray, List.getElem_cons_zero, List.setIfInBounds_toArray, List.set_cons_zero, List.set_cons_succ]
  refine wpAnyT_take (i := 1) (v := ?_) rfl (by kernel_rfl) (by kernel_rfl) (by kernel_rfl) (by kernel_rfl) (fun _ _ _ h => h) (takes_yield rfl (Or.inl ⟨by rfl, ?_⟩)) (by assumption) (by kernel_rfl) ?_
  rotate_left 1
  · intro w' hSw; have hcw := hSw.1.cells6; have hcd := hSw.2.cells4; go_split_ands; first | (go_simp; done) | (go_simp; rfl) | rfl
  simp only [Act.put, List.getElem_toArray, List.getElem_cons_zero, List.getElem_cons_succ, List.setIfInBounds_toArray, List.set_cons_zero, List.set_cons_succ]
  refine wpAnyT_one (i := 2) (by kernel_rfl) rfl (fun K hK => ?_)
  refine step_store_all (by rfl) 61 _ _ (by rfl) (w.heap.size + 1 + 1) #[.int .i64 (f : Int), .string (str t), .int .u64 (g : Int), .int .i64 (a : Int), .int .u64 18446744073709551615, .bool false] (by rfl) (by rfl) _ _ HP.out.res1.drew rfl (by simp [Value.oneCell']) (by kernel_rfl) ?_
  intro w4 hB4 hU4 hs4
  have hS4 := And.intro (hS0.1.upd hU4 (by omega)) (hS0.2.upd hU4 (by omega))
  refine hK.out _ _ hS4 ?_
  clear hK
  refine wpAnyT_one (i := 3) (by kernel_rfl) rfl (fun K hK => ?_)
  refine step_store_all (by rfl) 33 _ _ (by rfl) (w.heap.size + 1 + 1 + 1) #[vl, vw, .int .i64 r.fuse, .bool r.off] (by rfl) (by rfl) _ _ (HP.out.res2.drew.upd hU4 (by omega)) rfl (rdrow_one r HP.out.left.at_) (by kernel_rfl) ?_
  intro w5 hB5 hU5 hs5
  have hS5 := And.intro (hS4.1.upd hU5 (by omega)) (hS4.2.upd hU5 (by omega))
  refine hK.out _ _ hS5 ?_
  have hl := (HP.out.still (Upd.refl _ w3).drew).ends hB4 hU4 hB5 hU5
  have HE := Lib.hid (And.intro (hB4.upd hU5 (by omega)) (And.intro hB5 hl))
  clear hK hS0 hS4 hl hB4 hU4 hs4 hB5 hU5 hs5
  refine wpAnyT_take (i := 4) (v := ?_) rfl (by kernel_rfl) (by kernel_rfl) (by kernel_rfl) (by kernel_rfl) (fun _ _ _ h => h) (takes_yield rfl (Or.inl ⟨by rfl, ?_⟩)) (by assumption) (by kernel_rfl) ?_
  rotate_left 1
  · intro w' hSw; go_split_ands; first | (go_simp; done) | (go_simp; rfl) | rfl
  simp only [Act.put, List.getElem_toArray, List.getElem_cons_zero, List.getElem_cons_succ, List.setIfInBounds_toArray, List.set_cons_zero, List.set_cons_succ]
  refine wpAnyT_done (by kernel_rfl) ?_ _
  refine NoPanic.normal ?_
  go_wp2_with fail
  refine bodyPost_ret (results_cells2_slot rfl _ _ (w.heap.size + 1 + 1) (w.heap.size + 1 + 1 + 1) _ _ _ _ _ _ _ _ rfl HE.out.1 rfl HE.out.2.1 Tryz.underlying61 rfl rfl Tryz.underlying33 rfl rfl (.int .i64 6) rfl) rfl ⟨rfl, HE.out.2.2⟩
end
end Go.Proofs.YtpfbgmfkeofefaaGreat

/-
  The document's records of chapter 09: Put that is not refused. (Printed by mk_ref9.py.)
-/
namespace Go.Proofs.YtpfbgmfkeofefaaGreat
open Go Go.RowKit

/-- The document's disk is put into its box. -/
theorem Puts9.box {w wa wx wy : World} {vl vw vw' vw2 : Value} {r' r2 : Rd} {k' : Kp} {g2 : Nat} (h : Puts9 w wa vl vw vl vw' r' k') (hW : Wrote9 wa wx vl vw' vw2 r2 g2) (hB : Blk wy (w.heap.size + 1) 33 #[vl, vw2, .int .i64 r2.fuse, .bool r2.off]) (hU : Upd (· = w.heap.size + 1) wx wy) : Puts9 w wy vl vw vl vw2 r2 k' := by
  have h2 := h.still hW.left.upd
  refine ⟨(h.left.trans hW.left).store hU (fun q hq e => hW.left.at_.ne h2.disk (by decide) (by decide) (e ▸ hq)) (by omega), h2.kept.upd hU (by omega), hB, h2.res1.upd hU (by omega), h2.res2.upd hU (by omega)⟩
section
variable {w : World} {vl vw : Value} {r : Rd}
set_option maxRecDepth 100000 in
set_option maxHeartbeats 6400000 in
theorem refPut_goes (h : RdAt w vl vw r) (hf : r.fits) (f : Nat) (t : List UInt8) (g a se : Nat) (s : ByteArray) (hs : s.size ≤ 400) (hse : se < 18446744073709551615) (ha : a ≤ 1) (hff : f ≤ 4096) (hp : r.ws.length + 20 ≤ 1000000) :
    Calls Tryz.prog 22 #[.agg #[.int .i64 (f : Int), .string (str t), .int .u64 (g : Int), .int .i64 (a : Int), .int .u64 (se : Int), .bool false], .agg #[vl, vw, .int .i64 r.fuse, .bool r.off], .string s] w fun e w' =>
      ∃ vl' vw', e = .returned (.tuple #[.agg (putR r ⟨f, t, g, a, se, false⟩ s.data.toList).2.1.row, .agg #[vl', vw', .int .i64 (putR r ⟨f, t, g, a, se, false⟩ s.data.toList).1.fuse, .bool (putR r ⟨f, t, g, a, se, false⟩ s.data.toList).1.off], .int .i64 (putR r ⟨f, t, g, a, se, false⟩ s.data.toList).2.2]) ∧ RdLeft w w' vl vw vl' vw' (putR r ⟨f, t, g, a, se, false⟩ s.data.toList).1 := by
  have hlen : s.data.toList.length = s.size := by simp
  obtain ⟨R, hR⟩ : ∃ R, putR r ⟨f, t, g, a, se, false⟩ s.data.toList = R := ⟨_, rfl⟩
  rw [hR]
  obtain ⟨n, hn⟩ : ∃ n, allOf s.size = n := ⟨_, rfl⟩
  obtain ⟨A, hA⟩ : ∃ A, f + (1 - a) * 10 = A := ⟨_, rfl⟩
  have hRv : R = if (writeNR r A (cutL s.data.toList (se + 1)) n).2 ≠ 0 then ((writeNR r A (cutL s.data.toList (se + 1)) n).1, ⟨f, t, g, a, se, true⟩, (writeNR r A (cutL s.data.toList (se + 1)) n).2) else
      if (writeNR r A (cutL s.data.toList (se + 1)) n).1.sync.2 ≠ 0 then ((writeNR r A (cutL s.data.toList (se + 1)) n).1.sync.1, ⟨f, t, g, a, se, true⟩, (writeNR r A (cutL s.data.toList (se + 1)) n).1.sync.2) else
      ((writeNR r A (cutL s.data.toList (se + 1)) n).1.sync.1, ⟨f, s.data.toList, se + 1, 1 - a, se + 1, false⟩, 0) := by
    rw [← hR]
    unfold putR
    simp only [hlen, hn, hA]
    rw [if_neg (by simp), if_neg (by omega), if_neg (by omega)]
  have HRv := Lib.hid hRv
  have hn1 : 1 ≤ n := by rw [← hn]; unfold allOf; omega
  have hn9 : n ≤ 9 := by rw [← hn]; exact allOf_le9 hs
  have hsec : ∀ W, _ := fun W => refSectors_c s (se + 1) W (by omega)
  rw [hn] at hsec
  have HSec := Lib.hid hsec
  have HLn : Hid (((cutL s.data.toList (se + 1)).map Pt.secR).length = n) := by
    show _ = _
    rw [List.length_map, cutL_len, hlen, hn]
  clear hRv hR hn hsec hlen
  have hHA : (f : Int) + 10 * (1 - (a : Int)) = (A : Int) := by rw [← hA]; omega
  have HA := Lib.hid hHA
  have hA2 : A ≤ 4200 := by omega
  clear hA hHA
  obtain ⟨w3, hw3⟩ : ∃ w3, (((w.alloc (.cells #[.int .i64 (f : Int), .string (str t), .int .u64 (g : Int), .int .i64 (a : Int), .int .u64 (se : Int), .bool false] 61)).alloc (.cells #[vl, vw, .int .i64 r.fuse, .bool r.off] 33)).alloc (.cells zeroKp 61)).alloc (.cells zeroRd 33) = w3 := ⟨_, rfl⟩
  obtain ⟨hU3, b1, b2, b3, b4, hsz⟩ := four_new w3 hw3
  have HP : Hid (Puts9 w w3 vl vw vl vw r ⟨f, t, g, a, se, false⟩) := Lib.hid ⟨(RdLeft.refl h).post hU3, b1, b2, b3, b4⟩
  have hc3 := b1.cells6
  have Hw := Lib.hid hw3
  have Hf := Lib.hid hf
  have hws : Hid (r.ws.length + 20 ≤ 1000000) := hp
  clear hU3 b1 b2 b3 b4 hsz hw3 h hf hp
  have hs1 : ((se : Int) + 1) = ((se + 1 : Nat) : Int) := by omega
  have Hs1 := Lib.hid hs1
  clear hs1
  go_enter Tryz.func22, Tryz.ntmps22
  go_upto_region 1 with fail
  rw [Hw.out]
  clear Hw
  go_wp2_with fail
  rw [Hs1.out]
  refine (HSec.out _).mono ?_
  rintro e w4 ⟨v9, rfl, hG⟩
  obtain ⟨g9, cap9, rfl, -, -⟩ := hG.own.head (by omega)
  have HP4 := Lib.hid (HP.out.still hG.upd)
  have HG := Lib.hid hG
  have hc4 := HP4.out.kept.cells6
  have hf4 := HP4.out.kept.frozen 5
  clear hG hc3 HP
  go_upto_region 10 with fail
  have hU5 : Upd (· = w.heap.size) w4 (w4.setCell ⟨w.heap.size, 5, none⟩ (.bool true)) := (Upd.refl (· = w.heap.size) w4).setCell (p := ⟨w.heap.size, 5, none⟩) (.inl rfl) _
  have hk5 := HP4.out.kept.set_ 5 (.bool true)
  obtain ⟨w5, hw5⟩ : ∃ w5, w4.setCell ⟨w.heap.size, 5, none⟩ (.bool true) = w5 := ⟨_, rfl⟩
  rw [hw5] at hU5 hk5 ⊢
  have HP5 : Hid (Puts9 w w5 vl vw vl vw r ⟨f, t, g, a, se, true⟩) := Lib.hid ⟨HP4.out.left.store hU5 (fun q hq e => HP4.out.left.at_.ne HP4.out.kept (by decide) (by decide) (e ▸ hq)) (Nat.le_refl _), by simp at hk5; exact hk5, HP4.out.disk.upd hU5 (by omega), HP4.out.res1.upd hU5 (by omega), HP4.out.res2.upd hU5 (by omega)⟩
  have HO5 : Hid (Own w5 9 1 (.slice (some ⟨g9, 0, none⟩) n cap9) n (strs ((cutL s.data.toList (se + 1)).map Pt.secR))) := Lib.hid (HG.out.own.upd hU5 (fun q hq e => HG.out.own.ne_blk HP4.out.kept (by decide) (e ▸ hq)))
  clear hU5 hk5 hw5 hc4 hf4 HP4 HG
  go_wp2_with fail
  go_loopw [10, 11, 12] (fun i _ _ wr => ∃ (j : Nat) (vw' : Value) (r' : Rd), j ≤ n ∧ i = .int .i64 (j : Int) ∧ writeNR r A (cutL s.data.toList (se + 1)) j = (r', 0) ∧ r'.fits ∧ r'.ws.length ≤ r.ws.length + j ∧ Puts9 w wr vl vw vl vw' r' ⟨f, t, g, a, se, true⟩ ∧ Own wr 9 1 (.slice (some ⟨g9, 0, none⟩) n cap9) n (strs ((cutL s.data.toList (se + 1)).map Pt.secR))) (fun i _ _ _ => n - (intOf i).toNat)
  case atStart => exact ⟨0, vw, r, by omega, rfl, rfl, Hf.out, Nat.le_refl _, HP5.out, HO5.out⟩
  case round =>
    rename World => wa
    obtain ⟨j, vw', r', hj, rfl, hwn, hfit, hwl, hPu, hOw⟩ := hrel
    have H := Lib.hid hPu
    have HO := Lib.hid hOw
    clear hPu hOw HP5 HO5
    by_cases hlt : j < n
    · have hjl : j < ((cutL s.data.toList (se + 1)).map Pt.secR).length := by rw [HLn.out]; exact hlt
      obtain ⟨b, hb⟩ : ∃ b, ((cutL s.data.toList (se + 1)).map Pt.secR)[j]'hjl = b := ⟨_, rfl⟩
      have hsecj : ((cutL s.data.toList (se + 1)).getD j ⟨0, 0, 0, []⟩).sec = b := by
        rw [← hb, List.getElem_map, List.getD_eq_getElem?_getD, List.getElem?_eq_getElem (by simpa using hjl)]
        rfl
      have HCl : Hid (∀ w', Upd (fun _ => False) wa w' → w'.cell? ⟨g9, j, none⟩ = some (.string b)) := by
        show ∀ w', _
        intro w' hu
        rw [(HO.out.upd hu (fun _ _ e => e)).cellAt j (by omega), strs_get, List.getElem?_eq_getElem hjl, hb]
        rfl
      obtain ⟨Wr, hWr⟩ : ∃ Wr, r'.write ((A + j : Nat) : Int) b = Wr := ⟨_, rfl⟩
      have hnext : writeNR r A (cutL s.data.toList (se + 1)) (j + 1) = Wr := by
        rw [writeNR, hwn, if_neg (by simp), hsecj, hWr]
      obtain ⟨hfit2, hwl2⟩ := hfit.write ((A + j : Nat) : Int) b (by have := hws.out; omega)
      rw [hWr] at hfit2 hwl2
      have hdo0 : ∀ W, Upd (fun _ => False) wa W → Calls Tryz.prog 16 #[.agg #[vl, vw', .int .i64 r'.fuse, .bool r'.off], .int .i64 ((f : Int) + 10 * (1 - (a : Int)) + (j : Int)), .string b] W fun e w' => ∃ vw2, e = .returned (.tuple #[.agg #[vl, vw2, .int .i64 Wr.1.fuse, .bool Wr.1.off], .int .i64 Wr.2]) ∧ RdLeft W w' vl vw' vl vw2 Wr.1 := fun W hW => by
        rw [HA.out, show ((A : Int) + (j : Int)) = ((A + j : Nat) : Int) by omega, ← hWr]
        exact rwrite_c (H.out.left.at_.upd hW) hfit _ b (by have := hws.out; omega)
      obtain ⟨r2, err⟩ := Wr
      simp only at hfit2 hwl2 hdo0
      have hdo := Lib.hid hdo0
      have HN := Lib.hid (And.intro hnext (And.intro hfit2 (show r2.ws.length ≤ r.ws.length + (j + 1) by omega)))
      clear hb hsecj hWr hnext hfit2 hwl2 hdo0 hjl hwn hfit hwl
      have hw1 : IntKind.i64.wrap (1 - (a : Int)) = 1 - (a : Int) := IntWalk.i64_in _ (by omega)
      have hw2 : IntKind.i64.wrap (10 * (1 - (a : Int))) = 10 * (1 - (a : Int)) := IntWalk.i64_in _ (by omega)
      have hw3 : IntKind.i64.wrap ((f : Int) + 10 * (1 - (a : Int))) = (f : Int) + 10 * (1 - (a : Int)) := IntWalk.i64_in _ (by omega)
      have hw4 : IntKind.i64.wrap ((f : Int) + 10 * (1 - (a : Int)) + (j : Int)) = (f : Int) + 10 * (1 - (a : Int)) + (j : Int) := IntWalk.i64_in _ (by omega)
      go_upto_region 12 with fail
      go_cut [11, 12] from 34 to 63 (fun t11 t12 wx => ∃ (g2 : Nat) (vw2 : Value), t11 = .pointer (some ⟨g2, 0, none⟩) ∧ t12 = .int .i64 err ∧ Wrote9 wa wx vl vw' vw2 r2 g2)
      case first =>
        refine wp_region_noPanic ?_
        refine wp_region_T (S := fun w' => Upd (fun _ => False) wa w') (T := fun _ => false) (by kernel_rfl) ?_
        have hS0 : Upd (fun _ => False) wa wa.drew := (Upd.refl _ _).drew
        refine wpAnyT_take (i := 0) (v := ?_) rfl (by kernel_rfl) (by kernel_rfl) (by kernel_rfl) (by kernel_rfl) (fun _ _ _ h => h) (takes_yield rfl (Or.inl ⟨by rfl, ?_⟩)) (by assumption) (by kernel_rfl) ?_
        rotate_left 1
        · intro w' hSw; have hcw := (H.out.kept.upd hSw (fun e => e)).cells6; have hcd := (H.out.disk.upd hSw (fun e => e)).cells4; have hcl := HCl.out w' hSw; go_split_ands; first | (go_simp; done) | (go_simp; rfl) | rfl
        simp only [Act.put, List.getElem_toArray, List.getElem_cons_zero, List.setIfInBounds_toArray, List.set_cons_zero, List.set_cons_succ]
        refine wpAnyT_take (i := 1) (v := ?_) rfl (by kernel_rfl) (by kernel_rfl) (by kernel_rfl) (by kernel_rfl) (fun _ _ _ h => h) (takes_yield rfl (Or.inl ⟨by rfl, ?_⟩)) (by assumption) (by kernel_rfl) ?_
        rotate_left 1
        · intro w' hSw; have hcw := (H.out.kept.upd hSw (fun e => e)).cells6; have hcd := (H.out.disk.upd hSw (fun e => e)).cells4; have hcl := HCl.out w' hSw; go_split_ands; first | (go_simp; done) | (go_simp; rfl) | rfl
        simp only [Act.put, List.getElem_toArray, List.getElem_cons_zero, List.getElem_cons_succ, List.setIfInBounds_toArray, List.set_cons_zero, List.set_cons_succ]
        refine wpAnyT_take (i := 2) (v := ?_) rfl (by kernel_rfl) (by kernel_rfl) (by kernel_rfl) (by kernel_rfl) (fun _ _ _ h => h) (takes_yield rfl (Or.inl ⟨by rfl, ?_⟩)) (by assumption) (by kernel_rfl) ?_
        rotate_left 1
        · intro w' hSw; have hcw := (H.out.kept.upd hSw (fun e => e)).cells6; have hcd := (H.out.disk.upd hSw (fun e => e)).cells4; have hcl := HCl.out w' hSw; go_split_ands; first | (go_simp; done) | (go_simp; rfl) | rfl
        simp only [Act.put, List.getElem_toArray, List.getElem_cons_zero, List.getElem_cons_succ, List.setIfInBounds_toArray, List.set_cons_zero, List.set_cons_succ]
        refine wpAnyT_take (i := 3) (v := ?_) rfl (by kernel_rfl) (by kernel_rfl) (by kernel_rfl) (by kernel_rfl) (fun _ _ _ h => h) (takes_yield rfl (Or.inl ⟨by rfl, ?_⟩)) (by assumption) (by kernel_rfl) ?_
        rotate_left 1
        · intro w' hSw; have hcw := (H.out.kept.upd hSw (fun e => e)).cells6; have hcd := (H.out.disk.upd hSw (fun e => e)).cells4; have hcl := HCl.out w' hSw; go_split_ands; first | (go_simp; done) | (go_simp; rfl) | rfl
        simp only [Act.put, List.getElem_toArray, List.getElem_cons_zero, List.getElem_cons_succ, List.setIfInBounds_toArray, List.set_cons_zero, List.set_cons_succ]
        refine wpAnyT_take (i := 4) (v := ?_) rfl (by kernel_rfl) (by kernel_rfl) (by kernel_rfl) (by kernel_rfl) (fun _ _ _ h => h) (takes_yield rfl (Or.inl ⟨by rfl, ?_⟩)) (by assumption) (by kernel_rfl) ?_
        rotate_left 1
        · intro w' hSw; have hcw := (H.out.kept.upd hSw (fun e => e)).cells6; have hcd := (H.out.disk.upd hSw (fun e => e)).cells4; have hcl := HCl.out w' hSw; go_split_ands; first | (go_simp; done) | (go_simp; rfl) | rfl
        simp only [Act.put, List.getElem_toArray, List.getElem_cons_zero, List.getElem_cons_succ, List.setIfInBounds_toArray, List.set_cons_zero, List.set_cons_succ]
        refine wpAnyT_take (i := 5) (v := ?_) rfl (by kernel_rfl) (by kernel_rfl) (by kernel_rfl) (by kernel_rfl) (fun _ _ _ h => h) (takes_yield rfl (Or.inl ⟨by rfl, ?_⟩)) (by assumption) (by kernel_rfl) ?_
        rotate_left 1
        · intro w' hSw; have hcw := (H.out.kept.upd hSw (fun e => e)).cells6; have hcd := (H.out.disk.upd hSw (fun e => e)).cells4; have hcl := HCl.out w' hSw; go_split_ands; first | (go_simp; done) | (go_simp; rfl) | rfl
        simp only [Act.put, List.getElem_toArray, List.getElem_cons_zero, List.getElem_cons_succ, List.setIfInBounds_toArray, List.set_cons_zero, List.set_cons_succ]
        refine wpAnyT_take (i := 6) (v := ?_) rfl (by kernel_rfl) (by kernel_rfl) (by kernel_rfl) (by kernel_rfl) (fun _ _ _ h => h) (takes_yield rfl (Or.inl ⟨by rfl, ?_⟩)) (by assumption) (by kernel_rfl) ?_
        rotate_left 1
        · intro w' hSw; have hcw := (H.out.kept.upd hSw (fun e => e)).cells6; have hcd := (H.out.disk.upd hSw (fun e => e)).cells4; have hcl := HCl.out w' hSw; go_split_ands; first | (go_simp; done) | (go_simp; rfl) | rfl
        simp only [Act.put, List.getElem_toArray, List.getElem_cons_zero, List.getElem_cons_succ, List.setIfInBounds_toArray, List.set_cons_zero, List.set_cons_succ]
        refine wpAnyT_take (i := 7) (v := ?_) rfl (by kernel_rfl) (by kernel_rfl) (by kernel_rfl) (by kernel_rfl) (fun _ _ _ h => h) (takes_yield rfl (Or.inl ⟨by rfl, ?_⟩)) (by assumption) (by kernel_rfl) ?_
        rotate_left 1
        · intro w' hSw; have hcw := (H.out.kept.upd hSw (fun e => e)).cells6; have hcd := (H.out.disk.upd hSw (fun e => e)).cells4; have hcl := HCl.out w' hSw; go_split_ands; first | (go_simp; done) | (go_simp; rfl) | rfl
        simp only [Act.put, List.getElem_toArray, List.getElem_cons_zero, List.getElem_cons_succ, List.setIfInBounds_toArray, List.set_cons_zero, List.set_cons_succ]
        refine wpAnyT_take (i := 8) (v := ?_) rfl (by kernel_rfl) (by kernel_rfl) (by kernel_rfl) (by kernel_rfl) (fun _ _ _ h => h) (takes_yield rfl (Or.inl ⟨by rfl, ?_⟩)) (by assumption) (by kernel_rfl) ?_
        rotate_left 1
        · intro w' hSw; have hcw := (H.out.kept.upd hSw (fun e => e)).cells6; have hcd := (H.out.disk.upd hSw (fun e => e)).cells4; have hcl := HCl.out w' hSw; go_split_ands; first | (go_simp; done) | (go_simp; rfl) | rfl
        simp only [Act.put, List.getElem_toArray, List.getElem_cons_zero, List.getElem_cons_succ, List.setIfInBounds_toArray, List.set_cons_zero, List.set_cons_succ]
        refine wpAnyT_take (i := 9) (v := ?_) rfl (by kernel_rfl) (by kernel_rfl) (by kernel_rfl) (by kernel_rfl) (fun _ _ _ h => h) (takes_yield rfl (Or.inl ⟨by rfl, ?_⟩)) (by assumption) (by kernel_rfl) ?_
        rotate_left 1
        · intro w' hSw; have hcw := (H.out.kept.upd hSw (fun e => e)).cells6; have hcd := (H.out.disk.upd hSw (fun e => e)).cells4; have hcl := HCl.out w' hSw; go_split_ands; first | (go_simp; done) | (go_simp; rfl) | rfl
        simp only [Act.put, List.getElem_toArray, List.getElem_cons_zero, List.getElem_cons_succ, List.setIfInBounds_toArray, List.set_cons_zero, List.set_cons_succ]
        refine wpAnyT_take (i := 10) (v := ?_) rfl (by kernel_rfl) (by kernel_rfl) (by kernel_rfl) (by kernel_rfl) (fun _ _ _ h => h) (takes_yield rfl (Or.inl ⟨by rfl, ?_⟩)) (by assumption) (by kernel_rfl) ?_
        rotate_left 1
        · intro w' hSw; have hcw := (H.out.kept.upd hSw (fun e => e)).cells6; have hcd := (H.out.disk.upd hSw (fun e => e)).cells4; have hcl := HCl.out w' hSw; go_split_ands; first | (go_simp; done) | (go_simp; rfl) | rfl
        simp only [Act.put, List.getElem_toArray, List.getElem_cons_zero, List.getElem_cons_succ, List.setIfInBounds_toArray, List.set_cons_zero, List.set_cons_succ]
        refine wpAnyT_take (i := 11) (v := ?_) rfl (by kernel_rfl) (by kernel_rfl) (by kernel_rfl) (by kernel_rfl) (fun _ _ _ h => h) (takes_yield rfl (Or.inl ⟨by rfl, ?_⟩)) (by assumption) (by kernel_rfl) ?_
        rotate_left 1
        · intro w' hSw; have hcw := (H.out.kept.upd hSw (fun e => e)).cells6; have hcd := (H.out.disk.upd hSw (fun e => e)).cells4; have hcl := HCl.out w' hSw; go_split_ands; first | (go_simp; done) | (go_simp; rfl) | rfl
        simp only [Act.put, List.getElem_toArray, List.getElem_cons_zero, List.getElem_cons_succ, List.setIfInBounds_toArray, List.set_cons_zero, List.set_cons_succ]
        refine wpAnyT_take (i := 12) (v := ?_) rfl (by kernel_rfl) (by kernel_rfl) (by kernel_rfl) (by kernel_rfl) (fun _ _ _ h => h) (takes_yield rfl (Or.inl ⟨by rfl, ?_⟩)) (by assumption) (by kernel_rfl) ?_
        rotate_left 1
        · intro w' hSw; have hcw := (H.out.kept.upd hSw (fun e => e)).cells6; have hcd := (H.out.disk.upd hSw (fun e => e)).cells4; have hcl := HCl.out w' hSw; go_split_ands; first | (go_simp; done) | (go_simp; rfl) | rfl
        simp only [Act.put, List.getElem_toArray, List.getElem_cons_zero, List.getElem_cons_succ, List.setIfInBounds_toArray, List.set_cons_zero, List.set_cons_succ]
        refine wpAnyT_take (i := 13) (v := ?_) rfl (by kernel_rfl) (by kernel_rfl) (by kernel_rfl) (by kernel_rfl) (fun _ _ _ h => h) (takes_yield rfl (Or.inl ⟨by rfl, ?_⟩)) (by assumption) (by kernel_rfl) ?_
        rotate_left 1
        · intro w' hSw; have hcw := (H.out.kept.upd hSw (fun e => e)).cells6; have hcd := (H.out.disk.upd hSw (fun e => e)).cells4; have hcl := HCl.out w' hSw; go_split_ands; first | (go_simp; done) | (go_simp; rfl) | rfl
        simp only [Act.put, List.getElem_toArray, List.getElem_cons_zero, List.getElem_cons_succ, List.setIfInBounds_toArray, List.set_cons_zero, List.set_cons_succ]
        refine wpAnyT_two (i := 14) (j := 18) (by kernel_rfl) rfl rfl (fun K hK => ?_) (fun K hK => ?_)
        · skip
          go_simp
          refine (hdo.out _ (Upd.refl _ _).drew).mono ?_
          rintro e w6 ⟨vw2, rfl, hL⟩
          have hS6 := hS0.then hL.upd (fun _ e => e.elim)
          refine hK.out _ _ hS6 ?_
          have HL := Lib.hid hL
          clear hK hS0 hL
          refine wpAnyT_take (i := 15) (v := ?_) rfl (by kernel_rfl) (by kernel_rfl) (by kernel_rfl) (by kernel_rfl) (fun _ _ _ h => h) (takes_yield rfl (Or.inl ⟨by rfl, ?_⟩)) (by assumption) (by kernel_rfl) ?_
          rotate_left 1
          · intro w' hSw; go_split_ands; first | (go_simp; done) | (go_simp; rfl) | rfl
          simp only [Act.put, List.getElem_toArray, List.getElem_cons_zero, List.getElem_cons_succ, List.setIfInBounds_toArray, List.set_cons_zero, List.set_cons_succ]
          refine wpAnyT_take (i := 16) (v := ?_) rfl (by kernel_rfl) (by kernel_rfl) (by kernel_rfl) (by kernel_rfl) (fun _ _ _ h => h) (takes_yield rfl (Or.inl ⟨by rfl, ?_⟩)) (by assumption) (by kernel_rfl) ?_
          rotate_left 1
          · intro w' hSw; go_split_ands; first | (go_simp; done) | (go_simp; rfl) | rfl
          simp only [Act.put, List.getElem_toArray, List.getElem_cons_zero, List.getElem_cons_succ, List.setIfInBounds_toArray, List.set_cons_zero, List.set_cons_succ]
          refine wpAnyT_take (i := 17) (v := ?_) rfl (by kernel_rfl) (by kernel_rfl) (by kernel_rfl) (by kernel_rfl) (fun _ _ _ h => h) (takes_yield rfl (Or.inl ⟨by rfl, ?_⟩)) (by assumption) (by kernel_rfl) ?_
          rotate_left 1
          · intro w' hSw; go_split_ands; first | (go_simp; done) | (go_simp; rfl) | rfl
          simp only [Act.put, List.getElem_toArray, List.getElem_cons_zero, List.getElem_cons_succ, List.setIfInBounds_toArray, List.set_cons_zero, List.set_cons_succ]
          refine wpAnyT_one (i := 18) (by kernel_rfl) rfl (fun K hK => ?_)
          go_simp
          have hS7 := hS6.alloc (.cells zeroRd 33)
          refine hK.out _ _ hS7 ?_
          clear hK
          refine wpAnyT_one (i := 19) (by kernel_rfl) rfl (fun K hK => ?_)
          refine step_store_all (by rfl) 33 _ _ (by rfl) w6.heap.size #[vl, vw2, .int .i64 r2.fuse, .bool r2.off] (by rfl) (by rfl) _ _ (Blk.new w6 _ _) rfl (rdrow_one r2 HL.out.at_) (by kernel_rfl) ?_
          intro wz hBz hUz hsz
          have hge : wa.heap.size ≤ w6.heap.size := hS6.size
          have hSz := hS7.then hUz (fun q e => .inr (by omega))
          refine hK.out _ _ hSz ?_
          have hLz := ((HL.out.pre ((Upd.refl _ wa).drew)).post ((Upd.refl _ w6).alloc (.cells zeroRd 33))).store hUz (fun q hq e => by rcases hq with c | c; exact absurd (HL.out.at_.lasts.lt c) (by omega); exact absurd (HL.out.at_.ws.lt c) (by omega)) hge
          have HZ := Lib.hid (show Wrote9 wa wz vl vw' vw2 r2 w6.heap.size from ⟨hBz, hLz⟩)
          clear hK hBz hUz hsz hLz hS7 hS6
          refine wpAnyT_take (i := 20) (v := ?_) rfl (by kernel_rfl) (by kernel_rfl) (by kernel_rfl) (by kernel_rfl) (fun _ _ _ h => h) (takes_yield rfl (Or.inl ⟨by rfl, ?_⟩)) (by assumption) (by kernel_rfl) ?_
          rotate_left 1
          · intro w' hSw; go_split_ands; first | (go_simp; done) | (go_simp; rfl) | rfl
          simp only [Act.put, List.getElem_toArray, List.getElem_cons_zero, List.getElem_cons_succ, List.setIfInBounds_toArray, List.set_cons_zero, List.set_cons_succ]
          refine wpAnyT_done (by kernel_rfl) ?_ _
          refine NoPanic.normal ?_
          go_wp2_with fail
          go_meet
          exact ⟨_, vw2, rfl, rfl, HZ.out⟩
        · skip
          go_simp
          have hS5 := hS0.alloc (.cells zeroRd 33)
          refine hK.out _ _ hS5 ?_
          clear hK
          refine wpAnyT_one (i := 14) (by kernel_rfl) rfl (fun K hK => ?_)
          go_simp
          refine (hdo.out _ hS5).mono ?_
          rintro e w6 ⟨vw2, rfl, hL⟩
          have hS6 := hS5.then hL.upd (fun _ e => e.elim)
          refine hK.out _ _ hS6 ?_
          have hBn := (Blk.new wa.drew 33 zeroRd).upd hL.upd (fun e => e)
          have HL := Lib.hid (And.intro hL hBn)
          clear hK hL hBn
          refine wpAnyT_take (i := 15) (v := ?_) rfl (by kernel_rfl) (by kernel_rfl) (by kernel_rfl) (by kernel_rfl) (fun _ _ _ h => h) (takes_yield rfl (Or.inl ⟨by rfl, ?_⟩)) (by assumption) (by kernel_rfl) ?_
          rotate_left 1
          · intro w' hSw; go_split_ands; first | (go_simp; done) | (go_simp; rfl) | rfl
          simp only [Act.put, List.getElem_toArray, List.getElem_cons_zero, List.getElem_cons_succ, List.setIfInBounds_toArray, List.set_cons_zero, List.set_cons_succ]
          refine wpAnyT_take (i := 16) (v := ?_) rfl (by kernel_rfl) (by kernel_rfl) (by kernel_rfl) (by kernel_rfl) (fun _ _ _ h => h) (takes_yield rfl (Or.inl ⟨by rfl, ?_⟩)) (by assumption) (by kernel_rfl) ?_
          rotate_left 1
          · intro w' hSw; go_split_ands; first | (go_simp; done) | (go_simp; rfl) | rfl
          simp only [Act.put, List.getElem_toArray, List.getElem_cons_zero, List.getElem_cons_succ, List.setIfInBounds_toArray, List.set_cons_zero, List.set_cons_succ]
          refine wpAnyT_take (i := 17) (v := ?_) rfl (by kernel_rfl) (by kernel_rfl) (by kernel_rfl) (by kernel_rfl) (fun _ _ _ h => h) (takes_yield rfl (Or.inl ⟨by rfl, ?_⟩)) (by assumption) (by kernel_rfl) ?_
          rotate_left 1
          · intro w' hSw; go_split_ands; first | (go_simp; done) | (go_simp; rfl) | rfl
          simp only [Act.put, List.getElem_toArray, List.getElem_cons_zero, List.getElem_cons_succ, List.setIfInBounds_toArray, List.set_cons_zero, List.set_cons_succ]
          refine wpAnyT_one (i := 19) (by kernel_rfl) rfl (fun K hK => ?_)
          refine step_store_all (by rfl) 33 _ _ (by rfl) wa.drew.heap.size #[vl, vw2, .int .i64 r2.fuse, .bool r2.off] (by rfl) (by rfl) _ _ HL.out.2 rfl (rdrow_one r2 HL.out.1.at_) (by kernel_rfl) ?_
          intro wz hBz hUz hsz
          have hSz := hS6.then hUz (fun q e => .inr (by rw [e]; exact Nat.le_refl _))
          refine hK.out _ _ hSz ?_
          have hLz := (HL.out.1.pre hS5).store hUz (fun q hq e => HL.out.1.at_.ne HL.out.2 (by decide) (by decide) (e ▸ hq)) (Nat.le_refl _)
          have HZ := Lib.hid (show Wrote9 wa wz vl vw' vw2 r2 wa.drew.heap.size from ⟨hBz, hLz⟩)
          clear hK hBz hUz hsz hLz hS6
          refine wpAnyT_take (i := 20) (v := ?_) rfl (by kernel_rfl) (by kernel_rfl) (by kernel_rfl) (by kernel_rfl) (fun _ _ _ h => h) (takes_yield rfl (Or.inl ⟨by rfl, ?_⟩)) (by assumption) (by kernel_rfl) ?_
          rotate_left 1
          · intro w' hSw; go_split_ands; first | (go_simp; done) | (go_simp; rfl) | rfl
          simp only [Act.put, List.getElem_toArray, List.getElem_cons_zero, List.getElem_cons_succ, List.setIfInBounds_toArray, List.set_cons_zero, List.set_cons_succ]
          refine wpAnyT_done (by kernel_rfl) ?_ _
          refine NoPanic.normal ?_
          go_wp2_with fail
          go_meet
          exact ⟨_, vw2, rfl, rfl, HZ.out⟩
      case rest =>
        obtain ⟨g2, vw2, rfl, rfl, hW⟩ := hcut
        have HW := Lib.hid hW
        clear hW hw1 hw2 hw3 hw4
        go_upto_region 13 with fail
        go_upto_region 14 with (first
          | (refine wpList_load_all rfl _ _ rfl g2 rfl _ _ _ HW.out.blk Tryz.underlying33 rfl rfl ?_)
          | (refine wpList_store_all rfl 33 _ _ rfl (w.heap.size + 1) #[vl, vw2, .int .i64 r2.fuse, .bool r2.off] rfl rfl _ _ (H.out.disk.upd HW.out.left.upd (fun e => e)) rfl (rdrow_one r2 HW.out.left.at_) (by kernel_rfl) ?_
             intro wy hBy hUy hsy))
        have HPy := Lib.hid (H.out.box HW.out hBy hUy)
        have HOy := Lib.hid ((HO.out.upd HW.out.left.upd (fun _ _ e => e)).upd hUy (fun q hq e => HO.out.ne_blk H.out.disk (by decide) (e ▸ hq)))
        clear hBy hUy hsy
        by_cases he : err = 0
        · subst he
          go_wp2_with fail
          go_roundw
          case rel => exact ⟨j + 1, vw2, r2, by omega, by go_num, HN.out.1, HN.out.2.1, HN.out.2.2, HPy.out, HOy.out⟩
          case measure => simp only [intOf]; omega
        · have hne : (err != 0) = true := bne_iff_ne.2 he
          have hst := writeNR_stop (m := n) (by rw [HN.out.1]; exact he) (show j + 1 ≤ n by omega)
          rw [HN.out.1] at hst
          obtain rfl : R = (r2, ⟨f, t, g, a, se, true⟩, err) := by rw [HRv.out, hst, if_pos he]
          clear he hst
          go_upto_region 15 with fail
          refine wp_region_noPanic ?_
          refine wp_region_T (S := fun w' => Blk w' w.heap.size 61 #[.int .i64 (f : Int), .string (str t), .int .u64 (g : Int), .int .i64 (a : Int), .int .u64 (se : Int), .bool true] ∧ Blk w' (w.heap.size + 1) 33 #[vl, vw2, .int .i64 r2.fuse, .bool r2.off]) (T := fun _ => false) (by kernel_rfl) ?_
          have hS0 := And.intro HPy.out.kept.drew HPy.out.disk.drew
          refine wpAnyT_take (i := 0) (v := ?_) rfl (by kernel_rfl) (by kernel_rfl) (by kernel_rfl) (by kernel_rfl) (fun _ _ _ h => h) (takes_yield rfl (Or.inl ⟨by rfl, ?_⟩)) (by assumption) (by kernel_rfl) ?_
          rotate_left 1
          · intro w' hSw; have hcw := hSw.1.cells6; have hcd := hSw.2.cells4; go_split_ands; first | (go_simp; done) | (go_simp; rfl) | rfl
          simp only [Act.put, List.getElem_toArray, List.getElem_cons_zero, List.setIfInBounds_toArray, List.set_cons_zero, List.set_cons_succ]
          refine wpAnyT_take (i := 1) (v := ?_) rfl (by kernel_rfl) (by kernel_rfl) (by kernel_rfl) (by kernel_rfl) (fun _ _ _ h => h) (takes_yield rfl (Or.inl ⟨by rfl, ?_⟩)) (by assumption) (by kernel_rfl) ?_
          rotate_left 1
          · intro w' hSw; have hcw := hSw.1.cells6; have hcd := hSw.2.cells4; go_split_ands; first | (go_simp; done) | (go_simp; rfl) | rfl
          simp only [Act.put, List.getElem_toArray, List.getElem_cons_zero, List.getElem_cons_succ, List.setIfInBounds_toArray, List.set_cons_zero, List.set_cons_succ]
          refine wpAnyT_take (i := 2) (v := ?_) rfl (by kernel_rfl) (by kernel_rfl) (by kernel_rfl) (by kernel_rfl) (fun _ _ _ h => h) (takes_yield rfl (Or.inl ⟨by rfl, ?_⟩)) (by assumption) (by kernel_rfl) ?_
          rotate_left 1
          · intro w' hSw; have hcw := hSw.1.cells6; have hcd := hSw.2.cells4; go_split_ands; first | (go_simp; done) | (go_simp; rfl) | rfl
          simp only [Act.put, List.getElem_toArray, List.getElem_cons_zero, List.getElem_cons_succ, List.setIfInBounds_toArray, List.set_cons_zero, List.set_cons_succ]
          refine wpAnyT_one (i := 3) (by kernel_rfl) rfl (fun K hK => ?_)
          refine step_store_all (by rfl) 61 _ _ (by rfl) (w.heap.size + 1 + 1) #[.int .i64 (f : Int), .string (str t), .int .u64 (g : Int), .int .i64 (a : Int), .int .u64 (se : Int), .bool true] (by rfl) (by rfl) _ _ HPy.out.res1.drew rfl (by simp [Value.oneCell']) (by kernel_rfl) ?_
          intro x4 hB4 hU4 hs4
          have hS4 := And.intro (hS0.1.upd hU4 (by omega)) (hS0.2.upd hU4 (by omega))
          refine hK.out _ _ hS4 ?_
          clear hK
          refine wpAnyT_one (i := 4) (by kernel_rfl) rfl (fun K hK => ?_)
          refine step_store_all (by rfl) 33 _ _ (by rfl) (w.heap.size + 1 + 1 + 1) #[vl, vw2, .int .i64 r2.fuse, .bool r2.off] (by rfl) (by rfl) _ _ (HPy.out.res2.drew.upd hU4 (by omega)) rfl (rdrow_one r2 HPy.out.left.at_) (by kernel_rfl) ?_
          intro x5 hB5 hU5 hs5
          have hS5 := And.intro (hS4.1.upd hU5 (by omega)) (hS4.2.upd hU5 (by omega))
          refine hK.out _ _ hS5 ?_
          have hl := (HPy.out.still (Upd.refl _ wy).drew).ends hB4 hU4 hB5 hU5
          have HE := Lib.hid (And.intro (hB4.upd hU5 (by omega)) (And.intro hB5 hl))
          clear hK hS0 hS4 hl hB4 hU4 hs4 hB5 hU5 hs5
          refine wpAnyT_take (i := 5) (v := ?_) rfl (by kernel_rfl) (by kernel_rfl) (by kernel_rfl) (by kernel_rfl) (fun _ _ _ h => h) (takes_yield rfl (Or.inl ⟨by rfl, ?_⟩)) (by assumption) (by kernel_rfl) ?_
          rotate_left 1
          · intro w' hSw; go_split_ands; first | (go_simp; done) | (go_simp; rfl) | rfl
          simp only [Act.put, List.getElem_toArray, List.getElem_cons_zero, List.getElem_cons_succ, List.setIfInBounds_toArray, List.set_cons_zero, List.set_cons_succ]
          refine wpAnyT_done (by kernel_rfl) ?_ _
          refine NoPanic.normal ?_
          go_wp2_with fail
          refine bodyPost_ret (results_cells2_slot rfl _ _ (w.heap.size + 1 + 1) (w.heap.size + 1 + 1 + 1) _ _ _ _ _ _ _ _ rfl HE.out.1 rfl HE.out.2.1 Tryz.underlying61 rfl rfl Tryz.underlying33 rfl rfl (.int .i64 err) rfl) rfl ⟨_, _, rfl, HE.out.2.2⟩
    · obtain rfl : j = n := by omega
      have hRs : R = if r'.sync.2 ≠ 0 then (r'.sync.1, ⟨f, t, g, a, se, true⟩, r'.sync.2) else (r'.sync.1, ⟨f, s.data.toList, se + 1, 1 - a, se + 1, false⟩, 0) := by
        rw [HRv.out, hwn, if_neg (by simp)]
      have hsy := rsync_c H.out.left.at_ hfit
      obtain ⟨⟨r2, err⟩, hq⟩ : ∃ q, r'.sync = q := ⟨_, rfl⟩
      rw [hq] at hRs hsy
      simp only at hRs hsy
      have HSy := Lib.hid hsy
      have HRs := Lib.hid hRs
      clear hsy hRs hq hwn hfit
      go_upto_region 16 with fail
      go_upto_region 17 with (first
        | (refine wpList_load_all rfl _ _ rfl (w.heap.size + 1) rfl _ _ _ H.out.disk Tryz.underlying33 rfl rfl ?_)
        | (go_at_call 62; refine HSy.out.mono ?_; rintro e w6 ⟨vl2, vw2, rfl, hL⟩
           have HL := Lib.hid hL
           clear hL)
        | (refine wpList_store_all rfl 33 _ _ rfl (w.heap.size + 1) #[vl2, vw2, .int .i64 r2.fuse, .bool r2.off] rfl rfl _ _ (H.out.disk.upd HL.out.upd (fun e => e)) rfl (rdrow_one r2 HL.out.at_) (by kernel_rfl) ?_
           intro wy hBy hUy hsy))
      have HPy : Hid (Puts9 w wy vl vw vl2 vw2 r2 ⟨f, t, g, a, se, true⟩) := by
        have h2 := H.out.still HL.out.upd
        exact Lib.hid ⟨(H.out.left.trans HL.out).store hUy (fun q hq e => HL.out.at_.ne h2.disk (by decide) (by decide) (e ▸ hq)) (by omega), h2.kept.upd hUy (by omega), hBy, h2.res1.upd hUy (by omega), h2.res2.upd hUy (by omega)⟩
      clear hBy hUy hsy
      by_cases he : err = 0
      · subst he
        obtain rfl : R = (r2, ⟨f, s.data.toList, se + 1, 1 - a, se + 1, false⟩, 0) := by rw [HRs.out, if_neg (by simp)]
        have hw1 : IntKind.i64.wrap (1 - (a : Int)) = 1 - (a : Int) := IntWalk.i64_in _ (by omega)
        have hw2 : IntKind.u64.wrap ((se : Int) + 1) = (se : Int) + 1 := IntWalk.u64_in _ (by omega)
        have HRow : Hid (#[.int .i64 (f : Int), .string s, .int .u64 ((se : Int) + 1), .int .i64 (1 - (a : Int)), .int .u64 ((se : Int) + 1), .bool false] = (⟨f, s.data.toList, se + 1, 1 - a, se + 1, false⟩ : Kp).row) := by
          show _ = (#[.int .i64 (f : Int), .string (str s.data.toList), .int .u64 ((se + 1 : Nat) : Int), .int .i64 ((1 - a : Nat) : Int), .int .u64 ((se + 1 : Nat) : Int), .bool false] : Array Value)
          rw [str_eta, show (((se + 1 : Nat)) : Int) = (se : Int) + 1 by omega, show (((1 - a : Nat)) : Int) = 1 - (a : Int) by omega]
        go_upto_region 19 with fail
        refine wp_region_noPanic ?_
        refine wp_region_T (S := fun w' => Blk w' w.heap.size 61 #[.int .i64 (f : Int), .string (str t), .int .u64 (g : Int), .int .i64 (a : Int), .int .u64 (se : Int), .bool true] ∧ Blk w' (w.heap.size + 1) 33 #[vl2, vw2, .int .i64 r2.fuse, .bool r2.off]) (T := fun _ => false) (by kernel_rfl) ?_
        have hS0 := And.intro HPy.out.kept.drew HPy.out.disk.drew
        refine wpAnyT_take (i := 0) (v := ?_) rfl (by kernel_rfl) (by kernel_rfl) (by kernel_rfl) (by kernel_rfl) (fun _ _ _ h => h) (takes_yield rfl (Or.inl ⟨by rfl, ?_⟩)) (by assumption) (by kernel_rfl) ?_
        rotate_left 1
        · intro w' hSw; have hcw := hSw.1.cells6; have hcd := hSw.2.cells4; go_split_ands; first | (go_simp; done) | (go_simp; rfl) | rfl
        simp only [Act.put, List.getElem_toArray, List.getElem_cons_zero, List.setIfInBounds_toArray, List.set_cons_zero, List.set_cons_succ]
        refine wpAnyT_take (i := 1) (v := ?_) rfl (by kernel_rfl) (by kernel_rfl) (by kernel_rfl) (by kernel_rfl) (fun _ _ _ h => h) (takes_yield rfl (Or.inl ⟨by rfl, ?_⟩)) (by assumption) (by kernel_rfl) ?_
        rotate_left 1
        · intro w' hSw; have hcw := hSw.1.cells6; have hcd := hSw.2.cells4; go_split_ands; first | (go_simp; done) | (go_simp; rfl) | rfl
        simp only [Act.put, List.getElem_toArray, List.getElem_cons_zero, List.getElem_cons_succ, List.setIfInBounds_toArray, List.set_cons_zero, List.set_cons_succ]
        refine wpAnyT_take (i := 2) (v := ?_) rfl (by kernel_rfl) (by kernel_rfl) (by kernel_rfl) (by kernel_rfl) (fun _ _ _ h => h) (takes_yield rfl (Or.inl ⟨by rfl, ?_⟩)) (by assumption) (by kernel_rfl) ?_
        rotate_left 1
        · intro w' hSw; have hcw := hSw.1.cells6; have hcd := hSw.2.cells4; go_split_ands; first | (go_simp; done) | (go_simp; rfl) | rfl
        simp only [Act.put, List.getElem_toArray, List.getElem_cons_zero, List.getElem_cons_succ, List.setIfInBounds_toArray, List.set_cons_zero, List.set_cons_succ]
        refine wpAnyT_take (i := 3) (v := ?_) rfl (by kernel_rfl) (by kernel_rfl) (by kernel_rfl) (by kernel_rfl) (fun _ _ _ h => h) (takes_yield rfl (Or.inl ⟨by rfl, ?_⟩)) (by assumption) (by kernel_rfl) ?_
        rotate_left 1
        · intro w' hSw; have hcw := hSw.1.cells6; have hcd := hSw.2.cells4; go_split_ands; first | (go_simp; done) | (go_simp; rfl) | rfl
        simp only [Act.put, List.getElem_toArray, List.getElem_cons_zero, List.getElem_cons_succ, List.setIfInBounds_toArray, List.set_cons_zero, List.set_cons_succ]
        refine wpAnyT_take (i := 4) (v := ?_) rfl (by kernel_rfl) (by kernel_rfl) (by kernel_rfl) (by kernel_rfl) (fun _ _ _ h => h) (takes_yield rfl (Or.inl ⟨by rfl, ?_⟩)) (by assumption) (by kernel_rfl) ?_
        rotate_left 1
        · intro w' hSw; have hcw := hSw.1.cells6; have hcd := hSw.2.cells4; go_split_ands; first | (go_simp; done) | (go_simp; rfl) | rfl
        simp only [Act.put, List.getElem_toArray, List.getElem_cons_zero, List.getElem_cons_succ, List.setIfInBounds_toArray, List.set_cons_zero, List.set_cons_succ]
        refine wpAnyT_take (i := 5) (v := ?_) rfl (by kernel_rfl) (by kernel_rfl) (by kernel_rfl) (by kernel_rfl) (fun _ _ _ h => h) (takes_yield rfl (Or.inl ⟨by rfl, ?_⟩)) (by assumption) (by kernel_rfl) ?_
        rotate_left 1
        · intro w' hSw; have hcw := hSw.1.cells6; have hcd := hSw.2.cells4; go_split_ands; first | (go_simp; done) | (go_simp; rfl) | rfl
        simp only [Act.put, List.getElem_toArray, List.getElem_cons_zero, List.getElem_cons_succ, List.setIfInBounds_toArray, List.set_cons_zero, List.set_cons_succ]
        refine wpAnyT_take (i := 6) (v := ?_) rfl (by kernel_rfl) (by kernel_rfl) (by kernel_rfl) (by kernel_rfl) (fun _ _ _ h => h) (takes_yield rfl (Or.inl ⟨by rfl, ?_⟩)) (by assumption) (by kernel_rfl) ?_
        rotate_left 1
        · intro w' hSw; have hcw := hSw.1.cells6; have hcd := hSw.2.cells4; go_split_ands; first | (go_simp; done) | (go_simp; rfl) | rfl
        simp only [Act.put, List.getElem_toArray, List.getElem_cons_zero, List.getElem_cons_succ, List.setIfInBounds_toArray, List.set_cons_zero, List.set_cons_succ]
        refine wpAnyT_take (i := 7) (v := ?_) rfl (by kernel_rfl) (by kernel_rfl) (by kernel_rfl) (by kernel_rfl) (fun _ _ _ h => h) (takes_yield rfl (Or.inl ⟨by rfl, ?_⟩)) (by assumption) (by kernel_rfl) ?_
        rotate_left 1
        · intro w' hSw; have hcw := hSw.1.cells6; have hcd := hSw.2.cells4; go_split_ands; first | (go_simp; done) | (go_simp; rfl) | rfl
        simp only [Act.put, List.getElem_toArray, List.getElem_cons_zero, List.getElem_cons_succ, List.setIfInBounds_toArray, List.set_cons_zero, List.set_cons_succ]
        refine wpAnyT_take (i := 8) (v := ?_) rfl (by kernel_rfl) (by kernel_rfl) (by kernel_rfl) (by kernel_rfl) (fun _ _ _ h => h) (takes_yield rfl (Or.inl ⟨by rfl, ?_⟩)) (by assumption) (by kernel_rfl) ?_
        rotate_left 1
        · intro w' hSw; have hcw := hSw.1.cells6; have hcd := hSw.2.cells4; go_split_ands; first | (go_simp; done) | (go_simp; rfl) | rfl
        simp only [Act.put, List.getElem_toArray, List.getElem_cons_zero, List.getElem_cons_succ, List.setIfInBounds_toArray, List.set_cons_zero, List.set_cons_succ]
        refine wpAnyT_take (i := 9) (v := ?_) rfl (by kernel_rfl) (by kernel_rfl) (by kernel_rfl) (by kernel_rfl) (fun _ _ _ h => h) (takes_yield rfl (Or.inl ⟨by rfl, ?_⟩)) (by assumption) (by kernel_rfl) ?_
        rotate_left 1
        · intro w' hSw; have hcw := hSw.1.cells6; have hcd := hSw.2.cells4; go_split_ands; first | (go_simp; done) | (go_simp; rfl) | rfl
        simp only [Act.put, List.getElem_toArray, List.getElem_cons_zero, List.getElem_cons_succ, List.setIfInBounds_toArray, List.set_cons_zero, List.set_cons_succ]
        refine wpAnyT_take (i := 10) (v := ?_) rfl (by kernel_rfl) (by kernel_rfl) (by kernel_rfl) (by kernel_rfl) (fun _ _ _ h => h) (takes_yield rfl (Or.inl ⟨by rfl, ?_⟩)) (by assumption) (by kernel_rfl) ?_
        rotate_left 1
        · intro w' hSw; have hcw := hSw.1.cells6; have hcd := hSw.2.cells4; go_split_ands; first | (go_simp; done) | (go_simp; rfl) | rfl
        simp only [Act.put, List.getElem_toArray, List.getElem_cons_zero, List.getElem_cons_succ, List.setIfInBounds_toArray, List.set_cons_zero, List.set_cons_succ]
        refine wpAnyT_take (i := 11) (v := ?_) rfl (by kernel_rfl) (by kernel_rfl) (by kernel_rfl) (by kernel_rfl) (fun _ _ _ h => h) (takes_yield rfl (Or.inl ⟨by rfl, ?_⟩)) (by assumption) (by kernel_rfl) ?_
        rotate_left 1
        · intro w' hSw; have hcw := hSw.1.cells6; have hcd := hSw.2.cells4; go_split_ands; first | (go_simp; done) | (go_simp; rfl) | rfl
        simp only [Act.put, List.getElem_toArray, List.getElem_cons_zero, List.getElem_cons_succ, List.setIfInBounds_toArray, List.set_cons_zero, List.set_cons_succ]
        refine wpAnyT_take (i := 12) (v := ?_) rfl (by kernel_rfl) (by kernel_rfl) (by kernel_rfl) (by kernel_rfl) (fun _ _ _ h => h) (takes_yield rfl (Or.inl ⟨by rfl, ?_⟩)) (by assumption) (by kernel_rfl) ?_
        rotate_left 1
        · intro w' hSw; have hcw := hSw.1.cells6; have hcd := hSw.2.cells4; go_split_ands; first | (go_simp; done) | (go_simp; rfl) | rfl
        simp only [Act.put, List.getElem_toArray, List.getElem_cons_zero, List.getElem_cons_succ, List.setIfInBounds_toArray, List.set_cons_zero, List.set_cons_succ]
        refine wpAnyT_take (i := 13) (v := ?_) rfl (by kernel_rfl) (by kernel_rfl) (by kernel_rfl) (by kernel_rfl) (fun _ _ _ h => h) (takes_yield rfl (Or.inl ⟨by rfl, ?_⟩)) (by assumption) (by kernel_rfl) ?_
        rotate_left 1
        · intro w' hSw; have hcw := hSw.1.cells6; have hcd := hSw.2.cells4; go_split_ands; first | (go_simp; done) | (go_simp; rfl) | rfl
        simp only [Act.put, List.getElem_toArray, List.getElem_cons_zero, List.getElem_cons_succ, List.setIfInBounds_toArray, List.set_cons_zero, List.set_cons_succ]
        refine wpAnyT_one (i := 14) (by kernel_rfl) rfl (fun K hK => ?_)
        refine step_store_all (by rfl) 61 _ _ (by rfl) (w.heap.size + 1 + 1) #[.int .i64 (f : Int), .string s, .int .u64 ((se : Int) + 1), .int .i64 (1 - (a : Int)), .int .u64 ((se : Int) + 1), .bool false] (by rfl) (by rfl) _ _ HPy.out.res1.drew rfl (by simp [Value.oneCell']) (by kernel_rfl) ?_
        intro x4 hB4 hU4 hs4
        have hS4 := And.intro (hS0.1.upd hU4 (by omega)) (hS0.2.upd hU4 (by omega))
        refine hK.out _ _ hS4 ?_
        clear hK
        refine wpAnyT_one (i := 15) (by kernel_rfl) rfl (fun K hK => ?_)
        refine step_store_all (by rfl) 33 _ _ (by rfl) (w.heap.size + 1 + 1 + 1) #[vl2, vw2, .int .i64 r2.fuse, .bool r2.off] (by rfl) (by rfl) _ _ (HPy.out.res2.drew.upd hU4 (by omega)) rfl (rdrow_one r2 HPy.out.left.at_) (by kernel_rfl) ?_
        intro x5 hB5 hU5 hs5
        have hS5 := And.intro (hS4.1.upd hU5 (by omega)) (hS4.2.upd hU5 (by omega))
        refine hK.out _ _ hS5 ?_
        have hl := (HPy.out.still (Upd.refl _ wy).drew).ends hB4 hU4 hB5 hU5
        have HE := Lib.hid (And.intro (hB4.upd hU5 (by omega)) (And.intro hB5 hl))
        clear hK hS0 hS4 hl hB4 hU4 hs4 hB5 hU5 hs5
        refine wpAnyT_take (i := 16) (v := ?_) rfl (by kernel_rfl) (by kernel_rfl) (by kernel_rfl) (by kernel_rfl) (fun _ _ _ h => h) (takes_yield rfl (Or.inl ⟨by rfl, ?_⟩)) (by assumption) (by kernel_rfl) ?_
        rotate_left 1
        · intro w' hSw; go_split_ands; first | (go_simp; done) | (go_simp; rfl) | rfl
        simp only [Act.put, List.getElem_toArray, List.getElem_cons_zero, List.getElem_cons_succ, List.setIfInBounds_toArray, List.set_cons_zero, List.set_cons_succ]
        refine wpAnyT_done (by kernel_rfl) ?_ _
        refine NoPanic.normal ?_
        go_wp2_with fail
        refine bodyPost_ret (results_cells2_slot rfl _ _ (w.heap.size + 1 + 1) (w.heap.size + 1 + 1 + 1) _ _ _ _ _ _ _ _ rfl HE.out.1 rfl HE.out.2.1 Tryz.underlying61 rfl rfl Tryz.underlying33 rfl rfl (.int .i64 0) rfl) rfl ⟨_, _, by rw [← HRow.out], HE.out.2.2⟩
      · have hne : (err != 0) = true := bne_iff_ne.2 he
        obtain rfl : R = (r2, ⟨f, t, g, a, se, true⟩, err) := by rw [HRs.out, if_pos he]
        clear he
        go_upto_region 18 with fail
        refine wp_region_noPanic ?_
        refine wp_region_T (S := fun w' => Blk w' w.heap.size 61 #[.int .i64 (f : Int), .string (str t), .int .u64 (g : Int), .int .i64 (a : Int), .int .u64 (se : Int), .bool true] ∧ Blk w' (w.heap.size + 1) 33 #[vl2, vw2, .int .i64 r2.fuse, .bool r2.off]) (T := fun _ => false) (by kernel_rfl) ?_
        have hS0 := And.intro HPy.out.kept.drew HPy.out.disk.drew
        refine wpAnyT_take (i := 0) (v := ?_) rfl (by kernel_rfl) (by kernel_rfl) (by kernel_rfl) (by kernel_rfl) (fun _ _ _ h => h) (takes_yield rfl (Or.inl ⟨by rfl, ?_⟩)) (by assumption) (by kernel_rfl) ?_
        rotate_left 1
        · intro w' hSw; have hcw := hSw.1.cells6; have hcd := hSw.2.cells4; go_split_ands; first | (go_simp; done) | (go_simp; rfl) | rfl
        simp only [Act.put, List.getElem_toArray, List.getElem_cons_zero, List.setIfInBounds_toArray, List.set_cons_zero, List.set_cons_succ]
        refine wpAnyT_take (i := 1) (v := ?_) rfl (by kernel_rfl) (by kernel_rfl) (by kernel_rfl) (by kernel_rfl) (fun _ _ _ h => h) (takes_yield rfl (Or.inl ⟨by rfl, ?_⟩)) (by assumption) (by kernel_rfl) ?_
        rotate_left 1
        · intro w' hSw; have hcw := hSw.1.cells6; have hcd := hSw.2.cells4; go_split_ands; first | (go_simp; done) | (go_simp; rfl) | rfl
        simp only [Act.put, List.getElem_toArray, List.getElem_cons_zero, List.getElem_cons_succ, List.setIfInBounds_toArray, List.set_cons_zero, List.set_cons_succ]
        refine wpAnyT_take (i := 2) (v := ?_) rfl (by kernel_rfl) (by kernel_rfl) (by kernel_rfl) (by kernel_rfl) (fun _ _ _ h => h) (takes_yield rfl (Or.inl ⟨by rfl, ?_⟩)) (by assumption) (by kernel_rfl) ?_
        rotate_left 1
        · intro w' hSw; have hcw := hSw.1.cells6; have hcd := hSw.2.cells4; go_split_ands; first | (go_simp; done) | (go_simp; rfl) | rfl
        simp only [Act.put, List.getElem_toArray, List.getElem_cons_zero, List.getElem_cons_succ, List.setIfInBounds_toArray, List.set_cons_zero, List.set_cons_succ]
        refine wpAnyT_one (i := 3) (by kernel_rfl) rfl (fun K hK => ?_)
        refine step_store_all (by rfl) 61 _ _ (by rfl) (w.heap.size + 1 + 1) #[.int .i64 (f : Int), .string (str t), .int .u64 (g : Int), .int .i64 (a : Int), .int .u64 (se : Int), .bool true] (by rfl) (by rfl) _ _ HPy.out.res1.drew rfl (by simp [Value.oneCell']) (by kernel_rfl) ?_
        intro x4 hB4 hU4 hs4
        have hS4 := And.intro (hS0.1.upd hU4 (by omega)) (hS0.2.upd hU4 (by omega))
        refine hK.out _ _ hS4 ?_
        clear hK
        refine wpAnyT_one (i := 4) (by kernel_rfl) rfl (fun K hK => ?_)
        refine step_store_all (by rfl) 33 _ _ (by rfl) (w.heap.size + 1 + 1 + 1) #[vl2, vw2, .int .i64 r2.fuse, .bool r2.off] (by rfl) (by rfl) _ _ (HPy.out.res2.drew.upd hU4 (by omega)) rfl (rdrow_one r2 HPy.out.left.at_) (by kernel_rfl) ?_
        intro x5 hB5 hU5 hs5
        have hS5 := And.intro (hS4.1.upd hU5 (by omega)) (hS4.2.upd hU5 (by omega))
        refine hK.out _ _ hS5 ?_
        have hl := (HPy.out.still (Upd.refl _ wy).drew).ends hB4 hU4 hB5 hU5
        have HE := Lib.hid (And.intro (hB4.upd hU5 (by omega)) (And.intro hB5 hl))
        clear hK hS0 hS4 hl hB4 hU4 hs4 hB5 hU5 hs5
        refine wpAnyT_take (i := 5) (v := ?_) rfl (by kernel_rfl) (by kernel_rfl) (by kernel_rfl) (by kernel_rfl) (fun _ _ _ h => h) (takes_yield rfl (Or.inl ⟨by rfl, ?_⟩)) (by assumption) (by kernel_rfl) ?_
        rotate_left 1
        · intro w' hSw; go_split_ands; first | (go_simp; done) | (go_simp; rfl) | rfl
        simp only [Act.put, List.getElem_toArray, List.getElem_cons_zero, List.getElem_cons_succ, List.setIfInBounds_toArray, List.set_cons_zero, List.set_cons_succ]
        refine wpAnyT_done (by kernel_rfl) ?_ _
        refine NoPanic.normal ?_
        go_wp2_with fail
        refine bodyPost_ret (results_cells2_slot rfl _ _ (w.heap.size + 1 + 1) (w.heap.size + 1 + 1 + 1) _ _ _ _ _ _ _ _ rfl HE.out.1 rfl HE.out.2.1 Tryz.underlying61 rfl rfl Tryz.underlying33 rfl rfl (.int .i64 err) rfl) rfl ⟨_, _, rfl, HE.out.2.2⟩
end
end Go.Proofs.YtpfbgmfkeofefaaGreat
