/-
  The document's records of chapter 09: a generation read, and a record's sectors.
-/
import Derived.Test.YtnmbhoidnbideaaGreatKeptA
import Derived.Test.YtnmbhoidnbideaaGreatClose
namespace Go.Proofs.YtnmbhoidnbideaaGreat
open Go Go.RowKit

theorem leN_drop (l : List UInt8) (m : Nat) (h : m < l.length) : leN (l.drop m) = l[m].toNat + 256 * leN (l.drop (m + 1)) := by
  rw [List.drop_eq_getElem_cons h]
  rfl
set_option maxRecDepth 100000 in
set_option maxHeartbeats 400000 in
theorem refGen_c (s : ByteArray) (w : World) (hs : 8 ≤ s.size) (hs2 : s.size ≤ 1000000) :
    Calls Tryz.prog 70 #[.string s] w fun e w' => e = .returned (.int .u64 (leN (s.data.toList.take 8) : Int)) ∧ w = w' := by
  have hl : s.data.toList.length = s.size := by simp
  go_enter Tryz.func70, Tryz.ntmps70
  go_wp2_with fail
  go_loop [3, 4] (fun n i => ∃ m : Nat, m ≤ 8 ∧ i = .int .i64 ((m : Int) - 1) ∧ n = .int .u64 (leN ((s.data.toList.take 8).drop m) : Int)) (fun _ i => ((intOf i) + 1).toNat)
  case atStart =>
    refine ⟨8, by omega, by go_num, ?_⟩
    rw [List.drop_of_length_le (by simp; omega)]
    rfl
  case round =>
    obtain ⟨m, hm, rfl, rfl⟩ := hrel
    cases m with
    | zero =>
      go_wp2_with fail
      go_ret
      exact ⟨rfl, rfl⟩
    | succ k =>
      have hst := leN_drop (s.data.toList.take 8) k (by rw [List.length_take]; omega)
      have hlt := leN_lt ((s.data.toList.take 8).drop (k + 1))
      have h7 : ((s.data.toList.take 8).drop (k + 1)).length ≤ 7 := by simp; omega
      have hlt7 : leN ((s.data.toList.take 8).drop (k + 1)) < 72057594037927936 := Nat.lt_of_lt_of_le hlt (Nat.pow_le_pow_right (by omega) (show 8 * ((s.data.toList.take 8).drop (k + 1)).length ≤ 56 by omega))
      have hk : k < s.size := by omega
      have hb : ((s.data.toList.take 8)[k]'(by rw [List.length_take]; omega)).toNat = (s[k]).toNat := by rw [List.getElem_take]; rfl
      rw [hb] at hst
      have hy := (s[k]).toNat_lt
      obtain ⟨N, hN⟩ : ∃ N, leN ((s.data.toList.take 8).drop (k + 1)) = N := ⟨_, rfl⟩
      rw [hN] at hst hlt7 ⊢
      have HK := Lib.hid hst
      clear hst hN hlt h7 hb
      go_wp2_with fail
      go_round
      case rel =>
        refine ⟨k, by omega, by go_num, ?_⟩
        rw [HK.out]
        congr 1
        omega
      case measure => simp [intOf]
theorem byte_nat {n : Nat} (h : n < 256) : (n : Int) = ((UInt8.ofNat n).toNat : Int) := by
  rw [UInt8.toNat_ofNat']
  omega
/-- A part's sector. -/
def Pt.secR (p : Pt) : ByteArray := str (closeL p.body)
def lenS : Value → Nat
  | .string s => s.size
  | _ => 0
/-- Where the texts of a list lie that grows. -/
structure Grows (w wr : World) (v : Value) (n : Nat) (l : List ByteArray) : Prop where
  own : Own wr 9 1 v n (strs l)
  upd : Upd (fun _ => False) w wr
  new : ∀ q, v.ownBlock = some q → w.heap.size ≤ q
theorem Grows.nil (w : World) : Grows w w (.slice none 0 0) 0 [] := ⟨Own.nil _ _ _, Upd.refl _ _, by simp [Value.ownBlock]⟩
theorem Grows.still {w wr wx : World} {v : Value} {n : Nat} {l : List ByteArray} (h : Grows w wr v n l) (hu : Upd (fun _ => False) wr wx) : Grows w wx v n l :=
  ⟨h.own.upd hu (fun _ _ e => e), h.upd.then hu (fun _ e => e.elim), h.new⟩
theorem Grows.app {w wr w2 : World} {v v2 : Value} {n : Nat} {l : List ByteArray} {b : ByteArray} (h : Grows w wr v n l) (hO : Own w2 9 1 v2 (n + 1) (strs l ++ [.string b])) (hU : Upd (fun q => v.ownBlock = some q) wr w2)
    (hl : v2.ownBlock = v.ownBlock ∨ v2.ownBlock = some wr.heap.size) : Grows w w2 v2 (n + 1) (l ++ [b]) := by
  refine ⟨by simpa [strs] using hO, h.upd.then hU (fun q hq => .inr (h.new q hq)), fun q hq => ?_⟩
  rcases hl with e | e
  · exact h.new q (by rw [← e]; exact hq)
  · rw [e] at hq
    have := Option.some.inj hq
    have := h.upd.size
    omega
set_option maxRecDepth 100000 in
set_option maxHeartbeats 3200000 in
theorem refSectors_c (s : ByteArray) (gen : Nat) (w : World) (hs : s.size ≤ 1000) :
    Calls Tryz.prog 48 #[.string s, .int .u64 (gen : Int)] w fun e w' => ∃ v, e = .returned v ∧ Grows w w' v (allOf s.size) ((cutL s.data.toList gen).map Pt.secR) := by
  obtain ⟨i0, hi0, hz0, hz1, hz2⟩ := info_parts infoStr
  obtain ⟨A, hA⟩ : ∃ A, allOf s.size = A := ⟨_, rfl⟩
  have hlen : s.data.toList.length = s.size := by simp
  have HC : Hid (∀ k, k < A → (((cutL s.data.toList gen).map Pt.secR).take k) ++ [Pt.secR ⟨gen, k, A, (s.data.toList.drop (48 * k)).take 48⟩] = ((cutL s.data.toList gen).map Pt.secR).take (k + 1)) := by
    intro k hk
    rw [cutL, hlen, hA, List.map_map, ← List.map_take, ← List.map_take, List.take_range, List.take_range, Nat.min_eq_left (by omega), Nat.min_eq_left (by omega), List.range_succ, List.map_append]
    rfl
  have HL : Hid (((cutL s.data.toList gen).map Pt.secR).length = A) := by
    show _ = _
    rw [List.length_map, cutL_len, hlen, hA]
  rw [hA]
  have hA1 : 1 ≤ A := by rw [← hA]; unfold allOf; omega
  have hA2 : 48 * (A - 1) ≤ s.size := by rw [← hA]; unfold allOf; omega
  have hA3 : s.size ≤ 48 * A := by rw [← hA]; unfold allOf; omega
  have hA4 : A ≤ 30 := by rw [← hA]; unfold allOf; omega
  have hA0 : s.size = 0 → A = 1 := by intro e; rw [← hA, e]; rfl
  have hA5 : ((A : Nat) : Int) = max (((s.size : Int) + 47) / 48) 1 := by rw [← hA]; unfold allOf; omega
  have HA0 := Lib.hid (And.intro hA0 hA5)
  clear hA hlen hA0 hA5
  go_enter Tryz.func48, Tryz.ntmps48
  go_upto_if 17 with fail
  go_cut [5] (fun n wx => n = .int .i64 (A : Int) ∧ w = wx)
  case first =>
    have hA5 := HA0.out.2
    by_cases hs0 : s.size = 0
    all_goals
      clear hA5
      go_wp2_with fail
      go_meet
      refine ⟨?_, rfl⟩
      rw [HA0.out.2]
      congr 1
      omega
  case rest =>
    obtain ⟨rfl, rfl⟩ := hcut
    go_wp2_with fail
    go_loopw [6, 7, 8, 9, 10, 11] (fun v i _ _ _ _ wr => ∃ k : Nat, k ≤ A ∧ i = .int .i64 (k : Int) ∧ Grows w wr v k (((cutL s.data.toList gen).map Pt.secR).take k)) (fun _ i _ _ _ _ _ => A - (intOf i).toNat)
    case atStart =>
      exact ⟨0, by omega, rfl, by simpa using Grows.nil w⟩
    case round =>
      rename World => wa
      obtain ⟨k, hk, rfl, hG⟩ := hrel
      have HG := Lib.hid hG
      clear hG
      by_cases hlt : k < A
      · have hk48 : 48 * k ≤ s.size := by omega
        have hT : ∃ X : ByteArray, ∃ e : Nat, (e = min (48 * k + 48) s.size) ∧ s.extract (48 * k) e = X ∧ X.data.toList = (s.data.toList.drop (48 * k)).take 48 ∧ X.size ≤ 48 := by
          refine ⟨_, _, rfl, rfl, ?_, ?_⟩
          · rw [extract_str_from, str_list]
            by_cases hin : 48 * k + 48 ≤ s.size
            · rw [Nat.min_eq_left hin, show 48 * k + 48 - 48 * k = 48 by omega]
            · rw [Nat.min_eq_right (by omega), List.take_of_length_le (by simp), List.take_of_length_le (by simp; omega)]
          · rw [extract_str_from, str_size, List.length_take]
            omega
        obtain ⟨X, e, he, hX, hXl, hXs⟩ := hT
        have HX := Lib.hid hXl
        clear hXl
        have hcase : (e = 48 * k + 48 ∧ 48 * k + 48 ≤ s.size) ∨ (e = s.size ∧ s.size < 48 * k + 48) := by omega
        clear he
        rcases hcase with ⟨rfl, hto⟩ | ⟨rfl, hto⟩
        all_goals
          go_wp2_with fail
          rw [hX]
          clear hX hto
          go_loopw [10, 11] (fun b i wx => ∃ j : Nat, j ≤ 8 ∧ i = .int .i64 (j : Int) ∧ b = .string (str (leB gen j)) ∧ Upd (fun _ => False) wa wx) (fun _ i _ => 8 - (intOf i).toNat)
          case atStart => exact ⟨0, by omega, rfl, rfl, Upd.refl _ _⟩
          case round =>
            obtain ⟨j, hj, rfl, rfl, hU⟩ := hrel
            have HU := Lib.hid hU
            clear hU
            by_cases hj8 : j < 8
            · obtain ⟨y, hy⟩ : ∃ y, UInt8.ofNat (gen / 2 ^ (8 * j)) = y := ⟨_, rfl⟩
              have HS : Hid (str (leB gen j) ++ str [y] = str (leB gen (j + 1))) := by
                show _ = _
                rw [str_add, leB_snoc, hy]
              have hbs : (str (leB gen j)).size = j := by rw [str_size, leB_len]
              obtain ⟨S, hS⟩ : ∃ S, str (leB gen j) = S := ⟨_, rfl⟩
              rw [hS] at HS hbs ⊢
              have hadd : (9223372036854775807 < S.size + (str [y]).size) = False := by
                rw [str_size]; simp; omega
              have hcv : ∀ W : World, _ := fun W => conv_one W ((gen : Int) / 2 ^ (8 * j) % 256) y (by rw [← hy, byteV]; push_cast; rfl)
              clear hbs hS hy
              go_wp2_with fail
              rw [HS.out]
              go_roundw
              case rel => exact ⟨j + 1, by omega, by go_num, rfl, HU.out.alloc _⟩
              case measure => simp [intOf]; omega
            · obtain rfl : j = 8 := by omega
              have hcv4 : ∀ W : World, _ := fun W => conv_four W (k : Int) (A : Int) (X.size : Int) 0 (UInt8.ofNat k) (UInt8.ofNat A) (UInt8.ofNat X.size) 0 (byte_nat (by omega)) (byte_nat (by omega)) (byte_nat (by omega)) rfl
              have HS : Hid (str (leB gen 8) ++ str [UInt8.ofNat k, UInt8.ofNat A, UInt8.ofNat X.size, 0] = str (leB gen 8 ++ [UInt8.ofNat k, UInt8.ofNat A, UInt8.ofNat X.size, 0])) := str_add _ _
              have HS2 : Hid (str (leB gen 8 ++ [UInt8.ofNat k, UInt8.ofNat A, UInt8.ofNat X.size, 0]) ++ X = str (leB gen 8 ++ [UInt8.ofNat k, UInt8.ofNat A, UInt8.ofNat X.size, 0] ++ X.data.toList)) := by
                have := str_add (leB gen 8 ++ [UInt8.ofNat k, UInt8.ofNat A, UInt8.ofNat X.size, 0]) X.data.toList
                rw [str_eta] at this
                exact this
              have hadd : (9223372036854775807 < (str (leB gen 8)).size + (str [UInt8.ofNat k, UInt8.ofNat A, UInt8.ofNat X.size, 0]).size) = False := by
                rw [str_size, str_size, leB_len]; simp
              have hadd2 : (9223372036854775807 < (str (leB gen 8 ++ [UInt8.ofNat k, UInt8.ofNat A, UInt8.ofNat X.size, 0])).size + X.size) = False := by
                rw [str_size, List.length_append, leB_len]; simp; omega
              have hbl : (leB gen 8 ++ [UInt8.ofNat k, UInt8.ofNat A, UInt8.ofNat X.size, 0] ++ X.data.toList).length = 12 + X.size := by simp [leB_len]; omega
              obtain ⟨S8, hS8⟩ : ∃ S, str (leB gen 8) = S := ⟨_, rfl⟩
              obtain ⟨S4, hS4⟩ : ∃ S, str [UInt8.ofNat k, UInt8.ofNat A, UInt8.ofNat X.size, 0] = S := ⟨_, rfl⟩
              obtain ⟨S12, hS12⟩ : ∃ S, str (leB gen 8 ++ [UInt8.ofNat k, UInt8.ofNat A, UInt8.ofNat X.size, 0]) = S := ⟨_, rfl⟩
              obtain ⟨H, hH⟩ : ∃ H, leB gen 8 ++ [UInt8.ofNat k, UInt8.ofNat A, UInt8.ofNat X.size, 0] ++ X.data.toList = H := ⟨_, rfl⟩
              rw [hS8, hS4] at hadd
              rw [hS12] at hadd2 HS2
              rw [hS8, hS4, hS12] at HS
              rw [hH] at HS2 hbl
              rw [hS4] at hcv4
              rw [hS8]
              have hcat := HS.out
              have hcat2 := HS2.out
              have HH := Lib.hid hH
              have HHl := Lib.hid hbl
              have hH60 : H.length ≤ 60 := by omega
              have hHs : (str H).size = H.length := str_size _
              clear hS8 hS4 hS12 hH HS HS2 hbl
              go_wp2_with fail
              clear hadd hadd2 hcat hcat2 hcv4
              go_loopw [10] (fun b wx => ∃ j : Nat, H.length + j ≤ 60 ∧ b = .string (str (H ++ List.replicate j 0)) ∧ Upd (fun _ => False) wa wx) (fun b _ => 60 - lenS b)
              case atStart => exact ⟨0, by omega, by simp, HU.out.alloc _⟩
              case round =>
                obtain ⟨j, hj2, rfl, hU2⟩ := hrel
                have HU2 := Lib.hid hU2
                clear hU2 hHs
                have hsz : (str (H ++ List.replicate j 0)).size = H.length + j := by rw [str_size, List.length_append, List.length_replicate]
                by_cases hj60 : H.length + j < 60
                · have HS : Hid (str (H ++ List.replicate j 0) ++ str [0] = str (H ++ List.replicate (j + 1) 0)) := by
                    show _ = _
                    rw [str_add, List.append_assoc, List.replicate_succ']
                  obtain ⟨S, hS⟩ : ∃ S, str (H ++ List.replicate j 0) = S := ⟨_, rfl⟩
                  rw [hS] at HS hsz ⊢
                  have hadd : (9223372036854775807 < S.size + (str [0]).size) = False := by
                    rw [str_size]; simp; omega
                  have hcv : ∀ W : World, _ := fun W => conv_one W 0 0 rfl
                  have hslt : S.size < 60 := by omega
                  have HSz := Lib.hid hsz
                  clear hS hsz
                  go_wp2_with fail
                  rw [HS.out]
                  go_roundw
                  case rel => exact ⟨j + 1, by omega, rfl, HU2.out.alloc _⟩
                  case measure => have := HSz.out; simp [lenS, str_size]; omega
                · have hjx : j = 48 - X.size := by have := HHl.out; omega
                  have hbody : Hid (H ++ List.replicate j 0 = (⟨gen, k, A, X.data.toList⟩ : Pt).body) := by
                    show _ = _
                    rw [← HH.out, hjx, Pt.body]
                    simp
                  have HCl := Lib.hid (fun W => refClose_c (str (H ++ List.replicate j 0)) W (by omega))
                  rw [str_list] at HCl
                  rw [hbody.out] at HCl hsz ⊢
                  obtain ⟨S, hS⟩ : ∃ S, str (⟨gen, k, A, X.data.toList⟩ : Pt).body = S := ⟨_, rfl⟩
                  rw [hS] at hsz HCl ⊢
                  have hsge : ¬ S.size < 60 := by omega
                  have hsec : Pt.secR ⟨gen, k, A, (s.data.toList.drop (48 * k)).take 48⟩ = str (closeL (⟨gen, k, A, X.data.toList⟩ : Pt).body) := by rw [← HX.out]; rfl
                  have HCk := Lib.hid (HC.out k hlt)
                  rw [hsec] at HCk
                  obtain ⟨C, hC⟩ : ∃ C, str (closeL (⟨gen, k, A, X.data.toList⟩ : Pt).body) = C := ⟨_, rfl⟩
                  rw [hC] at HCl HCk
                  clear hS hsz hC hsec hjx
                  go_wp2_with fail
                  refine (HCl.out _).mono ?_
                  rintro e w3 ⟨rfl, hU3⟩
                  have HG3 := Lib.hid ((HG.out.still HU2.out).still hU3)
                  clear hU3
                  have hO3 := HG3.out.own.alloc (.cells #[.string C] 9)
                  go_wp2_with (at_builtin; refine wpList_append_src rfl _ _ _ _ rfl 9 i0 _ 1 16 Tryz.underlying29 hi0 hz0 hz1 hz2 rfl u6 k _ rfl hO3 _ 1 [_] rfl (Src.of_new Tryz.underlying29 _) (by simp [Value.oneCell']) (by unfold maxLen; omega) (by omega) ?_; intro v2 w2 hO2 hU2 hl2 hs2)
                  have hG2 := (HG3.out.still ((Upd.refl _ _).alloc (.cells #[.string C] 9))).app hO2 hU2 hl2
                  rw [HCk.out] at hG2
                  go_roundw
                  case rel => exact ⟨k + 1, by omega, by go_num, hG2⟩
                  case measure => simp only [intOf]; omega
      · obtain rfl : k = A := by omega
        go_wp2_with fail
        go_ret
        refine ⟨_, rfl, ?_⟩
        have := HG.out
        rw [List.take_of_length_le (by rw [HL.out]; omega)] at this
        exact this
end Go.Proofs.YtnmbhoidnbideaaGreat
