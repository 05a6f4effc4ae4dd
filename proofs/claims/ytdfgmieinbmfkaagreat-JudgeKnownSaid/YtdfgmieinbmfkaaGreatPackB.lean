/-
  Package pack: how numbers are written.
-/
import Derived.Test.YtdfgmieinbmfkaaGreatSealM
import Derived.Test.YtdfgmieinbmfkaaGreatClose
namespace Go.Proofs.YtdfgmieinbmfkaaGreat
open Go Go.RowKit

theorem bitLen_64 (n : Nat) (h : n < 18446744073709551616) : Lib.bitLen n ≤ 64 := by
  by_cases h0 : n = 0
  · subst h0; decide
  · have h1 := (Lib.bitLenAux_bounds 64 n (by omega) h0).2.1
    apply Classical.byContradiction
    intro hc
    have h2 : 2 ^ 64 ≤ 2 ^ (Lib.bitLen n - 1) := Nat.pow_le_pow_right (by omega) (by omega)
    have h3 : 2 ^ (Lib.bitLen n - 1) ≤ n := h1
    have e : (2 : Nat) ^ 64 = 18446744073709551616 := by decide
    omega
set_option maxRecDepth 100000 in
theorem size_c (n : Nat) (w : World) (h : n < 18446744073709551616) : Calls Tryz.prog 283 #[.int .u64 (n : Int)] w fun e w' => e = .returned (.int .i64 (sizeN n : Int)) ∧ w = w' := by
  have hb := sizeN_bitLen n h
  have hl := bitLen_64 n h
  have HL := Lib.hid (fun W => Tryz.bits_Len64 (n : Int) W (by omega) (by omega))
  rw [Int.toNat_natCast] at HL
  generalize Lib.bitLen n = b at *
  have e1 : IntKind.i64.wrap ((b : Int) + 7) = ((b + 7 : Nat) : Int) := IntWalk.i64_in _ (by omega)
  go_enter Tryz.func283, Tryz.ntmps283
  go_wp2_with fail
  refine (HL.out _).mono ?_
  rintro e w' ⟨rfl, rfl⟩
  go_wp2_with fail
  go_ret
  refine ⟨?_, rfl⟩
  have : max (1 : Int) (((b : Int) + 7 - 1) / 7) = (sizeN n : Int) := by omega
  rw [← this]
  rfl

/-- What was written, all of it behind the world w0. -/
structure OutS (w0 w : World) (o : Nat) (l : List UInt8) : Prop where
  ex : ∃ v, Blk w o 225 #[v] ∧ Own w 5 1 v l.length (bytesV l) ∧ ∀ q, v.ownBlock = some q → w0.heap.size ≤ q
  new : w0.heap.size ≤ o
  upd : Upd (fun _ => False) w0 w
theorem OutS.still {w0 w w' : World} {o : Nat} {l : List UInt8} (h : OutS w0 w o l) (hu : Upd (fun _ => False) w w') : OutS w0 w' o l := by
  obtain ⟨v, h1, h2, h3⟩ := h.ex
  exact ⟨⟨v, h1.upd hu (fun e => e), h2.upd hu (fun _ _ e => e), h3⟩, h.new, h.upd.then hu (fun _ e => e.elim)⟩
theorem OutS.start (w : World) : OutS w (w.alloc (.cells #[.slice none 0 0] 225)) w.heap.size [] :=
  ⟨⟨_, Blk.new w _ _, Own.nil _ _ _, fun q hq => by simp [Value.ownBlock] at hq⟩, Nat.le_refl _, (Upd.refl _ w).alloc _⟩
set_option maxRecDepth 100000 in
theorem oput_c {w0 w : World} {o : Nat} {l : List UInt8} (h : OutS w0 w o l) {src : Value} {n : Nat} {news : List UInt8} (hs : Src Tryz.prog w 223 1 src n (bytesV news)) (hn : news.length = n) (hm : l.length + n ≤ 1000000) :
    Calls Tryz.prog 284 #[.pointer (some ⟨o, 0, none⟩), src] w fun e w' => e = .returned (.tuple #[]) ∧ OutS w0 w' o (l ++ news) := by
  obtain ⟨i0, hi0, hz0, hz1, hz2⟩ := info_parts infoU8
  obtain ⟨v, hB, hO, hv⟩ := h.ex
  have hc := hB.cells1
  have hf := hB.frozen 0
  have hne := hO.ne_blk hB (by decide)
  go_enter Tryz.func284, Tryz.ntmps284
  go_wp2_with (at_builtin
               refine wpList_append_src rfl _ _ _ _ rfl 5 i0 _ 1 1 Tryz.underlying223 hi0 hz0 hz1 hz2 rfl v l.length _ rfl hO _ n _ rfl hs (bytesV_one _) (by unfold maxLen; omega) (by omega) ?_
               intro v2 w2 hO2 hU2 hl2 hs2
               have hB2 := hB.upd hU2 (fun e => hne e)
               have hc2 := hB2.cells1
               have hf2 := hB2.frozen 0
               obtain ⟨A2, cap2, rfl, hA1, hA2⟩ := hO2.shape)
  go_end0
  have hn2 : (Value.slice A2 (l.length + n) cap2).ownBlock ≠ some o := by
    rcases hl2 with e | e
    · rw [e]; exact hne
    · rw [e]; intro e2; have := hB.lt; have := Option.some.inj e2; omega
  refine ⟨rfl, ⟨_, hB2.set_ 0 _, ?_, fun q hq => ?_⟩, h.new, ?_⟩
  · have := hO2.far (p := ⟨o, 0, none⟩) hn2 (Value.slice A2 (l.length + n) cap2)
    rw [List.length_append, hn, bytesV_app]
    exact this
  · rcases hl2 with e | e
    · rw [e] at hq; exact hv q hq
    · rw [e] at hq; have := h.upd.size; have := Option.some.inj hq; omega
  · exact (h.upd.then hU2 (fun q hq => .inr (hv q hq))).setCell (p := ⟨o, 0, none⟩) (.inr h.new) _
theorem or_128 (k : Nat) : bits .or .u8 ((k : Int) % 256) 128 = ((k % 128 + 128 : Nat) : Int) := by
  have h : ∀ x : Fin 256, bits .or .u8 (x.val : Int) 128 = ((x.val % 128 + 128 : Nat) : Int) := by decide +kernel
  have h1 := h ⟨k % 256, by omega⟩
  have e : ((k % 256 : Nat) : Int) = (k : Int) % 256 := by omega
  have e2 : k % 256 % 128 = k % 128 := by omega
  simp only [e, e2] at h1
  exact h1
/-- A byte that was just laid. -/
theorem oput_one {w0 w : World} {o : Nat} {l : List UInt8} (h : OutS w0 w o l) (b : UInt8) {z : Int} (hz : z = (b.toNat : Int)) (hm : l.length + 1 ≤ 1000000) :
    Calls Tryz.prog 284 #[.pointer (some ⟨o, 0, none⟩), .slice (some ⟨w.heap.size, 0, none⟩) 1 1] (w.alloc (.cells #[.int .u8 z] 5)) fun e w' => e = .returned (.tuple #[]) ∧ OutS w0 w' o (l ++ [b]) := by
  subst hz
  exact oput_c (h.still ((Upd.refl _ w).alloc _)) (news := [b]) (Src.of_new Tryz.underlying223 _) rfl hm
set_option maxRecDepth 100000 in
set_option maxHeartbeats 400000 in
theorem onum_c {w0 w : World} {o : Nat} {l : List UInt8} (h : OutS w0 w o l) (n : Nat) (hn : n < 18446744073709551616) (hm : l.length ≤ 900000) :
    Calls Tryz.prog 160 #[.pointer (some ⟨o, 0, none⟩), .int .u64 (n : Int)] w fun e w' => e = .returned (.tuple #[]) ∧ OutS w0 w' o (l ++ putN n) := by
  have h10 := size_u64 hn
  go_enter Tryz.func160, Tryz.ntmps160
  go_wp2_with fail
  refine (size_c n _ hn).mono ?_
  rintro e w' ⟨rfl, rfl⟩
  have H := Lib.hid h
  clear h
  go_wp2_with fail
  go_loopw [1, 4] (fun x i wr => ∃ (k : Nat) (r : List UInt8), x = .int .u64 (k : Int) ∧ i = .int .i64 (sizeN k : Int) ∧ OutS w0 wr o (l ++ r) ∧ r ++ putN k = putN n ∧ k < 18446744073709551616 ∧ r.length ≤ 10) (fun _ i _ => (intOf i).toNat)
  case atStart => exact ⟨n, [], rfl, rfl, by simpa using H.out, by simp, hn, by simp⟩
  case round =>
    obtain ⟨k, r, rfl, rfl, ho, hr, hk, hl⟩ := hrel
    clear H
    have HO := Lib.hid ho
    clear ho
    by_cases hlt : k < 128
    · have hs1 := sizeN_lt hlt
      rw [hs1]
      go_wp2_with fail
      refine (oput_one HO.out (UInt8.ofNat k) (by rw [byte_low (by omega)]) (by simp; omega)).mono ?_
      rintro e w2 ⟨rfl, h2⟩
      go_wp2_with fail
      go_end0
      rw [← hr, putN_lt hlt, ← List.append_assoc]
      exact ⟨rfl, h2⟩
    · have hs1 := sizeN_ge (n := k) (by omega)
      have hp := sizeN_pos (k / 128)
      have hp10 := size_u64 (n := k / 128) (by omega)
      go_wp2_with fail
      refine (oput_one HO.out (UInt8.ofNat (k % 128 + 128)) (by rw [byte_low (by omega)]; exact or_128 k) (by simp; omega)).mono ?_
      rintro e w2 ⟨rfl, h2⟩
      have H2 := Lib.hid h2
      clear h2
      go_wp2_with fail
      go_roundw
      case rel =>
        refine ⟨k / 128, r ++ [UInt8.ofNat (k % 128 + 128)], by go_num, by go_num, ?_, ?_, by omega, ?_⟩
        · rw [← List.append_assoc]; exact H2.out
        · rw [← hr, putN_ge (n := k) (by omega), List.append_assoc]; rfl
        · have h1 := congrArg List.length hr
          rw [List.length_append, putN_len, putN_len] at h1
          rw [List.length_append]; simp; omega
      case measure => simp [intOf]; omega
set_option maxRecDepth 100000 in
theorem ostring_c {w0 w : World} {o : Nat} {l : List UInt8} (h : OutS w0 w o l) :
    Calls Tryz.prog 164 #[.pointer (some ⟨o, 0, none⟩)] w fun e w' => e = .returned (.string (str l)) ∧ w = w' := by
  obtain ⟨v, hB, hO, hv⟩ := h.ex
  have hc := hB.cells1
  have hcv := run_to_string hO
  obtain ⟨A, cap, rfl, h1, h2⟩ := hO.shape
  go_enter Tryz.func164, Tryz.ntmps164
  go_wp2_with fail
  go_ret
  exact ⟨rfl, rfl⟩
end Go.Proofs.YtdfgmieinbmfkaaGreat

/-
  Package pack: how numbers are read.
-/
namespace Go.Proofs.YtdfgmieinbmfkaaGreat
open Go Go.RowKit

theorem sget (s : ByteArray) (i : Nat) (h : i < s.size) : s.data.toList.getD i 0 = s[i] := by simp [List.getD, h, ByteArray.getElem_eq_getElem_data]
theorem valN_cons_drop (t : List UInt8) (i : Nat) (h : i < t.length) : valN (t.drop i) = (t.getD i 0).toNat % 128 + 128 * valN (t.drop (i + 1)) := by
  rw [List.drop_eq_getElem_cons h]
  show _ % 128 + 128 * _ = _
  rw [List.getD_eq_getElem?_getD, List.getElem?_eq_getElem h]
  rfl
theorem or_low (N b : Nat) (h : 128 * N < 18446744073709551616) : bits .or .u64 ((N : Int) * 128) ((b : Int) % 128) = ((b % 128 + 128 * N : Nat) : Int) := by
  have e1 : (N : Int) * 128 = ((N * 128 : Nat) : Int) := by push_cast; rfl
  have e2 : (b : Int) % 128 = ((b % 128 : Nat) : Int) := by omega
  rw [e1, e2, u64_or_nat _ _ (by omega) (by omega), nat_join 7 _ _ (by show N * 128 % 128 = 0; omega) (by show b % 128 < 128; omega)]
  omega
set_option maxRecDepth 100000 in
set_option maxHeartbeats 800000 in
theorem number_c (s : ByteArray) (w : World) : Calls Tryz.prog 289 #[.string s] w fun e w' => e = .returned (.tuple #[.int .u64 ((numL s.data.toList).1 : Int), .int .i64 ((numL s.data.toList).2.1 : Int), .int .i64 (numL s.data.toList).2.2]) ∧ w = w' := by
  have hlen : s.data.toList.length = s.size := by simp
  obtain ⟨R, hR⟩ : ∃ R, numL s.data.toList = R := ⟨_, rfl⟩
  rw [hR]
  have HR := Lib.hid hR
  clear hR
  go_enter Tryz.func289, Tryz.ntmps289
  go_wp2_with fail
  go_loop [3] (fun i => ∃ c : Nat, i = .int .i64 (c : Int) ∧ c ≤ 10 ∧ c ≤ s.size ∧ ∀ j, j < c → 128 ≤ (s.data.toList.getD j 0).toNat) (fun i => 10 - (intOf i).toNat)
  case atStart => exact ⟨0, rfl, by omega, by omega, fun j hj => by omega⟩
  case round =>
    obtain ⟨c, rfl, hc1, hc2, hg⟩ := hrel
    by_cases hgo : c < 10 ∧ c < s.size ∧ 128 ≤ (s.data.toList.getD c 0).toNat
    · obtain ⟨h1, h2, h3⟩ := hgo
      rw [sget s c h2] at h3
      go_wp2_with fail
      go_round
      case rel =>
        refine ⟨c + 1, by go_num, by omega, by omega, fun j hj => ?_⟩
        by_cases e : j = c
        · subst e; rw [sget s j h2]; exact h3
        · exact hg j (by omega)
      case measure => simp [intOf]; omega
    · have hlead : leadN s.data.toList 10 = c := leadN_is _ _ _ hc1 (by omega) hg (by
        by_cases c1 : c = 10
        · exact .inl c1
        · by_cases c2 : c = s.size
          · exact .inr (.inl (by omega))
          · refine .inr (.inr ?_)
            apply Classical.byContradiction
            intro c3
            exact hgo ⟨by omega, by omega, by omega⟩)
      have hcase : ¬ (c : Int) < min (s.size : Int) 10 ∨ (c < 10 ∧ ∃ h : c < s.size, (s[c]).toNat < 128) := by
        by_cases c2 : c < s.size
        · by_cases c1 : c < 10
          · refine .inr ⟨c1, c2, ?_⟩
            apply Classical.byContradiction
            intro c3
            exact hgo ⟨c1, c2, by rw [sget s c c2]; omega⟩
          · exact .inl (by omega)
        · exact .inl (by omega)
      clear hgo
      rcases hcase with hx | ⟨hx1, hx2, hx3⟩
      · by_cases c10 : c = 10
        · subst c10
          have hRv : R = (0, 0, 8) := by rw [← HR.out, numL, if_pos hlead]
          subst hRv
          go_wp2_with fail
          go_ret3
          exact ⟨rfl, rfl⟩
        · have cs : c = s.size := by omega
          have hRv : R = (0, 0, 7) := by rw [← HR.out, numL, hlead, if_neg c10, if_pos (by omega)]
          subst hRv
          have cs' : (c : Int) = (s.size : Int) := by omega
          go_wp2_with fail
          go_ret3
          exact ⟨rfl, rfl⟩
      · have hne1 : leadN s.data.toList 10 ≠ 10 := by omega
        have hne2 : leadN s.data.toList 10 ≠ s.data.toList.length := by omega
        have hv := val_ten hne1 hne2
        by_cases h9 : c = 9 ∧ 1 < (s.data.toList.getD 9 0).toNat
        · have hRv : R = (0, 0, 8) := by rw [← HR.out, numL, if_neg hne1, if_neg hne2, hlead, if_pos h9]
          subst hRv
          obtain ⟨rfl, h9⟩ := h9
          rw [sget s 9 hx2] at h9
          clear hg hlead hv hne1 hne2 hlen HR
          go_wp2_with fail
          go_ret3
          exact ⟨rfl, rfl⟩
        · have hvlt := hv.2 (by rw [hlead]; exact h9)
          rw [hlead] at hvlt
          have hRv := HR.out
          rw [numL, if_neg hne1, if_neg hne2, hlead, if_neg h9] at hRv
          have hx9 : ((c : Int) == 9) = false ∨ (((c : Int) == 9) = true ∧ (s[c]).toNat ≤ 1) := by
            by_cases c9 : c = 9
            · subst c9
              refine .inr ⟨rfl, ?_⟩
              apply Classical.byContradiction
              intro hc
              exact h9 ⟨rfl, by rw [sget s 9 hx2]; omega⟩
            · exact .inl (by rw [beq_eq_false_iff_ne]; omega)
          have hte : ∀ m, m ≤ c → (s.data.toList.take (c + 1)).getD m 0 = s.data.toList.getD m 0 := fun m hm => getD_take_ _ _ _ (by omega)
          have htl : (s.data.toList.take (c + 1)).length = c + 1 := by rw [List.length_take]; omega
          have HX := Lib.hid (And.intro hRv (And.intro hvlt (And.intro hte htl)))
          clear h9 hg hlead hv hne1 hne2 hlen HR hRv hvlt hte htl
          rcases hx9 with hx9 | ⟨hx9, hx8⟩
          all_goals
            go_wp2_with fail
            go_loop [2, 5] (fun n i => ∃ m : Nat, m ≤ c + 1 ∧ i = .int .i64 ((m : Int) - 1) ∧ n = .int .u64 ((valN ((s.data.toList.take (c + 1)).drop m) : Nat) : Int)) (fun _ i => ((intOf i) + 1).toNat)
            case atStart =>
              refine ⟨c + 1, by omega, by go_num, ?_⟩
              rw [List.drop_of_length_le (by rw [HX.out.2.2.2]; omega)]
              rfl
            case round =>
              obtain ⟨m, hm, rfl, rfl⟩ := hrel
              cases m with
              | zero =>
                go_wp2_with fail
                refine (size_c _ _ HX.out.2.1).mono ?_
                rintro e w' ⟨rfl, rfl⟩
                have hRv := HX.out.1
                by_cases hz : sizeN (valN (s.data.toList.take (c + 1))) = c + 1
                · rw [if_pos hz] at hRv
                  subst hRv
                  go_wp2_with fail
                  go_ret3
                  exact ⟨rfl, rfl⟩
                · rw [if_neg hz] at hRv
                  subst hRv
                  go_wp2_with fail
                  go_ret3
                  exact ⟨rfl, rfl⟩
              | succ k =>
                have hk : k < s.size := by omega
                have hbd := valN_drop (s.data.toList.take (c + 1)) k
                have hst := valN_cons_drop (s.data.toList.take (c + 1)) k (by rw [HX.out.2.2.2]; omega)
                rw [HX.out.2.2.1 k (by omega), sget s k hk] at hst
                have hvl := HX.out.2.1
                obtain ⟨N, hN⟩ : ∃ N, valN ((s.data.toList.take (c + 1)).drop (k + 1)) = N := ⟨_, rfl⟩
                rw [hN] at hst ⊢
                have hb := (s[k]).toNat_lt
                have hNl : 128 * N < 18446744073709551616 := by omega
                have HK := Lib.hid (And.intro hst (And.intro hbd hvl))
                clear hst hbd hvl hN
                go_wp2_with fail
                go_round
                case rel =>
                  refine ⟨k, by omega, by go_num, ?_⟩
                  rw [HK.out.1]
                  rw [or_low N _ hNl]
                case measure => simp [intOf]

theorem num_fits (s : List UInt8) : (numL s).1 < 18446744073709551616 ∧ (numL s).2.1 ≤ 10 ∧ (numL s).2.1 ≤ s.length ∧ ((numL s).2.2 = 0 ∨ (numL s).2.2 = 7 ∨ (numL s).2.2 = 8) := by
  rcases num_bad s with h | h | h
  · obtain ⟨⟨a, b, c⟩, hq⟩ : ∃ q, numL s = q := ⟨_, rfl⟩
    rw [hq] at h ⊢
    obtain rfl : c = 0 := h
    obtain ⟨h1, h2, h3, h4⟩ := num_ok hq
    have := size_u64 h1
    exact ⟨h1, by show b ≤ 10; omega, h3, .inl rfl⟩
  · rw [h]; simp
  · rw [h]; simp
set_option maxRecDepth 100000 in
theorem bounded_c (s : ByteArray) (m : Nat) (hm : m ≤ 9223372036854775807) (w : World) : Calls Tryz.prog 287 #[.string s, .int .i64 (m : Int)] w fun e w' => e = .returned (.tuple #[.int .i64 ((boundL s.data.toList m).1 : Int), .int .i64 ((boundL s.data.toList m).2.1 : Int), .int .i64 (boundL s.data.toList m).2.2]) ∧ w = w' := by
  have hN := number_c s
  have hf := num_fits s.data.toList
  unfold boundL
  obtain ⟨⟨a, b, c⟩, hq⟩ : ∃ q, numL s.data.toList = q := ⟨_, rfl⟩
  rw [hq] at hf
  simp only [hq] at hN ⊢
  have HN := Lib.hid hN
  clear hN
  simp only at hf
  obtain ⟨hf1, hf2, hf3, hf4⟩ := hf
  by_cases hc : c = 0
  · subst hc
    by_cases hle : a ≤ m
    · rw [if_pos rfl, if_pos hle]
      go_enter Tryz.func287, Tryz.ntmps287
      go_wp2_with fail
      refine (HN.out _).mono ?_
      rintro e w' ⟨rfl, rfl⟩
      go_wp2_with fail
      go_ret3
      exact ⟨rfl, rfl⟩
    · rw [if_pos rfl, if_neg hle]
      go_enter Tryz.func287, Tryz.ntmps287
      go_wp2_with fail
      refine (HN.out _).mono ?_
      rintro e w' ⟨rfl, rfl⟩
      go_wp2_with fail
      go_ret3
      exact ⟨rfl, rfl⟩
  · rw [if_neg hc]
    go_enter Tryz.func287, Tryz.ntmps287
    go_wp2_with fail
    refine (HN.out _).mono ?_
    rintro e w' ⟨rfl, rfl⟩
    go_wp2_with fail
    go_ret3
    exact ⟨rfl, rfl⟩
end Go.Proofs.YtdfgmieinbmfkaaGreat
