/-
  Package pack: how numbers are written.
-/
import Derived.Test.YtdfgmieinbmfkaaGreatNum
import Derived.Test.YtdfgmieinbmfkaaGreatClose
namespace Go.Proofs.YtdfgmieinbmfkaaGreat
open Go Go.RowKit

theorem bitLen_64 (n : Nat) (h : n < 18446744073709551616) : Lib.bitLen n ≤ 64 := by
  by_cases h0 : n = 0
  · subst h0; decide
  · have h1 := (Lib.bitLenAux_bounds 64 n (by omega) h0).2.1
    apply Classical.byContradiction
    intro hc
    have h2 : 2 ^ 64 ≤ 2 ^ (Lib.bitLen n - 1) := Nat.pow_le_pow_right (by omega) (by omega)
    have h3 : 2 ^ (Lib.bitLen n - 1) ≤ n := h1
    have e : (2 : Nat) ^ 64 = 18446744073709551616 := by decide
    omega
set_option maxRecDepth 100000 in
theorem size_c (n : Nat) (w : World) (h : n < 18446744073709551616) : Calls Tryz.prog 283 #[.int .u64 (n : Int)] w fun e w' => e = .returned (.int .i64 (sizeN n : Int)) ∧ w = w' := by
  have hb := sizeN_bitLen n h
  have hl := bitLen_64 n h
  have HL := Lib.hid (fun W => Tryz.bits_Len64 (n : Int) W (by omega) (by omega))
  rw [Int.toNat_natCast] at HL
  generalize Lib.bitLen n = b at *
  have e1 : IntKind.i64.wrap ((b : Int) + 7) = ((b + 7 : Nat) : Int) := IntWalk.i64_in _ (by omega)
  go_enter Tryz.func283, Tryz.ntmps283
  go_wp2_with fail
  refine (HL.out _).mono ?_
  rintro e w' ⟨rfl, rfl⟩
  go_wp2_with fail
  go_ret
  refine ⟨?_, rfl⟩
  have : max (1 : Int) (((b : Int) + 7 - 1) / 7) = (sizeN n : Int) := by omega
  rw [← this]
  rfl

/-- What was written, all of it behind the world w0. -/
structure OutS (w0 w : World) (o : Nat) (l : List UInt8) : Prop where
  ex : ∃ v, Blk w o 225 #[v] ∧ Own w 5 1 v l.length (bytesV l) ∧ ∀ q, v.ownBlock = some q → w0.heap.size ≤ q
  new : w0.heap.size ≤ o
  upd : Upd (fun _ => False) w0 w
theorem OutS.still {w0 w w' : World} {o : Nat} {l : List UInt8} (h : OutS w0 w o l) (hu : Upd (fun _ => False) w w') : OutS w0 w' o l := by
  obtain ⟨v, h1, h2, h3⟩ := h.ex
  exact ⟨⟨v, h1.upd hu (fun e => e), h2.upd hu (fun _ _ e => e), h3⟩, h.new, h.upd.then hu (fun _ e => e.elim)⟩
theorem OutS.start (w : World) : OutS w (w.alloc (.cells #[.slice none 0 0] 225)) w.heap.size [] :=
  ⟨⟨_, Blk.new w _ _, Own.nil _ _ _, fun q hq => by simp [Value.ownBlock] at hq⟩, Nat.le_refl _, (Upd.refl _ w).alloc _⟩
set_option maxRecDepth 100000 in
theorem oput_c {w0 w : World} {o : Nat} {l : List UInt8} (h : OutS w0 w o l) {src : Value} {n : Nat} {news : List UInt8} (hs : Src Tryz.prog w 223 1 src n (bytesV news)) (hn : news.length = n) (hm : l.length + n ≤ 1000000) :
    Calls Tryz.prog 284 #[.pointer (some ⟨o, 0, none⟩), src] w fun e w' => e = .returned (.tuple #[]) ∧ OutS w0 w' o (l ++ news) := by
  obtain ⟨i0, hi0, hz0, hz1, hz2⟩ := info_parts infoU8
  obtain ⟨v, hB, hO, hv⟩ := h.ex
  have hc := hB.cells1
  have hf := hB.frozen 0
  have hne := hO.ne_blk hB (by decide)
  go_enter Tryz.func284, Tryz.ntmps284
  go_wp2_with (at_builtin
               refine wpList_append_src rfl _ _ _ _ rfl 5 i0 _ 1 1 Tryz.underlying223 hi0 hz0 hz1 hz2 rfl v l.length _ rfl hO _ n _ rfl hs (bytesV_one _) (by unfold maxLen; omega) (by omega) ?_
               intro v2 w2 hO2 hU2 hl2 hs2
               have hB2 := hB.upd hU2 (fun e => hne e)
               have hc2 := hB2.cells1
               have hf2 := hB2.frozen 0
               obtain ⟨A2, cap2, rfl, hA1, hA2⟩ := hO2.shape)
  go_end0
  have hn2 : (Value.slice A2 (l.length + n) cap2).ownBlock ≠ some o := by
    rcases hl2 with e | e
    · rw [e]; exact hne
    · rw [e]; intro e2; have := hB.lt; have := Option.some.inj e2; omega
  refine ⟨rfl, ⟨_, hB2.set_ 0 _, ?_, fun q hq => ?_⟩, h.new, ?_⟩
  · have := hO2.far (p := ⟨o, 0, none⟩) hn2 (Value.slice A2 (l.length + n) cap2)
    rw [List.length_append, hn, bytesV_app]
    exact this
  · rcases hl2 with e | e
    · rw [e] at hq; exact hv q hq
    · rw [e] at hq; have := h.upd.size; have := Option.some.inj hq; omega
  · exact (h.upd.then hU2 (fun q hq => .inr (hv q hq))).setCell (p := ⟨o, 0, none⟩) (.inr h.new) _
theorem or_128 (k : Nat) : bits .or .u8 ((k : Int) % 256) 128 = ((k % 128 + 128 : Nat) : Int) := by
  have h : ∀ x : Fin 256, bits .or .u8 (x.val : Int) 128 = ((x.val % 128 + 128 : Nat) : Int) := by decide +kernel
  have h1 := h ⟨k % 256, by omega⟩
  have e : ((k % 256 : Nat) : Int) = (k : Int) % 256 := by omega
  have e2 : k % 256 % 128 = k % 128 := by omega
  simp only [e, e2] at h1
  exact h1
/-- A byte that was just laid. -/
theorem oput_one {w0 w : World} {o : Nat} {l : List UInt8} (h : OutS w0 w o l) (b : UInt8) {z : Int} (hz : z = (b.toNat : Int)) (hm : l.length + 1 ≤ 1000000) :
    Calls Tryz.prog 284 #[.pointer (some ⟨o, 0, none⟩), .slice (some ⟨w.heap.size, 0, none⟩) 1 1] (w.alloc (.cells #[.int .u8 z] 5)) fun e w' => e = .returned (.tuple #[]) ∧ OutS w0 w' o (l ++ [b]) := by
  subst hz
  exact oput_c (h.still ((Upd.refl _ w).alloc _)) (news := [b]) (Src.of_new Tryz.underlying223 _) rfl hm
set_option maxRecDepth 100000 in
set_option maxHeartbeats 400000 in
theorem onum_c {w0 w : World} {o : Nat} {l : List UInt8} (h : OutS w0 w o l) (n : Nat) (hn : n < 18446744073709551616) (hm : l.length ≤ 900000) :
    Calls Tryz.prog 160 #[.pointer (some ⟨o, 0, none⟩), .int .u64 (n : Int)] w fun e w' => e = .returned (.tuple #[]) ∧ OutS w0 w' o (l ++ putN n) := by
  have h10 := size_u64 hn
  go_enter Tryz.func160, Tryz.ntmps160
  go_wp2_with fail
  refine (size_c n _ hn).mono ?_
  rintro e w' ⟨rfl, rfl⟩
  have H := Lib.hid h
  clear h
  go_wp2_with fail
  go_loopw [1, 4] (fun x i wr => ∃ (k : Nat) (r : List UInt8), x = .int .u64 (k : Int) ∧ i = .int .i64 (sizeN k : Int) ∧ OutS w0 wr o (l ++ r) ∧ r ++ putN k = putN n ∧ k < 18446744073709551616 ∧ r.length ≤ 10) (fun _ i _ => (intOf i).toNat)
  case atStart => exact ⟨n, [], rfl, rfl, by simpa using H.out, by simp, hn, by simp⟩
  case round =>
    obtain ⟨k, r, rfl, rfl, ho, hr, hk, hl⟩ := hrel
    clear H
    have HO := Lib.hid ho
    clear ho
    by_cases hlt : k < 128
    · have hs1 := sizeN_lt hlt
      rw [hs1]
      go_wp2_with fail
      refine (oput_one HO.out (UInt8.ofNat k) (by rw [byte_low (by omega)]) (by simp; omega)).mono ?_
      rintro e w2 ⟨rfl, h2⟩
      go_wp2_with fail
      go_end0
      rw [← hr, putN_lt hlt, ← List.append_assoc]
      exact ⟨rfl, h2⟩
    · have hs1 := sizeN_ge (n := k) (by omega)
      have hp := sizeN_pos (k / 128)
      have hp10 := size_u64 (n := k / 128) (by omega)
      go_wp2_with fail
      refine (oput_one HO.out (UInt8.ofNat (k % 128 + 128)) (by rw [byte_low (by omega)]; exact or_128 k) (by simp; omega)).mono ?_
      rintro e w2 ⟨rfl, h2⟩
      have H2 := Lib.hid h2
      clear h2
      go_wp2_with fail
      go_roundw
      case rel =>
        refine ⟨k / 128, r ++ [UInt8.ofNat (k % 128 + 128)], by go_num, by go_num, ?_, ?_, by omega, ?_⟩
        · rw [← List.append_assoc]; exact H2.out
        · rw [← hr, putN_ge (n := k) (by omega), List.append_assoc]; rfl
        · have h1 := congrArg List.length hr
          rw [List.length_append, putN_len, putN_len] at h1
          rw [List.length_append]; simp; omega
      case measure => simp [intOf]; omega
set_option maxRecDepth 100000 in
theorem ostring_c {w0 w : World} {o : Nat} {l : List UInt8} (h : OutS w0 w o l) :
    Calls Tryz.prog 164 #[.pointer (some ⟨o, 0, none⟩)] w fun e w' => e = .returned (.string (str l)) ∧ w = w' := by
  obtain ⟨v, hB, hO, hv⟩ := h.ex
  have hc := hB.cells1
  have hcv := run_to_string hO
  obtain ⟨A, cap, rfl, h1, h2⟩ := hO.shape
  go_enter Tryz.func164, Tryz.ntmps164
  go_wp2_with fail
  go_ret
  exact ⟨rfl, rfl⟩
end Go.Proofs.YtdfgmieinbmfkaaGreat
