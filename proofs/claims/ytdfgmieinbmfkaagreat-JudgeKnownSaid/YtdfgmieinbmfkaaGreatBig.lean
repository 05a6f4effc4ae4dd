/-
  Numbers put into bytes and read off them, the highest byte first: the copies of putBig, and getBig.
-/
import Derived.Test.YtdfgmieinbmfkaaGreatPackB
import Derived.Test.YtdfgmieinbmfkaaGreatSealM
namespace Go.Proofs.YtdfgmieinbmfkaaGreat
open Go Go.RowKit

theorem u64_wrap (z : Nat) (h : z < 18446744073709551616) : IntKind.u64.wrap (z : Int) = (z : Int) := by
  simp only [IntKind.wrap, IntKind.bits, IntKind.signed]
  simp
  omega
theorem be_step (N b : Nat) (h : 256 * N < 18446744073709551616) (hb : b < 256) : bits .or .u64 ((N : Int) * 256) (b : Int) = ((N * 256 + b : Nat) : Int) := by
  have e : ((N : Int) * 256) = ((N * 256 : Nat) : Int) := by omega
  rw [e, u64_or_nat (N * 256) b (by omega) (by omega), nat_join 8 _ _ (by omega) (by omega)]
set_option maxRecDepth 100000 in
set_option maxHeartbeats 400000 in
theorem getBig_c (s : ByteArray) (n : Nat) (w : World) (hn : n ≤ 7) (hs : n ≤ s.size) :
    Calls Tryz.prog 445 #[.string s, .int .i64 (n : Int)] w fun e w' => e = .returned (.int .u64 (beN (s.data.toList.take n) : Int)) ∧ w = w' := by
  go_enter Tryz.func445, Tryz.ntmps445
  go_wp2_with fail
  go_loop [4, 7] (fun x i => ∃ k : Nat, k ≤ n ∧ i = .int .i64 k ∧ x = .int .u64 (beN (s.data.toList.take k) : Int)) (fun _ i => n - (intOf i).toNat)
  case atStart => exact ⟨0, by omega, rfl, rfl⟩
  case round =>
    obtain ⟨k, hk, rfl, rfl⟩ := hrel
    by_cases hlt : k < n
    · have hlt' : k < s.size := by omega
      have hl := beN_lt (s.data.toList.take k)
      have hl2 : beN (s.data.toList.take k) < 281474976710656 := Nat.lt_of_lt_of_le hl (Nat.le_trans (Nat.pow_le_pow_right (by omega) (show 8 * (s.data.toList.take k).length ≤ 48 by simp; omega)) (by decide))
      have hts := Lib.hid (take_snoc_ s k hlt')
      clear hl
      obtain ⟨N, hN⟩ : ∃ N, beN (s.data.toList.take k) = N := ⟨_, rfl⟩
      have HN := Lib.hid hN
      rw [hN] at hl2 ⊢
      clear hN
      have hb := (s[k]).toNat_lt
      have e1 := be_step N (s[k]).toNat (by omega) (by omega)
      go_wp2
      go_round
      case rel =>
        refine ⟨k + 1, by omega, by go_num, ?_⟩
        rw [hts.out, beN_snoc, HN.out]
        first | rfl | (rw [← e1]; done) | (congr 1; rw [← e1]; done)
      case measure => simp [intOf]; omega
    · obtain rfl : k = n := by omega
      go_wp2
      go_ret
      exact ⟨rfl, rfl⟩
theorem beB_step (x n : Nat) : bytesV [UInt8.ofNat (x / 2 ^ (8 * n))] = [.int .u8 ((x : Int) / 2 ^ (8 * n) % 256)] := by simp only [bytesV, List.map_cons, List.map_nil]; rw [byteV]; simp
/-- The four copies of putBig are walked alike. -/
theorem putBig_walk {A P : Prop} (f : A) (h : A → P := by
  intro H
  clear H
  obtain ⟨i0, hi0, hz0, hz1, hz2⟩ := info_parts infoU8
  first | go_enter Tryz.func370, Tryz.ntmps370 | go_enter Tryz.func377, Tryz.ntmps377 | go_enter Tryz.func292, Tryz.ntmps292 | go_enter Tryz.func459, Tryz.ntmps459
  go_wp2_with fail
  go_loopw [0, 7] (fun u i wr => ∃ (j : Nat) (d : List UInt8), i = .int .i64 ((j : Int) - 1) ∧ d ++ beB x j = beB x n ∧ Own wr 5 1 u (m + d.length) (xs ++ bytesV d) ∧ Upd (fun k => v.ownBlock = some k) w wr ∧ (u.ownBlock = v.ownBlock ∨ ∃ q, u.ownBlock = some q ∧ w.heap.size ≤ q)) (fun _ i _ => (intOf i + 1).toNat)
  case atStart => exact ⟨n, [], by first | rfl | go_num, rfl, by simpa [bytesV] using hown, Upd.refl _ _, .inl rfl⟩
  case round =>
    obtain ⟨j, d, rfl, hd, ho, hU, hl⟩ := hrel
    clear hown
    have hdl := congrArg List.length hd
    rw [List.length_append, beB_len, beB_len] at hdl
    cases j with
    | succ j =>
      rw [show ((j + 1 : Nat) : Int) - 1 = (j : Int) by omega]
      have HX := Lib.hid (And.intro hd (And.intro hU hl))
      have hj : j < 8 := by omega
      have hdm : d.length ≤ 8 := by omega
      clear hd hU hl hdl
      obtain ⟨D, hD⟩ : ∃ D, d.length = D := ⟨_, rfl⟩
      rw [hD] at ho hdm
      have HD := Lib.hid hD
      clear hD
      go_wp2_with (at_builtin; refine wpList_append_src rfl _ _ _ _ rfl 5 i0 _ 1 1 Tryz.underlying223 hi0 hz0 hz1 hz2 rfl u0 (m + D) _ rfl (ho.alloc _) _ 1 [_] rfl (Src.of_new Tryz.underlying223 _) (by simp [Value.oneCell']) (by unfold maxLen; omega) (by omega) ?_; intro v2 w2 ho2 hU2 hl2 hs2)
      obtain ⟨hd, hU, hl⟩ := HX.out
      go_roundw
      case rel =>
        refine ⟨j, d ++ [UInt8.ofNat (x / 2 ^ (8 * j))], by first | rfl | go_num, ?_, ?_, (hU.alloc _).then hU2 (fun b hb => ?_), ?_⟩
        · rw [List.append_assoc]; exact hd
        · rw [bytesV_app, beB_step, ← List.append_assoc, List.length_append, HD.out]; exact ho2
        · rcases hl with h | ⟨q, h, hq⟩
          · exact .inl (by rw [← h]; exact hb)
          · rw [h] at hb; exact .inr (by have := Option.some.inj hb; omega)
        · have hsz := hU.size
          rcases hl2 with h | h
          · rw [h]; exact hl
          · exact .inr ⟨_, h, by simp; omega⟩
      case measure => simp [intOf] <;> omega
    | zero =>
      obtain rfl : d = beB x n := by simpa [beB] using hd
      rw [beB_len] at ho
      have e1 : ((0 : Nat) : Int) - 1 = -1 := rfl
      rw [e1]
      clear hd hdl
      go_wp2
      go_ret
      exact ⟨u0, rfl, ho, hU, hl⟩) : P := h f
set_option maxRecDepth 100000 in
set_option maxHeartbeats 400000 in
theorem putBig_sha (v : Value) (m : Nat) (xs : List Value) (x n : Nat) (w : World) (hown : Own w 5 1 v m xs) (hn : n ≤ 8) (hm : m ≤ 1000000) :
    Calls Tryz.prog 370 #[v, .int .u64 (x : Int), .int .i64 (n : Int)] w fun e w' => ∃ v', e = .returned v' ∧ Own w' 5 1 v' (m + n) (xs ++ bytesV (beB x n)) ∧ Upd (fun k => v.ownBlock = some k) w w' ∧ (v'.ownBlock = v.ownBlock ∨ ∃ q, v'.ownBlock = some q ∧ w.heap.size ≤ q) := by
  exact putBig_walk (And.intro hown (And.intro hn hm))
set_option maxRecDepth 100000 in
set_option maxHeartbeats 400000 in
theorem putBig_aes (v : Value) (m : Nat) (xs : List Value) (x n : Nat) (w : World) (hown : Own w 5 1 v m xs) (hn : n ≤ 8) (hm : m ≤ 1000000) :
    Calls Tryz.prog 377 #[v, .int .u64 (x : Int), .int .i64 (n : Int)] w fun e w' => ∃ v', e = .returned v' ∧ Own w' 5 1 v' (m + n) (xs ++ bytesV (beB x n)) ∧ Upd (fun k => v.ownBlock = some k) w w' ∧ (v'.ownBlock = v.ownBlock ∨ ∃ q, v'.ownBlock = some q ∧ w.heap.size ≤ q) := by
  exact putBig_walk (And.intro hown (And.intro hn hm))
set_option maxRecDepth 100000 in
set_option maxHeartbeats 400000 in
theorem putBig_seal (v : Value) (m : Nat) (xs : List Value) (x n : Nat) (w : World) (hown : Own w 5 1 v m xs) (hn : n ≤ 8) (hm : m ≤ 1000000) :
    Calls Tryz.prog 292 #[v, .int .u64 (x : Int), .int .i64 (n : Int)] w fun e w' => ∃ v', e = .returned v' ∧ Own w' 5 1 v' (m + n) (xs ++ bytesV (beB x n)) ∧ Upd (fun k => v.ownBlock = some k) w w' ∧ (v'.ownBlock = v.ownBlock ∨ ∃ q, v'.ownBlock = some q ∧ w.heap.size ≤ q) := by
  exact putBig_walk (And.intro hown (And.intro hn hm))
set_option maxRecDepth 100000 in
set_option maxHeartbeats 400000 in
theorem putBig_ring (v : Value) (m : Nat) (xs : List Value) (x n : Nat) (w : World) (hown : Own w 5 1 v m xs) (hn : n ≤ 8) (hm : m ≤ 1000000) :
    Calls Tryz.prog 459 #[v, .int .u64 (x : Int), .int .i64 (n : Int)] w fun e w' => ∃ v', e = .returned v' ∧ Own w' 5 1 v' (m + n) (xs ++ bytesV (beB x n)) ∧ Upd (fun k => v.ownBlock = some k) w w' ∧ (v'.ownBlock = v.ownBlock ∨ ∃ q, v'.ownBlock = some q ∧ w.heap.size ≤ q) := by
  exact putBig_walk (And.intro hown (And.intro hn hm))
end Go.Proofs.YtdfgmieinbmfkaaGreat
