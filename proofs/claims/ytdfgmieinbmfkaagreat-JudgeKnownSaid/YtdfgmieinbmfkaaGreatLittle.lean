/-
  Numbers put into bytes and read off them, the lowest byte first: the three copies of putLittle and getLittle.
-/
import Derived.Test.YtdfgmieinbmfkaaGreatOwn
import Derived.Test.YtdfgmieinbmfkaaGreatProg
namespace Go.Proofs.YtdfgmieinbmfkaaGreat
open Go Go.RowKit

def bytesV (l : List UInt8) : List Value := l.map fun b => Value.int .u8 b.toNat
theorem bytesV_app (a b : List UInt8) : bytesV (a ++ b) = bytesV a ++ bytesV b := by simp [bytesV]
theorem bytesV_len (a : List UInt8) : (bytesV a).length = a.length := by simp [bytesV]
theorem bytesV_one (l : List UInt8) : ∀ u ∈ bytesV l, u.oneCell' = true := by
  intro u hu
  obtain ⟨_, _, rfl⟩ := List.mem_map.1 hu
  rfl
/-- The n lowest bytes of x, the lowest one first. -/
def leB (x : Nat) (n : Nat) : List UInt8 := (List.range n).map fun i => UInt8.ofNat (x / 2 ^ (8 * i))
theorem leB_len (x n : Nat) : (leB x n).length = n := by simp [leB]
theorem leB_snoc (x n : Nat) : leB x (n + 1) = leB x n ++ [UInt8.ofNat (x / 2 ^ (8 * n))] := by simp [leB, List.range_succ]
theorem byteV (y : Nat) : (((UInt8.ofNat y).toNat : Nat) : Int) = (y : Int) % 256 := by simp
theorem bytesV_le (x n : Nat) : bytesV (leB x (n + 1)) = bytesV (leB x n) ++ [.int .u8 ((x : Int) / 2 ^ (8 * n) % 256)] := by
  rw [leB_snoc, bytesV_app]
  rw [show bytesV [UInt8.ofNat (x / 2 ^ (8 * n))] = [.int .u8 ((x : Int) / 2 ^ (8 * n) % 256)] from by simp only [bytesV, List.map_cons, List.map_nil]; rw [byteV]; simp]
/-- The number of these bytes, the lowest one first. -/
def leN : List UInt8 → Nat
  | [] => 0
  | b :: l => b.toNat + 256 * leN l
theorem leN_app (a : List UInt8) (b : List UInt8) : leN (a ++ b) = leN a + 2 ^ (8 * a.length) * leN b := by
  induction a with
  | nil => simp [leN]
  | cons x a ih =>
    simp only [List.cons_append, leN, ih, List.length_cons]
    have : 2 ^ (8 * (a.length + 1)) = 256 * 2 ^ (8 * a.length) := by rw [Nat.mul_add, Nat.pow_add]; omega
    rw [this, Nat.mul_add, Nat.mul_assoc]
    omega
theorem leN_lt (l : List UInt8) : leN l < 2 ^ (8 * l.length) := by
  induction l with
  | nil => simp [leN]
  | cons x l ih =>
    have hx := x.toNat_lt
    simp only [leN, List.length_cons]
    have : 2 ^ (8 * (l.length + 1)) = 256 * 2 ^ (8 * l.length) := by rw [Nat.mul_add, Nat.pow_add]; omega
    omega
theorem leN_leB (x n : Nat) (h : x < 2 ^ (8 * n)) : leN (leB x n) = x := by
  have key : ∀ n, leN (leB x n) = x % 2 ^ (8 * n) := by
    intro n
    induction n with
    | zero => simp [leB, leN, Nat.mod_one]
    | succ n ih =>
      rw [leB_snoc, leN_app, ih, leB_len]
      have e : 2 ^ (8 * (n + 1)) = 2 ^ (8 * n) * 256 := by rw [Nat.mul_add, Nat.pow_add]
      rw [e, Nat.mod_mul]
      simp [leN]
  rw [key, Nat.mod_eq_of_lt h]
theorem u64_or_add (a b k : Nat) (ha : a < 2 ^ (8 * k)) (hb : b < 256) (hk : k < 8) : bits .or .u64 (a : Int) (((b * 2 ^ (8 * k) : Nat) : Int)) = ((a + 2 ^ (8 * k) * b : Nat) : Int) := by
  have h8 : 2 ^ (8 * k) ≤ 2 ^ 56 := Nat.pow_le_pow_right (by omega) (by omega)
  have hb2 : b * 2 ^ (8 * k) ≤ 255 * 2 ^ 56 := Nat.mul_le_mul (by omega) h8
  rw [u64_or_nat a _ (by omega) (by omega), Nat.or_comm, nat_join (8 * k) _ _ (Nat.mul_mod_left _ _) ha, Nat.mul_comm b, Nat.add_comm]
theorem le_step (l : List UInt8) (k : Nat) (y : UInt8) (hk : k < 8) (hl : l.length = k) : bits .or .u64 (leN l : Int) (IntKind.u64.wrap (IntKind.u64.wrap (y.toNat : Int) * 2 ^ (8 * k))) = (leN (l ++ [y]) : Int) := by
  have hy := y.toNat_lt
  have h8 : 2 ^ (8 * k) ≤ 2 ^ 56 := Nat.pow_le_pow_right (by omega) (by omega)
  have hb2 : y.toNat * 2 ^ (8 * k) ≤ 255 * 2 ^ 56 := Nat.mul_le_mul (by omega) h8
  have w64 : ∀ z : Nat, z < 18446744073709551616 → IntKind.u64.wrap (z : Int) = (z : Int) := by
    intro z hz
    simp only [IntKind.wrap, IntKind.bits, IntKind.signed]
    simp
    omega
  rw [w64 _ (by omega)]
  have e : ((y.toNat : Int) * 2 ^ (8 * k)) = ((y.toNat * 2 ^ (8 * k) : Nat) : Int) := by push_cast; rfl
  rw [e, w64 _ (by omega)]
  have hlt := leN_lt l
  rw [hl] at hlt
  rw [u64_or_add _ _ k hlt (by omega) hk, leN_app, hl]
  simp [leN]
theorem infoU8 : (Tryz.prog.info? 5).map (fun i => (i.zero, i.size, i.bytes)) = some (some (.int .u8 0), 1, 1) := by kernel_rfl

theorem take_snoc_ (s : ByteArray) (k : Nat) (h : k < s.size) : s.data.toList.take (k + 1) = s.data.toList.take k ++ [s[k]] := by
  rw [List.take_succ_eq_append_getElem (by simpa using h)]; rfl
theorem putLittle_walk {A P : Prop} (f : A) (h : A → P := by
  intro H
  clear H
  obtain ⟨i0, hi0, hz0, hz1, hz2⟩ := info_parts infoU8
  first | go_enter Tryz.func453, Tryz.ntmps453 | go_enter Tryz.func483, Tryz.ntmps483 | go_enter Tryz.func395, Tryz.ntmps395
  go_wp2_with fail
  go_loopw [0, 9] (fun u i wr => ∃ k : Nat, k ≤ n ∧ i = .int .i64 k ∧ Own wr 5 1 u (m + k) (xs ++ bytesV (leB x k)) ∧ Upd (fun k => v.ownBlock = some k) w wr ∧ (u.ownBlock = v.ownBlock ∨ ∃ q, u.ownBlock = some q ∧ w.heap.size ≤ q)) (fun _ i _ => n - (intOf i).toNat)
  case atStart => exact ⟨0, by omega, rfl, by simpa [leB, bytesV] using hown, Upd.refl _ _, .inl rfl⟩
  case round =>
    obtain ⟨k, hk, rfl, ho, hU, hl⟩ := hrel
    clear hown
    by_cases hlt : k < n
    · have HX := Lib.hid (And.intro hU hl)
      clear hU hl
      go_wp2_with (at_builtin; refine wpList_append_src rfl _ _ _ _ rfl 5 i0 _ 1 1 Tryz.underlying223 hi0 hz0 hz1 hz2 rfl u0 (m + k) _ rfl (ho.alloc _) _ 1 [_] rfl (Src.of_new Tryz.underlying223 _) (by simp [Value.oneCell']) (by unfold maxLen; omega) (by omega) ?_; intro v2 w2 ho2 hU2 hl2 hs2)
      obtain ⟨hU, hl⟩ := HX.out
      go_roundw
      case rel =>
        refine ⟨k + 1, by omega, by go_num, ?_, (hU.alloc _).then hU2 (fun b hb => ?_), ?_⟩
        · rw [bytesV_le, ← List.append_assoc]; exact ho2
        · rcases hl with h | ⟨q, h, hq⟩
          · exact .inl (by rw [← h]; exact hb)
          · rw [h] at hb; exact .inr (by have := Option.some.inj hb; omega)
        · have hsz := hU.size
          rcases hl2 with h | h
          · rw [h]; exact hl
          · exact .inr ⟨_, h, by simp; omega⟩
      case measure => simp [intOf]; omega
    · obtain rfl : k = n := by omega
      go_wp2
      go_ret
      exact ⟨u0, rfl, ho, hU, hl⟩) : P := h f
theorem getLittle_walk {A P : Prop} (f : A) (h : A → P := by
  intro H
  clear H
  first | go_enter Tryz.func417, Tryz.ntmps417 | go_enter Tryz.func488, Tryz.ntmps488 | go_enter Tryz.func455, Tryz.ntmps455
  go_wp2_with fail
  go_loop [4, 7] (fun x i => ∃ k : Nat, k ≤ n ∧ i = .int .i64 k ∧ x = .int .u64 (leN (s.data.toList.take k) : Int)) (fun _ i => n - (intOf i).toNat)
  case atStart => exact ⟨0, by omega, rfl, rfl⟩
  case round =>
    obtain ⟨k, hk, rfl, rfl⟩ := hrel
    by_cases hlt : k < n
    · have hlt' : k < s.size := by omega
      go_wp2
      go_round
      case rel =>
        refine ⟨k + 1, by omega, by go_num, ?_⟩
        rw [take_snoc_ s k hlt', le_step _ k _ (by omega) (by simp; omega)]
      case measure => simp [intOf]; omega
    · obtain rfl : k = n := by omega
      go_wp2
      go_ret
      exact ⟨rfl, rfl⟩) : P := h f
set_option maxRecDepth 100000 in
set_option maxHeartbeats 400000 in
theorem putLittle_disk (v : Value) (m : Nat) (xs : List Value) (x n : Nat) (w : World) (hown : Own w 5 1 v m xs) (hn : n ≤ 8) (hm : m ≤ 1000000) :
    Calls Tryz.prog 453 #[v, .int .u64 (x : Int), .int .i64 (n : Int)] w fun e w' => ∃ v', e = .returned v' ∧ Own w' 5 1 v' (m + n) (xs ++ bytesV (leB x n)) ∧ Upd (fun k => v.ownBlock = some k) w w' ∧ (v'.ownBlock = v.ownBlock ∨ ∃ q, v'.ownBlock = some q ∧ w.heap.size ≤ q) := by
  exact putLittle_walk (And.intro hown (And.intro hn hm))
set_option maxRecDepth 100000 in
set_option maxHeartbeats 400000 in
theorem getLittle_disk (s : ByteArray) (n : Nat) (w : World) (hn : n ≤ 8) (hs : n ≤ s.size) :
    Calls Tryz.prog 417 #[.string s, .int .i64 (n : Int)] w fun e w' => e = .returned (.int .u64 (leN (s.data.toList.take n) : Int)) ∧ w = w' := by
  exact getLittle_walk (And.intro hn hs)
set_option maxRecDepth 100000 in
set_option maxHeartbeats 400000 in
theorem putLittle_kept (v : Value) (m : Nat) (xs : List Value) (x n : Nat) (w : World) (hown : Own w 5 1 v m xs) (hn : n ≤ 8) (hm : m ≤ 1000000) :
    Calls Tryz.prog 483 #[v, .int .u64 (x : Int), .int .i64 (n : Int)] w fun e w' => ∃ v', e = .returned v' ∧ Own w' 5 1 v' (m + n) (xs ++ bytesV (leB x n)) ∧ Upd (fun k => v.ownBlock = some k) w w' ∧ (v'.ownBlock = v.ownBlock ∨ ∃ q, v'.ownBlock = some q ∧ w.heap.size ≤ q) := by
  exact putLittle_walk (And.intro hown (And.intro hn hm))
set_option maxRecDepth 100000 in
set_option maxHeartbeats 400000 in
theorem getLittle_kept (s : ByteArray) (n : Nat) (w : World) (hn : n ≤ 8) (hs : n ≤ s.size) :
    Calls Tryz.prog 488 #[.string s, .int .i64 (n : Int)] w fun e w' => e = .returned (.int .u64 (leN (s.data.toList.take n) : Int)) ∧ w = w' := by
  exact getLittle_walk (And.intro hn hs)
set_option maxRecDepth 100000 in
set_option maxHeartbeats 400000 in
theorem putLittle_log (v : Value) (m : Nat) (xs : List Value) (x n : Nat) (w : World) (hown : Own w 5 1 v m xs) (hn : n ≤ 8) (hm : m ≤ 1000000) :
    Calls Tryz.prog 395 #[v, .int .u64 (x : Int), .int .i64 (n : Int)] w fun e w' => ∃ v', e = .returned v' ∧ Own w' 5 1 v' (m + n) (xs ++ bytesV (leB x n)) ∧ Upd (fun k => v.ownBlock = some k) w w' ∧ (v'.ownBlock = v.ownBlock ∨ ∃ q, v'.ownBlock = some q ∧ w.heap.size ≤ q) := by
  exact putLittle_walk (And.intro hown (And.intro hn hm))
set_option maxRecDepth 100000 in
set_option maxHeartbeats 400000 in
theorem getLittle_log (s : ByteArray) (n : Nat) (w : World) (hn : n ≤ 8) (hs : n ≤ s.size) :
    Calls Tryz.prog 455 #[.string s, .int .i64 (n : Int)] w fun e w' => e = .returned (.int .u64 (leN (s.data.toList.take n) : Int)) ∧ w = w' := by
  exact getLittle_walk (And.intro hn hs)
end Go.Proofs.YtdfgmieinbmfkaaGreat
