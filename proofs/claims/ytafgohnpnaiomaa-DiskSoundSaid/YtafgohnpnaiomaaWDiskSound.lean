/-
  DiskSound: the walk.
-/
import Derived.Test.YtafgohnpnaiomaaDone7
import Derived.Test.YtafgohnpnaiomaaRef7
import Derived.Test.YtafgohnpnaiomaaLawW
import Derived.Lib.BufferWrite
namespace Go.Proofs.Ytafgohnpnaiomaa
open Go Go.RowKit

/-- Sixty bytes of these: cut, or noughts behind them. -/
def bodyOf (l : List UInt8) : List UInt8 := (l ++ List.replicate 60 0).take 60
theorem bodyOf_len (l : List UInt8) : (bodyOf l).length = 60 := by simp [bodyOf]
def zeros60 : Array Value := Array.replicate 60 (.int .u8 0)
/-- The bit n turned. -/
def tbit (l : List UInt8) (n : Nat) : List UInt8 := l.set (n / 8) (l.getD (n / 8) 0 ^^^ UInt8.ofNat (2 ^ (n % 8)))
theorem tbit_len (l : List UInt8) (n : Nat) : (tbit l n).length = l.length := by simp [tbit]
theorem tbit_leN (l : List UInt8) (n : Nat) (h : n < 8 * l.length) : leN (tbit l n) = leN l ^^^ 2 ^ n := by
  have h8 : n % 8 < 8 := by omega
  have hp : 2 ^ (n % 8) < 256 := Nat.pow_lt_pow_right (by omega) h8
  rw [tbit, leN_set _ _ _ (by omega), UInt8.toNat_ofNat_of_lt' (by simpa using hp), ← Nat.pow_add]
  congr 2
  omega
theorem leN_inj {a b : List UInt8} (hl : a.length = b.length) (h : leN a = leN b) : a = b := by
  rw [← leB_leN a, ← leB_leN b, hl, h]
theorem sum_noughts : sumN (List.replicate 60 0) ≠ 0 := by decide +kernel
theorem close_sound (b : List UInt8) (h : b.length = 60) : lookL (closeL b) = (b, 1) := by
  by_cases hz : b = List.replicate 60 0
  · subst hz
    decide +kernel
  · exact lookL_closeL b h hz (sumN_lt b)
/-- What the loop keeps: some bits within k from q on are turned. -/
structure Turned (s : List UInt8) (q k : Nat) (c : List UInt8) (t : Bool) : Prop where
  len : c.length = 64
  bits : ∃ e, e < 2 ^ k ∧ leN c = leN s ^^^ (2 ^ q * e) ∧ t = decide (e ≠ 0)
theorem Turned.zero {s : List UInt8} (h : s.length = 64) (q : Nat) : Turned s q 0 s false := ⟨h, 0, by simp, by simp, by simp⟩
theorem Turned.keep {s c : List UInt8} {q k : Nat} {t : Bool} (h : Turned s q k c t) : Turned s q (k + 1) c t := by
  obtain ⟨hl, e, he, hc, ht⟩ := h
  exact ⟨hl, e, by rw [Nat.pow_succ]; omega, hc, ht⟩
theorem Turned.turn {s c : List UInt8} {q k : Nat} {t : Bool} (h : Turned s q k c t) (hq : q + k < 512) : Turned s q (k + 1) (tbit c (q + k)) true := by
  obtain ⟨hl, e, he, hc, ht⟩ := h
  have hx : e ^^^ 2 ^ k = 2 ^ k + e := by
    rw [Nat.xor_comm]
    have := Nat.two_pow_add_eq_or_of_lt he 1
    rw [Nat.mul_one] at this
    rw [this]
    apply Nat.eq_of_testBit_eq
    intro i
    rw [Nat.testBit_xor, Nat.testBit_or, Nat.testBit_two_pow]
    by_cases hi : k = i
    · subst hi
      simp [Nat.testBit_lt_two_pow he]
    · simp [hi]
  refine ⟨by rw [tbit_len, hl], e ^^^ 2 ^ k, by rw [hx, Nat.pow_succ]; omega, ?_, ?_⟩
  · rw [tbit_leN _ _ (by omega), hc, Nat.xor_assoc, mul_xor, ← Nat.pow_add]
  · rw [hx]
    have := Nat.two_pow_pos k
    simp
theorem Turned.ends {s c : List UInt8} {q : Nat} {t : Bool} (h : Turned s q 32 c t) (hs : fits s) (h1 : (lookL s).2 = 1) (hq : q ≤ 512) : (t == ((lookL c).2 != 1)) = true := by
  obtain ⟨hl, e, he, hc, rfl⟩ := h
  by_cases h0 : e = 0
  · subst h0
    have : c = s := leN_inj (by rw [hl, hs.1]) (by rw [hc]; simp)
    subst this
    simp [h1]
  · have hne : (lookL c).2 ≠ 1 := fun hx => h0 (fits_burst hs (look_fits hx) q e he hq hc)
    simp [h0, hne]

theorem bytesV_zeros (n : Nat) : bytesV (List.replicate n 0) = List.replicate n (.int .u8 0) := by simp [bytesV]
theorem bodyOf_row (s : ByteArray) : bytesV (s.data.toList.take 60) ++ (List.replicate 60 (Value.int .u8 0)).drop (s.data.toList.take 60).length = bytesV (bodyOf s.data.toList) := by
  unfold bodyOf
  rw [List.drop_replicate, List.take_append, bytesV_app, List.take_replicate, bytesV_zeros, List.length_take]
  congr 2
  omega
/-- copy(b[:], s). -/
theorem run_copy_body {w : World} {g : Nat} {cur : Array Value} (hB : Blk w g 108 cur) (hc : cur.toList = List.replicate 60 (Value.int .u8 0)) (s : ByteArray) :
    ∃ W, (Builtin.copy_ #[30, 9] 3 #[.slice (some ⟨g, 0, none⟩) 60 60, .string s]).run Try.prog w = .ok (goInt (Nat.min s.size 60)) W ∧ Blk W g 108 (bytesV (bodyOf s.data.toList)).toArray ∧ Upd (fun k => k = g) w W := by
  have hsz : cur.size = 60 := by rw [← Array.length_toList, hc]; simp
  have hlen : (Lib.byteCells (s.data.toList.take 60)).length = Nat.min s.size 60 := by
    rw [Lib.byteCells_length, List.length_take, Nat.min_comm]
    simp [Nat.min_def]
  have hst := run_storeCells_at Try.prog g 0 108 (Lib.byteCells (s.data.toList.take 60)) 0 cur w hB (by rw [hlen, hsz]; have := Nat.min_le_right s.size 60; show 0 + 0 + min s.size 60 ≤ 60; omega) (Lib.byteCells_one _)
  have htk : List.take (Nat.min s.size 60) (List.map (fun b : UInt8 => Value.int IntKind.u8 (b.toNat : Int)) s.data.toList) = Lib.byteCells (s.data.toList.take 60) := by
    rw [← List.map_take]
    show _ = List.map _ _
    congr 1
    by_cases h : s.size ≤ 60
    · rw [show Nat.min s.size 60 = s.size from Nat.min_eq_left h, List.take_of_length_le (by simp), List.take_of_length_le (by simpa using h)]
    · rw [show Nat.min s.size 60 = 60 from Nat.min_eq_right (by omega)]
  rw [hlen] at hst
  simp only [Nat.add_zero, Nat.zero_add] at hst
  have hq : Try.prog.info? 5 = Try.prog.info? 5 := rfl
  have hsize : (Try.prog.info? 5).map (·.size) = some 1 := by kernel_rfl
  refine ⟨w.setRow g (List.take 0 cur.toList ++ Lib.byteCells (s.data.toList.take 60) ++ List.drop (Nat.min s.size 60) cur.toList).toArray, ?_, ?_, ?_⟩
  rotate_left
  · have e : List.take 0 cur.toList ++ Lib.byteCells (s.data.toList.take 60) ++ List.drop (Nat.min s.size 60) cur.toList = bytesV (bodyOf s.data.toList) := by
      rw [hc, ← bodyOf_row s, ← hlen, Lib.byteCells_length]
      rfl
    rw [e]
    exact Blk.setRow hB _
  · exact Upd.setRow_ _ _ _
  · cases hi : Try.prog.info? 5 with
    | none => rw [hi] at hsize; simp at hsize
    | some i =>
      simp [Builtin.copy_, run_underlying Try.underlying30, Builtin.lenOf, Builtin.firstCells, sizeOf, typeInfo, hi]
      rw [htk, hst]
      simp [Result.andThen]
theorem run_body {w : World} {g : Nat} {l : List UInt8} (hB : Blk w g 108 (bytesV l).toArray) (hl : l.length = 60) :
    (convert 30 9 (.slice (some ⟨g, 0, none⟩) 60 60)).run Try.prog w = .ok (.string (str l)) w := by
  rw [← strOfNums_bytes]
  refine run_convert_bytes_arg _ _ _ Try.underlying30 Try.underlying5 _ 0 60 60 _ (by simp [hl]) (fun i hi => ?_) _ Try.underlying9
  rw [Nat.zero_add, hB.cell i]
  simp [bytesV, hl, hi]

theorem bit_xor (y : UInt8) (m : Nat) : bits .xor .u8 (y.toNat : Int) (2 ^ m % 256) = (((y ^^^ UInt8.ofNat (2 ^ m)).toNat : Nat) : Int) := by
  have h := u8_xor y (UInt8.ofNat (2 ^ m))
  rw [byteV] at h
  rw [show ((2 : Int) ^ m % 256) = ((2 ^ m : Nat) : Int) % 256 by push_cast; rfl]
  first | exact h | (rw [UInt8.toNat_xor]; exact h)
theorem u32_nat {n : Int} (h : (Lit.int .u32 n).wf = true) : ∃ m : Nat, n = m ∧ m < 4294967296 := by
  simp only [Lit.wf, Bool.and_eq_true, decide_eq_true_eq] at h
  have h1 : IntKind.u32.min = 0 := rfl
  have h2 : IntKind.u32.max = 4294967295 := rfl
  exact ⟨n.toNat, by omega, by omega⟩
theorem Upd.also {w0 w1 w2 : World} (h1 : Upd (fun _ => False) w0 w1) (h2 : Upd (fun _ => False) w1 w2) : Upd (fun _ => False) w0 w2 := Upd.trans (H := fun _ => False) h1 h2 (fun _ h => h.elim) (fun _ h => h.elim)
set_option maxRecDepth 100000 in
set_option maxHeartbeats 6000000 in
theorem walk_DiskSound {body : ByteArray} {at_ pat : Int} (w : World) (_hb : body.size ≤ maxLen) (h1 : (Lit.int .u32 at_).wf = true) (h2 : (Lit.int .u32 pat).wf = true) :
    Calls Try.prog 20 #[.string body, .int .u32 at_, .int .u32 pat] w fun e w' => e = .returned (.bool true) ∧ Upd (fun _ => False) w w' := by
  unfold maxLen at _hb
  go_enter Try.func20, Try.ntmps20
  go_wp2_with fail
  refine (awake_07 _).mono ?_
  rintro e w1 ⟨rfl, hu1⟩
  go_wp2_with fail
  generalize hW : w1.alloc _ = W
  have hBz : ∃ Z : Array Value, Blk W w1.heap.size 108 Z ∧ Z.toList = List.replicate 60 (Value.int .u8 0) := by
    rw [← hW]
    exact ⟨_, Blk.new _ _ _, rfl⟩
  have hu2 : Upd (fun _ => False) w W := by
    rw [← hW]
    exact Upd.also hu1 (Upd.of_below ((Below.refl _ _).alloc (Nat.le_refl _) _) _)
  clear hW
  obtain ⟨Z, hBZ, hZ⟩ := hBz
  have hg0 : w.heap.size ≤ w1.heap.size := hu1.size
  generalize w1.heap.size = g at *
  obtain ⟨W2, hcp, hB2, hU2⟩ := run_copy_body hBZ hZ body
  have hu3 : Upd (fun _ => False) w W2 := hu2.trans hU2 (fun _ h => h.elim) (fun _ h => .inr (by subst h; exact hg0))
  have hl := bodyOf_len body.data.toList
  generalize bodyOf body.data.toList = B at *
  clear hBZ hZ hU2 hu2 hu1
  have hcv := run_body hB2 hl
  have Hcv := Lib.hid (And.intro hl (And.intro hB2 hu3))
  clear hu3 hB2 hl
  rw [hcp]
  clear hcp
  go_wp2_with fail
  refine (Close_c (str B) _ (by rw [str_size]; exact Hcv.out.1)).mono ?_
  rw [str_list]
  rintro e W3 ⟨rfl, hb3⟩
  have hfit : lookL (closeL B) = (B, 1) := close_sound B Hcv.out.1
  have hfl : (closeL B).length = 64 := by rw [closeL, List.length_append, leB_len, Hcv.out.1]
  have HB3 := Lib.hid (And.intro (Hcv.out.2.1.eqb (hb3.block g Hcv.out.2.1.lt)) (Hcv.out.2.2.also (Upd.of_below hb3 _)))
  clear hb3 hcv
  generalize closeL B = S at *
  go_wp2_with fail
  refine (Look_c (str S) _ (by rw [str_size]; omega)).mono ?_
  rw [str_list, hfit]
  rintro e W4 ⟨rfl, hb4⟩
  have HB4 := Lib.hid (And.intro (HB3.out.1.eqb (hb4.block g HB3.out.1.lt)) (HB3.out.2.also (Upd.of_below hb4 _)))
  clear hb4 HB3
  have hcv := run_body HB4.out.1 Hcv.out.1
  have hbb : ((str B).toList == (str B).toList) = true := beq_self_eq_true _
  generalize str B = T at *
  go_wp2_with fail
  obtain ⟨v5, W5, hrun, hO, hU5, hv, hs5⟩ := run_to_bytes W4 (str S) (by rw [str_size, hfl]; unfold maxLen; omega)
  rw [str_list, str_size, hfl] at hO
  obtain ⟨g5, cap5, rfl, hn1, hn2⟩ := hO.head (by omega)
  have hg5 : w.heap.size ≤ g5 := by
    have h1 : g5 = W4.heap.size := by simpa [Value.ownBlock] using hv
    have h2 := HB4.out.2.size
    omega
  have HO := Lib.hid (And.intro hO (And.intro (HB4.out.2.also hU5) hg5))
  have HS := Lib.hid (And.intro hfit hfl)
  clear hO hU5 hv hs5 hfit hfl hcv hbb HB4 Hcv hg5 hg0
  rw [hrun]
  clear hrun
  obtain ⟨a, rfl, ha⟩ := u32_nat h1
  obtain ⟨pt, rfl, hpt⟩ := u32_nat h2
  clear h1 h2
  obtain ⟨q, hq⟩ : ∃ q, a % 512 = q := ⟨_, rfl⟩
  have hq5 : q < 512 := by omega
  have hqi : (a : Int) % 512 = (q : Int) := by omega
  go_wp2_with fail
  go_loopw [13, 14, 15] (fun t i _ wr => ∃ (k : Nat) (c : List UInt8) (tt : Bool), k ≤ 32 ∧ i = .int .i64 k ∧ t = .bool tt ∧ Turned S q k c tt ∧ Own wr 5 1 (.slice (some ⟨g5, 0, none⟩) 64 cap5) 64 (bytesV c) ∧ Upd (fun _ => False) w wr) (fun _ i _ _ => 32 - (intOf i).toNat)
  case atStart => exact ⟨0, S, false, by omega, rfl, rfl, Turned.zero HS.out.2 q, HO.out.1, HO.out.2.1⟩
  case round =>
    obtain ⟨k, c, tt, hk, rfl, rfl, hT, hOr, hUr⟩ := hrel
    have HT := Lib.hid hT
    have HR := Lib.hid (And.intro hOr hUr)
    clear hT hOr hUr
    by_cases hlt : k < 32
    · by_cases hbit : bits .and .u32 ((pt : Int) / 2 ^ k) 1 = 1
      · have hb1 : (bits .and .u32 ((pt : Int) / 2 ^ k) 1 == 1) = true := by rw [beq_iff_eq]; exact hbit
        by_cases hn : q + k < 512
        · have hn' : (q : Int) + (k : Int) < 512 := by omega
          have hn8 : (q + k) / 8 < 64 := by omega
          have hlen := HT.out.len
          have hcl : wr.cell? ⟨g5, (q + k) / 8, none⟩ = some (.int .u8 ((c.getD ((q + k) / 8) 0).toNat : Int)) := by
            rw [HR.out.1.cellAt _ (by omega)]
            simp [bytesV, List.getD_eq_getElem?_getD, List.getElem?_eq_getElem (show (q + k) / 8 < c.length by omega)]
          have hfz := HR.out.1.frozenAt ((q + k) / 8) (by omega)
          have hs := HR.out.1.stored ((q + k) / 8) (.int .u8 (((c.getD ((q + k) / 8) 0 ^^^ UInt8.ofNat (2 ^ ((q + k) % 8))).toNat : Nat) : Int))
          rw [bytesV_set, ← bit_xor] at hs
          have HB := Lib.hid (show Own _ _ _ _ _ (bytesV (tbit c (q + k))) from hs)
          clear hlen hb1 hs
          generalize c.getD ((q + k) / 8) 0 = y at *
          go_wp2_with fail
          go_roundw
          case rel => exact ⟨k + 1, tbit c (q + k), true, by omega, by go_num, rfl, HT.out.turn hn, HB.out, HR.out.2.setCell (p := ⟨g5, (q + k) / 8, none⟩) (.inr HO.out.2.2) _⟩
          case measure => simp [intOf]; omega
        · have hd : decide ((q : Int) + (k : Int) < 512) = false := decide_eq_false (by omega)
          clear hn
          go_wp2_with fail
          go_roundw
          case rel => exact ⟨k + 1, c, tt, by omega, by go_num, rfl, HT.out.keep, HR.out.1, HR.out.2⟩
          case measure => simp [intOf]; omega
      · have hb1 : (bits .and .u32 ((pt : Int) / 2 ^ k) 1 == 1) = false := by rw [beq_eq_false_iff_ne]; exact hbit
        go_wp2_with fail
        go_roundw
        case rel => exact ⟨k + 1, c, tt, by omega, by go_num, rfl, HT.out.keep, HR.out.1, HR.out.2⟩
        case measure => simp [intOf]; omega
    · obtain rfl : k = 32 := by omega
      have hrun := run_to_string HR.out.1
      go_wp2_with fail
      refine (Look_c (str c) _ (by rw [str_size, HT.out.len]; omega)).mono ?_
      rw [str_list]
      rintro e W7 ⟨rfl, hb7⟩
      have hend := HT.out.ends (look_fits (s := S) (by rw [HS.out.1])) (by rw [HS.out.1]) (Nat.le_of_lt hq5)
      have HU := Lib.hid (HR.out.2.also (Upd.of_below hb7 _))
      clear hb7 hrun
      generalize lookL c = LC at *
      go_wp2_with fail
      go_ret
      refine ⟨?_, HU.out⟩
      first | rfl | exact congrArg (fun b => Ending.returned (Value.bool b)) hend
end Go.Proofs.Ytafgohnpnaiomaa
