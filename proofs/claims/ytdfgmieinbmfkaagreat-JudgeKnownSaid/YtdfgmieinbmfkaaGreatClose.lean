/-
  Bytes and texts; sectors that are closed, and what a sector is.
-/
import Derived.Test.YtdfgmieinbmfkaaGreatLittle
import Derived.Test.YtdfgmieinbmfkaaGreatSum
import Derived.Test.YtdfgmieinbmfkaaGreatShelf
import Derived.Deep.RegionWith
namespace Go.Proofs.YtdfgmieinbmfkaaGreat
open Go Go.RowKit

def str (l : List UInt8) : ByteArray := ⟨l.toArray⟩
theorem str_list (l : List UInt8) : (str l).data.toList = l := rfl
theorem str_size (l : List UInt8) : (str l).size = l.length := by simp [str, ByteArray.size]
theorem str_eta (s : ByteArray) : str s.data.toList = s := rfl
theorem str_inj {a b : List UInt8} (h : str a = str b) : a = b := by have := congrArg (fun s => s.data.toList) h; simpa [str] using this

section
variable {w : World}
theorem strOfNums_bytes (l : List UInt8) : strOfNums (l.map fun b => ((b.toNat : Nat) : Int)) = str l := by
  unfold strOfNums str
  congr 2
  simp [List.map_map, Function.comp_def]
/-- string(b), b owned. -/
theorem run_to_string {v : Value} {n : Nat} {l : List UInt8} (h : Own w 5 1 v n (bytesV l)) : (convert 223 9 v).run Tryz.prog w = .ok (.string (str l)) w := by
  have hn : l.length = n := by have := h.1; simp [bytesV] at this; omega
  rcases h.2 with ⟨rfl, rfl⟩ | ⟨g, cap, cur, fr, rfl, _⟩
  · have : l = [] := List.eq_nil_of_length_eq_zero hn
    subst this
    exact run_convert_bytes_nil w _ _ Tryz.underlying223 Tryz.underlying5 0 0 _ Tryz.underlying9
  · rw [← strOfNums_bytes]
    refine run_convert_bytes_arg w _ _ Tryz.underlying223 Tryz.underlying5 g 0 n cap _ (by simpa using hn) (fun i hi => ?_) _ Tryz.underlying9
    rw [Nat.zero_add, h.cellAt i (by omega)]
    simp [bytesV, show i < l.length by omega]
/-- []byte(s). -/
theorem run_to_bytes (w : World) (s : ByteArray) (hs : s.size ≤ maxLen) :
    ∃ v' w', (convert 9 223 (.string s)).run Tryz.prog w = .ok v' w' ∧ Own w' 5 1 v' s.size (bytesV s.data.toList) ∧ Upd (fun _ => False) w w' ∧ v'.ownBlock = some w.heap.size ∧ w'.heap.size = w.heap.size + 1 := by
  refine ⟨_, _, Lib.run_convert_string_bytes w _ _ _ s Tryz.underlying9 Tryz.underlying223 Tryz.underlying5, ?_, ?_, rfl, Lib.bytesWorld_size w _ s⟩
  · have hge := grownCap_ge w s.size 0 5
    refine ⟨by simp [bytesV], .inr ⟨w.heap.size, _, _, _, rfl, Lib.bytesWorld_at_new w _ s, .inr (Nat.le_refl _), hge, grownCap_le_maxLen w _ _ _ hs, ?_, ?_⟩⟩
    · simp [Lib.bytesCells]
      omega
    · have e : ∀ k, (bytesV s.data.toList ++ List.replicate k (Value.int .u8 0)).take (s.size * 1) = bytesV s.data.toList := by
        intro k
        rw [List.take_append_of_le_length (by simp [bytesV]), List.take_of_length_le (by simp [bytesV])]
      simp only [Lib.bytesCells, Array.toList_append, Array.toList_map, Array.toList_replicate]
      exact e _
  · refine ⟨rfl, rfl, rfl, ?_, fun k hk _ => Lib.bytesWorld_at_old w _ s k hk⟩
    rw [Lib.bytesWorld_size]
    omega
end

/-- A sector of these bytes. -/
def closeL (l : List UInt8) : List UInt8 := l ++ leB (sumN l) 4
/-- What a sector is. -/
def lookL (l : List UInt8) : List UInt8 × Int :=
  if l.length ≠ 64 then ([], 2) else if l = List.replicate 64 0 then ([], 0) else if leN (l.drop 60) ≠ sumN (l.take 60) then ([], 2) else (l.take 60, 1)

theorem count_zero (l : List UInt8) : Lib.countByte l 0 = l.length ↔ l = List.replicate l.length 0 := by
  unfold Lib.countByte
  rw [List.count_eq_length, List.eq_replicate_iff]
  simp [eq_comm]

theorem below_of_drew {w w' : World} (h : Below w.drew.heap.size w.drew w') : Below w.heap.size w w' := ⟨h.os, h.tape, h.output, h.size, h.block⟩
theorem look_test (s : ByteArray) (h : s.size = 64) : IntKind.u32.wrap (leN (List.take 4 (List.take (s.size - 60) (List.drop 60 s.data.toList))) : Int) = (leN (s.data.toList.drop 60) : Int) := by
  have hl : (s.data.toList.drop 60).length = 4 := by simp [h]
  rw [List.take_of_length_le (i := 4) (by simp; omega), List.take_of_length_le (by omega)]
  have := leN_lt (s.data.toList.drop 60)
  rw [hl] at this
  rw [IntKind.wrap_u32']
  omega
theorem extract_str (s : ByteArray) (n : Nat) : s.extract 0 n = str (s.data.toList.take n) := by
  have : (s.extract 0 n).data.toList = s.data.toList.take n := by simp
  rw [← this, str_eta]
theorem extract_str_from (s : ByteArray) (n m : Nat) : s.extract n m = str ((s.data.toList.drop n).take (m - n)) := by
  have : (s.extract n m).data.toList = (s.data.toList.drop n).take (m - n) := by simp [List.take_drop]
  rw [← this, str_eta]

set_option maxRecDepth 100000 in
theorem Close_bad (s : ByteArray) (w : World) (hs : s.size ≠ 60) :
    Calls Tryz.prog 383 #[.string s] w fun e w' => e = .returned (.tuple #[.string ByteArray.empty, .int .i64 1]) ∧ w = w' := by
  have hb : ((s.size : Int) != 60) = true := by rw [bne_iff_ne]; omega
  go_enter Tryz.func383, Tryz.ntmps383
  go_wp2
  go_ret2
  exact ⟨rfl, rfl⟩

set_option maxRecDepth 100000 in
set_option maxHeartbeats 400000 in
theorem Close_c (s : ByteArray) (w : World) (hs : s.size = 60) :
    Calls Tryz.prog 383 #[.string s] w fun e w' => e = .returned (.tuple #[.string (str (closeL s.data.toList)), .int .i64 0]) ∧ Below w.heap.size w w' := by
  have hb : ((s.size : Int) != 60) = false := by rw [hs]; rfl
  have hlt := sumN_lt s.data.toList
  have hs' : s.size ≤ 9223372036854775807 := by omega
  have HC : Hid (bytesV s.data.toList ++ bytesV (leB (sumN s.data.toList) 4) = bytesV (closeL s.data.toList)) := by unfold closeL; rw [bytesV_app]; rfl
  obtain ⟨v1, w1, hrun, hown, hU, hblk, hsz⟩ := run_to_bytes w s (by unfold maxLen; omega)
  have H1 := Lib.hid (And.intro hown (And.intro hU (And.intro hblk hsz)))
  clear hs hown hU hblk hsz
  go_enter Tryz.func383, Tryz.ntmps383
  go_wp2_with fail
  refine (Sum_c _ _ hs').mono ?_
  rintro e w2 ⟨rfl, hb2⟩
  go_wp2_with fail
  obtain ⟨hown, hU, hblk, hsz⟩ := H1.out
  have hown2 : Own w2 5 1 v1 s.size (bytesV s.data.toList) := hown.eqb (fun k hk => hb2.block k (hown.lt hk))
  refine (putLittle_disk v1 s.size _ (sumN s.data.toList) 4 w2 hown2 (by omega) (by simp at hb; omega)).mono ?_
  rintro e w3 ⟨v3, rfl, hown3, hU3, hl3⟩
  rw [HC.out] at hown3
  have hs2 := hb2.size
  have HB : Hid (Below w.heap.size w w3) := by
    refine ((hU.below (fun _ h => h.elim)).trans (hb2.mono (by omega))).trans ⟨hU3.os, hU3.tape, hU3.output, hU3.size, fun k hk => hU3.block k (by omega) (fun e => ?_)⟩
    rw [hblk] at e
    have := Option.some.inj e
    omega
  have hrun3 := run_to_string hown3
  clear hown hU hblk hsz hown2 hown3 hU3 hl3 hb2 hrun hlt hs2
  go_wp2
  go_ret2
  exact ⟨rfl, HB.out⟩

set_option maxRecDepth 100000 in
set_option maxHeartbeats 800000 in
theorem Look_c (s : ByteArray) (w : World) (hs : s.size ≤ 9223372036854775807) :
    Calls Tryz.prog 339 #[.string s] w fun e w' => e = .returned (.tuple #[.string (str (lookL s.data.toList).1), .int .i64 (lookL s.data.toList).2]) ∧ Below w.heap.size w w' := by
  by_cases h64 : s.size = 64
  · have hb : ((s.size : Int) != 64) = false := by rw [h64]; rfl
    have hc := fun W => Tryz.strings_Count_one s 0 W
    by_cases hz : s.data.toList = List.replicate 64 0
    · have hl : lookL s.data.toList = ([], 0) := by unfold lookL; rw [if_neg (by simp [h64]), if_pos hz]
      have hn : Lib.countByte s.data.toList 0 = 64 := by
        have := (count_zero s.data.toList).2 (by rw [hz]; simp)
        rw [this]; simp [h64]
      rw [hl]
      simp only [hn] at hc
      have Hc := Lib.hid hc
      clear hc hn hl hz h64
      go_enter Tryz.func339, Tryz.ntmps339
      go_wp2_with (go_at_call 416; refine (Hc.out _).mono ?_; rintro e w' ⟨rfl, rfl⟩)
      go_ret2
      exact ⟨rfl, Below.refl _ _⟩
    · have hn : ((Lib.countByte s.data.toList 0 : Int) == 64) = false := by
        rw [beq_eq_false_iff_ne]
        intro h
        apply hz
        have h2 : Lib.countByte s.data.toList 0 = s.data.toList.length := by simp [h64]; omega
        have h3 := (count_zero _).1 h2
        rw [h3]
        simp [h64]
      have Hc := Lib.hid hc
      clear hc
      have H64 := Lib.hid h64
      have Hz := Lib.hid hz
      clear hz h64
      go_enter Tryz.func339, Tryz.ntmps339
      go_wp2_with (go_at_call 416; refine (Hc.out _).mono ?_; rintro e w' ⟨rfl, rfl⟩)
      have hge : 60 ≤ s.size := by rw [H64.out]; omega
      go_region_with (first
        | (go_at_call 417; refine (getLittle_disk _ 4 _ (by omega) (by rw [ByteArray.size_extract, H64.out]; omega)).mono ?_; rintro e w' ⟨rfl, rfl⟩)
        | (go_at_call 418; refine (Sum_c _ _ (by rw [ByteArray.size_extract, H64.out]; omega)).mono ?_; rintro e w' ⟨rfl, hb2⟩))
      all_goals go_wp2
      all_goals
        go_ret2
        first
          | (have ht : (IntKind.u32.wrap (leN (List.take 4 (List.take (s.size - 60) (List.drop 60 s.data.toList))) : Int) != (sumN (List.take 60 s.data.toList) : Int)) = true := by assumption
             rw [look_test s H64.out, bne_iff_ne] at ht
             refine ⟨?_, by first | exact below_of_drew hb2 | exact hb2⟩
             rw [show lookL s.data.toList = ([], 2) from by unfold lookL; rw [if_neg (by simp [H64.out]), if_neg Hz.out, if_pos (by omega)]]
             rfl)
          | (have ht : (IntKind.u32.wrap (leN (List.take 4 (List.take (s.size - 60) (List.drop 60 s.data.toList))) : Int) != (sumN (List.take 60 s.data.toList) : Int)) = false := by assumption
             rw [look_test s H64.out, bne_eq_false_iff_eq] at ht
             refine ⟨?_, by first | exact below_of_drew hb2 | exact hb2⟩
             rw [show lookL s.data.toList = (s.data.toList.take 60, 1) from by unfold lookL; rw [if_neg (by simp [H64.out]), if_neg Hz.out, if_neg (by omega)]]
             rw [← extract_str]
             rfl)
  · have hb : ((s.size : Int) != 64) = true := by rw [bne_iff_ne]; omega
    have hl : lookL s.data.toList = ([], 2) := by unfold lookL; rw [if_pos (by simpa using h64)]
    rw [hl]
    clear hl h64
    go_enter Tryz.func339, Tryz.ntmps339
    go_wp2
    go_ret2
    exact ⟨rfl, Below.refl _ _⟩
end Go.Proofs.YtdfgmieinbmfkaaGreat

/-
  Bytes made texts.
-/
namespace Go.Proofs.YtdfgmieinbmfkaaGreat
open Go Go.RowKit

theorem own_bytes (w : World) (l : List UInt8) (hl : l.length ≤ 1000000) : Own (w.alloc (.cells (bytesV l).toArray 5)) 5 1 (.slice (some ⟨w.heap.size, 0, none⟩) l.length l.length) l.length (bytesV l) := by
  refine ⟨by simp [bytesV], .inr ⟨w.heap.size, l.length, (bytesV l).toArray, (0, 0), rfl, heap_alloc_new w _, .inl rfl, Nat.le_refl _, by unfold maxLen; omega, by simp [bytesV], ?_⟩⟩
  rw [List.take_of_length_le (by simp [bytesV])]
theorem conv_one (w : World) (z : Int) (b : UInt8) (hz : z = (b.toNat : Int)) :
    (convert 223 9 (.slice (some ⟨w.heap.size, 0, none⟩) 1 1)).run Tryz.prog (w.alloc (.cells #[.int .u8 z] 5)) = .ok (.string (str [b])) (w.alloc (.cells #[.int .u8 z] 5)) := by
  subst hz
  exact run_to_string (own_bytes w [b] (by simp))
theorem str_add (a b : List UInt8) : str a ++ str b = str (a ++ b) := by
  apply ByteArray.ext
  simp [str]
/-- string([]byte{..}) of four bytes. -/
theorem conv_four (w : World) (a b c d : Int) (x y z u : UInt8) (ha : a = (x.toNat : Int)) (hb : b = (y.toNat : Int)) (hc : c = (z.toNat : Int)) (hd : d = (u.toNat : Int)) :
    (convert 223 9 (.slice (some ⟨w.heap.size, 0, none⟩) 4 4)).run Tryz.prog (w.alloc (.cells #[.int .u8 a, .int .u8 b, .int .u8 c, .int .u8 d] 5)) = .ok (.string (str [x, y, z, u])) (w.alloc (.cells #[.int .u8 a, .int .u8 b, .int .u8 c, .int .u8 d] 5)) := by
  subst ha hb hc hd
  exact run_to_string (own_bytes w [x, y, z, u] (by simp))
end Go.Proofs.YtdfgmieinbmfkaaGreat

/-
  The sum finds whatever is turned within 32 bits that follow one another.
-/
namespace Go.Proofs.YtdfgmieinbmfkaaGreat
open Go Go.RowKit

/-- One bit's step of the register. -/
def Bs (x : Nat) : Nat := (x / 2) ^^^ (if x % 2 = 1 then 3988292384 else 0)
def Bn : Nat → Nat → Nat
  | 0, x => x
  | n + 1, x => Bn n (Bs x)
theorem Bn_add (m n x : Nat) : Bn (m + n) x = Bn n (Bn m x) := by
  induction m generalizing x with
  | zero => simp [Bn]
  | succ m ih => rw [Nat.add_right_comm, Bn, ih, Bn]
theorem Bn_succ (n x : Nat) : Bn (n + 1) x = Bs (Bn n x) := by rw [Bn_add]; rfl
theorem xor_lc (a b c : Nat) : a ^^^ (b ^^^ c) = b ^^^ (a ^^^ c) := by rw [← Nat.xor_assoc, Nat.xor_comm a b, Nat.xor_assoc]
theorem xor_half (a b : Nat) : (a ^^^ b) / 2 = a / 2 ^^^ b / 2 := by
  have h := Nat.shiftRight_xor_distrib (a := a) (b := b) (i := 1)
  simpa [Nat.shiftRight_eq_div_pow] using h
theorem xor_odd (a b : Nat) : (a ^^^ b) % 2 = (a + b) % 2 := by
  have h := Nat.xor_mod_two_pow (a := a) (b := b) (n := 1)
  rw [show (2 : Nat) ^ 1 = 2 from rfl] at h
  rw [h]
  rcases Nat.mod_two_eq_zero_or_one a with ha | ha <;> rcases Nat.mod_two_eq_zero_or_one b with hb | hb <;> rw [ha, hb] <;> simp <;> omega
theorem Bs_xor (a b : Nat) : Bs (a ^^^ b) = Bs a ^^^ Bs b := by
  unfold Bs
  rw [xor_half, xor_odd]
  rcases Nat.mod_two_eq_zero_or_one a with ha | ha <;> rcases Nat.mod_two_eq_zero_or_one b with hb | hb
  · rw [if_neg (by omega), if_neg (by omega), if_neg (by omega)]; simp
  · rw [if_pos (by omega), if_neg (by omega), if_pos (by omega)]; simp [Nat.xor_assoc]
  · rw [if_pos (by omega), if_pos (by omega), if_neg (by omega)]; rw [Nat.xor_zero, Nat.xor_assoc, Nat.xor_assoc, Nat.xor_comm (b / 2)]
  · rw [if_neg (by omega), if_pos (by omega), if_pos (by omega)]
    have e : a / 2 ^^^ 3988292384 ^^^ (b / 2 ^^^ 3988292384) = a / 2 ^^^ (b / 2 ^^^ (3988292384 ^^^ 3988292384)) := by rw [Nat.xor_assoc, xor_lc 3988292384]
    rw [e, Nat.xor_self]
    simp
theorem Bn_xor (n a b : Nat) : Bn n (a ^^^ b) = Bn n a ^^^ Bn n b := by
  induction n generalizing a b with
  | zero => rfl
  | succ n ih => rw [Bn, Bs_xor, ih, Bn, Bn]
theorem Bn_zero (n : Nat) : Bn n 0 = 0 := by
  induction n with
  | zero => rfl
  | succ n ih => rw [Bn]; exact ih
theorem Bn_up (n z : Nat) : Bn n (2 ^ n * z) = z := by
  induction n with
  | zero => simp [Bn]
  | succ n ih =>
    have e : 2 ^ (n + 1) * z = 2 * (2 ^ n * z) := by rw [Nat.pow_succ, Nat.mul_comm (2 ^ n) 2, Nat.mul_assoc]
    rw [Bn, e, Bs, if_neg (by omega), Nat.mul_div_cancel_left _ (by omega), Nat.xor_zero, ih]
theorem Bs_lt (x : Nat) (h : x < 2 ^ 32) : Bs x < 2 ^ 32 := by
  unfold Bs
  refine Nat.xor_lt_two_pow (by omega) ?_
  split <;> decide
theorem Bs_ne (x : Nat) (h : x < 2 ^ 32) (h0 : x ≠ 0) : Bs x ≠ 0 := by
  unfold Bs
  intro e
  have e2 : x / 2 = (if x % 2 = 1 then 3988292384 else 0) := by
    have := congrArg (· ^^^ (if x % 2 = 1 then 3988292384 else 0)) e
    simpa [Nat.xor_assoc] using this
  split at e2 <;> omega
theorem Bn_ne (n x : Nat) (h : x < 2 ^ 32) (h0 : x ≠ 0) : Bn n x ≠ 0 := by
  induction n generalizing x with
  | zero => exact h0
  | succ n ih => exact ih (Bs x) (Bs_lt x h) (Bs_ne x h h0)
theorem Bn_lt (n x : Nat) (h : x < 2 ^ 32) : Bn n x < 2 ^ 32 := by
  induction n generalizing x with
  | zero => exact h
  | succ n ih => exact ih (Bs x) (Bs_lt x h)

theorem ofInt_nat (a : Nat) : BitVec.ofInt 32 (a : Int) = BitVec.ofNat 32 a := by simp
theorem xorN (a b : Nat) (ha : a < 4294967296) (hb : b < 4294967296) : bits .xor .u32 (a : Int) (b : Int) = ((a ^^^ b : Nat) : Int) := by
  have e : bits .xor .u32 (a : Int) (b : Int) = IntKind.u32.wrap ((BitVec.ofInt 32 (a : Int) ^^^ BitVec.ofInt 32 (b : Int)).toNat : Int) := rfl
  have := Nat.xor_lt_two_pow (n := 32) ha hb
  rw [e, ofInt_nat, ofInt_nat, BitVec.toNat_xor, BitVec.toNat_ofNat, BitVec.toNat_ofNat, Nat.mod_eq_of_lt ha, Nat.mod_eq_of_lt hb, IntKind.wrap_u32']
  omega
theorem andN (a : Nat) (ha : a < 4294967296) : bits .and .u32 (a : Int) 15 = ((a % 16 : Nat) : Int) := by
  have e : bits .and .u32 (a : Int) 15 = IntKind.u32.wrap ((BitVec.ofInt 32 (a : Int) &&& BitVec.ofInt 32 15).toNat : Int) := rfl
  have e2 : (BitVec.ofInt 32 15).toNat = 15 := rfl
  have e3 := Nat.and_two_pow_sub_one_eq_mod a 4
  rw [show (2 : Nat) ^ 4 - 1 = 15 from rfl, show (2 : Nat) ^ 4 = 16 from rfl] at e3
  rw [e, ofInt_nat, BitVec.toNat_and, BitVec.toNat_ofNat, e2, Nat.mod_eq_of_lt ha, e3, IntKind.wrap_u32']
  omega
theorem tb_eq : ∀ i : Fin 16, tb i.val = (Bn 4 i.val : Int) := by decide +kernel
theorem nib_split (x : Nat) : Bn 4 x = x / 16 ^^^ Bn 4 (x % 16) := by
  have h : x = (x % 16) ^^^ (2 ^ 4 * (x / 16)) := by
    have h1 : (x % 16) ^^^ (2 ^ 4 * (x / 16)) = (x % 16) + 2 ^ 4 * (x / 16) := by
      apply Nat.eq_of_testBit_eq
      intro i
      rw [Nat.add_comm, Nat.testBit_xor, Nat.testBit_two_pow_mul_add _ (show x % 16 < 2 ^ 4 by omega), Nat.testBit_two_pow_mul]
      by_cases hi : i < 4
      · have h4 : ¬ 4 ≤ i := by omega
        simp [hi, h4]
      · have : (x % 16).testBit i = false := Nat.testBit_lt_two_pow (Nat.lt_of_lt_of_le (show x % 16 < 2 ^ 4 by omega) (Nat.pow_le_pow_right (by omega) (by omega)))
        have h4 : 4 ≤ i := by omega
        simp [hi, this, h4]
    omega
  rw [h, Bn_xor, Bn_up, Nat.xor_comm]
  congr 1
  · rw [← h]
  · rw [← h]
theorem nibI_nat (x : Nat) (h : x < 4294967296) : nibI (x : Int) = (Bn 4 x : Int) := by
  have h4 : Bn 4 (x % 16) < 4294967296 := Bn_lt 4 (x % 16) (by omega)
  have e := tb_eq ⟨x % 16, by omega⟩
  simp only at e
  unfold nibI
  rw [andN x h, Int.toNat_natCast, e, show (x : Int) / 16 = ((x / 16 : Nat) : Int) from rfl, xorN _ _ (by omega) h4, ← nib_split]
theorem crcB_nat (c : Nat) (y : UInt8) (h : c < 4294967296) : crcB (c : Int) y = (Bn 8 (c ^^^ y.toNat) : Int) := by
  have hy := y.toNat_lt
  have hx : c ^^^ y.toNat < 4294967296 := Nat.xor_lt_two_pow (n := 32) h (by omega)
  have h4 : Bn 4 (c ^^^ y.toNat) < 4294967296 := Bn_lt 4 _ hx
  unfold crcB
  rw [xorN _ _ h (by omega), nibI_nat _ hx, nibI_nat _ h4, ← Bn_add]
/-- The register behind these bytes. -/
def crcN (c : Nat) (l : List UInt8) : Nat := l.foldl (fun c y => Bn 8 (c ^^^ y.toNat)) c
theorem crcN_lt (c : Nat) (l : List UInt8) (h : c < 4294967296) : crcN c l < 4294967296 := by
  induction l generalizing c with
  | nil => exact h
  | cons y l ih =>
    have hy := y.toNat_lt
    exact ih _ (Bn_lt 8 _ (Nat.xor_lt_two_pow (n := 32) h (by omega)))
theorem crcL_nat (l : List UInt8) : crcL l = (crcN 4294967295 l : Int) := by
  have key : ∀ (l : List UInt8) (c : Nat), c < 4294967296 → l.foldl crcB (c : Int) = (crcN c l : Int) := by
    intro l
    induction l with
    | nil => intro c _; rfl
    | cons y l ih =>
      intro c h
      have hy := y.toNat_lt
      rw [List.foldl_cons, crcB_nat c y h, ih _ (Bn_lt 8 _ (Nat.xor_lt_two_pow (n := 32) h (by omega)))]
      rfl
  exact key l 4294967295 (by omega)
theorem sumN_nat (l : List UInt8) : sumN l = 4294967295 ^^^ crcN 4294967295 l := by
  have h := crcN_lt 4294967295 l (by omega)
  have e : IntKind.u32.max = ((4294967295 : Nat) : Int) := rfl
  unfold sumN sumI
  rw [crcL_nat, e, xorN _ _ (by omega) h, Int.toNat_natCast]
theorem leN_xor (y : UInt8) (l : List UInt8) : leN (y :: l) = y.toNat ^^^ (2 ^ 8 * leN l) := by
  have hy := y.toNat_lt
  rw [leN]
  apply Nat.eq_of_testBit_eq
  intro i
  rw [show (256 : Nat) = 2 ^ 8 from rfl, Nat.add_comm, Nat.testBit_xor, Nat.testBit_two_pow_mul_add _ (show y.toNat < 2 ^ 8 by omega), Nat.testBit_two_pow_mul]
  by_cases hi : i < 8
  · have h4 : ¬ 8 ≤ i := by omega
    simp [hi, h4]
  · have : y.toNat.testBit i = false := Nat.testBit_lt_two_pow (Nat.lt_of_lt_of_le (show y.toNat < 2 ^ 8 by omega) (Nat.pow_le_pow_right (by omega) (by omega)))
    have h4 : 8 ≤ i := by omega
    simp [hi, this, h4]
theorem crcN_word (c : Nat) (l : List UInt8) : crcN c l = Bn (8 * l.length) (c ^^^ leN l) := by
  induction l generalizing c with
  | nil => simp [crcN, leN, Bn]
  | cons y l ih =>
    have h : crcN c (y :: l) = crcN (Bn 8 (c ^^^ y.toNat)) l := rfl
    rw [h, ih, List.length_cons, show 8 * (l.length + 1) = 8 + 8 * l.length by omega, Bn_add, leN_xor, ← Nat.xor_assoc, Bn_xor 8 (c ^^^ y.toNat), Bn_up]
/-- A sector whose sum is right. -/
def fits (s : List UInt8) : Prop := s.length = 64 ∧ leN (s.drop 60) = sumN (s.take 60)
theorem fits_res (s : List UInt8) (h : fits s) : Bn 512 (4294967295 ^^^ leN s) = Bn 32 4294967295 := by
  obtain ⟨hl, hs⟩ := h
  have e : crcN 4294967295 s = crcN (crcN 4294967295 (s.take 60)) (s.drop 60) := by
    unfold crcN
    rw [← List.foldl_append, List.take_append_drop]
  have e2 := crcN_word 4294967295 s
  have e3 := crcN_word (crcN 4294967295 (s.take 60)) (s.drop 60)
  rw [hl] at e2
  rw [List.length_drop, hl, hs, sumN_nat] at e3
  rw [show 512 = 8 * 64 from rfl, ← e2, e, e3, Nat.xor_comm 4294967295, ← Nat.xor_assoc, Nat.xor_self, Nat.zero_xor]
/-- Two sectors whose sums are right are not apart in 32 bits that follow one another alone. -/
theorem fits_burst {s t : List UInt8} (hs : fits s) (ht : fits t) (q e : Nat) (he : e < 2 ^ 32) (hq : q ≤ 512) (h : leN t = leN s ^^^ (2 ^ q * e)) : e = 0 := by
  apply Classical.byContradiction
  intro h0
  have r1 := fits_res s hs
  have r2 := fits_res t ht
  rw [h, ← Nat.xor_assoc, Bn_xor, r1] at r2
  have r3 : Bn 512 (2 ^ q * e) = 0 := by
    have := congrArg (Bn 32 4294967295 ^^^ ·) r2
    simpa [← Nat.xor_assoc] using this
  rw [show 512 = q + (512 - q) by omega, Bn_add, Bn_up] at r3
  exact Bn_ne _ e he h0 r3
theorem look_fits {s : List UInt8} (h : (lookL s).2 = 1) : fits s := by
  unfold lookL at h
  split at h
  · simp at h
  · split at h
    · simp at h
    · split at h
      · simp at h
      · rename_i h1 h2 h3
        exact ⟨by simpa using h1, by simpa using h3⟩
theorem look_of_fits {s : List UInt8} (h : fits s) (h0 : s ≠ List.replicate 64 0) : lookL s = (s.take 60, 1) := by
  unfold lookL
  rw [if_neg (by simpa using h.1), if_neg h0, if_neg (by simpa using h.2)]
end Go.Proofs.YtdfgmieinbmfkaaGreat

/-
  The document's own Sum of chapter 07.
-/
namespace Go.Proofs.YtdfgmieinbmfkaaGreat
open Go Go.RowKit

theorem crcN_snoc (c : Nat) (l : List UInt8) (y : UInt8) : crcN c (l ++ [y]) = Bn 8 (crcN c l ^^^ y.toNat) := by simp [crcN]
theorem Bs_odd {x : Nat} (hx : x < 4294967296) (h : x % 2 = 1) : bits .xor .u32 ((x / 2 : Nat) : Int) 3988292384 = ((Bs x : Nat) : Int) := by
  have e : (3988292384 : Int) = ((3988292384 : Nat) : Int) := rfl
  rw [e, xorN _ _ (by omega) (by omega)]
  unfold Bs
  rw [if_pos h]
theorem Bs_even {x : Nat} (h : ¬ x % 2 = 1) : x / 2 = Bs x := by
  unfold Bs
  rw [if_neg h, Nat.xor_zero]
theorem le4 (n : Nat) (h : n < 4294967296) : ((leB n 4).map fun b => ((b.toNat : Nat) : Int)) = [(n : Int) % 256, (n : Int) / 256 % 256, (n : Int) / 65536 % 256, (n : Int) / 16777216] := by
  have e : leB n 4 = [UInt8.ofNat (n / 2 ^ (8 * 0)), UInt8.ofNat (n / 2 ^ (8 * 1)), UInt8.ofNat (n / 2 ^ (8 * 2)), UInt8.ofNat (n / 2 ^ (8 * 3))] := rfl
  rw [e]
  simp only [List.map_cons, List.map_nil]
  rw [byteV, byteV, byteV, byteV]
  congr 1
  · simp
  · congr 1
    · congr 1
      · congr 1
        simp
        omega
theorem run_le4 (w : World) (n : Nat) (h : n < 4294967296) :
    (convert 223 9 (.slice (some ⟨w.heap.size, 0, none⟩) 4 4)).run Tryz.prog (w.alloc (.cells #[.int .u8 ((n : Int) % 256), .int .u8 ((n : Int) / 256 % 256), .int .u8 ((n : Int) / 65536 % 256), .int .u8 ((n : Int) / 16777216)] 5)) = .ok (.string (str (leB n 4))) (w.alloc (.cells #[.int .u8 ((n : Int) % 256), .int .u8 ((n : Int) / 256 % 256), .int .u8 ((n : Int) / 65536 % 256), .int .u8 ((n : Int) / 16777216)] 5)) := by
  rw [← strOfNums_bytes, le4 n h]
  refine run_convert_bytes_arg _ _ _ Tryz.underlying223 Tryz.underlying5 _ 0 4 4 _ rfl (fun i hi => ?_) _ Tryz.underlying9
  rw [Nat.zero_add, World.cell?_alloc_new]
  match i, hi with
  | 0, _ => rfl
  | 1, _ => rfl
  | 2, _ => rfl
  | 3, _ => rfl
theorem closeL_str (s : ByteArray) : s ++ str (leB (sumN s.data.toList) 4) = str (closeL s.data.toList) := by
  apply ByteArray.ext
  simp [str, closeL]

theorem leB_leN (l : List UInt8) : leB (leN l) l.length = l := by
  induction l with
  | nil => rfl
  | cons b l ih =>
    have hb := b.toNat_lt
    unfold leB at ih ⊢
    rw [List.length_cons, List.range_succ_eq_map, List.map_cons, List.map_map]
    congr 1
    · apply UInt8.toNat.inj
      simp [leN]
    · refine Eq.trans (List.map_congr_left fun i _ => ?_) ih
      show UInt8.ofNat (leN (b :: l) / 2 ^ (8 * (i + 1))) = _
      congr 1
      rw [show 8 * (i + 1) = 8 + 8 * i by omega, Nat.pow_add, ← Nat.div_div_eq_div_mul]
      congr 1
      rw [leN]
      omega
/-- A sector is closed just if its sum is right. -/
theorem close_take {l : List UInt8} (h : l.length = 64) : closeL (l.take 60) = l ↔ leN (l.drop 60) = sumN (l.take 60) := by
  have h4 : (l.drop 60).length = 4 := by simp [h]
  have hlt := sumN_lt (l.take 60)
  have ht : l = l.take 60 ++ l.drop 60 := (List.take_append_drop 60 l).symm
  unfold closeL
  constructor
  · intro e
    have e2 : leB (sumN (l.take 60)) 4 = l.drop 60 := List.append_cancel_left (e.trans ht)
    rw [← e2, leN_leB _ _ (by omega)]
  · intro e
    rw [← e]
    have := leB_leN (l.drop 60)
    rw [h4] at this
    rw [this, ← ht]

def zerosV : Array Value := Array.replicate 64 (.int .u8 0)
theorem run_zeros (w : World) (b : Nat) (h : ∀ i, i < 64 → w.cell? ⟨b, i, none⟩ = some (.int .u8 0)) :
    (convert 223 9 (.slice (some ⟨b, 0, none⟩) 64 64)).run Tryz.prog w = .ok (.string (str (List.replicate 64 0))) w := by
  rw [← strOfNums_bytes]
  refine run_convert_bytes_arg _ _ _ Tryz.underlying223 Tryz.underlying5 _ 0 64 64 _ (by simp) (fun i hi => ?_) _ Tryz.underlying9
  rw [Nat.zero_add, h i hi, List.map_replicate, List.getD_eq_getElem?_getD, List.getElem?_replicate_of_lt hi]
  rfl
theorem mk_zeros (w : World) : (Instr.makeSlice 223 (.int .i64 64) (.int .i64 64)).run Tryz.prog w = .ok (.slice (some ⟨w.heap.size, 0, none⟩) 64 64) (w.alloc (.cells zerosV 5)) := by kernel_rfl
theorem list_beq {a b : ByteArray} : (a.toList == b.toList) = true ↔ a.data.toList = b.data.toList := by
  rw [beq_iff_eq, ByteArray.toList_eq, ByteArray.toList_eq]
theorem list_bne {a b : ByteArray} : (a.toList != b.toList) = true ↔ a.data.toList ≠ b.data.toList := by
  rw [bne_iff_ne, ByteArray.toList_eq, ByteArray.toList_eq]
end Go.Proofs.YtdfgmieinbmfkaaGreat
