/-
  Parts of the proof of VaultMetas: PackB, PathA, Part, BatA, PackQ.
-/
import Derived.Test.YtbhjgfibhegddaaGreatQVaultMetas02
import Derived.Deep.Light
import Derived.Deep.MidRow
set_option maxRecDepth 100000
set_option maxHeartbeats 16000000
namespace Go.Proofs.YtbhjgfibhegddaaGreat
section
open Go Go.RowKit
theorem sget (s : ByteArray) (i : Nat) (h : i < s.size) : s.data.toList.getD i 0 = s[i] := by simp [List.getD, h, ByteArray.getElem_eq_getElem_data]
theorem valN_cons_drop (t : List UInt8) (i : Nat) (h : i < t.length) : valN (t.drop i) = (t.getD i 0).toNat % 128 + 128 * valN (t.drop (i + 1)) := by
 rw [List.drop_eq_getElem_cons h];show _ % 128 + 128 * _ = _;rw [List.getD_eq_getElem?_getD, List.getElem?_eq_getElem h];rfl
theorem or_low (N b : Nat) (h : 128 * N < 18446744073709551616) : bits .or .u64 ((N : Int) * 128) ((b : Int) % 128) = ((b % 128 + 128 * N : Nat) : Int) := by
 have e1 : (N : Int) * 128 = ((N * 128 : Nat) : Int) := by push_cast; rfl
 have e2 : (b : Int) % 128 = ((b % 128 : Nat) : Int) := by omega
 rw [e1, e2, u64_or_nat _ _ (by omega) (by omega), nat_join 7 _ _ (by show N * 128 % 128 = 0; omega) (by show b % 128 < 128; omega)];omega
theorem number_c (s : ByteArray) (w : World) : Calls Tryz.prog 218 #[.string s] w fun e w' => e = .returned (.tuple #[.int .u64 ((numL s.data.toList).1 : Int), .int .i64 ((numL s.data.toList).2.1 : Int), .int .i64 (numL s.data.toList).2.2]) ∧ w = w' := by
 have hlen : s.data.toList.length = s.size := by simp
 obtain ⟨R, hR⟩ : ∃ R, numL s.data.toList = R := ⟨_, rfl⟩;rw [hR];have HR := Lib.hid hR;clear hR;go_enter Tryz.func218, Tryz.ntmps218
 go_wp2_with fail
 go_loop [3] (fun i => ∃ c : Nat, i = .int .i64 (c : Int) ∧ c ≤ 10 ∧ c ≤ s.size ∧ ∀ j, j < c → 128 ≤ (s.data.toList.getD j 0).toNat) (fun i => 10 - (intOf i).toNat)
 case atStart => exact ⟨0, rfl, by omega, by omega, fun j hj => by omega⟩
 case round =>
  obtain ⟨c, rfl, hc1, hc2, hg⟩ := hrel;by_cases hgo : c < 10 ∧ c < s.size ∧ 128 ≤ (s.data.toList.getD c 0).toNat
  ·obtain ⟨h1, h2, h3⟩ := hgo
   rw [sget s c h2] at h3;go_wp2_with fail
   go_round
   case rel =>
    refine ⟨c + 1, by go_num, by omega, by omega, fun j hj => ?_⟩;by_cases e : j = c
    ·subst e; rw [sget s j h2]; exact h3
    ·exact hg j (by omega)
   case measure => simp [intOf]; omega
  ·have hlead : leadN s.data.toList 10 = c := leadN_is _ _ _ hc1 (by omega) hg (by
    by_cases c1 : c = 10
    ·exact .inl c1
    ·by_cases c2 : c = s.size
     ·exact .inr (.inl (by omega))
     ·refine .inr (.inr ?_)
      apply Classical.byContradiction
      intro c3;exact hgo ⟨by omega, by omega, by omega⟩)
   have hcase : ¬ (c : Int) < min (s.size : Int) 10 ∨ (c < 10 ∧ ∃ h : c < s.size, (s[c]).toNat < 128) := by
    by_cases c2 : c < s.size
    ·by_cases c1 : c < 10
     ·refine .inr ⟨c1, c2, ?_⟩
      apply Classical.byContradiction
      intro c3;exact hgo ⟨c1, c2, by rw [sget s c c2]; omega⟩
     ·exact .inl (by omega)
    ·exact .inl (by omega)
   clear hgo;rcases hcase with hx | ⟨hx1, hx2, hx3⟩
   ·by_cases c10 : c = 10
    ·subst c10
     have hRv : R = (0, 0, 8) := by rw [← HR.out, numL, if_pos hlead]
     subst hRv;go_wp2_with fail
     go_ret3
     exact ⟨rfl, rfl⟩
    ·have cs : c = s.size := by omega
     have hRv : R = (0, 0, 7) := by rw [← HR.out, numL, hlead, if_neg c10, if_pos (by omega)]
     subst hRv;have cs' : (c : Int) = (s.size : Int) := by omega
     go_wp2_with fail
     go_ret3
     exact ⟨rfl, rfl⟩
   ·have hne1 : leadN s.data.toList 10 ≠ 10 := by omega
    have hne2 : leadN s.data.toList 10 ≠ s.data.toList.length := by omega
    have hv := val_ten hne1 hne2;by_cases h9 : c = 9 ∧ 1 < (s.data.toList.getD 9 0).toNat
    ·have hRv : R = (0, 0, 8) := by rw [← HR.out, numL, if_neg hne1, if_neg hne2, hlead, if_pos h9]
     subst hRv;obtain ⟨rfl, h9⟩ := h9;rw [sget s 9 hx2] at h9;clear hg hlead hv hne1 hne2 hlen HR;go_wp2_with fail
     go_ret3
     exact ⟨rfl, rfl⟩
    ·have hvlt := hv.2 (by rw [hlead]; exact h9)
     rw [hlead] at hvlt;have hRv := HR.out;rw [numL, if_neg hne1, if_neg hne2, hlead, if_neg h9] at hRv;have hx9 : ((c : Int) == 9) = false ∨ (((c : Int) == 9) = true ∧ (s[c]).toNat ≤ 1) := by
      by_cases c9 : c = 9
      ·subst c9
       refine .inr ⟨rfl, ?_⟩;apply Classical.byContradiction
       intro hc;exact h9 ⟨rfl, by rw [sget s 9 hx2]; omega⟩
      ·exact .inl (by rw [beq_eq_false_iff_ne]; omega)
     have hte : ∀ m, m ≤ c → (s.data.toList.take (c + 1)).getD m 0 = s.data.toList.getD m 0 := fun m hm => getD_take_ _ _ _ (by omega)
     have htl : (s.data.toList.take (c + 1)).length = c + 1 := by rw [List.length_take]; omega
     have HX := Lib.hid (And.intro hRv (And.intro hvlt (And.intro hte htl)));clear h9 hg hlead hv hne1 hne2 hlen HR hRv hvlt hte htl;rcases hx9 with hx9 | ⟨hx9, hx8⟩
     all_goals
      go_wp2_with fail
      go_loop [2, 5] (fun n i => ∃ m : Nat, m ≤ c + 1 ∧ i = .int .i64 ((m : Int) - 1) ∧ n = .int .u64 ((valN ((s.data.toList.take (c + 1)).drop m) : Nat) : Int)) (fun _ i => ((intOf i) + 1).toNat)
      case atStart =>
       refine ⟨c + 1, by omega, by go_num, ?_⟩;rw [List.drop_of_length_le (by rw [HX.out.2.2.2]; omega)];rfl
      case round =>
       obtain ⟨m, hm, rfl, rfl⟩ := hrel;cases m with
       | zero =>
         go_wp2_with fail
         refine (size_c _ _ HX.out.2.1).mono ?_;rintro e w' ⟨rfl, rfl⟩;have hRv := HX.out.1;by_cases hz : sizeN (valN (s.data.toList.take (c + 1))) = c + 1
         ·rw [if_pos hz] at hRv
          subst hRv;go_wp2_with fail
          go_ret3
          exact ⟨rfl, rfl⟩
         ·rw [if_neg hz] at hRv
          subst hRv;go_wp2_with fail
          go_ret3
          exact ⟨rfl, rfl⟩
       | succ k =>
         have hk : k < s.size := by omega
         have hbd := valN_drop (s.data.toList.take (c + 1)) k;have hst := valN_cons_drop (s.data.toList.take (c + 1)) k (by rw [HX.out.2.2.2]; omega);rw [HX.out.2.2.1 k (by omega), sget s k hk] at hst;have hvl := HX.out.2.1;obtain ⟨N, hN⟩ : ∃ N, valN ((s.data.toList.take (c + 1)).drop (k + 1)) = N := ⟨_, rfl⟩;rw [hN] at hst ⊢;have hb := (s[k]).toNat_lt;have hNl : 128 * N < 18446744073709551616 := by omega
         have HK := Lib.hid (And.intro hst (And.intro hbd hvl));clear hst hbd hvl hN;go_wp2_with fail
         go_round
         case rel =>
          refine ⟨k, by omega, by go_num, ?_⟩;rw [HK.out.1];rw [or_low N _ hNl]
         case measure => simp [intOf]
theorem num_fits (s : List UInt8) : (numL s).1 < 18446744073709551616 ∧ (numL s).2.1 ≤ 10 ∧ (numL s).2.1 ≤ s.length ∧ ((numL s).2.2 = 0 ∨ (numL s).2.2 = 7 ∨ (numL s).2.2 = 8) := by
 rcases num_bad s with h | h | h
 ·obtain ⟨⟨a, b, c⟩, hq⟩ : ∃ q, numL s = q := ⟨_, rfl⟩
  rw [hq] at h ⊢;obtain rfl : c = 0 := h;obtain ⟨h1, h2, h3, h4⟩ := num_ok hq;have := size_u64 h1;exact ⟨h1, by show b ≤ 10; omega, h3, .inl rfl⟩
 ·rw [h]; simp
 ·rw [h]; simp
theorem bounded_c (s : ByteArray) (m : Nat) (hm : m ≤ 9223372036854775807) (w : World) : Calls Tryz.prog 220 #[.string s, .int .i64 (m : Int)] w fun e w' => e = .returned (.tuple #[.int .i64 ((boundL s.data.toList m).1 : Int), .int .i64 ((boundL s.data.toList m).2.1 : Int), .int .i64 (boundL s.data.toList m).2.2]) ∧ w = w' := by
 have hN := number_c s;have hf := num_fits s.data.toList;unfold boundL;obtain ⟨⟨a, b, c⟩, hq⟩ : ∃ q, numL s.data.toList = q := ⟨_, rfl⟩;rw [hq] at hf;simp only [hq] at hN ⊢;have HN := Lib.hid hN;clear hN;simp only at hf
 obtain ⟨hf1, hf2, hf3, hf4⟩ := hf;by_cases hc : c = 0
 ·subst hc
  by_cases hle : a ≤ m
  ·rw [if_pos rfl, if_pos hle]
   go_enter Tryz.func220, Tryz.ntmps220
   go_wp2_with fail
   refine (HN.out _).mono ?_;rintro e w' ⟨rfl, rfl⟩;go_wp2_with fail
   go_ret3
   exact ⟨rfl, rfl⟩
  ·rw [if_pos rfl, if_neg hle]
   go_enter Tryz.func220, Tryz.ntmps220
   go_wp2_with fail
   refine (HN.out _).mono ?_;rintro e w' ⟨rfl, rfl⟩;go_wp2_with fail
   go_ret3
   exact ⟨rfl, rfl⟩
 ·rw [if_neg hc]
  go_enter Tryz.func220, Tryz.ntmps220
  go_wp2_with fail
  refine (HN.out _).mono ?_;rintro e w' ⟨rfl, rfl⟩;go_wp2_with fail
  go_ret3
  exact ⟨rfl, rfl⟩
end
section
open Go Go.RowKit
def letter (c : UInt8) : Bool := decide (97 ≤ c.toNat ∧ c.toNat ≤ 122)
theorem okName_iff (s : List UInt8) : okName s = (decide (1 ≤ s.length ∧ s.length ≤ 8) && s.all letter) := rfl
theorem take_all_step {s : List UInt8} {p : UInt8 → Bool} {k : Nat} (hk : k < s.length) (h : (s.take k).all p = true) (h2 : p (s.getD k 0) = true) : (s.take (k + 1)).all p = true := by
 rw [List.take_succ_eq_append_getElem hk, List.all_append, h];rw [List.getD_eq_getElem?_getD, List.getElem?_eq_getElem hk] at h2;simpa using h2
theorem all_false {s : List UInt8} {p : UInt8 → Bool} {k : Nat} (hk : k < s.length) (h2 : p (s.getD k 0) = false) : s.all p = false := by
 rw [List.getD_eq_getElem?_getD, List.getElem?_eq_getElem hk] at h2;rw [List.all_eq_false];exact ⟨s[k], List.getElem_mem hk, by simpa using h2⟩
theorem named_c (s : ByteArray) (hs : s.size ≤ 1000000) (w : World) :
 Calls Tryz.prog 142 #[.string s] w fun e w' => e = .returned (.bool (okName s.data.toList)) ∧ w = w' := by
 have hlen : s.data.toList.length = s.size := by simp
 obtain ⟨B, hB⟩ : ∃ B, okName s.data.toList = B := ⟨_, rfl⟩;rw [hB];have HB := Lib.hid (And.intro hB hlen);clear hB hlen;go_enter Tryz.func142, Tryz.ntmps142
 go_wp2_with fail
 go_loop [3, 6] (fun _ i => ∃ k : Nat, k ≤ s.size ∧ i = .int .i64 (k : Int) ∧ (s.data.toList.take k).all letter = true) (fun _ i => s.size - (intOf i).toNat)
 case atStart => exact ⟨0, by omega, rfl, rfl⟩
 case round =>
  obtain ⟨k, hk, rfl, hall⟩ := hrel;have HA := Lib.hid hall;clear hall;by_cases hlt : k < s.size
  ·have j1 : (k : Int) < (s.size : Int) := by omega
   have hsg := sget s k hlt;by_cases h1 : (s[k]).toNat < 97
   ·have hBv : B = false := by
     rw [← HB.out.1, okName_iff, all_false (k := k) (by rw [HB.out.2]; exact hlt) (by unfold letter; rw [hsg]; simp; omega), Bool.and_false]
    subst hBv;clear hsg;go_wp2_with fail
    go_ret
    exact ⟨rfl, rfl⟩
   ·by_cases h2 : 122 < (s[k]).toNat
    ·have hBv : B = false := by
      rw [← HB.out.1, okName_iff, all_false (k := k) (by rw [HB.out.2]; exact hlt) (by unfold letter; rw [hsg]; simp; omega), Bool.and_false]
     subst hBv;clear hsg;go_wp2_with fail
     go_ret
     exact ⟨rfl, rfl⟩
    ·have HL := Lib.hid (take_all_step (by rw [HB.out.2]; exact hlt) HA.out (by unfold letter; rw [hsg]; simp; omega))
     clear hsg;go_wp2_with fail
     go_round
     case rel => exact ⟨k + 1, by omega, by go_num, HL.out⟩
     case measure => simp [intOf] <;> omega
  ·obtain rfl : k = s.size := by omega
   have hB2 : B = decide (1 ≤ s.size ∧ s.size ≤ 8) := by
    have ha := HA.out;rw [List.take_of_length_le (by rw [HB.out.2]; omega)] at ha;rw [← HB.out.1, okName_iff, ha, HB.out.2, Bool.and_true]
   have HB2 := Lib.hid hB2;clear hB2 hlt hk;by_cases h1 : (1 : Int) ≤ (s.size : Int)
   ·by_cases h2 : (s.size : Int) ≤ 8
    ·obtain rfl : B = true := by rw [HB2.out]; simp; omega
     go_wp2_with fail
     go_ret
     exact ⟨rfl, rfl⟩
    ·obtain rfl : B = false := by rw [HB2.out]; simp; omega
     go_wp2_with fail
     go_ret
     exact ⟨rfl, rfl⟩
   ·obtain rfl : B = false := by rw [HB2.out]; simp; omega
    go_wp2_with fail
    go_ret
    exact ⟨rfl, rfl⟩
theorem indexByte_not {l : List UInt8} {c : UInt8} (h : l.all (· != c) = true) : Lib.indexByte l c = -1 := by
 induction l with
 | nil => rfl
 | cons b r ih =>
   simp only [List.all_cons, Bool.and_eq_true, bne_iff_ne] at h;unfold Lib.indexByte;rw [if_neg (by simpa using h.1), ih (by simpa using h.2)];rfl
theorem indexByte_neg {l : List UInt8} {c : UInt8} : Lib.indexByte l c < 0 ↔ l.all (· != c) = true := by
 constructor
 ·intro h
  induction l with
  | nil => rfl
  | cons b r ih =>
    unfold Lib.indexByte at h;by_cases e : b = c
    ·rw [if_pos (by simpa using e)] at h
     omega
    ·rw [if_neg (by simpa using e)] at h
     have hg := Lib.indexByte_ge r c;by_cases e2 : Lib.indexByte r c = -1
     ·have := ih (by omega)
      simp [e]
      simpa using this
     ·rw [if_neg (by simpa using e2)] at h
      omega
 ·intro h
  rw [indexByte_not h];decide
theorem headP_cons (b : UInt8) (r : List UInt8) : headP (b :: r) = if b = 47 then [] else b :: headP r := by
 unfold headP;rw [List.takeWhile_cons];by_cases e : b = 47
 ·rw [if_pos e, e]
  rfl
 ·rw [if_neg e, if_pos (by simpa using e)]
theorem indexByte_head (l : List UInt8) : Lib.indexByte l 47 = if (headP l).length < l.length then ((headP l).length : Int) else -1 := by
 induction l with
 | nil => rfl
 | cons b r ih =>
   rw [headP_cons];unfold Lib.indexByte;by_cases e : b = 47
   ·rw [if_pos (by simpa using e), if_pos e]
    simp
   ·rw [if_neg (by simpa using e), ih, if_neg e, List.length_cons, List.length_cons]
    by_cases h : (headP r).length < r.length
    ·rw [if_pos h, if_neg (by simp), if_pos (by omega)]
     omega
    ·rw [if_neg h, if_pos (by rfl), if_neg (by omega)]
theorem takeWhile_take {α : Type} (p : α → Bool) (l : List α) : l.takeWhile p = l.take (l.takeWhile p).length := by
 induction l with
 | nil => rfl
 | cons b r ih =>
   rw [List.takeWhile_cons];split
   ·rw [List.length_cons, List.take_succ_cons, ← ih]
   ·rfl
theorem headP_take (l : List UInt8) : headP l = l.take (headP l).length := takeWhile_take _ l
theorem pkey_c (s : ByteArray) (hs : s.size ≤ 1000000) (w : World) :
 Calls Tryz.prog 190 #[.string s] w fun e w' => e = .returned (.bool (okKey s.data.toList)) ∧ w = w' := by
 have hlen : s.data.toList.length = s.size := by simp
 have hK : okKey s.data.toList = (decide (1 ≤ s.size ∧ s.size ≤ 24) && (decide (Lib.indexByte s.data.toList 0 < 0) && decide (Lib.indexByte s.data.toList 47 < 0))) := by
  unfold okKey;rw [hlen];congr 1
  rw [Bool.eq_iff_iff];simp only [Bool.and_eq_true, decide_eq_true_eq, indexByte_neg, List.all_eq_true, bne_iff_ne];constructor
  ·intro h
   exact ⟨fun x hx => (h x hx).1, fun x hx => (h x hx).2⟩
  ·rintro ⟨h1, h2⟩ x hx
   exact ⟨h1 x hx, h2 x hx⟩
 have h0 := fun W => Tryz.strings_IndexByte s 0 W
 have h47 := fun W => Tryz.strings_IndexByte s 47 W
 rw [show (0 : Int).toNat.toUInt8 = 0 from rfl] at h0;rw [show (47 : Int).toNat.toUInt8 = 47 from rfl] at h47;obtain ⟨i0, hi0⟩ : ∃ i, Lib.indexByte s.data.toList 0 = i := ⟨_, rfl⟩;obtain ⟨i1, hi1⟩ : ∃ i, Lib.indexByte s.data.toList 47 = i := ⟨_, rfl⟩;rw [hi0, hi1] at hK;rw [hi0] at h0;rw [hi1] at h47;rw [hK];have H0 := Lib.hid h0;have H1 := Lib.hid h47;clear h0 h47 hi0 hi1 hK hlen;have fin : ∀ B : Bool, (decide (1 ≤ s.size ∧ s.size ≤ 24) && (decide (i0 < 0) && decide (i1 < 0))) = B → Calls Tryz.prog 190 #[.string s] w fun e w' => e = .returned (.bool B) ∧ w = w' := by
  intro B hB;have HB := Lib.hid hB;clear hB;go_enter Tryz.func190, Tryz.ntmps190
  by_cases h1 : (1 : Int) ≤ (s.size : Int)
  ·by_cases h2 : (s.size : Int) ≤ 24
   ·by_cases h3 : i0 < 0
    ·by_cases h4 : i1 < 0
     ·obtain rfl : true = B := by rw [← HB.out]; simp [h3, h4]; omega
      go_wp2_with (fail)
      refine (H0.out _).mono ?_;rintro e w1 ⟨rfl, rfl⟩;go_wp2_with (fail)
      refine (H1.out _).mono ?_;rintro e w1 ⟨rfl, rfl⟩;go_wp2_with (fail)
      go_ret
      exact ⟨rfl, rfl⟩
     ·obtain rfl : false = B := by rw [← HB.out]; simp [h3, h4]
      go_wp2_with (fail)
      refine (H0.out _).mono ?_;rintro e w1 ⟨rfl, rfl⟩;go_wp2_with (fail)
      refine (H1.out _).mono ?_;rintro e w1 ⟨rfl, rfl⟩;go_wp2_with (fail)
      go_ret
      exact ⟨by simp [h4], rfl⟩
    ·obtain rfl : false = B := by rw [← HB.out]; simp [h3]
     go_wp2_with (fail)
     refine (H0.out _).mono ?_;rintro e w1 ⟨rfl, rfl⟩;go_wp2_with (fail)
     go_ret
     exact ⟨rfl, rfl⟩
   ·obtain rfl : false = B := by rw [← HB.out]; simp; omega
    go_wp2_with fail
    go_ret
    exact ⟨rfl, rfl⟩
  ·obtain rfl : false = B := by rw [← HB.out]; simp; omega
   go_wp2_with fail
   go_ret
   exact ⟨rfl, rfl⟩
 exact fin _ rfl
def cutV (s : ByteArray) : Value := if (headP s.data.toList).length < s.data.toList.length then .tuple #[.string (s.extract 0 (headP s.data.toList).length), .string (s.extract ((headP s.data.toList).length + 1) s.size), .bool true] else .tuple #[.string s, .string ByteArray.empty, .bool false]
theorem slcut_c (s : ByteArray) (hs : s.size ≤ 1000000) (w : World) :
 Calls Tryz.prog 224 #[.string s, .string ⟨#[47]⟩] w fun e w' => e = .returned (cutV s) ∧ Upd (fun _ => False) w w' := by
 have hlen : s.data.toList.length = s.size := by simp
 have hi := fun W => Tryz.stringslite_Index_one s 47 W
 unfold cutV;rw [indexByte_head, hlen] at hi;rw [hlen];obtain ⟨n, hn⟩ : ∃ n, (headP s.data.toList).length = n := ⟨_, rfl⟩;rw [hn] at hi ⊢;clear hn hlen;by_cases h : n < s.size
 ·rw [if_pos h] at hi ⊢
  have HI := Lib.hid hi;clear hi;have k1 : (n : Int) < (s.size : Int) := by omega
  have k2 : IntKind.i64.wrap ((n : Int) + 1) = (n : Int) + 1 := IntWalk.i64_in _ (by omega);have k3 : (0 : Int) ≤ (n : Int) := by omega
  go_enter Tryz.func224, Tryz.ntmps224
  go_wp2_with fail
  refine (HI.out _).mono ?_;rintro e w1 ⟨rfl, rfl⟩;go_wp2_with fail
  go_quiet (fail)
  go_wp2_with fail
  go_ret3
  exact ⟨rfl, (Upd.refl _ _).drewN _⟩
 ·rw [if_neg h] at hi ⊢
  have HI := Lib.hid hi;clear hi;go_enter Tryz.func224, Tryz.ntmps224
  go_wp2_with fail
  refine (HI.out _).mono ?_;rintro e w1 ⟨rfl, rfl⟩;go_wp2_with fail
  go_ret3
  exact ⟨rfl, Upd.refl _ _⟩
theorem scut_c (s : ByteArray) (hs : s.size ≤ 1000000) (w : World) :
 Calls Tryz.prog 189 #[.string s, .string ⟨#[47]⟩] w fun e w' => e = .returned (cutV s) ∧ Upd (fun _ => False) w w' := by
 have hc := fun W => slcut_c s hs W
 obtain ⟨a, b, c, h⟩ : ∃ a b c, cutV s = .tuple #[.string a, .string b, .bool c] := by
  unfold cutV;split
  ·exact ⟨_, _, _, rfl⟩
  ·exact ⟨_, _, _, rfl⟩
 rw [h] at hc ⊢;have H := Lib.hid hc;clear hc h;go_enter Tryz.func189, Tryz.ntmps189
 go_wp2_with fail
 refine (H.out _).mono ?_;rintro e w1 ⟨rfl, hU⟩;have HU := Lib.hid hU;clear hU;go_wp2_with fail
 go_ret3
 exact ⟨rfl, HU.out⟩
theorem pcut_c (s : ByteArray) (hs : s.size ≤ 1000000) (w : World) :
 Calls Tryz.prog 134 #[.string s] w fun e w' => e = .returned (.tuple #[.string (str (cutP s.data.toList).1), .string (str (cutP s.data.toList).2.1), .bool (okPath s.data.toList)]) ∧ Upd (fun _ => False) w w' := by
 have hlen : s.data.toList.length = s.size := by simp
 have hc := fun W => scut_c s hs W
 have hpre := headP_take s.data.toList;unfold okPath cutP;unfold cutV at hc;rw [hlen] at hc ⊢;obtain ⟨H, hH⟩ : ∃ H, headP s.data.toList = H := ⟨_, rfl⟩;rw [hH] at hc hpre ⊢;obtain ⟨n, hn⟩ : ∃ n, H.length = n := ⟨_, rfl⟩;rw [hn] at hc hpre ⊢;by_cases h : n < s.size
 ·rw [if_pos h] at hc
  have ea : (s.extract 0 n).data.toList = H := by rw [hpre]; simp
  have eb : (s.extract (n + 1) s.size).data.toList = s.data.toList.drop (n + 1) := by
   simp only [ByteArray.data_extract, Array.toList_extract, List.extract_eq_take_drop];rw [List.take_of_length_le (by rw [List.length_drop, hlen]; omega)]
  obtain ⟨a, ha⟩ : ∃ a, s.extract 0 n = a := ⟨_, rfl⟩;obtain ⟨b, hb⟩ : ∃ b, s.extract (n + 1) s.size = b := ⟨_, rfl⟩;rw [ha] at ea hc;rw [hb] at eb hc;have hna := fun W => named_c a (by rw [← ha]; simp; omega) W
  have hkb := fun W => pkey_c b (by rw [← hb]; simp; omega) W
  rw [← ea, ← eb];obtain ⟨A, hA⟩ : ∃ A, okName a.data.toList = A := ⟨_, rfl⟩;obtain ⟨B, hB⟩ : ∃ A, okKey b.data.toList = A := ⟨_, rfl⟩;rw [hA] at hna ⊢;rw [hB] at hkb ⊢;have HC := Lib.hid hc;have HN := Lib.hid hna;have HK := Lib.hid hkb;have Hh := Lib.hid h;clear hc hna hkb ha hb hA hB ea eb hH hn hpre hlen h;have step : ∀ R : Value, R = (if A && B then Value.tuple #[.string a, .string b, .bool true] else .tuple #[.string ByteArray.empty, .string ByteArray.empty, .bool false]) → Calls Tryz.prog 134 #[.string s] w fun e w' => e = .returned R ∧ Upd (fun _ => False) w w' := by
   intro R hR;have HR := Lib.hid hR;clear hR;go_enter Tryz.func134, Tryz.ntmps134
   go_wp2_with fail
   refine (HC.out _).mono ?_;rintro e w1 ⟨rfl, hU⟩;have HU := Lib.hid hU;clear hU;go_wp2_with fail
   refine (HN.out _).mono ?_;rintro e w2 ⟨rfl, rfl⟩;cases A
   ·obtain rfl := HR.out
    go_wp2_with fail
    go_ret3
    exact ⟨rfl, HU.out⟩
   ·go_wp2_with fail
    refine (HK.out _).mono ?_;rintro e w2 ⟨rfl, rfl⟩;cases B
    ·obtain rfl := HR.out
     go_wp2_with fail
     go_ret3
     exact ⟨rfl, HU.out⟩
    ·obtain rfl := HR.out
     go_wp2_with fail
     go_ret3
     exact ⟨rfl, HU.out⟩
  refine (step _ rfl).mono ?_;rintro e w' ⟨rfl, hU⟩;refine ⟨?_, hU⟩;cases A
  ·simp [Hh.out]; rfl
  ·cases B
   ·simp [Hh.out]; rfl
   ·simp [Hh.out, str_eta]
 ·rw [if_neg h] at hc
  have HC := Lib.hid hc;clear hc hpre hn hH;rw [if_neg (by omega)];go_enter Tryz.func134, Tryz.ntmps134
  go_wp2_with fail
  refine (HC.out _).mono ?_;rintro e w1 ⟨rfl, hU⟩;have HU := Lib.hid hU;clear hU;go_wp2_with fail
  go_ret3
  exact ⟨rfl, HU.out⟩
end
section
open Go Go.RowKit
theorem Blk.cells6 {w : World} {g : Nat} {t : TypeId} {a b c d e f : Value} (k : Blk w g t #[a, b, c, d, e, f]) : w.cell? ⟨g, 0, none⟩ = some a ∧ w.cell? ⟨g, 1, none⟩ = some b ∧ w.cell? ⟨g, 2, none⟩ = some c ∧ w.cell? ⟨g, 3, none⟩ = some d ∧ w.cell? ⟨g, 4, none⟩ = some e ∧ w.cell? ⟨g, 5, none⟩ = some f :=
 ⟨k.cell 0, k.cell 1, k.cell 2, k.cell 3, k.cell 4, k.cell 5⟩
section
variable {P : Program} {ops : Array Oper} {rest : List Oper} {o : Oper} {a : Act} {w : World} {Q : Exit → Act → World → Prop} {K : Act → World → Prop}
theorem Blk.range {g : Nat} {t : TypeId} {cs : Array Value} (h : Blk w g t cs) (i : Nat) (vs : List Value) (hv : ∀ j v, vs[j]? = some v → cs[i + j]? = some v) : w.rangeAt g i vs := fun j v e => by
 rw [h.cell]; exact hv j v e
theorem Blk.there_ {g : Nat} {t : TypeId} {cs : Array Value} (h : Blk w g t cs) (i n : Nat) (hn : i + n ≤ cs.size) : w.there g i n := fun j hj => by
 refine ⟨?_, h.frozen _⟩;rw [h.cell, Array.getElem?_eq_getElem (by omega)];rfl
theorem Upd.setCells_ (g : Nat) : ∀ (vs : List Value) (i : Nat) (w : World), Upd (· = g) w (w.setCells g i vs) ∧ (w.setCells g i vs).heap.size = w.heap.size
 | [], _, w => ⟨Upd.refl _ _, rfl⟩
 | v :: r, i, w => by
   have h1 := (Upd.refl (· = g) w).setCell (p := ⟨g, i, none⟩) (.inl rfl) v;obtain ⟨h2, h3⟩ := Upd.setCells_ g r (i + 1) (w.setCell ⟨g, i, none⟩ v);refine ⟨h1.then h2 (fun _ e => .inl e), ?_⟩;rw [World.setCells, h3];simp
theorem Blk.setCells {g : Nat} {t : TypeId} : ∀ (vs : List Value) (i : Nat) (w : World) (cs : Array Value), Blk w g t cs → i + vs.length ≤ cs.size → Blk (w.setCells g i vs) g t (cs.toList.take i ++ vs ++ cs.toList.drop (i + vs.length)).toArray
 | [], i, w, cs, h, hi => by
   simp only [List.append_nil, List.length_nil, Nat.add_zero, List.take_append_drop];exact h
 | v :: r, i, w, cs, h, hi => by
   rw [World.setCells];have hi' : i < cs.size := by simp at hi; omega
   have := Blk.setCells r (i + 1) _ _ (h.set_ i v) (by simp at hi ⊢; omega);have e : (cs.setIfInBounds i v).toList.take (i + 1) ++ r ++ (cs.setIfInBounds i v).toList.drop (i + 1 + r.length) = cs.toList.take i ++ (v :: r) ++ cs.toList.drop (i + (v :: r).length) := by
    rw [Array.toList_setIfInBounds, List.drop_set_of_lt (by omega), List.take_set, List.take_succ_eq_append_getElem (by simpa using hi')];have hl : (cs.toList.take i).length = i := by rw [List.length_take, Array.length_toList]; omega
    rw [List.set_append_right _ _ (by omega), hl, Nat.sub_self];simp [Nat.add_comm, Nat.add_left_comm]
   rw [e] at this;exact this
theorem wp_store_part (ty : TypeId) (x y : Operand) (ho : o.op = .store ty x y) (g i : Nat) (vs : Array Value) (hx : a.eval x = .pointer (some ⟨g, i, none⟩)) (hy : a.eval y = .agg vs)
 (t : TypeId) (cs new : Array Value) (hB : Blk w g t cs) (hi : i + vs.size ≤ cs.size) (hn : cs.toList.take i ++ vs.toList ++ cs.toList.drop (i + vs.size) = new.toList) (h1 : vs.all (·.oneCell') = true) (hsz : (P.info? ty).map (·.size) = some vs.size)
 (h : ∀ w', Blk w' g t new → Upd (· = g) w w' → w'.heap.size = w.heap.size → K (a.put o.dst undef) w') : o.wp P a w K Q := by
 refine wp_store_mid ty x y ho g i vs hx hy (hB.there_ i _ hi) hsz h1 ?_;obtain ⟨u1, u2⟩ := Upd.setCells_ g vs.toList i w;refine h _ ?_ u1 u2;have := Blk.setCells vs.toList i w cs hB (by simpa using hi);rw [Array.length_toList, hn] at this;exact this
theorem wpList_store_part (hg : o.guard = none) (ty : TypeId) (x y : Operand) (ho : o.op = .store ty x y) (g i : Nat) (vs : Array Value) (hx : a.eval x = .pointer (some ⟨g, i, none⟩)) (hy : a.eval y = .agg vs)
 (t : TypeId) (cs new : Array Value) (hB : Blk w g t cs) (hi : i + vs.size ≤ cs.size) (hn : cs.toList.take i ++ vs.toList ++ cs.toList.drop (i + vs.size) = new.toList) (h1 : vs.all (·.oneCell') = true) (hsz : (P.info? ty).map (·.size) = some vs.size)
 (h : ∀ w', Blk w' g t new → Upd (· = g) w w' → w'.heap.size = w.heap.size → wpList P ops Q rest (a.put o.dst undef) w') : wpList P ops Q (o :: rest) a w :=
 wpList_plain hg fun _ hK => wp_store_part ty x y ho g i vs hx hy t cs new hB hi hn h1 hsz fun w' b1 b2 b3 => hK _ _ (h w' b1 b2 b3)
theorem wpList_load_part (hg : o.guard = none) (ty : TypeId) (x : Operand) (ho : o.op = .load ty x) (g i : Nat) (hx : a.eval x = .pointer (some ⟨g, i, none⟩)) (t : TypeId) (cs : Array Value) (vs : List Value) (d : TypeDesc)
 (hB : Blk w g t cs) (hv : ∀ j v, vs[j]? = some v → cs[i + j]? = some v) (hu : P.underlying ty = some d) (hd : d.isRow = true) (hi : (P.info? ty).map (·.size) = some vs.length)
 (h : wpList P ops Q rest (a.put o.dst (.agg vs.toArray)) w) : wpList P ops Q (o :: rest) a w :=
 wpList_load_mid hg ty x ho g i hx vs d (hB.range i vs hv) hu hd hi h
theorem step_store_part {E : Prop} (hg : o.guard = none) (ty : TypeId) (x y : Operand) (ho : o.op = .store ty x y) (g i : Nat) (vs : Array Value) (hx : a.eval x = .pointer (some ⟨g, i, none⟩)) (hy : a.eval y = .agg vs)
 (t : TypeId) (cs new : Array Value) (hB : Blk w g t cs) (hi : i + vs.size ≤ cs.size) (hn : cs.toList.take i ++ vs.toList ++ cs.toList.drop (i + vs.size) = new.toList) (h1 : vs.all (·.oneCell') = true) (hsz : (P.info? ty).map (·.size) = some vs.size)
 (h : ∀ w', Blk w' g t new → Upd (· = g) w w' → w'.heap.size = w.heap.size → K (a.put o.dst undef) w') : if Region.wanted o (yielded ops a.tmps) = true then Oper.wp P o a w K Q else E := by
 have hw : Region.wanted o (yielded ops a.tmps) = true := by simp [Region.wanted, hg]
 rw [if_pos hw];exact wp_store_part ty x y ho g i vs hx hy t cs new hB hi hn h1 hsz h
theorem step_store_one {E : Prop} (hg : o.guard = none) (ty : TypeId) (x y : Operand) (ho : o.op = .store ty x y) (g i : Nat) (v : Value) (hx : a.eval x = .pointer (some ⟨g, i, none⟩)) (hy : a.eval y = v)
 (t : TypeId) (cs new : Array Value) (hB : Blk w g t cs) (hi : i < cs.size) (hn : cs.setIfInBounds i v = new) (h1 : v.oneCell' = true) (hsz : (P.info? ty).map (·.size) = some 1)
 (h : ∀ w', Blk w' g t new → Upd (· = g) w w' → w'.heap.size = w.heap.size → K (a.put o.dst undef) w') : if Region.wanted o (yielded ops a.tmps) = true then Oper.wp P o a w K Q else E := by
 have hw : Region.wanted o (yielded ops a.tmps) = true := by simp [Region.wanted, hg]
 rw [if_pos hw];subst hn;exact wp_store_one ty x y ho g i v hx hy t cs hB hi h1 hsz h
end
end
section
open Go Go.RowKit
def opRow (o : OpM) : List Value := [.int .u8 (o.kind.toNat : Int), .string (str o.path), .string (str o.value)]
def OpsAt (w : World) (b off : Nat) (l : List OpM) : Prop := ∀ i (h : i < l.length), w.rangeAt b (off + i * 3) (opRow l[i])
def OpsSmall (l : List OpM) : Prop := ∀ o ∈ l, o.path.length ≤ 1000000 ∧ o.value.length ≤ 1000000
theorem opsErr_drop {l : List OpM} {k : Nat} (hk : k < l.length) : opsErr (l.drop k) = if opErr l[k] ≠ 0 then opErr l[k] else opsErr (l.drop (k + 1)) := by
 rw [List.drop_eq_getElem_cons hk, opsErr]
theorem right1_c (s : ByteArray) (hs : s.size ≤ 1000000) (w : World) :
 Calls Tryz.prog 139 #[.string s] w fun e w' => e = .returned (.int .i64 (if okPath s.data.toList = false then 20 else 0)) ∧ Upd (fun _ => False) w w' := by
 have hc := fun W => pcut_c s hs W
 obtain ⟨a, ha⟩ : ∃ a, str (cutP s.data.toList).1 = a := ⟨_, rfl⟩;obtain ⟨b, hb⟩ : ∃ a, str (cutP s.data.toList).2.1 = a := ⟨_, rfl⟩;obtain ⟨B, hB⟩ : ∃ a, okPath s.data.toList = a := ⟨_, rfl⟩;rw [ha, hb, hB] at hc;rw [hB];have HC := Lib.hid hc;clear hc ha hb hB;cases B
 ·go_enter Tryz.func139, Tryz.ntmps139
  go_wp2_with fail
  refine (HC.out _).mono ?_;rintro e w1 ⟨rfl, hU⟩;have HU := Lib.hid hU;clear hU;go_wp2_with fail
  go_ret
  exact ⟨rfl, HU.out⟩
 ·go_enter Tryz.func139, Tryz.ntmps139
  go_wp2_with fail
  refine (HC.out _).mono ?_;rintro e w1 ⟨rfl, hU⟩;have HU := Lib.hid hU;clear hU;go_wp2_with fail
  go_ret
  exact ⟨rfl, HU.out⟩
theorem each_c {A : Option Addr} {cap b off : Nat} {l : List OpM} {w : World} (hA : 0 < l.length → A = some ⟨b, off, none⟩) (hb : ∀ w', Upd (fun _ => False) w w' → OpsAt w' b off l) (hs : OpsSmall l) (hl : l.length ≤ 1000000) :
 Calls Tryz.prog 138 #[.slice A l.length cap, .func (.func 139) #[] #[]] w fun e w' => e = .returned (.int .i64 (opsErr l)) ∧ Upd (fun _ => False) w w' := by
 obtain ⟨E, hE⟩ : ∃ E, opsErr l = E := ⟨_, rfl⟩;rw [hE];have HB := Lib.hid hb;have HS := Lib.hid (And.intro hs hE);clear hb hs hE;go_enter Tryz.func138, Tryz.ntmps138
 go_wp2_with fail
 go_loopw [6, 7, 10] (fun _ _ i wr => ∃ k : Nat, k ≤ l.length ∧ i = .int .i64 (k : Int) ∧ Upd (fun _ => False) w wr ∧ opsErr (l.drop k) = E) (fun _ _ i _ => l.length - (intOf i).toNat)
 case atStart => exact ⟨0, by omega, rfl, Upd.refl _ _, HS.out.2⟩
 case round =>
  obtain ⟨k, hk, rfl, hU, hE⟩ := hrel;by_cases hlt : k < l.length
  ·obtain rfl := hA (by omega)
   have hrow := HB.out wr hU k hlt;have hsm := HS.out.1 _ (List.getElem_mem hlt);rw [opsErr_drop hlt] at hE;obtain ⟨o, ho⟩ : ∃ o, l[k] = o := ⟨_, rfl⟩;rw [ho] at hrow hsm hE;have HR := Lib.hid hrow;have HE := Lib.hid hE;have HU := Lib.hid hU;clear hrow hE hU ho;have j1 : (k : Int) < (l.length : Int) := by omega
   have h25 := fun W => right1_c (str o.path) (by rw [str_size]; exact hsm.1) W
   rw [str_list] at h25;obtain ⟨P, hP⟩ : ∃ P, str o.path = P := ⟨_, rfl⟩;obtain ⟨V, hV⟩ : ∃ P, str o.value = P := ⟨_, rfl⟩;obtain ⟨K, hK⟩ : ∃ K : Int, (o.kind.toNat : Int) = K := ⟨_, rfl⟩;have hrw : opRow o = [.int .u8 K, .string P, .string V] := by unfold opRow; rw [hP, hV, hK]
   rw [hrw] at HR;rw [hP] at h25;have hVs : V.size = o.value.length := by rw [← hV, str_size]
   have H25 := Lib.hid h25;have HV := Lib.hid (And.intro hVs (And.intro hV hK));clear h25 hrw hP hV hVs hK hsm;obtain ⟨q, hq⟩ : ∃ q, wr.heap.size = q := ⟨_, rfl⟩;have HQ := Lib.hid hq;go_upto_region 4 with (first
    | (refine wpList_load_mid rfl _ _ rfl b (off + k * 3) rfl [.int .u8 K, .string P, .string V] _ HR.out Tryz.underlying32 rfl (by kernel_rfl) ?_))
   generalize hw5 : World.alloc _ _ = w5;have hB5 : Blk w5 q 32 #[.int .u8 K, .string P, .string V] := by rw [← hw5, ← HQ.out]; exact Blk.new wr _ _
   have hU5 : Upd (fun _ => False) w w5 := by rw [← hw5]; exact HU.out.alloc _
   obtain ⟨c0, c1, c2⟩ := hB5.cells3;have HU5 := Lib.hid (And.intro hU5 hB5);clear hU5 hB5 hw5 hq HR;by_cases hk10 : o.kind ≠ 1 ∧ o.kind ≠ 2
   ·have hE10 : E = 10 := by rw [← HE.out]; unfold opErr; rw [if_pos hk10]; simp
    subst hE10;have k1 : (K != 1) = true := by
     rw [bne_iff_ne, ← HV.out.2.2];intro e;exact hk10.1 (UInt8.toNat_inj.1 (show o.kind.toNat = 1 by omega))
    have k2 : (K != 2) = true := by
     rw [bne_iff_ne, ← HV.out.2.2];intro e;exact hk10.2 (UInt8.toNat_inj.1 (show o.kind.toNat = 2 by omega))
    clear hk10;go_wp2_with fail
    go_ret
    exact ⟨rfl, HU5.out.1⟩
   ·have hK12 : K = 1 ∧ o.kind = 1 ∨ K = 2 ∧ o.kind = 2 := by
     rcases Classical.em (o.kind = 1) with e | e
     ·exact .inl ⟨by rw [← HV.out.2.2, e]; rfl, e⟩
     ·refine .inr ?_
      have e2 : o.kind = 2 := Classical.byContradiction fun c => hk10 ⟨e, c⟩
      exact ⟨by rw [← HV.out.2.2, e2]; rfl, e2⟩
    have HK12 := Lib.hid hK12;have HN := Lib.hid hk10;clear hk10 hK12;rcases HK12.out with ⟨rfl, hkd⟩ | ⟨rfl, hkd⟩
    ·have hE0 : opErr o = if okPath o.path = false then 20 else if 32 < o.value.length then 3 else if o.kind = 2 ∧ o.value ≠ [] then 1 else 0 := by
      unfold opErr;rw [if_neg HN.out]
     have HKD := Lib.hid hkd;have hVe : V.size = 0 ↔ o.value = [] := by rw [HV.out.1, List.length_eq_zero_iff]
     rw [← HV.out.1] at hE0;obtain ⟨B, hB⟩ : ∃ B, okPath o.path = B := ⟨_, rfl⟩;have h25 := H25.out;rw [hB] at hE0 h25;have H25' := Lib.hid h25;have HE0 := Lib.hid hE0;have HVE := Lib.hid hVe;clear hB h25 hE0 HK12 hkd hVe;cases B
     ·obtain rfl : (20 : Int) = E := by
       have e3 : opErr o = 20 := by rw [HE0.out]; rfl
       have := HE.out;rw [e3] at this;simpa using this
      go_wp2_with fail
      refine (H25'.out _).mono ?_;rintro e w6 ⟨rfl, hU6⟩;have HU6 := Lib.hid (HU5.out.1.then hU6 (fun _ e => e.elim));clear hU6 c0 c1 c2;go_wp2_with fail
      go_ret
      exact ⟨rfl, HU6.out⟩
     ·go_wp2_with fail
      refine (H25'.out _).mono ?_;rintro e w6 ⟨rfl, hU6⟩;have HU6 := Lib.hid (HU5.out.1.then hU6 (fun _ e => e.elim));obtain ⟨c0, c1, c2⟩ := (HU5.out.2.upd hU6 (fun e => e)).cells3;clear hU6;by_cases g1 : (32 : Int) < (V.size : Int)
      ·obtain rfl : (3 : Int) = E := by
        have e3 : opErr o = 3 := by rw [HE0.out, if_neg (by simp), if_pos (by omega)]
        have := HE.out;rw [e3] at this;simpa using this
       go_wp2_with fail
       go_ret
       exact ⟨rfl, HU6.out⟩
      ·have hE3 : opErr o = if o.kind = 2 ∧ o.value ≠ [] then 1 else 0 := by rw [HE0.out, if_neg (by simp), if_neg (by omega)]
       have HE3 := Lib.hid hE3;clear hE3;by_cases g2 : V.size = 0
       ·have HE4 : Hid (opsErr (l.drop (k + 1)) = E) := by
         have e0 : opErr o = 0 := by rw [HE3.out, if_neg (fun e => e.2 (HVE.out.1 g2))]
         have := HE.out;rw [e0] at this;exact Lib.hid (by simpa using this)
        have g3 : V = ByteArray.empty := by
         apply ByteArray.ext
         apply Array.eq_empty_of_size_eq_zero
         exact g2
        subst g3;clear g2 g1;go_wp2_with fail
        go_roundw
        case rel => exact ⟨k + 1, by omega, by go_num, HU6.out, HE4.out⟩
        case measure => simp [intOf] <;> omega
       ·have g4 : (!V.toList.isEmpty) = true := by
         rw [ByteArray.toList_eq];have : V.data.toList ≠ [] := fun e => g2 (by have h := congrArg List.length e; simpa using h)
         simpa using this
        have HV0 := Lib.hid (fun e => g2 (HVE.out.2 e));clear g2;have HE4 : Hid (opsErr (l.drop (k + 1)) = E) := by
         have e0 : opErr o = 0 := by rw [HE3.out, if_neg (fun e => by have := e.1; rw [HKD.out] at this; exact absurd this (by decide))]
         have := HE.out;rw [e0] at this;exact Lib.hid (by simpa using this)
        go_wp2_with fail
        go_roundw
        case rel => exact ⟨k + 1, by omega, by go_num, HU6.out, HE4.out⟩
        case measure => simp [intOf] <;> omega
    ·have hE0 : opErr o = if okPath o.path = false then 20 else if 32 < o.value.length then 3 else if o.kind = 2 ∧ o.value ≠ [] then 1 else 0 := by
      unfold opErr;rw [if_neg HN.out]
     have HKD := Lib.hid hkd;have hVe : V.size = 0 ↔ o.value = [] := by rw [HV.out.1, List.length_eq_zero_iff]
     rw [← HV.out.1] at hE0;obtain ⟨B, hB⟩ : ∃ B, okPath o.path = B := ⟨_, rfl⟩;have h25 := H25.out;rw [hB] at hE0 h25;have H25' := Lib.hid h25;have HE0 := Lib.hid hE0;have HVE := Lib.hid hVe;clear hB h25 hE0 HK12 hkd hVe;cases B
     ·obtain rfl : (20 : Int) = E := by
       have e3 : opErr o = 20 := by rw [HE0.out]; rfl
       have := HE.out;rw [e3] at this;simpa using this
      go_wp2_with fail
      refine (H25'.out _).mono ?_;rintro e w6 ⟨rfl, hU6⟩;have HU6 := Lib.hid (HU5.out.1.then hU6 (fun _ e => e.elim));clear hU6 c0 c1 c2;go_wp2_with fail
      go_ret
      exact ⟨rfl, HU6.out⟩
     ·go_wp2_with fail
      refine (H25'.out _).mono ?_;rintro e w6 ⟨rfl, hU6⟩;have HU6 := Lib.hid (HU5.out.1.then hU6 (fun _ e => e.elim));obtain ⟨c0, c1, c2⟩ := (HU5.out.2.upd hU6 (fun e => e)).cells3;clear hU6;by_cases g1 : (32 : Int) < (V.size : Int)
      ·obtain rfl : (3 : Int) = E := by
        have e3 : opErr o = 3 := by rw [HE0.out, if_neg (by simp), if_pos (by omega)]
        have := HE.out;rw [e3] at this;simpa using this
       go_wp2_with fail
       go_ret
       exact ⟨rfl, HU6.out⟩
      ·have hE3 : opErr o = if o.kind = 2 ∧ o.value ≠ [] then 1 else 0 := by rw [HE0.out, if_neg (by simp), if_neg (by omega)]
       have HE3 := Lib.hid hE3;clear hE3;by_cases g2 : V.size = 0
       ·have HE4 : Hid (opsErr (l.drop (k + 1)) = E) := by
         have e0 : opErr o = 0 := by rw [HE3.out, if_neg (fun e => e.2 (HVE.out.1 g2))]
         have := HE.out;rw [e0] at this;exact Lib.hid (by simpa using this)
        have g3 : V = ByteArray.empty := by
         apply ByteArray.ext
         apply Array.eq_empty_of_size_eq_zero
         exact g2
        subst g3;clear g2 g1;go_wp2_with fail
        go_roundw
        case rel => exact ⟨k + 1, by omega, by go_num, HU6.out, HE4.out⟩
        case measure => simp [intOf] <;> omega
       ·have g4 : (!V.toList.isEmpty) = true := by
         rw [ByteArray.toList_eq];have : V.data.toList ≠ [] := fun e => g2 (by have h := congrArg List.length e; simpa using h)
         simpa using this
        have HV0 := Lib.hid (fun e => g2 (HVE.out.2 e));clear g2;obtain rfl : (1 : Int) = E := by
         have e3 : opErr o = 1 := by rw [HE3.out, if_pos ⟨HKD.out, HV0.out⟩]
         have := HE.out;rw [e3] at this;simpa using this
        go_wp2_with fail
        go_ret
        exact ⟨rfl, HU6.out⟩
  ·obtain rfl : E = 0 := by rw [← hE, List.drop_of_length_le (by omega)]; rfl
   obtain rfl : k = l.length := by omega
   have HU := Lib.hid hU;clear hU hE;go_wp2_with fail
   go_ret
   exact ⟨rfl, HU.out⟩
def batRow (i e : Int) (ov : Value) : Array Value := #[.int .i64 i, .int .i64 e, ov]
theorem bright_c {A : Option Addr} {cap b off : Nat} {l : List OpM} {w : World} {i ep : Int} (hA : 0 < l.length → A = some ⟨b, off, none⟩) (hb : ∀ w', Upd (fun _ => False) w w' → OpsAt w' b off l) (hs : OpsSmall l) (hl : l.length ≤ 1000000) :
 Calls Tryz.prog 81 #[.agg (batRow i ep (.slice A l.length cap))] w fun e w' => e = .returned (.int .i64 (batErr i ep l)) ∧ Upd (fun _ => False) w w' := by
 have hea := fun W (hW : Upd (fun _ => False) w W) => each_c (cap := cap) (w := W) hA (fun w' h => hb w' (hW.then h (fun _ e => e.elim))) hs hl
 obtain ⟨E, hE⟩ : ∃ E, batErr i ep l = E := ⟨_, rfl⟩;obtain ⟨E2, hE2⟩ : ∃ E, opsErr l = E := ⟨_, rfl⟩;rw [hE];unfold batErr at hE;rw [hE2] at hE hea;have HEA := Lib.hid hea;have HE := Lib.hid hE;clear hea hE hE2 hb hs hA;unfold batRow;go_enter Tryz.func81, Tryz.ntmps81
 go_upto_region 1 with fail
 generalize hw5 : World.alloc _ _ = w5;obtain ⟨q, hq⟩ : ∃ q, w.heap.size = q := ⟨_, rfl⟩;rw [hq];have hB5 : Blk w5 q 35 #[.int .i64 i, .int .i64 ep, .slice A l.length cap] := by rw [← hw5, ← hq]; exact Blk.new w _ _
 have hU5 : Upd (fun _ => False) w w5 := by rw [← hw5]; exact (Upd.refl _ w).alloc _
 obtain ⟨c0, c1, c2⟩ := hB5.cells3;have HU5 := Lib.hid hU5;clear hU5 hB5 hw5 hq;by_cases h1 : i < 1
 ·obtain rfl : (1 : Int) = E := by rw [← HE.out, if_pos (.inl h1)]
  go_wp2_with fail
  go_ret
  exact ⟨rfl, HU5.out⟩
 ·by_cases h2 : (4611686018427387904 : Int) < i
  ·obtain rfl : (1 : Int) = E := by rw [← HE.out, if_pos (.inr (.inl h2))]
   go_wp2_with fail
   go_ret
   exact ⟨rfl, HU5.out⟩
  ·by_cases h3 : ep < 1
   ·obtain rfl : (1 : Int) = E := by rw [← HE.out, if_pos (.inr (.inr h3))]
    go_wp2_with fail
    go_ret
    exact ⟨rfl, HU5.out⟩
   ·by_cases h4 : (4 : Int) < (l.length : Int)
    ·obtain rfl : (3 : Int) = E := by rw [← HE.out, if_neg (by omega), if_pos (by omega)]
     go_wp2_with fail
     go_ret
     exact ⟨rfl, HU5.out⟩
    ·obtain rfl : E2 = E := by rw [← HE.out, if_neg (by omega), if_neg (by omega)]
     go_wp2_with fail
     refine (HEA.out _ HU5.out).mono ?_;rintro e w6 ⟨rfl, hU6⟩;have HU6 := Lib.hid (HU5.out.then hU6 (fun _ e => e.elim));clear hU6 c0 c1 c2;go_wp2_with fail
     go_ret
     exact ⟨rfl, HU6.out⟩
end
section
open Go Go.RowKit
structure OutQ (F : Nat → Prop) (w0 w : World) (o : Nat) (l : List UInt8) : Prop where
 ex : ∃ v, Blk w o 171 #[v] ∧ Own w 5 1 v l.length (bytesV l) ∧ ∀ q, v.ownBlock = some q → F q ∨ w0.heap.size ≤ q
 new : F o ∨ w0.heap.size ≤ o
 upd : Upd F w0 w
theorem OutQ.still {F : Nat → Prop} {w0 w w' : World} {o : Nat} {l : List UInt8} (h : OutQ F w0 w o l) (hu : Upd (fun _ => False) w w') : OutQ F w0 w' o l := by
 obtain ⟨v, h1, h2, h3⟩ := h.ex;exact ⟨⟨v, h1.upd hu (fun e => e), h2.upd hu (fun _ _ e => e), h3⟩, h.new, h.upd.then hu (fun _ e => e.elim)⟩
theorem OutQ.start (w : World) : OutQ (fun _ => False) w (w.alloc (.cells #[.slice none 0 0] 171)) w.heap.size [] :=
 ⟨⟨_, Blk.new w _ _, Own.nil _ _ _, fun q hq => by simp [Value.ownBlock] at hq⟩, .inr (Nat.le_refl _), (Upd.refl _ w).alloc _⟩
theorem OutQ.here {F : Nat → Prop} {w0 w : World} {o : Nat} {l : List UInt8} (h : OutQ F w0 w o l) : ∃ G : Nat → Prop, OutQ G w w o l ∧ (∀ q, G q → F q ∨ w0.heap.size ≤ q) ∧ ∀ g t cs, Blk w g t cs → t ≠ 171 → t ≠ 5 → ¬ G g := by
 obtain ⟨v, h1, h2, h3⟩ := h.ex;refine ⟨fun q => q = o ∨ v.ownBlock = some q, ⟨⟨v, h1, h2, fun q hq => .inl (.inr hq)⟩, .inl (.inl rfl), Upd.refl _ _⟩, fun q hq => ?_, fun g t cs hB n1 n2 e => ?_⟩
 ·rcases hq with rfl | hq
  ·exact h.new
  ·exact h3 q hq
 ·rcases e with rfl | e
  ·exact absurd rfl (hB.ne_ h1 n1)
  ·exact h2.ne_blk hB (fun e2 => n2 e2.symm) e
theorem OutQ.back {F G : Nat → Prop} {w0 w w' : World} {o : Nat} {l l' : List UInt8} (h : OutQ F w0 w o l) (hG : ∀ q, G q → F q ∨ w0.heap.size ≤ q) (h' : OutQ G w w' o l') : OutQ F w0 w' o l' := by
 obtain ⟨v, h1, h2, h3⟩ := h'.ex;have hs := h.upd.size;have key : ∀ q, G q ∨ w.heap.size ≤ q → F q ∨ w0.heap.size ≤ q := fun q hq => hq.elim (hG q) (fun e => .inr (by omega))
 exact ⟨⟨v, h1, h2, fun q hq => key q (h3 q hq)⟩, h.new, h.upd.then h'.upd hG⟩
theorem oput_q {F : Nat → Prop} {w0 w : World} {o : Nat} {l : List UInt8} (h : OutQ F w0 w o l) {src : Value} {n : Nat} {news : List UInt8} (hs : Src Tryz.prog w 89 1 src n (bytesV news)) (hn : news.length = n) (hm : l.length + n ≤ 1000000) :
 Calls Tryz.prog 156 #[.pointer (some ⟨o, 0, none⟩), src] w fun e w' => e = .returned (.tuple #[]) ∧ OutQ F w0 w' o (l ++ news) := by
 obtain ⟨i0, hi0, hz0, hz1, hz2⟩ := info_parts infoU8;obtain ⟨v, hB, hO, hv⟩ := h.ex;have hc := hB.cells1;have hf := hB.frozen 0;have hne := hO.ne_blk hB (by decide);go_enter Tryz.func156, Tryz.ntmps156
 go_wp2_with (at_builtin
              refine wpList_append_src rfl _ _ _ _ rfl 5 i0 _ 1 1 Tryz.underlying89 hi0 hz0 hz1 hz2 rfl v l.length _ rfl hO _ n _ rfl hs (bytesV_one _) (by unfold maxLen; omega) (by omega) ?_;intro v2 w2 hO2 hU2 hl2 hs2;have hB2 := hB.upd hU2 (fun e => hne e);have hc2 := hB2.cells1;have hf2 := hB2.frozen 0;obtain ⟨A2, cap2, rfl, hA1, hA2⟩ := hO2.shape)
 go_end0
 have hn2 : (Value.slice A2 (l.length + n) cap2).ownBlock ≠ some o := by
  rcases hl2 with e | e
  ·rw [e]; exact hne
  ·rw [e]; intro e2; have := hB.lt; have := Option.some.inj e2; omega
 refine ⟨rfl, ⟨_, hB2.set_ 0 _, ?_, fun q hq => ?_⟩, h.new, ?_⟩
 ·have := hO2.far (p := ⟨o, 0, none⟩) hn2 (Value.slice A2 (l.length + n) cap2)
  rw [List.length_append, hn, bytesV_app];exact this
 ·rcases hl2 with e | e
  ·rw [e] at hq; exact hv q hq
  ·rw [e] at hq; have := h.upd.size; have := Option.some.inj hq; exact .inr (by omega)
 ·exact (h.upd.then hU2 (fun q hq => hv q hq)).setCell (p := ⟨o, 0, none⟩) h.new _
theorem oput_one_q {F : Nat → Prop} {w0 w : World} {o : Nat} {l : List UInt8} (h : OutQ F w0 w o l) (b : UInt8) {z : Int} (hz : z = (b.toNat : Int)) (hm : l.length + 1 ≤ 1000000) :
 Calls Tryz.prog 156 #[.pointer (some ⟨o, 0, none⟩), .slice (some ⟨w.heap.size, 0, none⟩) 1 1] (w.alloc (.cells #[.int .u8 z] 5)) fun e w' => e = .returned (.tuple #[]) ∧ OutQ F w0 w' o (l ++ [b]) := by
 subst hz;exact oput_q (h.still ((Upd.refl _ w).alloc _)) (news := [b]) (Src.of_new Tryz.underlying89 _) rfl hm
theorem onum_q {F : Nat → Prop} {w0 w : World} {o : Nat} {l : List UInt8} (h : OutQ F w0 w o l) (n : Nat) (hn : n < 18446744073709551616) (hm : l.length ≤ 900000) :
 Calls Tryz.prog 98 #[.pointer (some ⟨o, 0, none⟩), .int .u64 (n : Int)] w fun e w' => e = .returned (.tuple #[]) ∧ OutQ F w0 w' o (l ++ putN n) := by
 have h10 := size_u64 hn;go_enter Tryz.func98, Tryz.ntmps98
 go_wp2_with fail
 refine (size_c n _ hn).mono ?_;rintro e w' ⟨rfl, rfl⟩;have H := Lib.hid h;clear h;go_wp2_with fail
 go_loopw [1, 4] (fun x i wr => ∃ (k : Nat) (r : List UInt8), x = .int .u64 (k : Int) ∧ i = .int .i64 (sizeN k : Int) ∧ OutQ F w0 wr o (l ++ r) ∧ r ++ putN k = putN n ∧ k < 18446744073709551616 ∧ r.length ≤ 10) (fun _ i _ => (intOf i).toNat)
 case atStart => exact ⟨n, [], rfl, rfl, by simpa using H.out, by simp, hn, by simp⟩
 case round =>
  obtain ⟨k, r, rfl, rfl, ho, hr, hk, hl⟩ := hrel;clear H;have HO := Lib.hid ho;clear ho;by_cases hlt : k < 128
  ·have hs1 := sizeN_lt hlt
   rw [hs1];go_wp2_with fail
   refine (oput_one_q HO.out (UInt8.ofNat k) (by rw [byte_low (by omega)]) (by simp; omega)).mono ?_;rintro e w2 ⟨rfl, h2⟩;go_wp2_with fail
   go_end0
   rw [← hr, putN_lt hlt, ← List.append_assoc];exact ⟨rfl, h2⟩
  ·have hs1 := sizeN_ge (n := k) (by omega)
   have hp := sizeN_pos (k / 128);have hp10 := size_u64 (n := k / 128) (by omega);go_wp2_with fail
   refine (oput_one_q HO.out (UInt8.ofNat (k % 128 + 128)) (by rw [byte_low (by omega)]; exact or_128 k) (by simp; omega)).mono ?_;rintro e w2 ⟨rfl, h2⟩;have H2 := Lib.hid h2;clear h2;go_wp2_with fail
   go_roundw
   case rel =>
    refine ⟨k / 128, r ++ [UInt8.ofNat (k % 128 + 128)], by go_num, by go_num, ?_, ?_, by omega, ?_⟩
    ·rw [← List.append_assoc]; exact H2.out
    ·rw [← hr, putN_ge (n := k) (by omega), List.append_assoc]; rfl
    ·have h1 := congrArg List.length hr
     rw [List.length_append, putN_len, putN_len] at h1;rw [List.length_append]; simp; omega
   case measure => simp [intOf]; omega
theorem ostring_q {F : Nat → Prop} {w0 w : World} {o : Nat} {l : List UInt8} (h : OutQ F w0 w o l) :
 Calls Tryz.prog 101 #[.pointer (some ⟨o, 0, none⟩)] w fun e w' => e = .returned (.string (str l)) ∧ w = w' := by
 obtain ⟨v, hB, hO, hv⟩ := h.ex;have hc := hB.cells1;have hcv := run_to_string hO;obtain ⟨A, cap, rfl, h1, h2⟩ := hO.shape;go_enter Tryz.func101, Tryz.ntmps101
 go_wp2_with fail
 go_ret
 exact ⟨rfl, rfl⟩
theorem otext_q {F : Nat → Prop} {w0 w : World} {o : Nat} {l : List UInt8} (h : OutQ F w0 w o l) (s : ByteArray) (hs : s.size ≤ 60000) (hm : l.length ≤ 800000) :
 Calls Tryz.prog 100 #[.pointer (some ⟨o, 0, none⟩), .string s] w fun e w' => e = .returned (.tuple #[]) ∧ OutQ F w0 w' o (l ++ textN s.data.toList) := by
 have h2 := size_u64 (n := s.size) (by omega);have HN := Lib.hid (onum_q h s.size (by omega) (by omega));have HE := Lib.hid (show l ++ putN s.size ++ s.data.toList = l ++ textN s.data.toList by unfold textN; rw [List.append_assoc]; rfl)
 have HL := Lib.hid (show (l ++ putN s.size).length = l.length + sizeN s.size by rw [List.length_append, putN_len]);clear h;go_enter Tryz.func100, Tryz.ntmps100
 go_wp2_with fail
 refine HN.out.mono ?_;rintro e w1 ⟨rfl, h1⟩;have H1 := Lib.hid h1;clear h1;obtain ⟨v2, w2, hcv, hown, hU, hob, hsz⟩ := run_to_bytes w1 s (by unfold maxLen; omega);have H2 := Lib.hid (And.intro hown hU);clear hown hU hob hsz;go_wp2_with fail
 refine (oput_q (H1.out.still H2.out.2) (Src.of_own Tryz.underlying89 H2.out.1) rfl (by have := HL.out; omega)).mono ?_;rintro e w3 ⟨rfl, h3⟩;have H3 := Lib.hid h3;clear h3;go_wp2_with fail
 go_end0
 rw [← HE.out];exact ⟨rfl, H3.out⟩
theorem obyte_q {F : Nat → Prop} {w0 w : World} {o : Nat} {l : List UInt8} (h : OutQ F w0 w o l) (b : UInt8) (hm : l.length ≤ 800000) :
 Calls Tryz.prog 99 #[.pointer (some ⟨o, 0, none⟩), .int .u8 (b.toNat : Int)] w fun e w' => e = .returned (.tuple #[]) ∧ OutQ F w0 w' o (l ++ [b]) := by
 have H := Lib.hid (oput_one_q h b rfl (by omega));clear h;go_enter Tryz.func99, Tryz.ntmps99
 go_wp2_with fail
 refine H.out.mono ?_;rintro e w3 ⟨rfl, h3⟩;have H3 := Lib.hid h3;clear h3;go_wp2_with fail
 go_end0
 exact ⟨rfl, H3.out⟩
structure InQ (F : Nat → Prop) (w0 w : World) (x : Nat) (i : InS) : Prop where
 blk : Blk w x 318 #[.string (str i.rest), .int .i64 (i.read : Int), .int .i64 i.fail]
 new : F x ∨ w0.heap.size ≤ x
 upd : Upd F w0 w
theorem InQ.start (w : World) (s : ByteArray) : InQ (fun _ => False) w (w.alloc (.cells #[.string s, .int .i64 0, .int .i64 0] 318)) w.heap.size ⟨s.data.toList, 0, 0⟩ :=
 ⟨Blk.new w _ _, .inr (Nat.le_refl _), (Upd.refl _ w).alloc _⟩
theorem InQ.still {F : Nat → Prop} {w0 w w' : World} {x : Nat} {i : InS} (h : InQ F w0 w x i) (hu : Upd (fun _ => False) w w') : InQ F w0 w' x i := ⟨h.blk.upd hu (fun e => e), h.new, h.upd.then hu (fun _ e => e.elim)⟩
theorem InQ.here {F : Nat → Prop} {w0 w : World} {x : Nat} {i : InS} (h : InQ F w0 w x i) : InQ (· = x) w w x i := ⟨h.blk, .inl rfl, Upd.refl _ _⟩
theorem InQ.back {F : Nat → Prop} {w0 w w' : World} {x : Nat} {i i' : InS} (h : InQ F w0 w x i) (h' : InQ (· = x) w w' x i') : InQ F w0 w' x i' := ⟨h'.blk, h.new, h.upd.then h'.upd (fun q e => by have e2 : q = x := e; rw [e2]; exact h.new)⟩
section
variable {F : Nat → Prop} {w0 w : World} {x : Nat} {i : InS}
theorem reads_q (h : InQ F w0 w x i) : Calls Tryz.prog 217 #[.pointer (some ⟨x, 0, none⟩)] w fun e w' => e = .returned (.bool (decide (i.fail = 0))) ∧ w = w' := by
 have hc := h.blk.cells3;clear h;obtain ⟨r, k, f⟩ := i;simp only at hc
 go_enter Tryz.func217, Tryz.ntmps217
 go_wp2_with fail
 go_ret
 exact ⟨rfl, rfl⟩
theorem takes_no_q (h : InQ F w0 w x i) (b e : Int) (he : e ≠ 0) : Calls Tryz.prog 219 #[.pointer (some ⟨x, 0, none⟩), .int .i64 b, .int .i64 e] w fun en w' => en = .returned (.bool false) ∧ InQ F w0 w' x ⟨i.rest, i.read, e⟩ := by
 have hc := h.blk.cells3;have hf := h.blk.frozen 2;have HB := Lib.hid h;clear h;go_enter Tryz.func219, Tryz.ntmps219
 go_wp2_with fail
 go_ret
 refine ⟨rfl, ?_, HB.out.new, HB.out.upd.setCell (p := ⟨x, 2, none⟩) HB.out.new _⟩;have := HB.out.blk.set_ 2 (.int .i64 e);simpa using this
theorem takes_ok_q (h : InQ F w0 w x i) (b : Nat) (hb : b ≤ i.rest.length) (hr : i.read + b ≤ 1000000000000) : Calls Tryz.prog 219 #[.pointer (some ⟨x, 0, none⟩), .int .i64 (b : Int), .int .i64 0] w fun en w' => en = .returned (.bool true) ∧ InQ F w0 w' x ⟨i.rest.drop b, i.read + b, 0⟩ := by
 have hc := h.blk.cells3;have hf0 := h.blk.frozen 0;have hf1 := h.blk.frozen 1;have hf2 := h.blk.frozen 2;have hsz : (str i.rest).size = i.rest.length := str_size _;have HB := Lib.hid h;have e1 : str (i.rest.drop b) = (str i.rest).extract b i.rest.length := by
  rw [extract_str_from, str_list, List.take_of_length_le (by simp)]
 obtain ⟨s, hs⟩ : ∃ s, str i.rest = s := ⟨_, rfl⟩;rw [hs] at hc hsz e1;have hb' : b ≤ s.size := by omega
 clear h;go_enter Tryz.func219, Tryz.ntmps219
 go_wp2_with fail
 go_ret
 refine ⟨rfl, ?_, HB.out.new, ((HB.out.upd.setCell (p := ⟨x, 2, none⟩) HB.out.new _).setCell (p := ⟨x, 0, none⟩) HB.out.new _).setCell (p := ⟨x, 1, none⟩) HB.out.new _⟩;have := ((HB.out.blk.set_ 2 (.int .i64 0)).set_ 0 (.string (s.extract b i.rest.length))).set_ 1 (.int .i64 ((i.read : Int) + (b : Int)));rw [← e1] at this;simpa [e1] using this
theorem most_q (h : InQ F w0 w x i) (m : Nat) (hm : m ≤ 9223372036854775807) (hr : i.read ≤ 100000000000) :
 Calls Tryz.prog 176 #[.pointer (some ⟨x, 0, none⟩), .int .i64 (m : Int)] w fun en w' => en = .returned (.int .i64 ((i.most m).1 : Int)) ∧ InQ F w0 w' x (i.most m).2 := by
 have hc := h.blk.cells3;have hR := reads_q h;have hB := bounded_c (str i.rest) m hm w;rw [str_list] at hB;have hT := takes_ok_q h;have hTn := takes_no_q h;have hbd := bound_bad i.rest m;have hfit := num_fits i.rest;have HB := Lib.hid h;unfold InS.most;clear h;by_cases hf : i.fail = 0
 ·rw [decide_eq_true hf] at hR
  rw [if_pos hf];obtain ⟨⟨a, b, c⟩, hq⟩ : ∃ q, boundL i.rest m = q := ⟨_, rfl⟩;rw [hq] at hB hbd ⊢;simp only at hB hbd ⊢
  by_cases h0 : c = 0
  ·subst h0
   have hb1 := (bound_ok hq).2;rw [hb1] at hfit;simp only at hfit
   have HT := Lib.hid (hT b hfit.2.2.1 (by omega));have HR := Lib.hid hR;have HBd := Lib.hid hB;clear hT hTn hR hB hbd hq hb1 hfit;rw [if_pos rfl];go_enter Tryz.func176, Tryz.ntmps176
   go_wp2_with fail
   refine HR.out.mono ?_;rintro e w' ⟨rfl, rfl⟩;go_wp2_with fail
   refine HBd.out.mono ?_;rintro e w' ⟨rfl, rfl⟩;go_wp2_with fail
   refine HT.out.mono ?_;rintro e w' ⟨rfl, hX⟩;have HX := Lib.hid hX;clear hX;go_wp2_with fail
   go_ret
   exact ⟨rfl, HX.out⟩
  ·have HT := Lib.hid (hTn (b : Int) c h0)
   have HR := Lib.hid hR;have HBd := Lib.hid hB;clear hT hTn hR hB hq hfit hbd;rw [if_neg h0];go_enter Tryz.func176, Tryz.ntmps176
   go_wp2_with fail
   refine HR.out.mono ?_;rintro e w' ⟨rfl, rfl⟩;go_wp2_with fail
   refine HBd.out.mono ?_;rintro e w' ⟨rfl, rfl⟩;go_wp2_with fail
   refine HT.out.mono ?_;rintro e w' ⟨rfl, hX⟩;have HX := Lib.hid hX;clear hX;go_wp2_with fail
   go_ret
   exact ⟨rfl, HX.out⟩
 ·rw [decide_eq_false hf] at hR
  rw [if_neg hf];have HR := Lib.hid hR;clear hT hTn hR hB hbd hfit;go_enter Tryz.func176, Tryz.ntmps176
  go_wp2_with fail
  refine HR.out.mono ?_;rintro e w' ⟨rfl, rfl⟩;go_wp2_with fail
  go_ret
  exact ⟨rfl, HB.out⟩
theorem fault_q (h : InQ F w0 w x i) : Calls Tryz.prog 185 #[.pointer (some ⟨x, 0, none⟩)] w fun e w' => ∃ n : Int, e = .returned (.tuple #[.int .i64 i.fail, .int .i64 n]) ∧ Upd (fun _ => False) w w' := by
 have hc := h.blk.cells3;have HR := Lib.hid (reads_q h);clear h;by_cases hf : i.fail = 0
 ·rw [decide_eq_true hf] at HR
  rw [hf];go_enter Tryz.func185, Tryz.ntmps185
  go_wp2_with fail
  refine HR.out.mono ?_;rintro e w' ⟨rfl, rfl⟩;go_wp2_with fail
  go_ret2
  exact ⟨_, rfl, Upd.refl _ _⟩
 ·rw [decide_eq_false hf] at HR
  go_enter Tryz.func185, Tryz.ntmps185
  go_wp2_with fail
  refine HR.out.mono ?_;rintro e w' ⟨rfl, rfl⟩;go_wp2_with fail
  go_region
  all_goals go_wp2
  all_goals go_ret2
  all_goals exact ⟨_, rfl, (Upd.refl _ _).drewN _⟩
theorem left_q (h : InQ F w0 w x i) : Calls Tryz.prog 221 #[.pointer (some ⟨x, 0, none⟩)] w fun e w' => e = .returned (.int .i64 (i.rest.length : Int)) ∧ w = w' := by
 have hc := h.blk.cells3;have hsz : (str i.rest).size = i.rest.length := str_size _;obtain ⟨s, hs⟩ : ∃ s, str i.rest = s := ⟨_, rfl⟩;rw [hs] at hc hsz;clear h hs;go_enter Tryz.func221, Tryz.ntmps221
 go_wp2_with fail
 go_ret
 exact ⟨rfl, rfl⟩
theorem end_q (h : InQ F w0 w x i) : Calls Tryz.prog 179 #[.pointer (some ⟨x, 0, none⟩)] w fun e w' => e = .returned (.int .i64 (if i.fail ≠ 0 then i.fail else if i.rest ≠ [] then 8 else 0)) ∧ Upd (fun _ => False) w w' := by
 have HF := Lib.hid (fault_q h);have HL : Hid (∀ W, Upd (fun _ => False) w W → Calls Tryz.prog 221 #[.pointer (some ⟨x, 0, none⟩)] W fun e w' => e = .returned (.int .i64 (i.rest.length : Int)) ∧ W = w') :=
  Lib.hid fun W hU => left_q (F := F) (w0 := w0) ⟨h.blk.upd hU (fun e => e), h.new, h.upd.then hU (fun _ e => e.elim)⟩
 clear h;by_cases hf : i.fail = 0
 ·rw [hf] at HF
  by_cases hr : i.rest = []
  ·have hl : (i.rest.length : Int) = 0 := by rw [hr]; rfl
   rw [if_neg (by simp [hf]), if_neg (by simp [hr])];rw [hl] at HL;go_enter Tryz.func179, Tryz.ntmps179
   go_wp2_with fail
   refine HF.out.mono ?_;rintro e w1 ⟨n, rfl, hU⟩;have HU := Lib.hid hU;clear hU;go_wp2_with fail
   refine (HL.out _ HU.out).mono ?_;rintro e w2 ⟨rfl, rfl⟩;go_wp2_with fail
   go_ret
   exact ⟨rfl, HU.out⟩
  ·have hl : 0 < i.rest.length := List.length_pos_iff.2 hr
   rw [if_neg (by simp [hf]), if_pos hr];go_enter Tryz.func179, Tryz.ntmps179
   go_wp2_with fail
   refine HF.out.mono ?_;rintro e w1 ⟨n, rfl, hU⟩;have HU := Lib.hid hU;clear hU;go_wp2_with fail
   refine (HL.out _ HU.out).mono ?_;rintro e w2 ⟨rfl, rfl⟩;go_wp2_with fail
   go_ret
   exact ⟨rfl, HU.out⟩
 ·rw [if_pos hf]
  go_enter Tryz.func179, Tryz.ntmps179
  go_wp2_with fail
  refine HF.out.mono ?_;rintro e w1 ⟨n, rfl, hU⟩;have HU := Lib.hid hU;clear hU;go_wp2_with fail
  go_ret
  exact ⟨rfl, HU.out⟩
theorem inum_q (h : InQ F w0 w x i) (hr : i.read ≤ 100000000000) :
 Calls Tryz.prog 175 #[.pointer (some ⟨x, 0, none⟩)] w fun en w' => en = .returned (.int .u64 (i.num.1 : Int)) ∧ InQ F w0 w' x i.num.2 := by
 have hc := h.blk.cells3;have hR := reads_q h;have hB := number_c (str i.rest) w;rw [str_list] at hB;have hT := takes_ok_q h;have hTn := takes_no_q h;have hfit := num_fits i.rest;have HB := Lib.hid h;unfold InS.num;clear h;by_cases hf : i.fail = 0
 ·rw [decide_eq_true hf] at hR
  rw [if_pos hf];obtain ⟨⟨a, b, c⟩, hq⟩ : ∃ q, numL i.rest = q := ⟨_, rfl⟩;rw [hq] at hB hfit ⊢;simp only at hB hfit ⊢
  by_cases h0 : c = 0
  ·subst h0
   have HT := Lib.hid (hT b hfit.2.2.1 (by omega));have HR := Lib.hid hR;have HBd := Lib.hid hB;clear hT hTn hR hB hq hfit;rw [if_pos rfl];go_enter Tryz.func175, Tryz.ntmps175
   go_wp2_with fail
   refine HR.out.mono ?_;rintro e w' ⟨rfl, rfl⟩;go_wp2_with fail
   refine HBd.out.mono ?_;rintro e w' ⟨rfl, rfl⟩;go_wp2_with fail
   refine HT.out.mono ?_;rintro e w' ⟨rfl, hX⟩;have HX := Lib.hid hX;clear hX;go_wp2_with fail
   go_ret
   exact ⟨rfl, HX.out⟩
  ·have HT := Lib.hid (hTn (b : Int) c h0)
   have HR := Lib.hid hR;have HBd := Lib.hid hB;clear hT hTn hR hB hq hfit;rw [if_neg h0];go_enter Tryz.func175, Tryz.ntmps175
   go_wp2_with fail
   refine HR.out.mono ?_;rintro e w' ⟨rfl, rfl⟩;go_wp2_with fail
   refine HBd.out.mono ?_;rintro e w' ⟨rfl, rfl⟩;go_wp2_with fail
   refine HT.out.mono ?_;rintro e w' ⟨rfl, hX⟩;have HX := Lib.hid hX;clear hX;go_wp2_with fail
   go_ret
   exact ⟨rfl, HX.out⟩
 ·rw [decide_eq_false hf] at hR
  rw [if_neg hf];have HR := Lib.hid hR;clear hT hTn hR hB hfit;go_enter Tryz.func175, Tryz.ntmps175
  go_wp2_with fail
  refine HR.out.mono ?_;rintro e w' ⟨rfl, rfl⟩;go_wp2_with fail
  go_ret
  exact ⟨rfl, HB.out⟩
theorem itext_q (h : InQ F w0 w x i) (m : Nat) (hm : m ≤ 9223372036854775807) (hr : i.read ≤ 100000000000) (hlen : i.rest.length ≤ 100000) :
 Calls Tryz.prog 177 #[.pointer (some ⟨x, 0, none⟩), .int .i64 (m : Int)] w fun en w' => en = .returned (.string (str (i.text m).1)) ∧ InQ F w0 w' x (i.text m).2 := by
 have hc := h.blk.cells3;have hR := reads_q h;have hB := bounded_c (str i.rest) m hm w;rw [str_list] at hB;have hT := takes_ok_q h;have hTn := takes_no_q h;have hbd := bound_bad i.rest m;have hfit := num_fits i.rest;have hsz : (str i.rest).size = i.rest.length := str_size _;have HB := Lib.hid h;unfold InS.text;clear h;by_cases hf : i.fail = 0
 ·rw [decide_eq_true hf] at hR
  rw [if_pos hf];obtain ⟨⟨a, b, c⟩, hq⟩ : ∃ q, boundL i.rest m = q := ⟨_, rfl⟩;unfold textE;rw [hq] at hB hbd ⊢;simp only at hB hbd ⊢
  by_cases h0 : c = 0
  ·subst h0
   obtain ⟨hb0, hb1⟩ := bound_ok hq;rw [hb1] at hfit;simp only at hfit
   simp only [ne_eq, not_true_eq_false, if_false];by_cases hn : i.rest.length - b < a
   ·have HT := Lib.hid (hTn ((b : Int) + (a : Int)) 7 (by decide))
    have HTW : Hid (∀ z : Int, Calls Tryz.prog 219 #[.pointer (some ⟨x, 0, none⟩), .int .i64 z, .int .i64 7] w fun en w' => en = .returned (.bool false) ∧ InQ F w0 w' x ⟨i.rest, i.read, 7⟩) := Lib.hid fun z => hTn z 7 (by decide)
    have HR := Lib.hid hR;have HBd := Lib.hid hB;have hd : decide ((i.rest.length : Int) - (b : Int) < (a : Int)) = true := decide_eq_true (by omega);have hle : b ≤ i.rest.length := hfit.2.2.1;simp only [if_pos hn];rw [if_neg (by decide)];obtain ⟨s, hs⟩ : ∃ s, str i.rest = s := ⟨_, rfl⟩;rw [hs] at hc hsz HBd;obtain ⟨L, hL⟩ : ∃ L, i.rest.length = L := ⟨_, rfl⟩;rw [hL] at hsz hd hle hlen;clear hT hTn hR hB hq hfit hbd hb0 hb1 hs hn hL;go_enter Tryz.func177, Tryz.ntmps177
    go_wp2_with fail
    refine HR.out.mono ?_;rintro e w' ⟨rfl, rfl⟩;go_wp2_with fail
    refine HBd.out.mono ?_;rintro e w' ⟨rfl, rfl⟩;go_wp2_with fail
    refine (HTW.out _).mono ?_;rintro e w' ⟨rfl, hX⟩;have HX := Lib.hid hX;clear hX;go_wp2_with fail
    go_ret
    exact ⟨rfl, HX.out⟩
   ·have HT := Lib.hid (hT (b + a) (by omega) (by omega))
    have HR := Lib.hid hR;have HBd := Lib.hid hB;have hd : decide ((i.rest.length : Int) - (b : Int) < (a : Int)) = false := decide_eq_false (by omega);have hle : b + a ≤ i.rest.length := by omega
    simp only [if_neg hn];have e1 : str ((i.rest.drop b).take a) = (str i.rest).extract b (b + a) := by
     rw [extract_str_from, str_list];congr 2
     omega
    rw [if_pos trivial, e1];obtain ⟨s, hs⟩ : ∃ s, str i.rest = s := ⟨_, rfl⟩;rw [hs] at hc hsz HBd;rw [hs];obtain ⟨L, hL⟩ : ∃ L, i.rest.length = L := ⟨_, rfl⟩;rw [hL] at hsz hd hle hlen;rw [show (((b + a : Nat)) : Int) = (b : Int) + (a : Int) by omega] at HT;clear hT hTn hR hB hq hfit hbd hb0 hb1 hs hn hL e1;go_enter Tryz.func177, Tryz.ntmps177
    go_wp2_with fail
    refine HR.out.mono ?_;rintro e w' ⟨rfl, rfl⟩;go_wp2_with fail
    refine HBd.out.mono ?_;rintro e w' ⟨rfl, rfl⟩;go_wp2_with fail
    refine HT.out.mono ?_;rintro e w' ⟨rfl, hX⟩;have HX := Lib.hid hX;clear hX;go_wp2_with fail
    go_ret
    exact ⟨rfl, HX.out⟩
  ·have HT := Lib.hid (fun z => hTn z c h0)
   have HR := Lib.hid hR;have HBd := Lib.hid hB;rcases hbd with hbd | hbd | hbd
   ·exact absurd hbd h0
   all_goals
    injection hbd with e1 e2;injection e2 with e2 e3;subst e1 e2 e3;clear hT hTn hR hB hq hfit hsz h0;simp only [ne_eq, show ¬ (7 : Int) = 0 by decide, show ¬ (8 : Int) = 0 by decide, not_false_eq_true, if_true, if_false];go_enter Tryz.func177, Tryz.ntmps177
    go_wp2_with fail
    refine HR.out.mono ?_;rintro e w' ⟨rfl, rfl⟩;go_wp2_with fail
    refine HBd.out.mono ?_;rintro e w' ⟨rfl, rfl⟩;go_wp2_with fail
    refine (HT.out _).mono ?_;rintro e w' ⟨rfl, hX⟩;have HX := Lib.hid hX;clear hX;go_wp2_with fail
    go_ret
    exact ⟨rfl, HX.out⟩
 ·rw [decide_eq_false hf] at hR
  rw [if_neg hf];have HR := Lib.hid hR;clear hT hTn hR hB hbd hfit;go_enter Tryz.func177, Tryz.ntmps177
  go_wp2_with fail
  refine HR.out.mono ?_;rintro e w' ⟨rfl, rfl⟩;go_wp2_with fail
  go_ret
  exact ⟨rfl, HB.out⟩
theorem ibyte_q (h : InQ F w0 w x i) (hr : i.read ≤ 100000000000) :
 Calls Tryz.prog 178 #[.pointer (some ⟨x, 0, none⟩)] w fun en w' => en = .returned (.int .u8 (i.byte.1.toNat : Int)) ∧ InQ F w0 w' x i.byte.2 := by
 have hc := h.blk.cells3;have hfz := h.blk.frozen 2;have hR := reads_q h;have hT := takes_ok_q h;have HB := Lib.hid h;have hsz : (str i.rest).size = i.rest.length := str_size _;unfold InS.byte;clear h;by_cases hf : i.fail = 0
 ·rw [decide_eq_true hf] at hR
  rw [if_pos hf];have HR := Lib.hid hR;by_cases h0 : i.rest = []
  ·rw [if_pos h0]
   have e0 : str i.rest = ByteArray.empty := by rw [h0]; rfl
   have h00 := Lib.hid h0;rw [e0] at hc;clear hT hR hsz h0 e0 hr;go_enter Tryz.func178, Tryz.ntmps178
   go_wp2_with fail
   refine HR.out.mono ?_;rintro e w' ⟨rfl, rfl⟩;go_wp2_with fail
   go_ret
   refine ⟨rfl, ?_, HB.out.new, HB.out.upd.setCell (p := ⟨x, 2, none⟩) HB.out.new _⟩;have := HB.out.blk.set_ 2 (.int .i64 7);simpa using this
  ·rw [if_neg h0]
   have hl : 0 < i.rest.length := List.length_pos_iff.2 h0;have HT := Lib.hid (hT 1 (by omega) (by omega));have hne : (i.rest == ([] : List UInt8)) = false := by simpa using h0
   have h0s : 0 < (str i.rest).size := by omega
   have hne2 : (str i.rest).toList.isEmpty = false := by rw [ByteArray.toList_eq, str_list]; simpa using h0
   obtain ⟨s, hs⟩ : ∃ s, str i.rest = s := ⟨_, rfl⟩;rw [hs] at hc hsz h0s hne2;have HG := Lib.hid (show i.rest.getD 0 0 = s[0] from by
    have hg := sget s 0 h0s;subst hs;exact hg)
   rw [show ((1 : Nat) : Int) = 1 from rfl] at HT;clear hT hR hsz hs hne h0 hl hr;go_enter Tryz.func178, Tryz.ntmps178
   go_wp2_with fail
   refine HR.out.mono ?_;rintro e w' ⟨rfl, rfl⟩;go_wp2_with fail
   refine HT.out.mono ?_;rintro e w' ⟨rfl, hX⟩;have HX := Lib.hid hX;clear hX;go_wp2_with fail
   go_ret
   refine ⟨?_, HX.out⟩;rw [HG.out]; rfl
 ·rw [decide_eq_false hf] at hR
  rw [if_neg hf];have HR := Lib.hid hR;clear hT hR;go_enter Tryz.func178, Tryz.ntmps178
  go_wp2_with fail
  refine HR.out.mono ?_;rintro e w' ⟨rfl, rfl⟩;go_wp2_with fail
  go_ret
  exact ⟨rfl, HB.out⟩
end
end
end Go.Proofs.YtbhjgfibhegddaaGreat
