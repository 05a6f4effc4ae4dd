/-
  Parts of the proof of VaultMetas: BatB, ShaM, Big, Sha.
-/
import Derived.Test.YtbhjgfibhegddaaGreatQVaultMetas03
import Derived.BigQuiet
import Derived.Deep.RegionHeld3
import Derived.IntWalk
import Derived.KernelRfl
import Derived.Laws.Bits64b
import Derived.Laws.Closers25b
import Derived.Laws.Tables
import Derived.StillTailTactics
set_option maxRecDepth 100000
set_option maxHeartbeats 16000000
namespace Go.Proofs.YtbhjgfibhegddaaGreat
section
open Go Go.RowKit
theorem opsB_take {l : List OpM} {k : Nat} (hk : k < l.length) : opsB (l.take (k + 1)) = opsB (l.take k) ++ opB l[k] := by
 rw [List.take_succ_eq_append_getElem hk];unfold opsB;rw [List.flatMap_append];simp
theorem opsB_take_len {l : List OpM} (h : ∀ o ∈ l, opErr o = 0) (k : Nat) (hl : l.length ≤ 4) : (opsB (l.take k)).length ≤ 280 := by
 have := opsB_len (l := l.take k) (fun o ho => h o (List.mem_of_mem_take ho));rw [List.length_take] at this;have : 70 * min k l.length ≤ 280 := by omega
 omega
theorem bbytes_bad {A : Option Addr} {cap b off : Nat} {l : List OpM} {w : World} {i ep : Int} (hA : 0 < l.length → A = some ⟨b, off, none⟩) (hb : ∀ w', Upd (fun _ => False) w w' → OpsAt w' b off l) (hs : OpsSmall l) (hl : l.length ≤ 1000000) (hE0 : batErr i ep l ≠ 0) :
 Calls Tryz.prog 54 #[.agg (batRow i ep (.slice A l.length cap))] w fun e w' => e = .returned (.tuple #[.string ByteArray.empty, .int .i64 (batErr i ep l)]) ∧ Upd (fun _ => False) w w' := by
 have hea := fun W (hW : Upd (fun _ => False) w W) => bright_c (cap := cap) (i := i) (ep := ep) (w := W) hA (fun w' h => hb w' (hW.then h (fun _ e => e.elim))) hs hl
 obtain ⟨E, hE⟩ : ∃ E, batErr i ep l = E := ⟨_, rfl⟩;rw [hE] at hE0 hea ⊢;have HEA := Lib.hid hea;have k1 : (E != 0) = true := by simpa using hE0
 clear hea hE hb hs hA hE0;go_enter Tryz.func54, Tryz.ntmps54
 go_upto_region 1 with fail
 generalize hw5 : World.alloc _ _ = w5;obtain ⟨q, hq⟩ : ∃ q, w.heap.size = q := ⟨_, rfl⟩;rw [hq];have hB5 : Blk w5 q 35 (batRow i ep (.slice A l.length cap)) := by rw [← hw5, ← hq]; exact Blk.new w _ _
 have hU5 : Upd (fun _ => False) w w5 := by rw [← hw5]; exact (Upd.refl _ w).alloc _
 have HU5 := Lib.hid (And.intro hU5 hB5);clear hU5 hB5 hw5 hq;go_wp2_with (first
  | (refine wpList_load_all rfl _ _ rfl q rfl _ _ _ HU5.out.2 Tryz.underlying35 rfl (by kernel_rfl) ?_)
  | (go_at_call 81
     refine (HEA.out _ HU5.out.1).mono ?_;rintro e w6 ⟨rfl, hU6⟩;have HU6 := Lib.hid (HU5.out.1.then hU6 (fun _ e => e.elim));clear hU6))
 go_ret2
 exact ⟨rfl, HU6.out⟩
theorem bbytes_ok {A : Option Addr} {cap b off : Nat} {l : List OpM} {w : World} {i ep : Nat} (hA : 0 < l.length → A = some ⟨b, off, none⟩) (hb : ∀ w', Upd (fun _ => False) w w' → OpsAt w' b off l) (hs : OpsSmall l) (hep : ep ≤ 9223372036854775807) (hE0 : batErr i ep l = 0) :
 Calls Tryz.prog 54 #[.agg (batRow i ep (.slice A l.length cap))] w fun e w' => e = .returned (.tuple #[.string (str (batB i ep l)), .int .i64 0]) ∧ Upd (fun _ => False) w w' := by
 obtain ⟨b1, b2, b3, b4, b5⟩ := batErr_zero hE0;have hea := fun W (hW : Upd (fun _ => False) w W) => bright_c (cap := cap) (i := i) (ep := ep) (w := W) hA (fun w' h => hb w' (hW.then h (fun _ e => e.elim))) hs (by omega)
 rw [hE0] at hea;have s1 := size_u64 (n := i) (by omega);have s2 := size_u64 (n := ep) (by omega);have s3 := size_u64 (n := l.length) (by omega);obtain ⟨N, hN⟩ : ∃ N, putN i ++ (putN ep ++ putN l.length) = N := ⟨_, rfl⟩;have hNl : N.length ≤ 30 := by rw [← hN]; simp only [List.length_append, putN_len]; omega
 have hfin : batB i ep l = N ++ opsB l := by rw [← hN]; unfold batB; simp only [List.append_assoc]
 rw [hfin];have HEA := Lib.hid hea;have HN := Lib.hid (And.intro hN hNl);have HO := Lib.hid (And.intro b5 b4);have HB := Lib.hid hb;have i1 : (i : Int) ≤ 4611686018427387904 := by omega
 have e1 : (ep : Int) ≤ 9223372036854775807 := by omega
 have l1 : (l.length : Int) ≤ 4 := by omega
 clear hea hE0 hb hs hN hNl hfin s1 s2 s3 b1 b2 b3 b4 b5;go_enter Tryz.func54, Tryz.ntmps54
 go_upto_region 1 with fail
 generalize hw5 : World.alloc _ _ = w5;obtain ⟨q, hq⟩ : ∃ q, w.heap.size = q := ⟨_, rfl⟩;rw [hq];have hB5 : Blk w5 q 35 (batRow i ep (.slice A l.length cap)) := by rw [← hw5, ← hq]; exact Blk.new w _ _
 have hU5 : Upd (fun _ => False) w w5 := by rw [← hw5]; exact (Upd.refl _ w).alloc _
 have HU5 := Lib.hid (And.intro hU5 hB5);clear hU5 hB5 hw5 hq;go_upto_region 4 with (first
  | (refine wpList_load_all rfl _ _ rfl q rfl _ _ _ HU5.out.2 Tryz.underlying35 rfl (by kernel_rfl) ?_)
  | (go_at_call 81
     refine (HEA.out _ HU5.out.1).mono ?_;rintro e w6 ⟨rfl, hU6⟩;have HU6 := Lib.hid (And.intro (HU5.out.1.then hU6 (fun _ e => e.elim)) (HU5.out.2.upd hU6 (fun e => e)));clear hU6))
 obtain ⟨o, ho⟩ : ∃ o, w6.heap.size = o := ⟨_, rfl⟩;go_upto_region 5 with (fail)
 generalize hw7 : World.alloc _ _ = w7;have hO7 : OutQ (fun _ => False) w6 w7 o [] := by rw [← hw7, ← ho]; exact OutQ.start w6
 obtain ⟨c0, c1, c2⟩ := (HU6.out.2.upd hO7.upd (fun e => e)).cells3;have HO7 := Lib.hid hO7;clear hO7 hw7 ho;have step : ∀ (n : Nat) (acc : List UInt8) (W : World), n < 18446744073709551616 → acc.length ≤ 300 → OutQ (fun _ => False) w6 W o acc → Calls Tryz.prog 98 #[.pointer (some ⟨o, 0, none⟩), .int .u64 (n : Int)] W fun e w' => e = .returned (.tuple #[]) ∧ OutQ (fun _ => False) w6 w' o (acc ++ putN n) := fun n acc W h1 h2 h3 => onum_q h3 n h1 (by omega)
 have HST := Lib.hid step;clear step;go_wp2_with fail
 refine (HST.out i _ _ (by omega) (by simp) HO7.out).mono ?_;rintro e w8 ⟨rfl, h8⟩;obtain ⟨c0, c1, c2⟩ := (HU6.out.2.upd h8.upd (fun e => e)).cells3;have H8 := Lib.hid h8;clear h8;go_wp2_with fail
 refine (HST.out ep _ _ (by omega) (by rw [List.nil_append, putN_len]; have := size_u64 (n := i) (by omega); omega) H8.out).mono ?_;rintro e w9 ⟨rfl, h9⟩;obtain ⟨c0, c1, c2⟩ := (HU6.out.2.upd h9.upd (fun e => e)).cells3;have H9 := Lib.hid h9;clear h9 H8;go_wp2_with fail
 refine (HST.out l.length _ _ (by omega) (by rw [List.nil_append, List.length_append, putN_len, putN_len]; have := size_u64 (n := i) (by omega); have := size_u64 (n := ep) (by omega); omega) H9.out).mono ?_;rintro e w10 ⟨rfl, h10⟩;rw [List.nil_append, List.append_assoc, HN.out.1] at h10;obtain ⟨c0, c1, c2⟩ := (HU6.out.2.upd h10.upd (fun e => e)).cells3;have H10 := Lib.hid h10;clear h10 H9 HST;go_wp2_with fail
 go_loopw [7, 34] (fun _ u wr => ∃ k : Nat, k ≤ l.length ∧ u = .int .i64 (k : Int) ∧ OutQ (fun _ => False) w6 wr o (N ++ opsB (l.take k))) (fun _ u _ => l.length - (intOf u).toNat)
 case atStart => exact ⟨0, by omega, rfl, by rw [List.take_zero]; simpa [opsB] using H10.out⟩
 case round =>
  obtain ⟨k, hk, rfl, hO⟩ := hrel;have hNk : (N ++ opsB (l.take k)).length ≤ 310 := by
   rw [List.length_append];have := opsB_take_len HO.out.1 k HO.out.2;have := HN.out.2;omega
  obtain ⟨M, hM⟩ : ∃ M, N ++ opsB (l.take k) = M := ⟨_, rfl⟩;rw [hM] at hO hNk;by_cases hlt : k < l.length
  ·obtain rfl := hA (by omega)
   have hrow := HB.out wr (HU6.out.1.then hO.upd (fun _ e => e.elim)) k hlt;have hoe := HO.out.1 _ (List.getElem_mem hlt);have hnx : N ++ opsB (l.take (k + 1)) = M ++ opB l[k] := by rw [opsB_take hlt, ← List.append_assoc, hM]
   obtain ⟨x, hx⟩ : ∃ o, l[k] = o := ⟨_, rfl⟩;rw [hx] at hrow hoe hnx;obtain ⟨x1, -, x3, x4, -⟩ := opErr_zero hoe;obtain ⟨P, hP⟩ : ∃ P, str x.path = P := ⟨_, rfl⟩;obtain ⟨V, hV⟩ : ∃ P, str x.value = P := ⟨_, rfl⟩;have hPl : P.data.toList = x.path := by rw [← hP, str_list]
   have hVl : V.data.toList = x.value := by rw [← hV, str_list]
   have hPs : P.size ≤ 33 := by rw [← hP, str_size]; exact x3
   have hVs : V.size ≤ 32 := by rw [← hV, str_size]; exact x4
   obtain ⟨Kb, hKb⟩ : ∃ K, x.kind = K := ⟨_, rfl⟩;have hrw : opRow x = [.int .u8 (Kb.toNat : Int), .string P, .string V] := by unfold opRow; rw [hP, hV, hKb]
   rw [hrw] at hrow;have hop : opB x = Kb :: (textN P.data.toList ++ if Kb = 1 then textN V.data.toList else []) := by unfold opB; rw [hPl, hVl, hKb]
   rw [hop] at hnx;rw [hKb] at x1;have tP : (textN P.data.toList).length ≤ 40 := by
    rw [textN_len];have := sizeN_small (n := P.data.toList.length) (by simp; omega);have : P.data.toList.length = P.size := by simp
    omega
   have HNX := Lib.hid (And.intro hnx (And.intro hNk (And.intro hPs (And.intro hVs tP))));have HR := Lib.hid hrow;have HO2 := Lib.hid hO;have HX1 := Lib.hid x1;clear hrow hoe hnx hx x1 x3 x4 hP hV hPl hVl hPs hVs hrw hop hO hM hNk hKb tP;have j1 : (k : Int) < (l.length : Int) := by omega
   obtain ⟨g, hg⟩ : ∃ q, wr.heap.size = q := ⟨_, rfl⟩;have HQ := Lib.hid hg;rcases HX1.out with rfl | rfl
   ·go_upto_region 11 with (first
     | (refine wpList_load_mid rfl _ _ rfl b (off + k * 3) rfl [.int .u8 1, .string P, .string V] _ HR.out Tryz.underlying32 rfl (by kernel_rfl) ?_))
    generalize hw11 : World.alloc _ _ = w11;have hB11 : Blk w11 g 32 #[.int .u8 1, .string P, .string V] := by rw [← hw11, ← HQ.out]; exact Blk.new wr _ _
    have h11 : OutQ (fun _ => False) w6 w11 o M := by rw [← hw11]; exact HO2.out.still ((Upd.refl _ wr).alloc _)
    obtain ⟨c0, c1, c2⟩ := hB11.cells3;have hgs : w6.heap.size ≤ g := by rw [← HQ.out]; exact HO2.out.upd.size
    have H11 := Lib.hid (And.intro h11 (And.intro hB11 hgs));clear h11 hB11 hw11 hg hgs;obtain ⟨G, g1, g2, g3⟩ := H11.out.1.here;have HG := Lib.hid (And.intro g1 (And.intro g2 (g3 g _ _ H11.out.2.1 (by decide) (by decide))));clear g1 g2 g3;go_wp2_with fail
    refine (obyte_q HG.out.1 1 (by have := HNX.out.2.1; omega)).mono ?_;rintro e w12 ⟨rfl, h12⟩;obtain ⟨c0, c1, c2⟩ := (H11.out.2.1.upd h12.upd HG.out.2.2).cells3;have H12 := Lib.hid h12;clear h12;go_wp2_with fail
    refine (otext_q H12.out P (by have := HNX.out.2.2.1; omega) (by have := HNX.out.2.1; rw [List.length_append]; simp; omega)).mono ?_;rintro e w13 ⟨rfl, h13⟩;obtain ⟨c0, c1, c2⟩ := (H11.out.2.1.upd h13.upd HG.out.2.2).cells3;have H13 := Lib.hid h13;clear h13;go_wp2_with fail
    refine (otext_q H13.out V (by have := HNX.out.2.2.2.1; omega) (by have := HNX.out.2.1; have := HNX.out.2.2.2.2; simp only [List.length_append, List.length_cons, List.length_nil]; omega)).mono ?_;rintro e w14 ⟨rfl, h14⟩;have H14 := Lib.hid (H11.out.1.back HG.out.2.1 h14);clear h14 c0 c1 c2;go_wp2_with fail
    go_roundw
    case rel =>
     refine ⟨k + 1, by omega, by go_num, ?_⟩;rw [HNX.out.1, if_pos trivial];simpa [List.append_assoc] using H14.out
    case measure => simp [intOf] <;> omega
   ·go_upto_region 11 with (first
     | (refine wpList_load_mid rfl _ _ rfl b (off + k * 3) rfl [.int .u8 2, .string P, .string V] _ HR.out Tryz.underlying32 rfl (by kernel_rfl) ?_))
    generalize hw11 : World.alloc _ _ = w11;have hB11 : Blk w11 g 32 #[.int .u8 2, .string P, .string V] := by rw [← hw11, ← HQ.out]; exact Blk.new wr _ _
    have h11 : OutQ (fun _ => False) w6 w11 o M := by rw [← hw11]; exact HO2.out.still ((Upd.refl _ wr).alloc _)
    obtain ⟨c0, c1, c2⟩ := hB11.cells3;have hgs : w6.heap.size ≤ g := by rw [← HQ.out]; exact HO2.out.upd.size
    have H11 := Lib.hid (And.intro h11 (And.intro hB11 hgs));clear h11 hB11 hw11 hg hgs;obtain ⟨G, g1, g2, g3⟩ := H11.out.1.here;have HG := Lib.hid (And.intro g1 (And.intro g2 (g3 g _ _ H11.out.2.1 (by decide) (by decide))));clear g1 g2 g3;go_wp2_with fail
    refine (obyte_q HG.out.1 2 (by have := HNX.out.2.1; omega)).mono ?_;rintro e w12 ⟨rfl, h12⟩;obtain ⟨c0, c1, c2⟩ := (H11.out.2.1.upd h12.upd HG.out.2.2).cells3;have H12 := Lib.hid h12;clear h12;go_wp2_with fail
    refine (otext_q H12.out P (by have := HNX.out.2.2.1; omega) (by have := HNX.out.2.1; rw [List.length_append]; simp; omega)).mono ?_;rintro e w13 ⟨rfl, h13⟩;obtain ⟨c0, c1, c2⟩ := (H11.out.2.1.upd h13.upd HG.out.2.2).cells3;have H13 := Lib.hid h13;clear h13;go_wp2_with fail
    have H14 := Lib.hid (H11.out.1.back HG.out.2.1 H13.out);clear c0 c1 c2;go_roundw
    case rel =>
     refine ⟨k + 1, by omega, by go_num, ?_⟩;rw [HNX.out.1, if_neg (by decide), List.append_nil];simpa [List.append_assoc] using H14.out
    case measure => simp [intOf] <;> omega
  ·obtain rfl : k = l.length := by omega
   rw [List.take_length] at hM;subst hM;have hst := ostring_q hO;have HST := Lib.hid hst;have HU := Lib.hid (HU6.out.1.then hO.upd (fun _ e => e.elim));clear hst hO hlt hk hNk;go_wp2_with fail
   refine HST.out.mono ?_;rintro e wz ⟨rfl, rfl⟩;go_wp2_with fail
   go_ret2
   exact ⟨rfl, HU.out⟩
end
section
open Go Go.RowKit
def beB (x : Nat) : Nat → List UInt8
 | 0 => []
 | n + 1 => UInt8.ofNat (x / 2 ^ (8 * n)) :: beB x n
theorem beB_len (x n : Nat) : (beB x n).length = n := by
 induction n with
 | zero => rfl
 | succ n ih => simp [beB, ih]
def beN (l : List UInt8) : Nat := l.foldl (fun a b => a * 256 + b.toNat) 0
theorem beN_snoc (l : List UInt8) (b : UInt8) : beN (l ++ [b]) = beN l * 256 + b.toNat := by simp [beN]
theorem beN_lt (l : List UInt8) : beN l < 2 ^ (8 * l.length) := by
 have key : ∀ (l : List UInt8) (a : Nat), l.foldl (fun a b => a * 256 + b.toNat) a < (a + 1) * 2 ^ (8 * l.length) := by
  intro l;induction l with
  | nil => intro a; simp
  | cons b r ih =>
    intro a;have h := ih (a * 256 + b.toNat);have hb := b.toNat_lt;rw [List.foldl_cons, List.length_cons];have e : 2 ^ (8 * (r.length + 1)) = 256 * 2 ^ (8 * r.length) := by rw [Nat.mul_add, Nat.pow_add]; omega
    rw [e, ← Nat.mul_assoc];exact Nat.lt_of_lt_of_le h (Nat.mul_le_mul_right _ (by omega))
 have := key l 0;simpa [beN] using this
def U32 (z : Int) : Prop := 0 ≤ z ∧ z < 4294967296
def arrU (l : List Int) : Array Value := (l.map (Value.int .u32)).toArray
def AllU (l : List Int) : Prop := ∀ z ∈ l, U32 z
theorem modU (a : Int) : U32 (a % 4294967296) := ⟨Int.emod_nonneg _ (by decide), Int.emod_lt_of_pos _ (by decide)⟩
theorem arrU_size (l : List Int) : (arrU l).size = l.length := by simp [arrU]
theorem arrU_get (l : List Int) (i : Nat) (h : i < l.length) : (arrU l)[i]? = some (.int .u32 (l.getD i 0)) := by simp [arrU, h]
theorem arrU_set (l : List Int) (i : Nat) (z : Int) : (arrU l).setIfInBounds i (.int .u32 z) = arrU (l.set i z) := by simp [arrU, List.map_set]
theorem AllU.get {l : List Int} (h : AllU l) (i : Nat) : U32 (l.getD i 0) := by
 by_cases hi : i < l.length
 ·rw [List.getD_eq_getElem?_getD, List.getElem?_eq_getElem hi]
  exact h _ (List.getElem_mem hi)
 ·rw [List.getD_eq_getElem?_getD, List.getElem?_eq_none (by omega)]
  exact ⟨by simp, by simp⟩
theorem AllU.set {l : List Int} (h : AllU l) (i : Nat) {z : Int} (hz : U32 z) : AllU (l.set i z) := by
 intro u hu;rcases List.mem_or_eq_of_mem_set hu with h1 | h1
 ·exact h u h1
 ·rw [h1]; exact hz
def rotl (x : Int) (r : Nat) : Int := bits .or .u32 (x * 2 ^ r % 4294967296) (x / 2 ^ (32 - r))
def amt (k : Int) : Nat := (IntKind.u64.wrap k).toNat % 32
def sg0 (x : Int) : Int := bits .xor .u32 (bits .xor .u32 (rotl x 25) (rotl x 14)) (x / 8)
def sg1 (y : Int) : Int := bits .xor .u32 (bits .xor .u32 (rotl y 15) (rotl y 13)) (y / 1024)
def wordAt (s : List UInt8) (i : Nat) : Int := (beN ((s.drop (4 * i)).take 4) : Int)
def nextW (l : List Int) (i : Nat) : Int := (((l.getD (i - 16) 0 + sg0 (l.getD (i - 15) 0)) % 4294967296 + l.getD (i - 7) 0) % 4294967296 + sg1 (l.getD (i - 2) 0)) % 4294967296
def wIn (s : List UInt8) (k : Nat) : List Int := (List.range k).foldl (fun l i => l.set i (wordAt s i)) (List.replicate 64 0)
def wOn (l : List Int) (k : Nat) : List Int := (List.range k).foldl (fun l j => l.set (16 + j) (nextW l (16 + j))) l
theorem wIn_succ (s : List UInt8) (k : Nat) : wIn s (k + 1) = (wIn s k).set k (wordAt s k) := by simp [wIn, List.range_succ]
theorem wOn_succ (l : List Int) (k : Nat) : wOn l (k + 1) = (wOn l k).set (16 + k) (nextW (wOn l k) (16 + k)) := by simp [wOn, List.range_succ]
theorem wIn_len (s : List UInt8) (k : Nat) : (wIn s k).length = 64 := by
 induction k with
 | zero => simp [wIn]
 | succ k ih => rw [wIn_succ, List.length_set, ih]
theorem wOn_len (l : List Int) (k : Nat) : (wOn l k).length = l.length := by
 induction k with
 | zero => simp [wOn]
 | succ k ih => rw [wOn_succ, List.length_set, ih]
theorem wordU (s : List UInt8) (i : Nat) : U32 (wordAt s i) := by
 have h := beN_lt ((s.drop (4 * i)).take 4);have h2 : beN ((s.drop (4 * i)).take 4) < 4294967296 := Nat.lt_of_lt_of_le h (Nat.le_trans (Nat.pow_le_pow_right (by omega) (show 8 * ((s.drop (4 * i)).take 4).length ≤ 32 by simp; omega)) (by decide));exact ⟨by unfold wordAt; omega, by unfold wordAt; omega⟩
theorem wIn_all (s : List UInt8) (k : Nat) : AllU (wIn s k) := by
 induction k with
 | zero => intro z hz; have := (List.mem_replicate.1 (show z ∈ List.replicate 64 0 from hz)).2; rw [this]; exact ⟨by decide, by decide⟩
 | succ k ih => rw [wIn_succ]; exact ih.set _ (wordU s k)
theorem wOn_all {l : List Int} (h : AllU l) (k : Nat) : AllU (wOn l k) := by
 induction k with
 | zero => exact h
 | succ k ih => rw [wOn_succ]; exact ih.set _ (modU _)
def roundT (e b5 b6 b7 k w : Int) : Int :=
 ((b7 + bits .xor .u32 (bits .xor .u32 (rotl e (amt (-6))) (rotl e (amt (-11)))) (rotl e (amt (-25))) + bits .xor .u32 (bits .and .u32 e b5) (bits .and .u32 (bits .xor .u32 4294967295 e) b6) + k) % 4294967296 + w) % 4294967296
def roundU (a b1 b2 : Int) : Int :=
 (bits .xor .u32 (bits .xor .u32 (rotl a (amt (-2))) (rotl a (amt (-13)))) (rotl a (amt (-22))) + bits .xor .u32 (bits .xor .u32 (bits .and .u32 a b1) (bits .and .u32 a b2)) (bits .and .u32 b1 b2)) % 4294967296
def roundB : List Int → Int → Int → List Int
 | [b0, b1, b2, b3, b4, b5, b6, b7], k, w => [(roundT b4 b5 b6 b7 k w + roundU b0 b1 b2) % 4294967296, b0, b1, b2, (b3 + roundT b4 b5 b6 b7 k w) % 4294967296, b4, b5, b6]
 | l, _, _ => l
def rounds (K W b : List Int) (k : Nat) : List Int := (List.range k).foldl (fun b i => roundB b (K.getD i 0) (W.getD i 0)) b
theorem rounds_succ (K W b : List Int) (k : Nat) : rounds K W b (k + 1) = roundB (rounds K W b k) (K.getD k 0) (W.getD k 0) := by simp [rounds, List.range_succ]
theorem eight {l : List Int} (h : l.length = 8) : ∃ a b c d e f g i, l = [a, b, c, d, e, f, g, i] := by
 match l, h with
 | [a, b, c, d, e, f, g, i], _ => exact ⟨a, b, c, d, e, f, g, i, rfl⟩
theorem roundB_len {l : List Int} (h : l.length = 8) (k w : Int) : (roundB l k w).length = 8 := by
 obtain ⟨a, b, c, d, e, f, g, i, rfl⟩ := eight h;rfl
theorem roundB_all {l : List Int} (h : l.length = 8) (hl : AllU l) (k w : Int) : AllU (roundB l k w) := by
 obtain ⟨a, b, c, d, e, f, g, i, rfl⟩ := eight h;intro z hz;simp only [roundB, List.mem_cons, List.not_mem_nil, or_false] at hz;rcases hz with rfl | rfl | rfl | rfl | rfl | rfl | rfl | rfl
 ·exact modU _
 ·exact hl _ (by simp)
 ·exact hl _ (by simp)
 ·exact hl _ (by simp)
 ·exact modU _
 ·exact hl _ (by simp)
 ·exact hl _ (by simp)
 ·exact hl _ (by simp)
theorem rounds_ok {K W b : List Int} (h : b.length = 8) (hb : AllU b) (k : Nat) : (rounds K W b k).length = 8 ∧ AllU (rounds K W b k) := by
 induction k with
 | zero => exact ⟨h, hb⟩
 | succ k ih => rw [rounds_succ]; exact ⟨roundB_len ih.1 _ _, roundB_all ih.1 ih.2 _ _⟩
def addH (h b : List Int) (k : Nat) : List Int := (List.range k).foldl (fun l i => l.set i ((l.getD i 0 + b.getD i 0) % 4294967296)) h
theorem addH_succ (h b : List Int) (k : Nat) : addH h b (k + 1) = (addH h b k).set k (((addH h b k).getD k 0 + b.getD k 0) % 4294967296) := by simp [addH, List.range_succ]
theorem addH_len (h b : List Int) (k : Nat) : (addH h b k).length = h.length := by
 induction k with
 | zero => simp [addH]
 | succ k ih => rw [addH_succ, List.length_set, ih]
theorem addH_all {h b : List Int} (hh : AllU h) (k : Nat) : AllU (addH h b k) := by
 induction k with
 | zero => exact hh
 | succ k ih => rw [addH_succ]; exact ih.set _ (modU _)
def turnL (h b K : List Int) (s : List UInt8) : List Int := addH h (rounds K (wOn (wIn s 16) 48) b 64) 8
def hash0 : List Int := [0x6a09e667, 0xbb67ae85, 0x3c6ef372, 0xa54ff53a, 0x510e527f, 0x9b05688c, 0x1f83d9ab, 0x5be0cd19]
def hashK : List Int := [0x428a2f98, 0x71374491, 0xb5c0fbcf, 0xe9b5dba5, 0x3956c25b, 0x59f111f1, 0x923f82a4, 0xab1c5ed5,
 0xd807aa98, 0x12835b01, 0x243185be, 0x550c7dc3, 0x72be5d74, 0x80deb1fe, 0x9bdc06a7, 0xc19bf174,
 0xe49b69c1, 0xefbe4786, 0x0fc19dc6, 0x240ca1cc, 0x2de92c6f, 0x4a7484aa, 0x5cb0a9dc, 0x76f988da,
 0x983e5152, 0xa831c66d, 0xb00327c8, 0xbf597fc7, 0xc6e00bf3, 0xd5a79147, 0x06ca6351, 0x14292967,
 0x27b70a85, 0x2e1b2138, 0x4d2c6dfc, 0x53380d13, 0x650a7354, 0x766a0abb, 0x81c2c92e, 0x92722c85,
 0xa2bfe8a1, 0xa81a664b, 0xc24b8b70, 0xc76c51a3, 0xd192e819, 0xd6990624, 0xf40e3585, 0x106aa070,
 0x19a4c116, 0x1e376c08, 0x2748774c, 0x34b0bcb5, 0x391c0cb3, 0x4ed8aa4a, 0x5b9cca4f, 0x682e6ff3,
 0x748f82ee, 0x78a5636f, 0x84c87814, 0x8cc70208, 0x90befffa, 0xa4506ceb, 0xbef9a3f7, 0xc67178f2]
theorem turnL_len {h b K : List Int} {s : List UInt8} : (turnL h b K s).length = h.length := addH_len _ _ _
theorem turnL_all {h b K : List Int} {s : List UInt8} (hh : AllU h) : AllU (turnL h b K s) := addH_all hh _
def hashN : Nat → List Int → List UInt8 → List Int
 | 0, h, _ => h
 | n + 1, h, s => hashN n (turnL h h hashK (s.take 64)) (s.drop 64)
theorem hashN_ok {h : List Int} (h8 : h.length = 8) (hh : AllU h) (n : Nat) (s : List UInt8) : (hashN n h s).length = 8 ∧ AllU (hashN n h s) := by
 induction n generalizing h s with
 | zero => exact ⟨h8, hh⟩
 | succ n ih => exact ih (turnL_len.trans h8) (turnL_all hh) _
theorem hashN_snoc (n : Nat) (h : List Int) (s : List UInt8) : hashN (n + 1) h s = turnL (hashN n h s) (hashN n h s) hashK ((s.drop (64 * n)).take 64) := by
 induction n generalizing h s with
 | zero => simp [hashN]
 | succ n ih =>
   rw [hashN, ih];have e : (s.drop 64).drop (64 * n) = s.drop (64 * (n + 1)) := by rw [List.drop_drop]; congr 1; omega
   rw [e];rfl
def padB (rest : List UInt8) (n : Nat) : List UInt8 := rest ++ 128 :: (List.replicate ((119 - rest.length % 64) % 64) 0 ++ beB (8 * n) 8)
def outL (h : List Int) : List UInt8 := h.flatMap fun n => beB n.toNat 4
def shaL (s : List UInt8) : List UInt8 :=
 let rest := s.drop (64 * (s.length / 64))
 outL (hashN ((padB rest s.length).length / 64) (hashN (s.length / 64) hash0 s) (padB rest s.length))
theorem hash0_ok : hash0.length = 8 ∧ AllU hash0 := by
 refine ⟨by decide, ?_⟩;intro z hz;have : ∀ z ∈ hash0, 0 ≤ z ∧ z < 4294967296 := by decide
 exact this z hz
theorem hashK_ok : hashK.length = 64 ∧ AllU hashK := by
 refine ⟨by decide, ?_⟩;intro z hz;have : ∀ z ∈ hashK, 0 ≤ z ∧ z < 4294967296 := by decide
 exact this z hz
theorem outL_len {h : List Int} : (outL h).length = 4 * h.length := by
 induction h with
 | nil => rfl
 | cons a r ih =>
   unfold outL at ih ⊢;rw [List.flatMap_cons, List.length_append, ih, beB_len, List.length_cons];omega
theorem shaL_len (s : List UInt8) : (shaL s).length = 32 := by
 unfold shaL;rw [outL_len, (hashN_ok (hashN_ok hash0_ok.1 hash0_ok.2 _ _).1 (hashN_ok hash0_ok.1 hash0_ok.2 _ _).2 _ _).1]
theorem padB_len (rest : List UInt8) (n : Nat) (h : rest.length < 64) : 64 ∣ (padB rest n).length ∧ (padB rest n).length ≤ 128 := by
 unfold padB;simp only [List.length_append, List.length_cons, List.length_replicate, beB_len];omega
end
section
open Go Go.RowKit
theorem u64_wrap (z : Nat) (h : z < 18446744073709551616) : IntKind.u64.wrap (z : Int) = (z : Int) := by
 simp only [IntKind.wrap, IntKind.bits, IntKind.signed];simp
 omega
theorem be_step (N b : Nat) (h : 256 * N < 18446744073709551616) (hb : b < 256) : bits .or .u64 ((N : Int) * 256) (b : Int) = ((N * 256 + b : Nat) : Int) := by
 have e : ((N : Int) * 256) = ((N * 256 : Nat) : Int) := by omega
 rw [e, u64_or_nat (N * 256) b (by omega) (by omega), nat_join 8 _ _ (by omega) (by omega)]
theorem getBig_c (s : ByteArray) (n : Nat) (w : World) (hn : n ≤ 7) (hs : n ≤ s.size) :
 Calls Tryz.prog 303 #[.string s, .int .i64 (n : Int)] w fun e w' => e = .returned (.int .u64 (beN (s.data.toList.take n) : Int)) ∧ w = w' := by
 go_enter Tryz.func303, Tryz.ntmps303
 go_wp2_with fail
 go_loop [4, 7] (fun x i => ∃ k : Nat, k ≤ n ∧ i = .int .i64 k ∧ x = .int .u64 (beN (s.data.toList.take k) : Int)) (fun _ i => n - (intOf i).toNat)
 case atStart => exact ⟨0, by omega, rfl, rfl⟩
 case round =>
  obtain ⟨k, hk, rfl, rfl⟩ := hrel;by_cases hlt : k < n
  ·have hlt' : k < s.size := by omega
   have hl := beN_lt (s.data.toList.take k);have hl2 : beN (s.data.toList.take k) < 281474976710656 := Nat.lt_of_lt_of_le hl (Nat.le_trans (Nat.pow_le_pow_right (by omega) (show 8 * (s.data.toList.take k).length ≤ 48 by simp; omega)) (by decide));have hts := Lib.hid (take_snoc_ s k hlt');clear hl;obtain ⟨N, hN⟩ : ∃ N, beN (s.data.toList.take k) = N := ⟨_, rfl⟩;have HN := Lib.hid hN;rw [hN] at hl2 ⊢;clear hN;have hb := (s[k]).toNat_lt;have e1 := be_step N (s[k]).toNat (by omega) (by omega);go_wp2
   go_round
   case rel =>
    refine ⟨k + 1, by omega, by go_num, ?_⟩;rw [hts.out, beN_snoc, HN.out];first | rfl | (rw [← e1]; done) | (congr 1; rw [← e1]; done)
   case measure => simp [intOf]; omega
  ·obtain rfl : k = n := by omega
   go_wp2
   go_ret
   exact ⟨rfl, rfl⟩
theorem beB_step (x n : Nat) : bytesV [UInt8.ofNat (x / 2 ^ (8 * n))] = [.int .u8 ((x : Int) / 2 ^ (8 * n) % 256)] := by simp only [bytesV, List.map_cons, List.map_nil]; rw [byteV]; simp
theorem putBig_sha (v : Value) (m : Nat) (xs : List Value) (x n : Nat) (w : World) (hown : Own w 5 1 v m xs) (hn : n ≤ 8) (hm : m ≤ 1000000) :
 Calls Tryz.prog 293 #[v, .int .u64 (x : Int), .int .i64 (n : Int)] w fun e w' => ∃ v', e = .returned v' ∧ Own w' 5 1 v' (m + n) (xs ++ bytesV (beB x n)) ∧ Upd (fun k => v.ownBlock = some k) w w' ∧ (v'.ownBlock = v.ownBlock ∨ ∃ q, v'.ownBlock = some q ∧ w.heap.size ≤ q) := by
 obtain ⟨i0, hi0, hz0, hz1, hz2⟩ := info_parts infoU8;go_enter Tryz.func293, Tryz.ntmps293
 go_wp2_with fail
 go_loopw [0, 7] (fun u i wr => ∃ (j : Nat) (d : List UInt8), i = .int .i64 ((j : Int) - 1) ∧ d ++ beB x j = beB x n ∧ Own wr 5 1 u (m + d.length) (xs ++ bytesV d) ∧ Upd (fun k => v.ownBlock = some k) w wr ∧ (u.ownBlock = v.ownBlock ∨ ∃ q, u.ownBlock = some q ∧ w.heap.size ≤ q)) (fun _ i _ => (intOf i + 1).toNat)
 case atStart => exact ⟨n, [], by first | rfl | go_num, rfl, by simpa [bytesV] using hown, Upd.refl _ _, .inl rfl⟩
 case round =>
  obtain ⟨j, d, rfl, hd, ho, hU, hl⟩ := hrel;clear hown;have hdl := congrArg List.length hd;rw [List.length_append, beB_len, beB_len] at hdl;cases j with
  | succ j =>
    rw [show ((j + 1 : Nat) : Int) - 1 = (j : Int) by omega];have HX := Lib.hid (And.intro hd (And.intro hU hl));have hj : j < 8 := by omega
    have hdm : d.length ≤ 8 := by omega
    clear hd hU hl hdl;obtain ⟨D, hD⟩ : ∃ D, d.length = D := ⟨_, rfl⟩;rw [hD] at ho hdm;have HD := Lib.hid hD;clear hD;go_wp2_with (at_builtin; refine wpList_append_src rfl _ _ _ _ rfl 5 i0 _ 1 1 Tryz.underlying89 hi0 hz0 hz1 hz2 rfl u0 (m + D) _ rfl (ho.alloc _) _ 1 [_] rfl (Src.of_new Tryz.underlying89 _) (by simp [Value.oneCell']) (by unfold maxLen; omega) (by omega) ?_; intro v2 w2 ho2 hU2 hl2 hs2);obtain ⟨hd, hU, hl⟩ := HX.out;go_roundw
    case rel =>
     refine ⟨j, d ++ [UInt8.ofNat (x / 2 ^ (8 * j))], by first | rfl | go_num, ?_, ?_, (hU.alloc _).then hU2 (fun b hb => ?_), ?_⟩
     ·rw [List.append_assoc]; exact hd
     ·rw [bytesV_app, beB_step, ← List.append_assoc, List.length_append, HD.out]; exact ho2
     ·rcases hl with h | ⟨q, h, hq⟩
      ·exact .inl (by rw [← h]; exact hb)
      ·rw [h] at hb; exact .inr (by have := Option.some.inj hb; omega)
     ·have hsz := hU.size
      rcases hl2 with h | h
      ·rw [h]; exact hl
      ·exact .inr ⟨_, h, by simp; omega⟩
    case measure => simp [intOf] <;> omega
  | zero =>
    obtain rfl : d = beB x n := by simpa [beB] using hd
    rw [beB_len] at ho;have e1 : ((0 : Nat) : Int) - 1 = -1 := rfl;rw [e1];clear hd hdl;go_wp2
    go_ret
    exact ⟨u0, rfl, ho, hU, hl⟩
theorem putBig_aes (v : Value) (m : Nat) (xs : List Value) (x n : Nat) (w : World) (hown : Own w 5 1 v m xs) (hn : n ≤ 8) (hm : m ≤ 1000000) :
 Calls Tryz.prog 246 #[v, .int .u64 (x : Int), .int .i64 (n : Int)] w fun e w' => ∃ v', e = .returned v' ∧ Own w' 5 1 v' (m + n) (xs ++ bytesV (beB x n)) ∧ Upd (fun k => v.ownBlock = some k) w w' ∧ (v'.ownBlock = v.ownBlock ∨ ∃ q, v'.ownBlock = some q ∧ w.heap.size ≤ q) := by
 obtain ⟨i0, hi0, hz0, hz1, hz2⟩ := info_parts infoU8;go_enter Tryz.func246, Tryz.ntmps246
 go_wp2_with fail
 go_loopw [0, 7] (fun u i wr => ∃ (j : Nat) (d : List UInt8), i = .int .i64 ((j : Int) - 1) ∧ d ++ beB x j = beB x n ∧ Own wr 5 1 u (m + d.length) (xs ++ bytesV d) ∧ Upd (fun k => v.ownBlock = some k) w wr ∧ (u.ownBlock = v.ownBlock ∨ ∃ q, u.ownBlock = some q ∧ w.heap.size ≤ q)) (fun _ i _ => (intOf i + 1).toNat)
 case atStart => exact ⟨n, [], by first | rfl | go_num, rfl, by simpa [bytesV] using hown, Upd.refl _ _, .inl rfl⟩
 case round =>
  obtain ⟨j, d, rfl, hd, ho, hU, hl⟩ := hrel;clear hown;have hdl := congrArg List.length hd;rw [List.length_append, beB_len, beB_len] at hdl;cases j with
  | succ j =>
    rw [show ((j + 1 : Nat) : Int) - 1 = (j : Int) by omega];have HX := Lib.hid (And.intro hd (And.intro hU hl));have hj : j < 8 := by omega
    have hdm : d.length ≤ 8 := by omega
    clear hd hU hl hdl;obtain ⟨D, hD⟩ : ∃ D, d.length = D := ⟨_, rfl⟩;rw [hD] at ho hdm;have HD := Lib.hid hD;clear hD;go_wp2_with (at_builtin; refine wpList_append_src rfl _ _ _ _ rfl 5 i0 _ 1 1 Tryz.underlying89 hi0 hz0 hz1 hz2 rfl u0 (m + D) _ rfl (ho.alloc _) _ 1 [_] rfl (Src.of_new Tryz.underlying89 _) (by simp [Value.oneCell']) (by unfold maxLen; omega) (by omega) ?_; intro v2 w2 ho2 hU2 hl2 hs2);obtain ⟨hd, hU, hl⟩ := HX.out;go_roundw
    case rel =>
     refine ⟨j, d ++ [UInt8.ofNat (x / 2 ^ (8 * j))], by first | rfl | go_num, ?_, ?_, (hU.alloc _).then hU2 (fun b hb => ?_), ?_⟩
     ·rw [List.append_assoc]; exact hd
     ·rw [bytesV_app, beB_step, ← List.append_assoc, List.length_append, HD.out]; exact ho2
     ·rcases hl with h | ⟨q, h, hq⟩
      ·exact .inl (by rw [← h]; exact hb)
      ·rw [h] at hb; exact .inr (by have := Option.some.inj hb; omega)
     ·have hsz := hU.size
      rcases hl2 with h | h
      ·rw [h]; exact hl
      ·exact .inr ⟨_, h, by simp; omega⟩
    case measure => simp [intOf] <;> omega
  | zero =>
    obtain rfl : d = beB x n := by simpa [beB] using hd
    rw [beB_len] at ho;have e1 : ((0 : Nat) : Int) - 1 = -1 := rfl;rw [e1];clear hd hdl;go_wp2
    go_ret
    exact ⟨u0, rfl, ho, hU, hl⟩
theorem putBig_seal (v : Value) (m : Nat) (xs : List Value) (x n : Nat) (w : World) (hown : Own w 5 1 v m xs) (hn : n ≤ 8) (hm : m ≤ 1000000) :
 Calls Tryz.prog 209 #[v, .int .u64 (x : Int), .int .i64 (n : Int)] w fun e w' => ∃ v', e = .returned v' ∧ Own w' 5 1 v' (m + n) (xs ++ bytesV (beB x n)) ∧ Upd (fun k => v.ownBlock = some k) w w' ∧ (v'.ownBlock = v.ownBlock ∨ ∃ q, v'.ownBlock = some q ∧ w.heap.size ≤ q) := by
 obtain ⟨i0, hi0, hz0, hz1, hz2⟩ := info_parts infoU8;go_enter Tryz.func209, Tryz.ntmps209
 go_wp2_with fail
 go_loopw [0, 7] (fun u i wr => ∃ (j : Nat) (d : List UInt8), i = .int .i64 ((j : Int) - 1) ∧ d ++ beB x j = beB x n ∧ Own wr 5 1 u (m + d.length) (xs ++ bytesV d) ∧ Upd (fun k => v.ownBlock = some k) w wr ∧ (u.ownBlock = v.ownBlock ∨ ∃ q, u.ownBlock = some q ∧ w.heap.size ≤ q)) (fun _ i _ => (intOf i + 1).toNat)
 case atStart => exact ⟨n, [], by first | rfl | go_num, rfl, by simpa [bytesV] using hown, Upd.refl _ _, .inl rfl⟩
 case round =>
  obtain ⟨j, d, rfl, hd, ho, hU, hl⟩ := hrel;clear hown;have hdl := congrArg List.length hd;rw [List.length_append, beB_len, beB_len] at hdl;cases j with
  | succ j =>
    rw [show ((j + 1 : Nat) : Int) - 1 = (j : Int) by omega];have HX := Lib.hid (And.intro hd (And.intro hU hl));have hj : j < 8 := by omega
    have hdm : d.length ≤ 8 := by omega
    clear hd hU hl hdl;obtain ⟨D, hD⟩ : ∃ D, d.length = D := ⟨_, rfl⟩;rw [hD] at ho hdm;have HD := Lib.hid hD;clear hD;go_wp2_with (at_builtin; refine wpList_append_src rfl _ _ _ _ rfl 5 i0 _ 1 1 Tryz.underlying89 hi0 hz0 hz1 hz2 rfl u0 (m + D) _ rfl (ho.alloc _) _ 1 [_] rfl (Src.of_new Tryz.underlying89 _) (by simp [Value.oneCell']) (by unfold maxLen; omega) (by omega) ?_; intro v2 w2 ho2 hU2 hl2 hs2);obtain ⟨hd, hU, hl⟩ := HX.out;go_roundw
    case rel =>
     refine ⟨j, d ++ [UInt8.ofNat (x / 2 ^ (8 * j))], by first | rfl | go_num, ?_, ?_, (hU.alloc _).then hU2 (fun b hb => ?_), ?_⟩
     ·rw [List.append_assoc]; exact hd
     ·rw [bytesV_app, beB_step, ← List.append_assoc, List.length_append, HD.out]; exact ho2
     ·rcases hl with h | ⟨q, h, hq⟩
      ·exact .inl (by rw [← h]; exact hb)
      ·rw [h] at hb; exact .inr (by have := Option.some.inj hb; omega)
     ·have hsz := hU.size
      rcases hl2 with h | h
      ·rw [h]; exact hl
      ·exact .inr ⟨_, h, by simp; omega⟩
    case measure => simp [intOf] <;> omega
  | zero =>
    obtain rfl : d = beB x n := by simpa [beB] using hd
    rw [beB_len] at ho;have e1 : ((0 : Nat) : Int) - 1 = -1 := rfl;rw [e1];clear hd hdl;go_wp2
    go_ret
    exact ⟨u0, rfl, ho, hU, hl⟩
theorem putBig_ring (v : Value) (m : Nat) (xs : List Value) (x n : Nat) (w : World) (hown : Own w 5 1 v m xs) (hn : n ≤ 8) (hm : m ≤ 1000000) :
 Calls Tryz.prog 215 #[v, .int .u64 (x : Int), .int .i64 (n : Int)] w fun e w' => ∃ v', e = .returned v' ∧ Own w' 5 1 v' (m + n) (xs ++ bytesV (beB x n)) ∧ Upd (fun k => v.ownBlock = some k) w w' ∧ (v'.ownBlock = v.ownBlock ∨ ∃ q, v'.ownBlock = some q ∧ w.heap.size ≤ q) := by
 obtain ⟨i0, hi0, hz0, hz1, hz2⟩ := info_parts infoU8;go_enter Tryz.func215, Tryz.ntmps215
 go_wp2_with fail
 go_loopw [0, 7] (fun u i wr => ∃ (j : Nat) (d : List UInt8), i = .int .i64 ((j : Int) - 1) ∧ d ++ beB x j = beB x n ∧ Own wr 5 1 u (m + d.length) (xs ++ bytesV d) ∧ Upd (fun k => v.ownBlock = some k) w wr ∧ (u.ownBlock = v.ownBlock ∨ ∃ q, u.ownBlock = some q ∧ w.heap.size ≤ q)) (fun _ i _ => (intOf i + 1).toNat)
 case atStart => exact ⟨n, [], by first | rfl | go_num, rfl, by simpa [bytesV] using hown, Upd.refl _ _, .inl rfl⟩
 case round =>
  obtain ⟨j, d, rfl, hd, ho, hU, hl⟩ := hrel;clear hown;have hdl := congrArg List.length hd;rw [List.length_append, beB_len, beB_len] at hdl;cases j with
  | succ j =>
    rw [show ((j + 1 : Nat) : Int) - 1 = (j : Int) by omega];have HX := Lib.hid (And.intro hd (And.intro hU hl));have hj : j < 8 := by omega
    have hdm : d.length ≤ 8 := by omega
    clear hd hU hl hdl;obtain ⟨D, hD⟩ : ∃ D, d.length = D := ⟨_, rfl⟩;rw [hD] at ho hdm;have HD := Lib.hid hD;clear hD;go_wp2_with (at_builtin; refine wpList_append_src rfl _ _ _ _ rfl 5 i0 _ 1 1 Tryz.underlying89 hi0 hz0 hz1 hz2 rfl u0 (m + D) _ rfl (ho.alloc _) _ 1 [_] rfl (Src.of_new Tryz.underlying89 _) (by simp [Value.oneCell']) (by unfold maxLen; omega) (by omega) ?_; intro v2 w2 ho2 hU2 hl2 hs2);obtain ⟨hd, hU, hl⟩ := HX.out;go_roundw
    case rel =>
     refine ⟨j, d ++ [UInt8.ofNat (x / 2 ^ (8 * j))], by first | rfl | go_num, ?_, ?_, (hU.alloc _).then hU2 (fun b hb => ?_), ?_⟩
     ·rw [List.append_assoc]; exact hd
     ·rw [bytesV_app, beB_step, ← List.append_assoc, List.length_append, HD.out]; exact ho2
     ·rcases hl with h | ⟨q, h, hq⟩
      ·exact .inl (by rw [← h]; exact hb)
      ·rw [h] at hb; exact .inr (by have := Option.some.inj hb; omega)
     ·have hsz := hU.size
      rcases hl2 with h | h
      ·rw [h]; exact hl
      ·exact .inr ⟨_, h, by simp; omega⟩
    case measure => simp [intOf] <;> omega
  | zero =>
    obtain rfl : d = beB x n := by simpa [beB] using hd
    rw [beB_len] at ho;have e1 : ((0 : Nat) : Int) - 1 = -1 := rfl;rw [e1];clear hd hdl;go_wp2
    go_ret
    exact ⟨u0, rfl, ho, hU, hl⟩
end
section
open Go Go.RowKit
theorem arrU_one (l : List Int) : (arrU l).all (·.oneCell') = true := by simp [arrU, Value.oneCell']
theorem Blk.cellU {w : World} {g : Nat} {t : TypeId} {l : List Int} (h : Blk w g t (arrU l)) (i : Nat) (hi : i < l.length) : w.cell? ⟨g, i, none⟩ = some (.int .u32 (l.getD i 0)) := (h.cell i).trans (arrU_get l i hi)
def BytesAt (w : World) (v : Value) (l : List UInt8) : Prop :=
 ∃ A cap, v = .slice A l.length cap ∧ l.length ≤ cap ∧ cap ≤ maxLen ∧ (0 < l.length → ∃ b off, A = some ⟨b, off, none⟩ ∧ b < w.heap.size ∧ ∀ i, i < l.length → w.cell? ⟨b, off + i, none⟩ = some (.int .u8 ((l.getD i 0).toNat : Int)))
theorem rot32_c (x k : Int) (r : Nat) (w : World) (h : U32 x) (hr : r < 32) (hk : bits .and .u64 (IntKind.u64.wrap k) 31 = (r : Int)) :
 Calls Tryz.prog 304 #[.int .u32 x, .int .i64 k] w fun e w' => e = .returned (.int .u32 (rotl x r)) ∧ w = w' := by
 obtain ⟨h0, h1⟩ := h;have hk2 : IntKind.u64.wrap (32 - (r : Int)) = ((32 - r : Nat) : Int) := by
  simp only [IntKind.wrap, IntKind.bits, IntKind.signed];simp
  omega
 go_enter Tryz.func304, Tryz.ntmps304
 go_wp2_with fail
 go_ret
 exact ⟨rfl, rfl⟩
theorem rotA_c (x k : Int) (w : World) (h : U32 x) : Calls Tryz.prog 304 #[.int .u32 x, .int .i64 k] w fun e w' => e = .returned (.int .u32 (rotl x (amt k))) ∧ w' = w := by
 have h1 : IntKind.u64.wrap k = ((IntKind.u64.wrap k).toNat : Int) := by
  rw [IntKind.wrap_u64]; omega
 have h2 : (IntKind.u64.wrap k).toNat < 18446744073709551616 := by
  rw [IntKind.wrap_u64]; omega
 refine (rot32_c x k (amt k) w h (by unfold amt; omega) ?_).mono fun _ _ ⟨a, b⟩ => ⟨a, b.symm⟩
 unfold amt;rw [h1];generalize (IntKind.u64.wrap k).toNat = m at *;have := bits_and_u64_nat m 31 h2 (by omega);rw [show (31 : Int) = ((31 : Nat) : Int) from rfl, this, Int.toNat_natCast, show (31 : Nat) = 2 ^ 5 - 1 from rfl, Nat.and_two_pow_sub_one_eq_mod]
theorem wpList_build_is {P : Program} {ops : Array Oper} {rest : List Oper} {o : Oper} {a : Act} {w : World} {Q : Exit → Act → World → Prop} (hg : o.guard = none) (t : TypeId) (parts : Array (Nat × Operand)) (ho : o.op = .build t parts)
 (vs : List (Nat × Value)) (cells : Array Value) (hv : (parts.map fun (i, x) => (i, a.eval x)).toList = vs) (hb : P.built t vs = some cells)
 (h : wpList P ops Q rest (a.put o.dst (.agg cells)) w) : wpList P ops Q (o :: rest) a w := by
 refine wpList_build hg t parts ho (by rw [hv, hb]; rfl) ?_
 rw [hv, hb];exact h
theorem built8 (x0 x1 x2 x3 x4 x5 x6 x7 : Int) : Tryz.prog.built 377 [(0, .int .u32 x0), (1, .int .u32 x1), (2, .int .u32 x2), (3, .int .u32 x3), (4, .int .u32 x4), (5, .int .u32 x5), (6, .int .u32 x6), (7, .int .u32 x7)] = some (arrU [x0, x1, x2, x3, x4, x5, x6, x7]) := by kernel_rfl
structure TurnW (w wr : World) (n : Nat) (h b r wl : List Int) : Prop where
 bh : Blk wr n 377 (arrU h)
 bb : Blk wr (n + 1) 377 (arrU b)
 br : Blk wr (n + 1 + 1) 377 (arrU r)
 bw : Blk wr (n + 1 + 1 + 1) 379 (arrU wl)
 upd : Upd (fun _ => False) w wr
 new : w.heap.size ≤ n
theorem TurnW.setw {w wr : World} {n : Nat} {h b r wl : List Int} (t : TurnW w wr n h b r wl) (i : Nat) (z : Int) : TurnW w (wr.setCell ⟨n + 1 + 1 + 1, i, none⟩ (.int .u32 z)) n h b r (wl.set i z) :=
 ⟨t.bh.far (by simp; omega) _, t.bb.far (by simp) _, t.br.far (by simp) _, by rw [← arrU_set]; exact t.bw.set_ i _, t.upd.setCell (.inr (by have := t.new; simp; omega)) _, t.new⟩
theorem TurnW.seth {w wr : World} {n : Nat} {h b r wl : List Int} (t : TurnW w wr n h b r wl) (i : Nat) (z : Int) : TurnW w (wr.setCell ⟨n, i, none⟩ (.int .u32 z)) n (h.set i z) b r wl :=
 ⟨by rw [← arrU_set]; exact t.bh.set_ i _, t.bb.far (by simp) _, t.br.far (by simp; omega) _, t.bw.far (by simp; omega) _, t.upd.setCell (.inr t.new) _, t.new⟩
theorem TurnW.setb {w wr w2 : World} {n : Nat} {h b r wl b2 : List Int} (t : TurnW w wr n h b r wl) (hb : Blk w2 (n + 1) 377 (arrU b2)) (hu : Upd (· = n + 1) wr w2) : TurnW w w2 n h b2 r wl :=
 ⟨t.bh.upd hu (by omega), hb, t.br.upd hu (by omega), t.bw.upd hu (by omega), t.upd.then hu (fun q hq => .inr (by have := t.new; omega)), t.new⟩
theorem TurnW.b8 {w wr : World} {n : Nat} {h r wl : List Int} {b0 b1 b2 b3 b4 b5 b6 b7 : Int} (t : TurnW w wr n h [b0, b1, b2, b3, b4, b5, b6, b7] r wl) :
 wr.cell? ⟨n + 1, 0, none⟩ = some (.int .u32 b0) ∧ wr.cell? ⟨n + 1, 1, none⟩ = some (.int .u32 b1) ∧ wr.cell? ⟨n + 1, 2, none⟩ = some (.int .u32 b2) ∧ wr.cell? ⟨n + 1, 3, none⟩ = some (.int .u32 b3) ∧
 wr.cell? ⟨n + 1, 4, none⟩ = some (.int .u32 b4) ∧ wr.cell? ⟨n + 1, 5, none⟩ = some (.int .u32 b5) ∧ wr.cell? ⟨n + 1, 6, none⟩ = some (.int .u32 b6) ∧ wr.cell? ⟨n + 1, 7, none⟩ = some (.int .u32 b7) :=
 ⟨t.bb.cell 0, t.bb.cell 1, t.bb.cell 2, t.bb.cell 3, t.bb.cell 4, t.bb.cell 5, t.bb.cell 6, t.bb.cell 7⟩
theorem TurnW.drew {w wr : World} {n : Nat} {h b r wl : List Int} (t : TurnW w wr n h b r wl) : TurnW w wr.drew n h b r wl := ⟨t.bh, t.bb, t.br, t.bw, t.upd.drew, t.new⟩
theorem TurnW.drewN {w wr : World} {n : Nat} {h b r wl : List Int} (t : TurnW w wr n h b r wl) (k : Nat) : TurnW w (wr.drewN k) n h b r wl := ⟨t.bh, t.bb, t.br, t.bw, t.upd.drewN k, t.new⟩
theorem cell_upd {w w' : World} {F : Nat → Prop} (hu : Upd F w w') {b : Nat} (hb : b < w.heap.size) (hn : ¬ F b) (o : Nat) : w'.cell? ⟨b, o, none⟩ = w.cell? ⟨b, o, none⟩ := World.cell?_of_block (w := w) (a := ⟨b, o, none⟩) (hu.block b hb hn)
theorem conv_at (w : World) (b off n cap : Nat) (l : List UInt8) (hl : l.length = n) (hc : ∀ i, i < n → w.cell? ⟨b, off + i, none⟩ = some (.int .u8 ((l.getD i 0).toNat : Int))) :
 (convert 89 9 (.slice (some ⟨b, off, none⟩) n cap)).run Tryz.prog w = .ok (.string (str l)) w := by
 rw [← strOfNums_bytes];refine run_convert_bytes_arg w _ _ Tryz.underlying89 Tryz.underlying5 b off n cap _ (by simpa using hl) (fun i hi => ?_) _ Tryz.underlying9;rw [hc i hi];simp [show i < l.length by omega]
theorem turn_c (hv bv K : List Int) (l : List UInt8) (kb ko b off cap : Nat) (w : World) (h8 : hv.length = 8) (b8 : bv.length = 8) (k64 : K.length = 64) (hH : AllU hv) (hB : AllU bv) (hK : AllU K)
 (hk : ∀ i, i < 64 → w.cell? ⟨kb, ko + i, none⟩ = some (.int .u32 (K.getD i 0))) (hkb : kb < w.heap.size) (hl : l.length = 64) (hc : 64 ≤ cap) (hcm : cap ≤ 9223372036854775807) (hb : b < w.heap.size)
 (hs : ∀ i, i < 64 → w.cell? ⟨b, off + i, none⟩ = some (.int .u8 ((l.getD i 0).toNat : Int))) :
 Calls Tryz.prog 292 #[.agg (arrU hv), .agg (arrU bv), .pointer (some ⟨kb, ko, none⟩), .slice (some ⟨b, off, none⟩) 64 cap] w fun e w' => e = .returned (.agg (arrU (turnL hv bv K l))) ∧ Upd (fun _ => False) w w' := by
 have HK := Lib.hid hk;have HS := Lib.hid hs;have HL := Lib.hid hl;have H8 := Lib.hid (And.intro h8 (And.intro b8 k64));have HA := Lib.hid (And.intro hH (And.intro hB hK));clear hk hs hl h8 b8 k64 hH hB hK;go_enter Tryz.func292, Tryz.ntmps292
 go_wp2_with fail
 obtain ⟨n, hn⟩ : ∃ n, w.heap.size = n := ⟨_, rfl⟩;have HN := Lib.hid hn;have hbn : b < n := by omega
 have hkn : kb < n := by omega
 clear hb hkb;rw [hn];clear hn;go_loopw [10, 22] (fun _ i wr => ∃ k : Nat, k ≤ 16 ∧ i = .int .i64 (k : Int) ∧ TurnW w wr n hv bv (List.replicate 8 0) (wIn l k)) (fun _ i _ => 16 - (intOf i).toNat)
 case atStart =>
  have e := HN.out;refine ⟨0, by omega, rfl, ?_⟩;subst e;refine ⟨(((Blk.new w _ _).alloc _).alloc _).alloc _, ?_, ?_, ?_, ((((Upd.refl _ w).alloc _).alloc _).alloc _).alloc _, Nat.le_refl _⟩
  ·have h := ((Blk.new (w.alloc (.cells (arrU hv) 377)) 377 (arrU bv)).alloc (.cells (arrU (List.replicate 8 0)) 377)).alloc (.cells (arrU (wIn l 0)) 379)
   rw [World.size_alloc] at h;exact h
  ·have h := (Blk.new ((w.alloc (.cells (arrU hv) 377)).alloc (.cells (arrU bv) 377)) 377 (arrU (List.replicate 8 0))).alloc (.cells (arrU (wIn l 0)) 379)
   rw [World.size_alloc, World.size_alloc] at h;exact h
  ·have h := Blk.new (((w.alloc (.cells (arrU hv) 377)).alloc (.cells (arrU bv) 377)).alloc (.cells (arrU (List.replicate 8 0)) 377)) 379 (arrU (wIn l 0))
   rw [World.size_alloc, World.size_alloc, World.size_alloc] at h;exact h
 case round =>
  obtain ⟨k, hk, rfl, hT⟩ := hrel;by_cases hlt : k < 16
  ·
   --#a {
   have HT := Lib.hid hT;have hcv := conv_at wr b (off + 4 * k) 4 (cap - 4 * k) ((l.drop (4 * k)).take 4) (by have := HL.out; simp; omega) (fun i hi => by
    rw [cell_upd hT.upd (by have := HN.out; omega) (fun e => e), show off + 4 * k + i = off + (4 * k + i) by omega, HS.out (4 * k + i) (by omega)];have := HL.out;simp [List.getD_eq_getElem?_getD, hi])
   have hcw := hT.bw.cellU k (by rw [wIn_len]; omega);have hfw := hT.bw.frozen k;clear hT;go_wp2_with fail
   refine (getBig_c (str ((l.drop (4 * k)).take 4)) 4 _ (by omega) (by have := HL.out; rw [str_size]; simp; omega)).mono ?_;rintro e w' ⟨rfl, rfl⟩;rw [str_list, List.take_take, Nat.min_self];go_wp2_with fail
   go_roundw
   case rel =>
    refine ⟨k + 1, by omega, by go_num, ?_⟩;have e : (beN (List.take 4 (List.drop (4 * k) l)) : Int) % 4294967296 = wordAt l k := Int.emod_eq_of_lt (wordU l k).1 (wordU l k).2;rw [e, wIn_succ];exact HT.out.setw k _
   case measure => simp [intOf] <;> omega
   --#a }
  ·obtain rfl : k = 16 := by omega
   have e16 : ((16 : Nat) : Int) = 16 := rfl;rw [e16];clear e16;have HA1 := Lib.hid (And.intro (wIn_all l 16) (wIn_len l 16));have HT := Lib.hid hT;obtain ⟨W0, hW0⟩ : ∃ W0, wIn l 16 = W0 := ⟨_, rfl⟩;rw [hW0] at HT HA1;have HW0 := Lib.hid hW0;clear hW0 hT hk hlt;go_wp2_with fail
   go_loopw [11, 12, 13, 14, 15] (fun i _ _ _ _ wr => ∃ k : Nat, k ≤ 64 ∧ 16 ≤ k ∧ i = .int .i64 (k : Int) ∧ TurnW w wr n hv bv (List.replicate 8 0) (wOn W0 (k - 16))) (fun i _ _ _ _ _ => 64 - (intOf i).toNat)
   case atStart => exact ⟨16, by omega, by omega, rfl, HT.out⟩
   case round =>
    clear HT;obtain ⟨k, hk, hk2, rfl, hT⟩ := hrel;have HT := Lib.hid hT;by_cases hlt : k < 64
    ·
     --#b {
     have hln := wOn_len W0 (k - 16);have hal := wOn_all HA1.out.1 (k - 16);have h64 := HA1.out.2;obtain ⟨L, hL⟩ : ∃ L, wOn W0 (k - 16) = L := ⟨_, rfl⟩;have HL1 := Lib.hid hL;rw [hL] at hT hln hal;have c15 := hT.bw.cellU (k - 15) (by omega);have c2 := hT.bw.cellU (k - 2) (by omega);have u15 := hal.get (k - 15);have u2 := hal.get (k - 2);obtain ⟨x15, hx15⟩ : ∃ x, L.getD (k - 15) 0 = x := ⟨_, rfl⟩;obtain ⟨x2, hx2⟩ : ∃ x, L.getD (k - 2) 0 = x := ⟨_, rfl⟩;rw [hx15] at c15 u15;rw [hx2] at c2 u2;have HX1 := Lib.hid (And.intro hx15 hx2);have U15 := Lib.hid u15;have U2 := Lib.hid u2;obtain ⟨m15, m15b⟩ := u15;obtain ⟨m2, m2b⟩ := u2;have e15 : IntKind.i64.wrap ((k : Int) - 15) = ((k - 15 : Nat) : Int) := by rw [IntWalk.i64_in _ (by omega)]; omega
     have e2 : IntKind.i64.wrap ((k : Int) - 2) = ((k - 2 : Nat) : Int) := by rw [IntWalk.i64_in _ (by omega)]; omega
     have b15 : ((k - 15 : Nat) : Int) < 64 := by omega
     have b2 : ((k - 2 : Nat) : Int) < 64 := by omega
     clear hT hln hal h64 hL hx15 hx2;go_wp2_with fail
     go_quiet (fail)
     clear c15 c2 e15 e2 b15 b2;go_wp2_with fail
     refine (rot32_c _ _ 25 _ U15.out (by omega) (by decide +kernel)).mono ?_;rintro e w' ⟨rfl, rfl⟩;go_wp2_with fail
     refine (rot32_c _ _ 14 _ U15.out (by omega) (by decide +kernel)).mono ?_;rintro e w' ⟨rfl, rfl⟩;go_wp2_with fail
     refine (rot32_c _ _ 15 _ U2.out (by omega) (by decide +kernel)).mono ?_;rintro e w' ⟨rfl, rfl⟩;go_wp2_with fail
     refine (rot32_c _ _ 13 _ U2.out (by omega) (by decide +kernel)).mono ?_;rintro e w' ⟨rfl, rfl⟩;go_wp2_with fail
     have hT := HT.out.drewN nq;rw [HL1.out] at hT;have hln := wOn_len W0 (k - 16);rw [HL1.out, HA1.out.2] at hln;have c16 := hT.bw.cellU (k - 16) (by omega);have c7 := hT.bw.cellU (k - 7) (by omega);have c0 := hT.bw.cellU k (by omega);have f0 := hT.bw.frozen k;obtain ⟨x16, hx16⟩ : ∃ x, L.getD (k - 16) 0 = x := ⟨_, rfl⟩;obtain ⟨x7, hx7⟩ : ∃ x, L.getD (k - 7) 0 = x := ⟨_, rfl⟩;rw [hx16] at c16;rw [hx7] at c7;have HX2 := Lib.hid (And.intro hx16 hx7);have HT2 := Lib.hid hT;clear hT HT hln hx16 hx7;obtain ⟨a1, ha1⟩ : ∃ x, bits BinOp.xor IntKind.u32 (bits BinOp.xor IntKind.u32 (rotl x15 25) (rotl x15 14)) (x15 / 8) = x := ⟨_, rfl⟩;obtain ⟨a2, ha2⟩ : ∃ x, bits BinOp.xor IntKind.u32 (bits BinOp.xor IntKind.u32 (rotl x2 15) (rotl x2 13)) (x2 / 1024) = x := ⟨_, rfl⟩;rw [ha1, ha2];have HY := Lib.hid (And.intro (show sg0 x15 = a1 from ha1) (show sg1 x2 = a2 from ha2));clear ha1 ha2;have e16 : IntKind.i64.wrap ((k : Int) - 16) = ((k - 16 : Nat) : Int) := by rw [IntWalk.i64_in _ (by omega)]; omega
     have e7 : IntKind.i64.wrap ((k : Int) - 7) = ((k - 7 : Nat) : Int) := by rw [IntWalk.i64_in _ (by omega)]; omega
     have b16 : ((k - 16 : Nat) : Int) < 64 := by omega
     have b7 : ((k - 7 : Nat) : Int) < 64 := by omega
     have b0 : (k : Int) < 64 := by omega
     generalize wr.drewN nq = w1 at c16 c7 c0 f0 HT2 ⊢;have HS1 : Hid (∀ v, (w1.setCell ⟨n + 1 + 1 + 1, k, none⟩ v).drew.cell? ⟨n + 1 + 1 + 1, k - 16, none⟩ = some (.int .u32 x16) ∧ (w1.setCell ⟨n + 1 + 1 + 1, k, none⟩ v).drew.cell? ⟨n + 1 + 1 + 1, k - 7, none⟩ = some (.int .u32 x7)) := Lib.hid fun v => by
      rw [World.cell?_drew, World.cell?_drew];exact ⟨(World.cell?_setCell_other _ _ _ _ (by simp <;> omega)).trans c16, (World.cell?_setCell_other _ _ _ _ (by simp <;> omega)).trans c7⟩
     go_region_held3 (fun w' => w'.cell? ⟨n + 1 + 1 + 1, k - 16, none⟩ = some (.int .u32 x16) ∧ w'.cell? ⟨n + 1 + 1 + 1, k - 7, none⟩ = some (.int .u32 x7)) (first | exact HS1.out _ | go_keep) (first | fail)
     go_wp2_with fail
     go_roundw
     case rel =>
      refine ⟨k + 1, by omega, by omega, by go_num, ?_⟩;have e2 : nextW L k = (((x16 + a1) % 4294967296 + x7) % 4294967296 + a2) % 4294967296 := by unfold nextW; rw [HX2.out.1, HX1.out.1, HX2.out.2, HX1.out.2, HY.out.1, HY.out.2]
      have e3 : wOn W0 (k + 1 - 16) = L.set k ((((x16 + a1) % 4294967296 + x7) % 4294967296 + a2) % 4294967296) := by rw [show k + 1 - 16 = (k - 16) + 1 by omega, wOn_succ, HL1.out, show 16 + (k - 16) = k by omega, e2]
      rw [e3];exact (HT2.out.setw k _).drew
     case measure => simp [intOf] <;> omega
     --#b }
    ·obtain rfl : k = 64 := by omega
     have e64 : ((64 : Nat) : Int) = 64 := rfl;rw [e64];have HW1 := Lib.hid (And.intro (wOn_all HA1.out.1 48) (wOn_len W0 48));have HT := Lib.hid hT;obtain ⟨W1, hW1⟩ : ∃ W1, wOn W0 48 = W1 := ⟨_, rfl⟩;rw [show 64 - 16 = 48 from rfl, hW1] at HT;rw [hW1] at HW1;have HE1 := Lib.hid hW1;clear hW1 hT hk hk2 hlt e64;go_wp2_with fail
     go_loopw [16, 17, 18, 19, 20, 81] (fun _ _ _ _ _ i wr => ∃ k : Nat, k ≤ 64 ∧ i = .int .i64 (k : Int) ∧ TurnW w wr n hv (rounds K W1 bv k) (List.replicate 8 0) W1) (fun _ _ _ _ _ i _ => 64 - (intOf i).toNat)
     case atStart => exact ⟨0, by omega, rfl, HT.out⟩
     case round =>
      clear HT;obtain ⟨k, hk, rfl, hT⟩ := hrel;have HT := Lib.hid hT;by_cases hlt : k < 64
      ·
       --#c {
       have hr := rounds_ok (K := K) (W := W1) H8.out.2.1 HA.out.2.1 k;obtain ⟨b0, b1, b2, b3, b4, b5, b6, b7, hbl⟩ := eight hr.1;have hal := hr.2;rw [hbl] at hT hal;have HB1 := Lib.hid hbl;obtain ⟨q0, q1, q2, q3, q4, q5, q6, q7⟩ := hT.b8;have cw := hT.bw.cellU k (by have := HW1.out.2; have := HA1.out.2; omega);have ck := HK.out k hlt;rw [← cell_upd hT.upd (by have := HN.out; omega) (fun e => e)] at ck;obtain ⟨xk, hxk⟩ : ∃ x, K.getD k 0 = x := ⟨_, rfl⟩;obtain ⟨xw, hxw⟩ : ∃ x, W1.getD k 0 = x := ⟨_, rfl⟩;rw [hxk] at ck;rw [hxw] at cw;have HX := Lib.hid (And.intro hxk hxw);have U0 := Lib.hid (hal b0 (by simp));have U4 := Lib.hid (hal b4 (by simp));obtain ⟨m4, m4b⟩ := hal b4 (by simp);have bk : (k : Int) < 64 := by omega
       clear hal hbl hxk hxw hr cw ck q1 q2 q3 q5 q6 q7;have HT2 := Lib.hid hT;clear hT HT;go_wp2_with fail
       go_quiet (fail)
       have hT := HT2.out.drewN nq;clear q0 q4 HT2;generalize wr.drewN nq = w1 at hT ⊢;obtain ⟨q0, q1, q2, q3, q4, q5, q6, q7⟩ := hT.b8;have cw := hT.bw.cellU k (by have := HW1.out.2; have := HA1.out.2; omega);have ck := HK.out k hlt;rw [← cell_upd hT.upd (by have := HN.out; omega) (fun e => e), HX.out.1] at ck;rw [HX.out.2] at cw;have HT2 := Lib.hid hT;clear hT;go_wp2_with fail
       go_quiet ((go_at_call 304; exact Calls.quiet_of_same (rotA_c _ _ _ U4.out)));have hT := HT2.out.drewN nq;rw [show (if IntKind.u32.signed = true then (-1 : Int) else IntKind.u32.max) = 4294967295 from rfl];obtain ⟨T, hTT⟩ : ∃ T, ((b7 + bits .xor .u32 (bits .xor .u32 (rotl b4 (amt (-6))) (rotl b4 (amt (-11)))) (rotl b4 (amt (-25))) + bits .xor .u32 (bits .and .u32 b4 b5) (bits .and .u32 (bits .xor .u32 4294967295 b4) b6) + xk) % 4294967296 + xw) % 4294967296 = T := ⟨_, rfl⟩;rw [hTT];have HTT := Lib.hid (show roundT b4 b5 b6 b7 xk xw = T from hTT);clear hTT;clear q0 q1 q2 q3 q4 q5 q6 q7 cw ck HT2;generalize w1.drewN nq = w2 at hT ⊢;obtain ⟨q0, q1, q2, q3, q4, q5, q6, q7⟩ := hT.b8;have HT2 := Lib.hid hT;clear hT;go_wp2_with fail
       go_quiet ((go_at_call 304; exact Calls.quiet_of_same (rotA_c _ _ _ U0.out)));have hT := HT2.out.drewN nq;clear q0 q1 q2 q3 q4 q5 q6 q7 HT2;generalize w2.drewN nq = w3 at hT ⊢;obtain ⟨q0, q1, q2, q3, q4, q5, q6, q7⟩ := hT.b8;obtain ⟨U, hUU⟩ : ∃ U, (bits .xor .u32 (bits .xor .u32 (rotl b0 (amt (-2))) (rotl b0 (amt (-13)))) (rotl b0 (amt (-22))) + bits .xor .u32 (bits .xor .u32 (bits .and .u32 b0 b1) (bits .and .u32 b0 b2)) (bits .and .u32 b1 b2)) % 4294967296 = U := ⟨_, rfl⟩;rw [hUU];have HUU := Lib.hid (show roundU b0 b1 b2 = U from hUU);clear hUU;have HT2 := Lib.hid hT;clear hT;go_upto_region 20 with (fail)
       go_wp2_with (first
        | (show wpList _ _ _ (⟨_, Op.build _ _, _, _, _, _⟩ :: _) _ _
           refine wpList_build_is rfl _ _ rfl [(0, .int .u32 ((T + U) % 4294967296)), (1, .int .u32 b0), (2, .int .u32 b1), (3, .int .u32 b2), (4, .int .u32 ((b3 + T) % 4294967296)), (5, .int .u32 b4), (6, .int .u32 b5), (7, .int .u32 b6)] _ rfl (built8 _ _ _ _ _ _ _ _) ?_)
        | (show wpList _ _ _ (⟨none, _, _, _, _, _⟩ :: _) _ _
           refine wpList_store_all rfl 377 _ _ rfl (n + 1) _ rfl rfl 377 _ HT2.out.bb rfl (by simp [Value.oneCell']) (by kernel_rfl) ?_;intro w4 hB4 hU4 hz4))
       go_roundw
       case rel =>
        refine ⟨k + 1, by omega, by go_num, ?_⟩;have e : rounds K W1 bv (k + 1) = [(T + U) % 4294967296, b0, b1, b2, (b3 + T) % 4294967296, b4, b5, b6] := by
         rw [rounds_succ, HB1.out, HX.out.1, HX.out.2];show [_, _, _, _, _, _, _, _] = _;rw [HTT.out, HUU.out]
        rw [e];exact HT2.out.setb hB4 hU4
       case measure => simp [intOf] <;> omega
       --#c }
      ·obtain rfl : k = 64 := by omega
       have e64 : ((64 : Nat) : Int) = 64 := rfl;rw [e64];have hr := rounds_ok (K := K) (W := W1) H8.out.2.1 HA.out.2.1 64;obtain ⟨bl, hbl⟩ : ∃ bl, rounds K W1 bv 64 = bl := ⟨_, rfl⟩;rw [hbl] at hr hT;have HBL := Lib.hid hbl;have HR := Lib.hid hr;clear HT;have HT := Lib.hid hT;clear hbl hr hT hk hlt e64;go_wp2_with fail
       go_loopw [21, 165] (fun _ i wr => ∃ k : Nat, k ≤ 8 ∧ i = .int .i64 (k : Int) ∧ TurnW w wr n (addH hv bl k) bl (List.replicate 8 0) W1) (fun _ i _ => 8 - (intOf i).toNat)
       case atStart => exact ⟨0, by omega, rfl, HT.out⟩
       case round =>
        clear HT;obtain ⟨k, hk, rfl, hT⟩ := hrel;have HT := Lib.hid hT;by_cases hlt : k < 8
        ·
         --#d {
         have hl := addH_len hv bl k;have ch := hT.bh.cellU k (by have := H8.out.1; omega);have cb := hT.bb.cellU k (by have := HR.out.1; omega);have fh := hT.bh.frozen k;obtain ⟨xh, hxh⟩ : ∃ x, (addH hv bl k).getD k 0 = x := ⟨_, rfl⟩;obtain ⟨xb, hxb⟩ : ∃ x, bl.getD k 0 = x := ⟨_, rfl⟩;rw [hxh] at ch;rw [hxb] at cb;have HX := Lib.hid (And.intro hxh hxb);have bk : (k : Int) < 8 := by omega
         have HS1 : Hid (∀ v, (wr.setCell ⟨n, k, none⟩ v).drew.cell? ⟨n + 1, k, none⟩ = some (.int .u32 xb)) := Lib.hid fun v => by
          rw [World.cell?_drew];exact (World.cell?_setCell_other _ _ _ _ (by simp)).trans cb
         clear hT hl hxh hxb;go_wp2_with fail
         go_still_tail 8, (by kernel_rfl)
         change wpList _ _ _ _ _ wr.drew;go_wp2_with fail
         go_roundw
         case rel =>
          refine ⟨k + 1, by omega, by go_num, ?_⟩;rw [addH_succ, HX.out.1, HX.out.2];exact HT.out.drew.seth k _
         case measure => simp [intOf] <;> omega
         --#d }
        ·obtain rfl : k = 8 := by omega
         have e8 : ((8 : Nat) : Int) = 8 := rfl;rw [e8];obtain ⟨rl, hrl⟩ : ∃ rl, addH hv bl 8 = rl := ⟨_, rfl⟩;have hrl2 : rl.length = 8 := by rw [← hrl, addH_len]; exact H8.out.1
         rw [hrl] at HT;obtain ⟨r0, r1, r2, r3, r4, r5, r6, r7, rfl⟩ := eight hrl2;have HRL := Lib.hid hrl;have hone : (arrU [r0, r1, r2, r3, r4, r5, r6, r7]).all (·.oneCell') = true := arrU_one _;have HONE := Lib.hid hone;clear hrl hrl2 hT hk hlt e8 hone;go_wp2_with (first
          | (refine wpList_load_all rfl _ _ rfl n rfl _ _ _ HT.out.bh Tryz.underlying377 rfl rfl ?_)
          | (show wpList _ _ _ (⟨none, _, _, _, _, _⟩ :: _) _ _
             refine wpList_store_all rfl 377 _ _ rfl (n + 1 + 1) _ rfl rfl 377 _ HT.out.br rfl HONE.out (by kernel_rfl) ?_;intro w4 hB4 hU4 hz4))
         have hfin : [r0, r1, r2, r3, r4, r5, r6, r7] = turnL hv bv K l := by
          unfold turnL;rw [HW0.out, HE1.out, HBL.out, HRL.out]
         refine bodyPost_ret (results_cell_row rfl _ _ (n + 1 + 1) _ _ _ _ rfl hB4 Tryz.underlying377 rfl rfl) rfl ⟨by rw [← hfin], HT.out.upd.then hU4 (fun q hq => .inr (by have := HT.out.new; omega))⟩
end
end Go.Proofs.YtbhjgfibhegddaaGreat
