/-
  Plain: a hash as the program reckons it.
-/
import Derived.Test.YtdfgmieinbmfkaaGreatTexts
import Derived.IntWalk
import Derived.Laws.Bits64b
import Derived.Laws.Closers25b
namespace Go.Proofs.YtdfgmieinbmfkaaGreat
open Go Go.RowKit

/-- The n lowest bytes of x, the highest one first. -/
def beB (x : Nat) : Nat → List UInt8
  | 0 => []
  | n + 1 => UInt8.ofNat (x / 2 ^ (8 * n)) :: beB x n
theorem beB_len (x n : Nat) : (beB x n).length = n := by
  induction n with
  | zero => rfl
  | succ n ih => simp [beB, ih]
/-- The number of these bytes, the highest one first. -/
def beN (l : List UInt8) : Nat := l.foldl (fun a b => a * 256 + b.toNat) 0
theorem beN_snoc (l : List UInt8) (b : UInt8) : beN (l ++ [b]) = beN l * 256 + b.toNat := by simp [beN]
theorem beN_lt (l : List UInt8) : beN l < 2 ^ (8 * l.length) := by
  have key : ∀ (l : List UInt8) (a : Nat), l.foldl (fun a b => a * 256 + b.toNat) a < (a + 1) * 2 ^ (8 * l.length) := by
    intro l
    induction l with
    | nil => intro a; simp
    | cons b r ih =>
      intro a
      have h := ih (a * 256 + b.toNat)
      have hb := b.toNat_lt
      rw [List.foldl_cons, List.length_cons]
      have e : 2 ^ (8 * (r.length + 1)) = 256 * 2 ^ (8 * r.length) := by rw [Nat.mul_add, Nat.pow_add]; omega
      rw [e, ← Nat.mul_assoc]
      exact Nat.lt_of_lt_of_le h (Nat.mul_le_mul_right _ (by omega))
  have := key l 0
  simpa [beN] using this
/-- Words. -/
def U32 (z : Int) : Prop := 0 ≤ z ∧ z < 4294967296
def arrU (l : List Int) : Array Value := (l.map (Value.int .u32)).toArray
def AllU (l : List Int) : Prop := ∀ z ∈ l, U32 z
theorem bitsU (op : BinOp) (a b : Int) : U32 (bits op .u32 a b) := ⟨bits_lo_u32 op a b, by have := bits_hi_u32 op a b; omega⟩
theorem modU (a : Int) : U32 (a % 4294967296) := ⟨Int.emod_nonneg _ (by decide), Int.emod_lt_of_pos _ (by decide)⟩
theorem arrU_size (l : List Int) : (arrU l).size = l.length := by simp [arrU]
theorem arrU_get (l : List Int) (i : Nat) (h : i < l.length) : (arrU l)[i]? = some (.int .u32 (l.getD i 0)) := by simp [arrU, h]
theorem arrU_set (l : List Int) (i : Nat) (z : Int) : (arrU l).setIfInBounds i (.int .u32 z) = arrU (l.set i z) := by simp [arrU, List.map_set]
theorem AllU.get {l : List Int} (h : AllU l) (i : Nat) : U32 (l.getD i 0) := by
  by_cases hi : i < l.length
  · rw [List.getD_eq_getElem?_getD, List.getElem?_eq_getElem hi]
    exact h _ (List.getElem_mem hi)
  · rw [List.getD_eq_getElem?_getD, List.getElem?_eq_none (by omega)]
    exact ⟨by simp, by simp⟩
theorem AllU.set {l : List Int} (h : AllU l) (i : Nat) {z : Int} (hz : U32 z) : AllU (l.set i z) := by
  intro u hu
  rcases List.mem_or_eq_of_mem_set hu with h1 | h1
  · exact h u h1
  · rw [h1]; exact hz
/-! ### the reckoning -/
def rotl (x : Int) (r : Nat) : Int := bits .or .u32 (x * 2 ^ r % 4294967296) (x / 2 ^ (32 - r))
/-- How far a rotation goes. -/
def amt (k : Int) : Nat := (IntKind.u64.wrap k).toNat % 32
def sg0 (x : Int) : Int := bits .xor .u32 (bits .xor .u32 (rotl x 25) (rotl x 14)) (x / 8)
def sg1 (y : Int) : Int := bits .xor .u32 (bits .xor .u32 (rotl y 15) (rotl y 13)) (y / 1024)
/-- The words of a block's first bytes, and those made of them. -/
def wordAt (s : List UInt8) (i : Nat) : Int := (beN ((s.drop (4 * i)).take 4) : Int)
def nextW (l : List Int) (i : Nat) : Int := (((l.getD (i - 16) 0 + sg0 (l.getD (i - 15) 0)) % 4294967296 + l.getD (i - 7) 0) % 4294967296 + sg1 (l.getD (i - 2) 0)) % 4294967296
def wIn (s : List UInt8) (k : Nat) : List Int := (List.range k).foldl (fun l i => l.set i (wordAt s i)) (List.replicate 64 0)
def wOn (l : List Int) (k : Nat) : List Int := (List.range k).foldl (fun l j => l.set (16 + j) (nextW l (16 + j))) l
theorem wIn_succ (s : List UInt8) (k : Nat) : wIn s (k + 1) = (wIn s k).set k (wordAt s k) := by simp [wIn, List.range_succ]
theorem wOn_succ (l : List Int) (k : Nat) : wOn l (k + 1) = (wOn l k).set (16 + k) (nextW (wOn l k) (16 + k)) := by simp [wOn, List.range_succ]
theorem wIn_len (s : List UInt8) (k : Nat) : (wIn s k).length = 64 := by
  induction k with
  | zero => simp [wIn]
  | succ k ih => rw [wIn_succ, List.length_set, ih]
theorem wOn_len (l : List Int) (k : Nat) : (wOn l k).length = l.length := by
  induction k with
  | zero => simp [wOn]
  | succ k ih => rw [wOn_succ, List.length_set, ih]
theorem wordU (s : List UInt8) (i : Nat) : U32 (wordAt s i) := by
  have h := beN_lt ((s.drop (4 * i)).take 4)
  have h2 : beN ((s.drop (4 * i)).take 4) < 4294967296 := Nat.lt_of_lt_of_le h (Nat.le_trans (Nat.pow_le_pow_right (by omega) (show 8 * ((s.drop (4 * i)).take 4).length ≤ 32 by simp; omega)) (by decide))
  exact ⟨by unfold wordAt; omega, by unfold wordAt; omega⟩
theorem wIn_all (s : List UInt8) (k : Nat) : AllU (wIn s k) := by
  induction k with
  | zero => intro z hz; have := (List.mem_replicate.1 (show z ∈ List.replicate 64 0 from hz)).2; rw [this]; exact ⟨by decide, by decide⟩
  | succ k ih => rw [wIn_succ]; exact ih.set _ (wordU s k)
theorem wOn_all {l : List Int} (h : AllU l) (k : Nat) : AllU (wOn l k) := by
  induction k with
  | zero => exact h
  | succ k ih => rw [wOn_succ]; exact ih.set _ (modU _)
/-- A round. -/
def roundT (e b5 b6 b7 k w : Int) : Int :=
  ((b7 + bits .xor .u32 (bits .xor .u32 (rotl e (amt (-6))) (rotl e (amt (-11)))) (rotl e (amt (-25))) + bits .xor .u32 (bits .and .u32 e b5) (bits .and .u32 (bits .xor .u32 4294967295 e) b6) + k) % 4294967296 + w) % 4294967296
def roundU (a b1 b2 : Int) : Int :=
  (bits .xor .u32 (bits .xor .u32 (rotl a (amt (-2))) (rotl a (amt (-13)))) (rotl a (amt (-22))) + bits .xor .u32 (bits .xor .u32 (bits .and .u32 a b1) (bits .and .u32 a b2)) (bits .and .u32 b1 b2)) % 4294967296
def roundB : List Int → Int → Int → List Int
  | [b0, b1, b2, b3, b4, b5, b6, b7], k, w => [(roundT b4 b5 b6 b7 k w + roundU b0 b1 b2) % 4294967296, b0, b1, b2, (b3 + roundT b4 b5 b6 b7 k w) % 4294967296, b4, b5, b6]
  | l, _, _ => l
def rounds (K W b : List Int) (k : Nat) : List Int := (List.range k).foldl (fun b i => roundB b (K.getD i 0) (W.getD i 0)) b
theorem rounds_succ (K W b : List Int) (k : Nat) : rounds K W b (k + 1) = roundB (rounds K W b k) (K.getD k 0) (W.getD k 0) := by simp [rounds, List.range_succ]
theorem eight {l : List Int} (h : l.length = 8) : ∃ a b c d e f g i, l = [a, b, c, d, e, f, g, i] := by
  match l, h with
  | [a, b, c, d, e, f, g, i], _ => exact ⟨a, b, c, d, e, f, g, i, rfl⟩
theorem roundB_len {l : List Int} (h : l.length = 8) (k w : Int) : (roundB l k w).length = 8 := by
  obtain ⟨a, b, c, d, e, f, g, i, rfl⟩ := eight h
  rfl
theorem roundB_all {l : List Int} (h : l.length = 8) (hl : AllU l) (k w : Int) : AllU (roundB l k w) := by
  obtain ⟨a, b, c, d, e, f, g, i, rfl⟩ := eight h
  intro z hz
  simp only [roundB, List.mem_cons, List.not_mem_nil, or_false] at hz
  rcases hz with rfl | rfl | rfl | rfl | rfl | rfl | rfl | rfl
  · exact modU _
  · exact hl _ (by simp)
  · exact hl _ (by simp)
  · exact hl _ (by simp)
  · exact modU _
  · exact hl _ (by simp)
  · exact hl _ (by simp)
  · exact hl _ (by simp)
theorem rounds_ok {K W b : List Int} (h : b.length = 8) (hb : AllU b) (k : Nat) : (rounds K W b k).length = 8 ∧ AllU (rounds K W b k) := by
  induction k with
  | zero => exact ⟨h, hb⟩
  | succ k ih => rw [rounds_succ]; exact ⟨roundB_len ih.1 _ _, roundB_all ih.1 ih.2 _ _⟩
/-- What is added at the end. -/
def addH (h b : List Int) (k : Nat) : List Int := (List.range k).foldl (fun l i => l.set i ((l.getD i 0 + b.getD i 0) % 4294967296)) h
theorem addH_succ (h b : List Int) (k : Nat) : addH h b (k + 1) = (addH h b k).set k (((addH h b k).getD k 0 + b.getD k 0) % 4294967296) := by simp [addH, List.range_succ]
theorem addH_len (h b : List Int) (k : Nat) : (addH h b k).length = h.length := by
  induction k with
  | zero => simp [addH]
  | succ k ih => rw [addH_succ, List.length_set, ih]
theorem addH_all {h b : List Int} (hh : AllU h) (k : Nat) : AllU (addH h b k) := by
  induction k with
  | zero => exact hh
  | succ k ih => rw [addH_succ]; exact ih.set _ (modU _)
/-- A block's turn. -/
def turnL (h b K : List Int) (s : List UInt8) : List Int := addH h (rounds K (wOn (wIn s 16) 48) b 64) 8
/-- The words at first, and the numbers of the rounds. -/
def hash0 : List Int := [0x6a09e667, 0xbb67ae85, 0x3c6ef372, 0xa54ff53a, 0x510e527f, 0x9b05688c, 0x1f83d9ab, 0x5be0cd19]
def hashK : List Int := [0x428a2f98, 0x71374491, 0xb5c0fbcf, 0xe9b5dba5, 0x3956c25b, 0x59f111f1, 0x923f82a4, 0xab1c5ed5,
  0xd807aa98, 0x12835b01, 0x243185be, 0x550c7dc3, 0x72be5d74, 0x80deb1fe, 0x9bdc06a7, 0xc19bf174,
  0xe49b69c1, 0xefbe4786, 0x0fc19dc6, 0x240ca1cc, 0x2de92c6f, 0x4a7484aa, 0x5cb0a9dc, 0x76f988da,
  0x983e5152, 0xa831c66d, 0xb00327c8, 0xbf597fc7, 0xc6e00bf3, 0xd5a79147, 0x06ca6351, 0x14292967,
  0x27b70a85, 0x2e1b2138, 0x4d2c6dfc, 0x53380d13, 0x650a7354, 0x766a0abb, 0x81c2c92e, 0x92722c85,
  0xa2bfe8a1, 0xa81a664b, 0xc24b8b70, 0xc76c51a3, 0xd192e819, 0xd6990624, 0xf40e3585, 0x106aa070,
  0x19a4c116, 0x1e376c08, 0x2748774c, 0x34b0bcb5, 0x391c0cb3, 0x4ed8aa4a, 0x5b9cca4f, 0x682e6ff3,
  0x748f82ee, 0x78a5636f, 0x84c87814, 0x8cc70208, 0x90befffa, 0xa4506ceb, 0xbef9a3f7, 0xc67178f2]
theorem turnL_len {h b K : List Int} {s : List UInt8} : (turnL h b K s).length = h.length := addH_len _ _ _
theorem turnL_all {h b K : List Int} {s : List UInt8} (hh : AllU h) : AllU (turnL h b K s) := addH_all hh _
/-- So many blocks of a text. -/
def hashN : Nat → List Int → List UInt8 → List Int
  | 0, h, _ => h
  | n + 1, h, s => hashN n (turnL h h hashK (s.take 64)) (s.drop 64)
theorem hashN_ok {h : List Int} (h8 : h.length = 8) (hh : AllU h) (n : Nat) (s : List UInt8) : (hashN n h s).length = 8 ∧ AllU (hashN n h s) := by
  induction n generalizing h s with
  | zero => exact ⟨h8, hh⟩
  | succ n ih => exact ih (turnL_len.trans h8) (turnL_all hh) _
theorem hashN_snoc (n : Nat) (h : List Int) (s : List UInt8) : hashN (n + 1) h s = turnL (hashN n h s) (hashN n h s) hashK ((s.drop (64 * n)).take 64) := by
  induction n generalizing h s with
  | zero => simp [hashN]
  | succ n ih =>
    rw [hashN, ih]
    have e : (s.drop 64).drop (64 * n) = s.drop (64 * (n + 1)) := by rw [List.drop_drop]; congr 1; omega
    rw [e]
    rfl
/-- What stands behind a text: as many noughts as make whole blocks of it all, and how long it was. -/
def padB (rest : List UInt8) (n : Nat) : List UInt8 := rest ++ 128 :: (List.replicate ((119 - rest.length % 64) % 64) 0 ++ beB (8 * n) 8)
def outL (h : List Int) : List UInt8 := h.flatMap fun n => beB n.toNat 4
/-- A text's hash. -/
def shaL (s : List UInt8) : List UInt8 :=
  let rest := s.drop (64 * (s.length / 64))
  outL (hashN ((padB rest s.length).length / 64) (hashN (s.length / 64) hash0 s) (padB rest s.length))
theorem hash0_ok : hash0.length = 8 ∧ AllU hash0 := by
  refine ⟨by decide, ?_⟩
  intro z hz
  have : ∀ z ∈ hash0, 0 ≤ z ∧ z < 4294967296 := by decide
  exact this z hz
theorem hashK_ok : hashK.length = 64 ∧ AllU hashK := by
  refine ⟨by decide, ?_⟩
  intro z hz
  have : ∀ z ∈ hashK, 0 ≤ z ∧ z < 4294967296 := by decide
  exact this z hz
theorem outL_len {h : List Int} : (outL h).length = 4 * h.length := by
  induction h with
  | nil => rfl
  | cons a r ih =>
    unfold outL at ih ⊢
    rw [List.flatMap_cons, List.length_append, ih, beB_len, List.length_cons]
    omega
theorem shaL_len (s : List UInt8) : (shaL s).length = 32 := by
  unfold shaL
  rw [outL_len, (hashN_ok (hashN_ok hash0_ok.1 hash0_ok.2 _ _).1 (hashN_ok hash0_ok.1 hash0_ok.2 _ _).2 _ _).1]
theorem padB_len (rest : List UInt8) (n : Nat) (h : rest.length < 64) : 64 ∣ (padB rest n).length ∧ (padB rest n).length ≤ 128 := by
  unfold padB
  simp only [List.length_append, List.length_cons, List.length_replicate, beB_len]
  omega
end Go.Proofs.YtdfgmieinbmfkaaGreat
