/-
  Plain: texts within bytes; paths, operations and batches, and their bytes: no program in sight.
-/
import Derived.Test.YtdfgmieinbmfkaaGreatNum
namespace Go.Proofs.YtdfgmieinbmfkaaGreat
open Go

/-- A text's bytes: its length ahead. -/
def textN (t : List UInt8) : List UInt8 := putN t.length ++ t
/-- Num. -/
def InS.num (x : InS) : Nat × InS :=
  if x.fail = 0 then (if (numL x.rest).2.2 = 0 then ((numL x.rest).1, ⟨x.rest.drop (numL x.rest).2.1, x.read + (numL x.rest).2.1, 0⟩) else (0, ⟨x.rest, x.read, (numL x.rest).2.2⟩)) else (0, x)
/-- The failure of a text. -/
def textE (s : List UInt8) (m : Nat) : Int := if (boundL s m).2.2 ≠ 0 then (boundL s m).2.2 else if s.length - (boundL s m).2.1 < (boundL s m).1 then 7 else 0
/-- Text. -/
def InS.text (x : InS) (m : Nat) : List UInt8 × InS :=
  if x.fail = 0 then (if textE x.rest m = 0 then ((x.rest.drop (boundL x.rest m).2.1).take (boundL x.rest m).1, ⟨x.rest.drop ((boundL x.rest m).2.1 + (boundL x.rest m).1), x.read + ((boundL x.rest m).2.1 + (boundL x.rest m).1), 0⟩) else ([], ⟨x.rest, x.read, textE x.rest m⟩)) else ([], x)
/-- Byte. -/
def InS.byte (x : InS) : UInt8 × InS :=
  if x.fail = 0 then (if x.rest = [] then (0, ⟨x.rest, x.read, 7⟩) else (x.rest.getD 0 0, ⟨x.rest.drop 1, x.read + 1, 0⟩)) else (0, x)

theorem numI_put (n k : Nat) (hn : n < 18446744073709551616) (r : List UInt8) : (⟨putN n ++ r, k, 0⟩ : InS).num = (n, ⟨r, k + sizeN n, 0⟩) := by
  unfold InS.num
  simp only [num_put n hn r, if_pos]
  rw [← putN_len n, List.drop_left]
theorem text_put (t : List UInt8) (m k : Nat) (ht : t.length ≤ m) (hn : t.length < 18446744073709551616) (r : List UInt8) : (⟨textN t ++ r, k, 0⟩ : InS).text m = (t, ⟨r, k + (textN t).length, 0⟩) := by
  have h1 : boundL (textN t ++ r) m = (t.length, sizeN t.length, 0) := by
    unfold textN
    rw [List.append_assoc]
    exact bound_put _ _ hn ht _
  have hl : (textN t).length = sizeN t.length + t.length := by unfold textN; rw [List.length_append, putN_len]
  unfold InS.text
  simp only
  rw [if_pos trivial, if_pos (by unfold textE; rw [h1]; simp only; rw [if_neg (by simp), if_neg (by rw [List.length_append, hl]; omega)]), h1]
  simp only
  rw [← hl, List.drop_left]
  have e : (textN t ++ r).drop (sizeN t.length) = t ++ r := by
    unfold textN
    rw [List.append_assoc, ← putN_len, List.drop_left]
  rw [e, List.take_left]
theorem byte_cons (b : UInt8) (k : Nat) (r : List UInt8) : (⟨b :: r, k, 0⟩ : InS).byte = (b, ⟨r, k + 1, 0⟩) := by
  unfold InS.byte
  simp
theorem textN_len (t : List UInt8) : (textN t).length = sizeN t.length + t.length := by unfold textN; rw [List.length_append, putN_len]
theorem sizeN_small {n : Nat} (h : n < 16384) : sizeN n ≤ 2 := (sizeN_le 1 n).2 (by simpa using h)

/-! ### paths -/
def okName (s : List UInt8) : Bool := decide (1 ≤ s.length ∧ s.length ≤ 8) && s.all fun c => decide (97 ≤ c.toNat ∧ c.toNat ≤ 122)
def okKey (s : List UInt8) : Bool := decide (1 ≤ s.length ∧ s.length ≤ 24) && s.all fun c => decide (c ≠ 0 ∧ c ≠ 47)
/-- What stands ahead of the first '/'. -/
def headP (p : List UInt8) : List UInt8 := p.takeWhile (· != 47)
/-- A path's mount and key. -/
def cutP (p : List UInt8) : List UInt8 × List UInt8 × Bool :=
  if (headP p).length < p.length ∧ okName (headP p) = true ∧ okKey (p.drop ((headP p).length + 1)) = true then (headP p, p.drop ((headP p).length + 1), true) else ([], [], false)
def okPath (p : List UInt8) : Bool := (cutP p).2.2
theorem okPath_len {p : List UInt8} (h : okPath p = true) : p.length ≤ 33 := by
  unfold okPath cutP at h
  split at h
  · rename_i h1
    obtain ⟨h1, h2, h3⟩ := h1
    unfold okName at h2
    unfold okKey at h3
    simp only [Bool.and_eq_true, decide_eq_true_eq, List.length_drop] at h2 h3
    omega
  · simp at h

/-! ### operations -/
/-- An operation. -/
structure OpM where
  kind : UInt8
  path : List UInt8
  value : List UInt8
/-- Why an operation may not be. -/
def opErr (o : OpM) : Int := if o.kind ≠ 1 ∧ o.kind ≠ 2 then 10 else if okPath o.path = false then 20 else if 32 < o.value.length then 3 else if o.kind = 2 ∧ o.value ≠ [] then 1 else 0
def opsErr : List OpM → Int
  | [] => 0
  | o :: r => if opErr o ≠ 0 then opErr o else opsErr r
/-- Why a batch may not be. -/
def batErr (i e : Int) (l : List OpM) : Int := if i < 1 ∨ 4611686018427387904 < i ∨ e < 1 then 1 else if 4 < l.length then 3 else opsErr l
theorem opsErr_zero {l : List OpM} : opsErr l = 0 ↔ ∀ o ∈ l, opErr o = 0 := by
  induction l with
  | nil => simp [opsErr]
  | cons o r ih =>
    unfold opsErr
    by_cases h : opErr o = 0
    · rw [if_neg (by simp [h]), ih]; simp [h]
    · rw [if_pos h]; simp [h]
theorem batErr_zero {i e : Int} {l : List OpM} (h : batErr i e l = 0) : 1 ≤ i ∧ i ≤ 4611686018427387904 ∧ 1 ≤ e ∧ l.length ≤ 4 ∧ ∀ o ∈ l, opErr o = 0 := by
  unfold batErr at h
  split at h
  · simp at h
  · split at h
    · simp at h
    · exact ⟨by omega, by omega, by omega, by omega, opsErr_zero.1 h⟩
theorem opErr_zero {o : OpM} (h : opErr o = 0) : (o.kind = 1 ∨ o.kind = 2) ∧ okPath o.path = true ∧ o.path.length ≤ 33 ∧ o.value.length ≤ 32 ∧ (o.kind = 2 → o.value = []) := by
  unfold opErr at h
  split at h
  · simp at h
  · split at h
    · simp at h
    · split at h
      · simp at h
      · split at h
        · simp at h
        · rename_i h1 h2 h3 h4
          have hp : okPath o.path = true := by simpa using h2
          refine ⟨?_, hp, okPath_len hp, by omega, fun hk => ?_⟩
          · apply Classical.byContradiction
            intro hc
            exact h1 ⟨fun e => hc (.inl e), fun e => hc (.inr e)⟩
          · apply Classical.byContradiction
            intro hc
            exact h4 ⟨hk, hc⟩
/-- An operation's bytes. -/
def opB (o : OpM) : List UInt8 := o.kind :: (textN o.path ++ if o.kind = 1 then textN o.value else [])
def opsB (l : List OpM) : List UInt8 := l.flatMap opB
/-- A batch's bytes. -/
def batB (i e : Nat) (l : List OpM) : List UInt8 := putN i ++ (putN e ++ (putN l.length ++ opsB l))
theorem opB_len {o : OpM} (h : opErr o = 0) : (opB o).length ≤ 70 := by
  obtain ⟨-, -, h1, h2, -⟩ := opErr_zero h
  have a := sizeN_small (n := o.path.length) (by omega)
  have b := sizeN_small (n := o.value.length) (by omega)
  unfold opB
  rw [List.length_cons, List.length_append, textN_len]
  split
  · rw [textN_len]; omega
  · simp; omega
theorem opsB_len {l : List OpM} (h : ∀ o ∈ l, opErr o = 0) : (opsB l).length ≤ 70 * l.length := by
  induction l with
  | nil => simp [opsB]
  | cons o r ih =>
    have h1 := opB_len (h o (by simp))
    have h2 := ih fun p hp => h p (by simp [hp])
    have e : opsB (o :: r) = opB o ++ opsB r := rfl
    rw [e, List.length_append, List.length_cons]
    omega
theorem batB_len {i e : Nat} {l : List OpM} (hi : i < 18446744073709551616) (he : e < 18446744073709551616) (hl : l.length ≤ 4) (h : ∀ o ∈ l, opErr o = 0) : (batB i e l).length ≤ 310 := by
  have h1 := size_u64 hi
  have h2 := size_u64 he
  have h3 := sizeN_small (n := l.length) (by omega)
  have h4 := opsB_len h
  unfold batB
  rw [List.length_append, List.length_append, List.length_append, putN_len, putN_len, putN_len]
  omega

/-! ### pairs -/
/-- A path and its value. -/
abbrev PairM := List UInt8 × List UInt8
def pairB (p : PairM) : List UInt8 := textN p.1 ++ textN p.2
/-- The text of pairs. -/
def pairsB (l : List PairM) : List UInt8 := putN l.length ++ l.flatMap pairB
theorem pairs_len {l : List PairM} {a b : Nat} (ha : a < 16384) (hb : b < 16384) (h : ∀ p ∈ l, p.1.length ≤ a ∧ p.2.length ≤ b) : (l.flatMap pairB).length ≤ (a + b + 4) * l.length := by
  induction l with
  | nil => simp
  | cons p r ih =>
    obtain ⟨h1, h2⟩ := h p (by simp)
    have h3 := ih fun q hq => h q (by simp [hq])
    have c := sizeN_small (n := p.1.length) (by omega)
    have d := sizeN_small (n := p.2.length) (by omega)
    have e : (pairB p).length ≤ a + b + 4 := by
      unfold pairB
      rw [List.length_append, textN_len, textN_len]
      omega
    rw [List.flatMap_cons, List.length_append, List.length_cons, Nat.mul_succ]
    omega
end Go.Proofs.YtdfgmieinbmfkaaGreat
