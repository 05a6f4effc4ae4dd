/-
  Plain: a key's own, a block enciphered, a text sealed and opened again.
-/
import Derived.Test.YtdfgmieinbmfkaaGreatShaM
namespace Go.Proofs.YtdfgmieinbmfkaaGreat
open Go Go.RowKit

/-! ### tags -/
/-- A key's block, each byte xored. -/
def padK (key : List UInt8) (by_ : UInt8) : List UInt8 := (key ++ List.replicate (64 - key.length) 0).map (· ^^^ by_)
def tagL (key text : List UInt8) : List UInt8 := shaL (padK key 0x5c ++ shaL (padK key 0x36 ++ text))
theorem padK_len {key : List UInt8} {b : UInt8} (h : key.length ≤ 64) : (padK key b).length = 64 := by
  unfold padK
  rw [List.length_map, List.length_append, List.length_replicate]
  omega
theorem tagL_len (key text : List UInt8) : (tagL key text).length = 32 := shaL_len _

/-! ### the cipher -/
def twU (b : UInt8) : UInt8 := (b <<< 1) ^^^ ((b >>> 7) * 27)
def rolU (b : UInt8) (k : Nat) : UInt8 := UInt8.ofNat ((b.toNat * 2 ^ k) % 256 + b.toNat / 2 ^ (8 - k))
/-- What goes through all bytes, and S so far. -/
structure BoxM where
  p : UInt8
  q : UInt8
  s : List UInt8
def BoxM.q1 (b : BoxM) : UInt8 := b.q ^^^ (b.q <<< 1)
def BoxM.q2 (b : BoxM) : UInt8 := b.q1 ^^^ (b.q1 <<< 2)
def BoxM.q3 (b : BoxM) : UInt8 := b.q2 ^^^ (b.q2 <<< 4)
def BoxM.next (b : BoxM) : BoxM :=
  ⟨b.p ^^^ twU b.p, b.q3 ^^^ ((b.q3 >>> 7) * 9), b.s.set b.p.toNat (b.q ^^^ rolU b.q 1 ^^^ rolU b.q 2 ^^^ rolU b.q 3 ^^^ rolU b.q 4 ^^^ 0x63)⟩
def boxAt : Nat → BoxM
  | 0 => ⟨1, 1, List.replicate 256 0⟩
  | n + 1 => (boxAt n).next
def boxL : List UInt8 := (boxAt 255).s.set 0 0x63
theorem boxAt_len (n : Nat) : (boxAt n).s.length = 256 := by
  induction n with
  | zero => exact List.length_replicate
  | succ n ih => exact List.length_set.trans ih
theorem boxL_len : boxL.length = 256 := by rw [boxL, List.length_set, boxAt_len]
/-- The word that a word of the schedule is made with. -/
def wordK (i : Nat) (power : UInt8) (t : List UInt8) : List UInt8 :=
  let t1 := if i % 8 = 0 then [t.getD 1 0, t.getD 2 0, t.getD 3 0, t.getD 0 0] else t
  let t2 := if i % 4 = 0 then t1.map fun b => boxL.getD b.toNat 0 else t1
  if i % 8 = 0 then t2.set 0 (t2.getD 0 0 ^^^ power) else t2
/-- The schedule, so many words of it behind the first eight: its bytes, and the power. -/
def schedAt (key : List UInt8) : Nat → List UInt8 × UInt8
  | 0 => (key, 1)
  | n + 1 =>
    let w := (schedAt key n).1
    let t := wordK (n + 8) (schedAt key n).2 (w.drop (4 * (n + 7)))
    (w ++ (List.range 4).map (fun k => w.getD (4 * n + k) 0 ^^^ t.getD k 0), if (n + 8) % 8 = 0 then twU (schedAt key n).2 else (schedAt key n).2)
def schedL (key : List UInt8) : List UInt8 := (schedAt key 52).1
theorem schedAt_len {key : List UInt8} (h : key.length = 32) (n : Nat) : (schedAt key n).1.length = 32 + 4 * n := by
  induction n with
  | zero => exact h
  | succ n ih =>
    show (_ ++ _ : List UInt8).length = _
    rw [List.length_append, ih]
    simp
    omega
theorem schedL_len {key : List UInt8} (h : key.length = 32) : (schedL key).length = 240 := schedAt_len h 52
/-- A round's words xored. -/
def addK (w b : List UInt8) (round : Nat) : List UInt8 := (List.range 16).map fun i => b.getD i 0 ^^^ w.getD (16 * round + i) 0
/-- A block's columns mixed. -/
def mixK (b : List UInt8) : List UInt8 := (List.range 16).map fun i =>
  let n := fun k => b.getD (i / 4 * 4 + (i + k) % 4) 0
  twU (n 0) ^^^ twU (n 1) ^^^ n 1 ^^^ n 2 ^^^ n 3
def subK (b : List UInt8) : List UInt8 := (List.range 16).map fun i => boxL.getD (b.getD ((i + 4 * (i % 4)) % 16) 0).toNat 0
/-- So many rounds. -/
def roundK (w : List UInt8) : Nat → List UInt8 → List UInt8
  | 0, b => addK w b 0
  | r + 1, b => addK w (if r + 1 < 14 then mixK (subK (roundK w r b)) else subK (roundK w r b)) (r + 1)
def blockL (key b : List UInt8) : List UInt8 := roundK (schedL key) 14 b
theorem addK_len (w b : List UInt8) (r : Nat) : (addK w b r).length = 16 := by simp [addK]
theorem roundK_len (w b : List UInt8) (r : Nat) : (roundK w r b).length = 16 := by cases r <;> exact addK_len _ _ _
theorem blockL_len (key b : List UInt8) : (blockL key b).length = 16 := roundK_len _ _ _
/-- The stream's byte. -/
def streamAt (key nonce : List UInt8) (i : Nat) : UInt8 := (blockL key (nonce ++ beB (i / 16) 4)).getD (i % 16) 0
/-- A text, each byte xored with the stream's. -/
def streamL (key nonce text : List UInt8) : List UInt8 := text.mapIdx fun i b => b ^^^ streamAt key nonce i
theorem streamL_len (key nonce text : List UInt8) : (streamL key nonce text).length = text.length := by simp [streamL]
theorem streamL_back (key nonce text : List UInt8) : streamL key nonce (streamL key nonce text) = text := by
  unfold streamL
  refine List.ext_getElem (by simp) fun i h1 h2 => ?_
  simp only [List.getElem_mapIdx]
  rw [UInt8.xor_assoc, UInt8.xor_self, UInt8.xor_zero]

/-! ### seals -/
def numbersB (key boot n : Nat) : List UInt8 := putN key ++ (putN boot ++ putN n)
def dataL (k : List UInt8) (boot n : Nat) (text : List UInt8) : List UInt8 := streamL (tagL k [101, 110, 99]) (beB boot 4 ++ beB n 8) text
def stampL (k : List UInt8) (key boot n : Nat) (about data : List UInt8) : List UInt8 := tagL (tagL k [109, 97, 99]) (numbersB key boot n ++ (textN about ++ textN data))
/-- What a text is sealed to. -/
def sealB (k : List UInt8) (key boot n : Nat) (about text : List UInt8) : List UInt8 :=
  numbersB key boot n ++ (textN (dataL k boot n text) ++ stampL k key boot n about (dataL k boot n text))
/-- A key of the ring. -/
def ringK (master : List UInt8) (i : Nat) : List UInt8 := tagL master ([114, 105, 110, 103] ++ beB i 8)
theorem dataL_len (k : List UInt8) (boot n : Nat) (text : List UInt8) : (dataL k boot n text).length = text.length := streamL_len _ _ _
theorem dataL_back (k : List UInt8) (boot n : Nat) (text : List UInt8) : dataL k boot n (dataL k boot n text) = text := streamL_back _ _ _
theorem sealB_len {k : List UInt8} {key boot n : Nat} {about text : List UInt8} (hk : key ≤ 1048576) (hb : boot < 4294967296) (hn : n < 18446744073709551616) (ht : text.length ≤ 8192) : (sealB k key boot n about text).length ≤ text.length + 52 := by
  have h1 : sizeN key ≤ 3 := (sizeN_le 2 key).2 (by omega)
  have h2 : sizeN boot ≤ 5 := (sizeN_le 4 boot).2 (by omega)
  have h3 := size_u64 hn
  have h4 := sizeN_small (n := text.length) (by omega)
  unfold sealB numbersB
  simp only [List.length_append, putN_len, textN_len, dataL_len, stampL, tagL_len]
  omega
end Go.Proofs.YtdfgmieinbmfkaaGreat
