/-
  A record that is added: what Add does, and what it has on the way.
-/
import Derived.Test.YtafgohnpnaiomaaLogH
import Derived.Test.YtafgohnpnaiomaaLogA
import Derived.Test.YtafgohnpnaiomaaKeptI
import Derived.Test.YtafgohnpnaiomaaTakeT
namespace Go.Proofs.Ytafgohnpnaiomaa
open Go Go.RowKit

def Lp.sec (p : Lp) : ByteArray := str (closeL p.body)
/-- The first j sectors, written one behind the other till one is refused. -/
def writeB (d : Dk) (a : Nat) (l : List ByteArray) : Nat → Dk × Int
  | 0 => (d, 0)
  | j + 1 => if (writeB d a l j).2 ≠ 0 then writeB d a l j else (writeB d a l j).1.write ((a + j : Nat) : Int) (l.getD j ByteArray.empty)
theorem writeB_stop {d : Dk} {a : Nat} {l : List ByteArray} {j m : Nat} (h : (writeB d a l j).2 ≠ 0) (hm : j ≤ m) : writeB d a l m = writeB d a l j := by
  induction m with
  | zero => obtain rfl : j = 0 := by omega
            rfl
  | succ m ih =>
    by_cases e : j = m + 1
    · rw [e]
    · rw [writeB, ih (by omega), if_pos h]
theorem writeB_same (d : Dk) (a : Nat) (l : List ByteArray) (hl : d.waits.length = d.lasts.length) (j : Nat) :
    (writeB d a l j).1.lasts = d.lasts ∧ (writeB d a l j).1.waits.length = d.waits.length ∧ (writeB d a l j).1.pend ≤ d.pend + j := by
  induction j with
  | zero => exact ⟨rfl, rfl, by simp [writeB]⟩
  | succ j ih =>
    rw [writeB]
    split
    · exact ⟨ih.1, ih.2.1, by omega⟩
    · refine ⟨(write_lasts _ _ _).trans ih.1, (write_waits _ _ _).trans ih.2.1, ?_⟩
      have h := write_pend (writeB d a l j).1 ((a + j : Nat) : Int) (l.getD j ByteArray.empty) (by rw [ih.2.1, ih.1, hl])
      omega
/-- A record's sectors. -/
def secsG (g : Lg) (text : List UInt8) : List ByteArray := (cutG text g.epoch (g.salt + 1) g.last).map Lp.sec
theorem secsG_len (g : Lg) (text : List UInt8) : (secsG g text).length = partsOf text.length := by rw [secsG, List.length_map, cutG_len]
/-- What is written of a record. -/
def wroteG (d : Dk) (g : Lg) (text : List UInt8) : Dk × Int := writeB d (g.from_ + g.used) (secsG g text) (partsOf text.length)
/-- What Add does. -/
def addG (d : Dk) (g : Lg) (s : ByteArray) : Dk × Lg × Int :=
  if g.broken then (d, g, 11) else if 1024 < s.size then (d, g, 3) else if g.sectors - g.used < partsOf s.size ∨ g.salt = 18446744073709551615 then (d, g, 6) else
  if (wroteG d g s.data.toList).2 ≠ 0 then ((wroteG d g s.data.toList).1, { g with broken := true }, (wroteG d g s.data.toList).2) else
  if (wroteG d g s.data.toList).1.sync.2 ≠ 0 then ((wroteG d g s.data.toList).1.sync.1, { g with broken := true }, (wroteG d g s.data.toList).1.sync.2) else
  ((wroteG d g s.data.toList).1.sync.1, { g with salt := g.salt + 1, last := g.salt + 1, broken := false, l := g.l ++ [s], used := g.used + partsOf s.size }, 0)

/-- What Add leaves. -/
structure AddLeft (w w' : World) (p b : Nat) (d : Dk) (g : Lg) (F : List Nat) (v : Value) : Prop where
  ex : ∃ F' v', DiskAt w' p d F' ∧ (∀ q ∈ F', q ∈ F ∨ w.heap.size ≤ q) ∧ Blk w' b 132 (g.cells p v') ∧ Own w' 9 1 v' g.l.length (strs g.l) ∧
    (∀ q, v'.ownBlock = some q → v.ownBlock = some q ∨ w.heap.size ≤ q) ∧ (∀ q, v'.ownBlock = some q → q ∉ F')
  upd : Upd (fun q => q = b ∨ q ∈ F ∨ v.ownBlock = some q) w w'
/-- What Add has behind some of its writes. -/
structure Adding (w wr : World) (p b : Nat) (d : Dk) (g : Lg) (F F' : List Nat) (v pv : Value) (l : List Lp) : Prop where
  disk : DiskAt wr p d F'
  sub : ∀ q ∈ F', q ∈ F ∨ w.heap.size ≤ q
  log : Blk wr b 132 (g.cells p v)
  own : Own wr 9 1 v g.l.length (strs g.l)
  old : ∀ q, v.ownBlock = some q → q < w.heap.size
  sep : ∀ q, v.ownBlock = some q → q ∉ F'
  upd : Upd (fun q => q = b ∨ q ∈ F) w wr
  list : Own wr 135 6 pv l.length (partsG l)
theorem Adding.below {w w1 w2 : World} {p b : Nat} {d : Dk} {g : Lg} {F F' : List Nat} {v pv : Value} {l : List Lp} (h : Adding w w1 p b d g F F' v pv l) (hb : Below w1.heap.size w1 w2) : Adding w w2 p b d g F F' v pv l :=
  ⟨h.disk.below hb, h.sub, h.log.eqb (hb.block _ h.log.lt), h.own.eqb fun q hq => hb.block q (h.own.lt hq), h.old, h.sep, h.upd.then (Upd.of_below hb (fun _ => False)) (fun _ e => e.elim), h.list.eqb fun q hq => hb.block q (h.list.lt hq)⟩
theorem Adding.wrote {w w1 w2 : World} {p b : Nat} {d d2 : Dk} {g : Lg} {F F' F2 : List Nat} {v pv : Value} {l : List Lp} (h : Adding w w1 p b d g F F' v pv l) (hL : Left w1 w2 p d2 F' F2) : Adding w w2 p b d2 g F F2 v pv l := by
  have hs := h.upd.size
  refine ⟨hL.disk, fun q hq => ?_, h.log.upd hL.upd (h.disk.not_mem h.log (by decide) (by decide)), h.own.upd hL.upd h.sep, h.old, fun q hq hq2 => ?_, h.upd.then hL.upd (fun q e => (h.sub q e).imp .inr id), h.list.upd hL.upd fun q hq => h.disk.not_own h.list (by decide) (by decide) q hq⟩
  · rcases hL.sub q hq with e | e
    · exact h.sub q e
    · exact .inr (by omega)
  · rcases hL.sub q hq2 with e | e
    · exact h.sep q hq e
    · have := h.old q hq
      omega
theorem Adding.left {w wr : World} {p b : Nat} {d : Dk} {g : Lg} {F F' : List Nat} {v pv : Value} {l : List Lp} (h : Adding w wr p b d g F F' v pv l) : AddLeft w wr p b d g F v :=
  ⟨⟨F', v, h.disk, h.sub, h.log, h.own, fun _ hq => .inl hq, h.sep⟩, h.upd.mono (fun _ e => .inl (e.imp id .inl))⟩
end Go.Proofs.Ytafgohnpnaiomaa
