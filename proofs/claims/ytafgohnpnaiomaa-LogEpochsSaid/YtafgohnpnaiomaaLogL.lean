/-
  Open of a log: what it finds (the model), and the walk with the power on.
-/
import Derived.Test.YtafgohnpnaiomaaLogK
import Derived.Test.YtafgohnpnaiomaaLogE
namespace Go.Proofs.Ytafgohnpnaiomaa
open Go Go.RowKit

/-- What is known behind some sectors. -/
structure ScanSt where
  l : List Lp
  row : Bool
  salt : Nat
  bad : Bool
def scanStep (st : ScanSt) (s : List UInt8) : ScanSt :=
  if st.bad then st else
  if (lookL s).2 = 2 then { st with bad := true } else
  if (lookL s).2 = 1 then
    { l := if st.row && (readG (lookL s).1).2 then st.l ++ [(readG (lookL s).1).1] else st.l, row := st.row && (readG (lookL s).1).2, salt := max st.salt (readG (lookL s).1).1.salt, bad := false }
  else { st with row := false }
def scanAt (d : Dk) (a : Nat) (k : Nat) : ScanSt := ((List.range k).map fun i => (d.now (a + i)).data.toList).foldl scanStep ⟨[], true, 0, false⟩
theorem scanAt_succ (d : Dk) (a k : Nat) : scanAt d a (k + 1) = scanStep (scanAt d a k) (d.now (a + k)).data.toList := by
  simp [scanAt, List.range_succ]
theorem scanAt_bad (d : Dk) (a k m : Nat) (h : k ≤ m) (hb : (scanAt d a k).bad = true) : scanAt d a m = scanAt d a k := by
  induction m with
  | zero => obtain rfl : k = 0 := by omega
            rfl
  | succ m ih =>
    by_cases hk : k = m + 1
    · rw [hk]
    · rw [scanAt_succ, ih (by omega), scanStep, if_pos hb]
theorem scanAt_len (d : Dk) (a k : Nat) : (scanAt d a k).l.length ≤ k := by
  induction k with
  | zero => simp [scanAt]
  | succ k ih =>
    rw [scanAt_succ, scanStep]
    split
    · omega
    · split
      · simp only; omega
      · split
        · simp only
          split
          · simp; omega
          · omega
        · simp only; omega
theorem leN_lt8 (l : List UInt8) : leN (l.take 8) < 18446744073709551616 := by
  have h := leN_lt (l.take 8)
  have h8 : (l.take 8).length ≤ 8 := by rw [List.length_take]; omega
  have h2 : 2 ^ (8 * (l.take 8).length) ≤ 2 ^ 64 := Nat.pow_le_pow_right (by decide) (by omega)
  have h3 : (2 : Nat) ^ 64 = 18446744073709551616 := by decide
  omega
theorem readG_ok (b : List UInt8) : (readG b).1.text.length ≤ 32 ∧ (readG b).1.all < 256 ∧ (readG b).1.salt < 18446744073709551616 := by
  have h8 := leN_lt8 (b.drop 8)
  have h25 := (b.getD 25 0).toNat_lt
  unfold readG
  split
  · exact ⟨by simp, h25, h8⟩
  · refine ⟨?_, h25, h8⟩
    simp only [List.length_take]
    omega
theorem scanAt_ok (d : Dk) (a k : Nat) : (∀ q ∈ (scanAt d a k).l, q.text.length ≤ 32 ∧ q.all < 256 ∧ q.salt < 18446744073709551616) ∧ (scanAt d a k).salt < 18446744073709551616 := by
  induction k with
  | zero => simp [scanAt]
  | succ k ih =>
    rw [scanAt_succ, scanStep]
    split
    · exact ih
    · split
      · exact ih
      · split
        · have h := readG_ok (lookL (d.now (a + k)).data.toList).1
          refine ⟨?_, ?_⟩
          · simp only
            split
            · intro q hq
              rcases List.mem_append.1 hq with hq | hq
              · exact ih.1 q hq
              · rw [List.mem_singleton.1 hq]; exact h
            · exact ih.1
          · simp only
            have := h.2.2
            have := ih.2
            omega
        · exact ih
/-- The records one behind the other. -/
def loopG : Nat → Lg → List Lp → Lg
  | 0, g, _ => g
  | n + 1, g, row =>
    if (firstG g.epoch g.last row).2 then
      loopG n { g with l := g.l ++ [str (firstG g.epoch g.last row).1], last := (row.headD ⟨0, 0, 0, 0, 0, []⟩).salt, used := g.used + partsOf (firstG g.epoch g.last row).1.length } (row.drop (partsOf (firstG g.epoch g.last row).1.length))
    else g
/-- What Open finds on a disk that has power. -/
def openG (d : Dk) (f n e : Nat) : Option Lg :=
  if (scanAt d f n).bad then none else
  some (loopG ((scanAt d f n).l.length + 1) ⟨f, n, e, [], 0, 0, (scanAt d f n).salt, false⟩ (scanAt d f n).l)
theorem lp_one (p : Lp) : ∀ u ∈ (#[.int .u64 p.epoch, .int .u64 p.salt, .int .u64 p.ahead, .int .i64 p.number, .int .i64 p.all, .string (str p.text)] : Array Value), u.oneCell' = true := by
  simp [Value.oneCell']

/-- What Open has behind some sectors. -/
structure ScanLeft (w w' : World) (p b f n e : Nat) (v : Value) (st : ScanSt) : Prop where
  list : Own w' 135 6 v st.l.length (partsG st.l)
  new : ∀ q, v.ownBlock = some q → w.heap.size ≤ q
  log : Blk w' b 132 (Lg.cells p (.slice none 0 0) ⟨f, n, e, [], 0, 0, st.salt, false⟩)
  upd : Upd (fun _ => False) w w'
  nb : w.heap.size ≤ b
section
variable {w w1 w2 : World} {p b f n e : Nat} {v v2 : Value} {st : ScanSt}
theorem ScanLeft.below (h : ScanLeft w w1 p b f n e v st) (hb : Below w1.heap.size w1 w2) : ScanLeft w w2 p b f n e v st :=
  ⟨h.list.eqb fun q hq => hb.block q (h.list.lt hq), h.new, h.log.eqb (hb.block _ h.log.lt), h.upd.then (Upd.of_below hb (fun _ => False)) (fun _ e => e.elim), h.nb⟩
theorem ScanLeft.drew (h : ScanLeft w w1 p b f n e v st) : ScanLeft w w1.drew p b f n e v st := h.below (Below.refl _ _).drew
theorem ScanLeft.saw (h : ScanLeft w w1 p b f n e v st) (m : Nat) : ScanLeft w (w1.setCell ⟨b, 7, none⟩ (.int .u64 (m : Int))) p b f n e v { st with salt := m } := by
  refine ⟨h.list.far (h.list.ne_blk h.log (by decide)) _, h.new, ?_, h.upd.setCell (p := ⟨b, 7, none⟩) (.inr h.nb) _, h.nb⟩
  have := h.log.set_ 7 (.int .u64 (m : Int))
  simpa [Lg.cells] using this
theorem ScanLeft.app {pt : Lp} (h : ScanLeft w w1 p b f n e v st) (o : Obj) (hO2 : Own w2 135 6 v2 (st.l.length + 1) (partsG st.l ++ Lp.cells pt)) (hU2 : Upd (fun q => v.ownBlock = some q) (w1.alloc o) w2)
    (hl2 : v2.ownBlock = v.ownBlock ∨ v2.ownBlock = some (w1.alloc o).heap.size) : ScanLeft w w2 p b f n e v2 { st with l := st.l ++ [pt] } := by
  refine ⟨?_, fun q hq => ?_, (h.log.alloc o).upd hU2 (fun e => h.list.ne_blk h.log (by decide) e), (h.upd.alloc o).then hU2 (fun q e => .inr (h.new q e)), h.nb⟩
  · simpa [partsG] using hO2
  · rcases hl2 with e | e
    · exact h.new q (by rw [← e]; exact hq)
    · rw [e] at hq
      have h5 := Option.some.inj hq
      have := h.upd.size
      simp at h5
      omega
end
/-- What Open leaves. -/
structure OpenedG (w w' : World) (p : Nat) (o : Option Lg) (v : Value) : Prop where
  upd : Upd (fun _ => False) w w'
  bad : o = none → v = .pointer none
  ok : ∀ g, o = some g → ∃ b v1, v = .pointer (some ⟨b, 0, none⟩) ∧ Blk w' b 132 (g.cells p v1) ∧ Own w' 9 1 v1 g.l.length (strs g.l) ∧ w.heap.size ≤ b ∧ ∀ q, v1.ownBlock = some q → w.heap.size ≤ q
def openErrG (o : Option Lg) : Int := if o.isSome then 0 else 9
end Go.Proofs.Ytafgohnpnaiomaa
