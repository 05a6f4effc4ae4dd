/-
  A record that is put.
-/
import Derived.Test.YtafgohnpnaiomaaKeptG
namespace Go.Proofs.Ytafgohnpnaiomaa
open Go Go.RowKit

/-- A part's sector. -/
def Pt.sec (p : Pt) : ByteArray := str (closeL p.body)
/-- The first j parts, written one behind the other till one is refused. -/
def writeN (d : Dk) (a : Nat) (l : List Pt) : Nat → Dk × Int
  | 0 => (d, 0)
  | j + 1 => if (writeN d a l j).2 ≠ 0 then writeN d a l j else (writeN d a l j).1.write ((a + j : Nat) : Int) (l.getD j ⟨0, 0, 0, []⟩).sec
theorem writeN_stop {d : Dk} {a : Nat} {l : List Pt} {j m : Nat} (h : (writeN d a l j).2 ≠ 0) (hm : j ≤ m) : writeN d a l m = writeN d a l j := by
  induction m with
  | zero => obtain rfl : j = 0 := by omega
            rfl
  | succ m ih =>
    by_cases e : j = m + 1
    · rw [e]
    · rw [writeN, ih (by omega), if_pos h]
theorem push_pend (d : Dk) (i : Nat) (b : ByteArray) (hi : i < d.waits.length) : (d.push i b).pend = d.pend + 1 := by
  unfold Dk.push Dk.pend Dk.at_
  simp only
  generalize d.waits = l at *
  induction l generalizing i with
  | nil => simp at hi
  | cons x l ih =>
    cases i with
    | zero => simp; omega
    | succ i =>
      have h := ih i (by simpa using hi)
      simp only [List.getD_cons_succ] at h ⊢
      simp only [List.set_cons_succ, List.map_cons, List.sum_cons]
      omega
theorem write_pend (d : Dk) (i : Int) (b : ByteArray) (hl : d.waits.length = d.lasts.length) : (d.write i b).1.pend ≤ d.pend + 1 := by
  unfold Dk.write
  split
  · simp
  · split
    · rename_i h
      split
      · have hi : i.toNat < d.burn.1.waits.length := by
          rw [Dk.burn_waits, hl]
          simp only [Dk.there, Bool.and_eq_true, decide_eq_true_eq] at h
          omega
        rw [push_pend _ _ _ hi, Dk.burn_pend]
        omega
      · rw [Dk.burn_pend]; omega
    · simp
theorem write_lasts (d : Dk) (i : Int) (b : ByteArray) : (d.write i b).1.lasts = d.lasts := by
  unfold Dk.write
  split
  · rfl
  · split
    · split
      · exact Dk.burn_lasts d
      · exact Dk.burn_lasts d
    · rfl
theorem write_waits (d : Dk) (i : Int) (b : ByteArray) : (d.write i b).1.waits.length = d.waits.length := by
  unfold Dk.write
  split
  · rfl
  · split
    · split
      · simp [Dk.push, Dk.burn_waits]
      · rw [Dk.burn_waits]
    · rfl
theorem writeN_same (d : Dk) (a : Nat) (l : List Pt) (hl : d.waits.length = d.lasts.length) (j : Nat) :
    (writeN d a l j).1.lasts = d.lasts ∧ (writeN d a l j).1.waits.length = d.waits.length ∧ (writeN d a l j).1.pend ≤ d.pend + j := by
  induction j with
  | zero => exact ⟨rfl, rfl, by simp [writeN]⟩
  | succ j ih =>
    rw [writeN]
    split
    · exact ⟨ih.1, ih.2.1, by omega⟩
    · refine ⟨(write_lasts _ _ _).trans ih.1, (write_waits _ _ _).trans ih.2.1, ?_⟩
      have h := write_pend (writeN d a l j).1 ((a + j : Nat) : Int) (l.getD j ⟨0, 0, 0, []⟩).sec (by rw [ih.2.1, ih.1, hl])
      omega

/-- What Put does. -/
def putK (d : Dk) (k : Kp) (text : List UInt8) : Dk × Kp × Int :=
  if k.broken then (d, k, 11) else if 400 < text.length then (d, k, 3) else if k.seen = 18446744073709551615 then (d, k, 6) else
  if (writeN d (k.from_ + (1 - k.at_) * 10) (cutL text (k.seen + 1)) (allOf text.length)).2 ≠ 0 then
    ((writeN d (k.from_ + (1 - k.at_) * 10) (cutL text (k.seen + 1)) (allOf text.length)).1, { k with broken := true }, (writeN d (k.from_ + (1 - k.at_) * 10) (cutL text (k.seen + 1)) (allOf text.length)).2) else
  if (writeN d (k.from_ + (1 - k.at_) * 10) (cutL text (k.seen + 1)) (allOf text.length)).1.sync.2 ≠ 0 then
    ((writeN d (k.from_ + (1 - k.at_) * 10) (cutL text (k.seen + 1)) (allOf text.length)).1.sync.1, { k with broken := true }, (writeN d (k.from_ + (1 - k.at_) * 10) (cutL text (k.seen + 1)) (allOf text.length)).1.sync.2) else
  ((writeN d (k.from_ + (1 - k.at_) * 10) (cutL text (k.seen + 1)) (allOf text.length)).1.sync.1, { k with seen := k.seen + 1, text := text, gen := k.seen + 1, at_ := 1 - k.at_, broken := false }, 0)

/-- What Put leaves. -/
structure PutLeft (w w' : World) (p b : Nat) (d : Dk) (k : Kp) (F : List Nat) : Prop where
  disk : ∃ F', DiskAt w' p d F' ∧ ∀ q ∈ F', q ∈ F ∨ w.heap.size ≤ q
  kept : Blk w' b 120 (k.cells p)
  upd : Upd (fun q => q = b ∨ q ∈ F) w w'

set_option maxRecDepth 100000 in
set_option maxHeartbeats 800000 in
theorem Put_refused {w : World} {p b : Nat} {k : Kp} (hK : Blk w b 120 (k.cells p)) (s : ByteArray) (h : k.broken = true ∨ 400 < s.size ∨ k.seen = 18446744073709551615) :
    Calls Try.prog 29 #[.pointer (some ⟨b, 0, none⟩), .string s] w fun e w' => e = .returned (.int .i64 (if k.broken then 11 else if 400 < s.size then 3 else 6)) ∧ w = w' := by
  have hc := hK.cells7
  clear hK
  cases hb : k.broken
  · rw [hb] at hc
    by_cases h4 : 400 < s.size
    · rw [if_neg (by simp), if_pos h4]
      have h4' : (400 : Int) < (s.size : Int) := by omega
      clear h hb
      go_enter Try.func29, Try.ntmps29
      go_wp2
      go_ret
      exact ⟨rfl, rfl⟩
    · rw [if_neg (by simp), if_neg h4]
      have h5 : k.seen = 18446744073709551615 := by
        rcases h with h | h | h
        · rw [hb] at h; simp at h
        · omega
        · exact h
      rw [h5] at hc
      have h4' : ¬ (400 : Int) < (s.size : Int) := by omega
      clear h hb h5
      go_enter Try.func29, Try.ntmps29
      go_wp2
      go_ret
      exact ⟨rfl, rfl⟩
  · rw [hb] at hc
    rw [if_pos rfl]
    clear h hb
    go_enter Try.func29, Try.ntmps29
    go_wp2
    go_ret
    exact ⟨rfl, rfl⟩
end Go.Proofs.Ytafgohnpnaiomaa
