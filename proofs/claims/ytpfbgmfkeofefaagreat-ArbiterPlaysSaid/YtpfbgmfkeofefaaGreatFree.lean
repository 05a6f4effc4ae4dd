/-
  What is opened behind a spoilt sector.
-/
import Derived.Test.YtpfbgmfkeofefaaGreatLawA
import Derived.Test.YtpfbgmfkeofefaaGreatTurn
import Derived.Test.YtpfbgmfkeofefaaGreatDiskI
namespace Go.Proofs.YtpfbgmfkeofefaaGreat
open Go Go.RowKit

theorem body_get0 (p : Pt) : p.sec.data.toList.getD 0 0 = UInt8.ofNat p.gen := by
  simp [Pt.sec, str, closeL, Pt.body, leB, List.range_succ]
theorem body_get9 (p : Pt) : p.sec.data.toList.getD 9 0 = UInt8.ofNat p.all := by
  simp [Pt.sec, str, closeL, Pt.body, leB, List.range_succ]
theorem turn_bad (p : Pt) (h : p.ok) (hg : p.gen < 256) (a : Nat) (x : List UInt8) (hx : x.length ≤ 4) (ha : a + x.length ≤ 64) (hne : turnK p.sec.data.toList a x x.length ≠ p.sec.data.toList) :
    (lookL (turnK p.sec.data.toList a x x.length)).2 = 2 := by
  have h1 := turn_look p.sec.data.toList a x (by rw [look_sec p h]) hx ha hne
  have h0 : (lookL (turnK p.sec.data.toList a x x.length)).2 ≠ 0 := by
    intro e
    have hz : turnK p.sec.data.toList a x x.length = List.replicate 64 0 := by
      unfold lookL at e
      split at e
      · simp at e
      · split at e
        · assumption
        · split at e <;> simp at e
    have hz' : ∀ j, (turnK p.sec.data.toList a x x.length).getD j 0 = 0 := by
      intro j
      rw [hz, List.getD_eq_getElem?_getD, List.getElem?_replicate]
      split <;> rfl
    have g := h.gen
    have g2 := h.all0
    have g3 := h.all
    have nz : ∀ n, 0 < n → n < 256 → UInt8.ofNat n ≠ 0 := by
      intro n h1 h2 e
      have := congrArg UInt8.toNat e
      simp at this
      omega
    by_cases hj : 0 < a
    · have := turnK_get p.sec.data.toList a x x.length 0 (.inl hj)
      rw [hz', body_get0] at this
      exact nz _ g hg this.symm
    · have := turnK_get p.sec.data.toList a x x.length 9 (.inr (by omega))
      rw [hz', body_get9] at this
      exact nz _ g2 g3 this.symm
  have := lookL_cases (turnK p.sec.data.toList a x x.length)
  omega
theorem slotAt_bad_of {d : Dk} {a seen : Nat} (j : Nat) (hj : j < 10) (hb : (lookL (d.now (a + j)).data.toList).2 = 2) : (slotAt d a seen 10).bad = true := by
  have h1 : (slotAt d a seen (j + 1)).bad = true := by
    rw [slotAt_succ, slotStep]
    split
    · assumption
    · rfl
  rw [slotAt_bad d a seen (j + 1) 10 (by omega) h1]
  exact h1
theorem Dk.at_nil {d : Dk} (h : d.pend = 0) (i : Nat) : d.at_ i = [] := List.eq_nil_of_length_eq_zero (by have := Dk.at_len (d := d) i; omega)
theorem Dk.now_last {d : Dk} (h : d.pend = 0) (i : Nat) : d.now i = d.last i := by
  unfold Dk.now
  rw [Dk.at_nil h]
  rfl
theorem Dk.spoil_ok {d : Dk} {i a : Nat} {x : ByteArray} (hi : i < d.lasts.length) (hx : x.size ≤ 4) (ha : a + x.size ≤ 64) :
    d.spoil (i : Int) (a : Int) x = ({ d with lasts := d.lasts.set i (str (turnK (d.last i).data.toList a x.data.toList x.size)) }, 0) := by
  have ht : d.there (i : Int) = true := by simp [Dk.there]; omega
  unfold Dk.spoil
  rw [ht, if_pos]
  · rfl
  · rw [Bool.true_and, decide_eq_true_eq]
    omega
theorem Dk.spoil_now {d : Dk} (h : d.pend = 0) {i a : Nat} {x : ByteArray} (hi : i < d.lasts.length) (hx : x.size ≤ 4) (ha : a + x.size ≤ 64) (j : Nat) :
    (d.spoil (i : Int) (a : Int) x).1.now j = if j = i then str (turnK (d.last i).data.toList a x.data.toList x.size) else d.now j := by
  rw [Dk.spoil_ok hi hx ha]
  have e : ∀ b : ByteArray, ({ d with lasts := d.lasts.set i b } : Dk).now j = if j = i then b else d.now j := by
    intro b
    rw [Dk.now_last (d := { d with lasts := d.lasts.set i b }) h, Dk.now_last h]
    unfold Dk.last
    simp only [List.getD_eq_getElem?_getD, List.getElem?_set]
    by_cases hj : i = j
    · subst hj; simp [hi]
    · simp [hj, Ne.symm hj]
  exact e _
/-- A sound sector that is spoilt bars the place. -/
theorem spoil_open {d : Dk} {k : Kp} {l0 l1 : List Pt} (h : KeptIs d k l0 l1) (hp : d.pend = 0) (hsn : k.seen < 256) (j : Nat) (hj : j < 20) (a : Nat) (x : ByteArray) (hx : x.size ≤ 4) (ha : a + x.size ≤ 64)
    (hst : (lookL (d.now (k.from_ + j)).data.toList).2 = 1) (hne : (d.spoil ((k.from_ + j : Nat) : Int) (a : Int) x).1.now (k.from_ + j) ≠ d.now (k.from_ + j)) :
    openN (d.spoil ((k.from_ + j : Nat) : Int) (a : Int) x).1 k.from_ 2 = none := by
  have hroom := h.room
  have hnow := Dk.spoil_now hp (i := k.from_ + j) (by omega) hx ha
  have hbad : ∀ (b : Nat) (l : List Pt) (i : Nat), SlotIs d b l → (∀ p ∈ l, p.gen ≤ k.seen) → i < 10 → b + i = k.from_ + j → (lookL ((d.spoil ((k.from_ + j : Nat) : Int) (a : Int) x).1.now (b + i)).data.toList).2 = 2 := by
    intro b l i hS hG hi hb
    have hil : i < l.length := by
      apply Classical.byContradiction
      intro hc
      have hbl := hS.blank i (by omega) hi
      rw [← hb, hbl] at hst
      exact absurd hst (by decide)
    have hf := hS.full i hil
    rw [hb] at hf
    rw [hb, hnow, if_pos rfl, ← Dk.now_last hp, hf]
    rw [hnow, if_pos rfl, ← Dk.now_last hp, hf] at hne
    have hxl : x.size = x.data.toList.length := by simp
    rw [hxl] at hne ⊢
    have hg := hG _ (List.getElem_mem hil)
    refine turn_bad _ (hS.ok _ (List.getElem_mem hil)) (by omega) a x.data.toList (by omega) (by omega) (fun e => hne ?_)
    rw [e]
    exact str_eta _
  by_cases h10 : j < 10
  · have hb := hbad k.from_ l0 j h.s0 h.g0 h10 rfl
    refine openN_none (n := 1) ?_ (by omega)
    rw [openN, openN]
    show openStep _ 0 _ = none
    unfold openStep
    rw [if_pos]
    exact slotAt_bad_of j h10 (by simpa using hb)
  · have hb := hbad (k.from_ + 10) l1 (j - 10) h.s1 h.g1 (by omega) (by omega)
    have hs0 : SlotIs (d.spoil ((k.from_ + j : Nat) : Int) (a : Int) x).1 k.from_ l0 := by
      refine ⟨h.s0.len, h.s0.ok, fun i hi => ?_, fun i hi hi2 => ?_⟩
      · rw [hnow, if_neg (by have := h.s0.len; omega)]
        exact h.s0.full i hi
      · rw [hnow, if_neg (by omega)]
        exact h.s0.blank i hi hi2
    rw [openN]
    have e1 : openN (d.spoil ((k.from_ + j : Nat) : Int) (a : Int) x).1 k.from_ 1 = some (seeL 0 l0 ⟨k.from_, [], 0, 1, 0, false⟩) := by
      rw [openN, openN]
      exact openStep_is (by simpa using hs0)
    rw [e1]
    show openStep _ 1 _ = none
    unfold openStep
    rw [if_pos]
    rw [seeL_from]
    exact slotAt_bad_of (j - 10) (by omega) (by simpa using hb)
end Go.Proofs.YtpfbgmfkeofefaaGreat

/-
  A disk as if it had no fuse; what a crash leaves of a sector.
-/
namespace Go.Proofs.YtpfbgmfkeofefaaGreat
open Go Go.RowKit

namespace Dk
theorem choice_lt {l : List ByteArray} {keep : List Int} {k : Nat} (hc : 0 < choice l keep k) : choice l keep k - 1 < l.length := by
  unfold choice at hc ⊢
  split at hc
  · rename_i hk
    rw [if_pos hk]
    have h1 := Int.emod_lt_of_pos (keep.getD k 0) (show (0 : Int) < (l.length : Int) + 1 by omega)
    have h2 := Int.emod_nonneg (keep.getD k 0) (show (l.length : Int) + 1 ≠ 0 by omega)
    omega
  · omega
theorem crash_is {d : Dk} (hl : d.waits.length = d.lasts.length) (keep : List Int) {i : Nat} (hi : i < d.lasts.length) :
    (d.crash keep).now i = if i ∈ d.busy then d.keptAt keep (d.busy.idxOf i) i else d.last i := by
  unfold now
  rw [crash_now hl keep i]
  show (d.part keep d.busy.length).lasts.getD i ByteArray.empty = _
  rw [List.getD_eq_getElem?_getD, part_get d keep d.busy.length i hi, List.take_length]
  rfl
/-- Behind a crash a sector is what lasted, or one of the writes that waited for it. -/
theorem crash_in {d : Dk} (hl : d.waits.length = d.lasts.length) (keep : List Int) {i : Nat} (hi : i < d.lasts.length) : (d.crash keep).now i = d.last i ∨ (d.crash keep).now i ∈ d.at_ i := by
  rw [crash_is hl keep hi]
  split
  · unfold keptAt
    split
    · rename_i hc
      have hlt := choice_lt hc
      right
      rw [List.getD_eq_getElem?_getD, List.getElem?_eq_getElem hlt]
      exact List.getElem_mem hlt
    · exact .inl rfl
  · exact .inl rfl
theorem crash_waits' (d : Dk) (keep : List Int) : (d.crash keep).waits.length = d.waits.length := by
  show ((List.range d.waits.length).map _).length = _
  rw [List.length_map, List.length_range]
theorem crash_len' (d : Dk) (keep : List Int) : (d.crash keep).lasts.length = d.lasts.length := part_len _ _ _

/-- The disk as if it had no fuse. -/
def free (d : Dk) : Dk := { d with fuse := -1, off := false }
theorem free_now (d : Dk) (i : Nat) : d.free.now i = d.now i := rfl
theorem free_crash (d : Dk) (keep : List Int) : d.free.crash keep = d.crash keep := rfl
theorem burn_same (d : Dk) : d.burn.1.free = d.free := by
  unfold burn
  split
  · rfl
  · split <;> rfl
theorem burn_yes {d : Dk} (h : d.burn.2 = true) : d.burn.1.off = d.off := by
  unfold burn at h ⊢
  split
  · rename_i h0
    rw [if_pos h0] at h
    simp at h
  · split <;> rfl
theorem burn_not {d : Dk} (h : d.burn.2 = false) : d.burn.1.off = true := by
  unfold burn at h ⊢
  split
  · rfl
  · rename_i h0
    rw [if_neg h0] at h
    split at h <;> simp at h
theorem free_push (d : Dk) (i : Nat) (b : ByteArray) : (d.push i b).free = d.free.push i b := rfl
theorem push_same {d e : Dk} (h : d.free = e.free) (i : Nat) (b : ByteArray) : (d.push i b).free = (e.push i b).free := by rw [free_push, free_push, h]
theorem free_flush (d : Dk) : d.flush.free = d.free.flush := rfl
theorem flush_same {d e : Dk} (h : d.free = e.free) : d.flush.free = e.flush.free := by rw [free_flush, free_flush, h]
theorem free_pend (d : Dk) : d.free.pend = d.pend := rfl
theorem free_off {d : Dk} (h1 : d.fuse = -1) (h2 : d.off = false) : d.free = d := by
  obtain ⟨a, b, c, e⟩ := d
  simp only at h1 h2
  subst h1 h2
  rfl
/-- A write of a sector that is there: it is done, or the power goes. -/
theorem write_two {d : Dk} (ho : d.off = false) {i : Nat} (hi : i < d.lasts.length) {b : ByteArray} (hb : b.size = 64) :
    ((d.write (i : Int) b).2 = 0 ∧ (d.write (i : Int) b).1.off = false ∧ (d.write (i : Int) b).1.free = d.free.push i b) ∨
    ((d.write (i : Int) b).2 = 14 ∧ (d.write (i : Int) b).1.off = true ∧ (d.write (i : Int) b).1.free = d.free) := by
  unfold write
  rw [ho, if_neg (by simp), if_pos (by simp only [there, Bool.and_eq_true, decide_eq_true_eq]; omega)]
  cases h : d.burn.2
  · right
    rw [if_neg (by simp)]
    exact ⟨rfl, burn_not h, burn_same d⟩
  · left
    rw [if_pos rfl]
    refine ⟨rfl, (burn_yes h).trans ho, ?_⟩
    show (d.burn.1.push i b).free = _
    rw [free_push, burn_same]
theorem sync_two {d : Dk} (ho : d.off = false) :
    (d.sync.2 = 0 ∧ d.sync.1.off = false ∧ d.sync.1.free = d.free.flush) ∨ (d.sync.2 = 14 ∧ d.sync.1.off = true ∧ d.sync.1.free = d.free) := by
  unfold sync
  rw [ho, if_neg (by simp)]
  cases h : d.burn.2
  · right
    rw [if_neg (by simp)]
    exact ⟨rfl, burn_not h, burn_same d⟩
  · left
    rw [if_pos rfl]
    refine ⟨rfl, (burn_yes h).trans ho, ?_⟩
    show d.burn.1.flush.free = _
    rw [free_flush, burn_same]
end Dk
end Go.Proofs.YtpfbgmfkeofefaaGreat
