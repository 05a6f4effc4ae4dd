/-
  What is opened behind a spoilt sector.
-/
import Derived.Test.YtafgohnpnaiomaaLawA
import Derived.Test.YtafgohnpnaiomaaTurn
namespace Go.Proofs.Ytafgohnpnaiomaa
open Go Go.RowKit

theorem body_get0 (p : Pt) : p.sec.data.toList.getD 0 0 = UInt8.ofNat p.gen := by
  simp [Pt.sec, str, closeL, Pt.body, leB, List.range_succ]
theorem body_get9 (p : Pt) : p.sec.data.toList.getD 9 0 = UInt8.ofNat p.all := by
  simp [Pt.sec, str, closeL, Pt.body, leB, List.range_succ]
theorem turn_bad (p : Pt) (h : p.ok) (hg : p.gen < 256) (a : Nat) (x : List UInt8) (hx : x.length ≤ 4) (ha : a + x.length ≤ 64) (hne : turnK p.sec.data.toList a x x.length ≠ p.sec.data.toList) :
    (lookL (turnK p.sec.data.toList a x x.length)).2 = 2 := by
  have h1 := turn_look p.sec.data.toList a x (by rw [look_sec p h]) hx ha hne
  have h0 : (lookL (turnK p.sec.data.toList a x x.length)).2 ≠ 0 := by
    intro e
    have hz : turnK p.sec.data.toList a x x.length = List.replicate 64 0 := by
      unfold lookL at e
      split at e
      · simp at e
      · split at e
        · assumption
        · split at e <;> simp at e
    have hz' : ∀ j, (turnK p.sec.data.toList a x x.length).getD j 0 = 0 := by
      intro j
      rw [hz, List.getD_eq_getElem?_getD, List.getElem?_replicate]
      split <;> rfl
    have g := h.gen
    have g2 := h.all0
    have g3 := h.all
    have nz : ∀ n, 0 < n → n < 256 → UInt8.ofNat n ≠ 0 := by
      intro n h1 h2 e
      have := congrArg UInt8.toNat e
      simp at this
      omega
    by_cases hj : 0 < a
    · have := turnK_get p.sec.data.toList a x x.length 0 (.inl hj)
      rw [hz', body_get0] at this
      exact nz _ g hg this.symm
    · have := turnK_get p.sec.data.toList a x x.length 9 (.inr (by omega))
      rw [hz', body_get9] at this
      exact nz _ g2 g3 this.symm
  have := lookL_cases (turnK p.sec.data.toList a x x.length)
  omega
theorem slotAt_bad_of {d : Dk} {a seen : Nat} (j : Nat) (hj : j < 10) (hb : (lookL (d.now (a + j)).data.toList).2 = 2) : (slotAt d a seen 10).bad = true := by
  have h1 : (slotAt d a seen (j + 1)).bad = true := by
    rw [slotAt_succ, slotStep]
    split
    · assumption
    · rfl
  rw [slotAt_bad d a seen (j + 1) 10 (by omega) h1]
  exact h1
theorem Dk.at_nil {d : Dk} (h : d.pend = 0) (i : Nat) : d.at_ i = [] := List.eq_nil_of_length_eq_zero (by have := Dk.at_len (d := d) i; omega)
theorem Dk.now_last {d : Dk} (h : d.pend = 0) (i : Nat) : d.now i = d.last i := by
  unfold Dk.now
  rw [Dk.at_nil h]
  rfl
theorem Dk.spoil_ok {d : Dk} {i a : Nat} {x : ByteArray} (hi : i < d.lasts.length) (hx : x.size ≤ 4) (ha : a + x.size ≤ 64) :
    d.spoil (i : Int) (a : Int) x = ({ d with lasts := d.lasts.set i (str (turnK (d.last i).data.toList a x.data.toList x.size)) }, 0) := by
  have ht : d.there (i : Int) = true := by simp [Dk.there]; omega
  unfold Dk.spoil
  rw [ht, if_pos]
  · rfl
  · rw [Bool.true_and, decide_eq_true_eq]
    omega
theorem Dk.spoil_now {d : Dk} (h : d.pend = 0) {i a : Nat} {x : ByteArray} (hi : i < d.lasts.length) (hx : x.size ≤ 4) (ha : a + x.size ≤ 64) (j : Nat) :
    (d.spoil (i : Int) (a : Int) x).1.now j = if j = i then str (turnK (d.last i).data.toList a x.data.toList x.size) else d.now j := by
  rw [Dk.spoil_ok hi hx ha]
  have e : ∀ b : ByteArray, ({ d with lasts := d.lasts.set i b } : Dk).now j = if j = i then b else d.now j := by
    intro b
    rw [Dk.now_last (d := { d with lasts := d.lasts.set i b }) h, Dk.now_last h]
    unfold Dk.last
    simp only [List.getD_eq_getElem?_getD, List.getElem?_set]
    by_cases hj : i = j
    · subst hj; simp [hi]
    · simp [hj, Ne.symm hj]
  exact e _
/-- A sound sector that is spoilt bars the place. -/
theorem spoil_open {d : Dk} {k : Kp} {l0 l1 : List Pt} (h : KeptIs d k l0 l1) (hp : d.pend = 0) (hsn : k.seen < 256) (j : Nat) (hj : j < 20) (a : Nat) (x : ByteArray) (hx : x.size ≤ 4) (ha : a + x.size ≤ 64)
    (hst : (lookL (d.now (k.from_ + j)).data.toList).2 = 1) (hne : (d.spoil ((k.from_ + j : Nat) : Int) (a : Int) x).1.now (k.from_ + j) ≠ d.now (k.from_ + j)) :
    openN (d.spoil ((k.from_ + j : Nat) : Int) (a : Int) x).1 k.from_ 2 = none := by
  have hroom := h.room
  have hnow := Dk.spoil_now hp (i := k.from_ + j) (by omega) hx ha
  have hbad : ∀ (b : Nat) (l : List Pt) (i : Nat), SlotIs d b l → (∀ p ∈ l, p.gen ≤ k.seen) → i < 10 → b + i = k.from_ + j → (lookL ((d.spoil ((k.from_ + j : Nat) : Int) (a : Int) x).1.now (b + i)).data.toList).2 = 2 := by
    intro b l i hS hG hi hb
    have hil : i < l.length := by
      apply Classical.byContradiction
      intro hc
      have hbl := hS.blank i (by omega) hi
      rw [← hb, hbl] at hst
      exact absurd hst (by decide)
    have hf := hS.full i hil
    rw [hb] at hf
    rw [hb, hnow, if_pos rfl, ← Dk.now_last hp, hf]
    rw [hnow, if_pos rfl, ← Dk.now_last hp, hf] at hne
    have hxl : x.size = x.data.toList.length := by simp
    rw [hxl] at hne ⊢
    have hg := hG _ (List.getElem_mem hil)
    refine turn_bad _ (hS.ok _ (List.getElem_mem hil)) (by omega) a x.data.toList (by omega) (by omega) (fun e => hne ?_)
    rw [e]
    exact str_eta _
  by_cases h10 : j < 10
  · have hb := hbad k.from_ l0 j h.s0 h.g0 h10 rfl
    refine openN_none (n := 1) ?_ (by omega)
    rw [openN, openN]
    show openStep _ 0 _ = none
    unfold openStep
    rw [if_pos]
    exact slotAt_bad_of j h10 (by simpa using hb)
  · have hb := hbad (k.from_ + 10) l1 (j - 10) h.s1 h.g1 (by omega) (by omega)
    have hs0 : SlotIs (d.spoil ((k.from_ + j : Nat) : Int) (a : Int) x).1 k.from_ l0 := by
      refine ⟨h.s0.len, h.s0.ok, fun i hi => ?_, fun i hi hi2 => ?_⟩
      · rw [hnow, if_neg (by have := h.s0.len; omega)]
        exact h.s0.full i hi
      · rw [hnow, if_neg (by omega)]
        exact h.s0.blank i hi hi2
    rw [openN]
    have e1 : openN (d.spoil ((k.from_ + j : Nat) : Int) (a : Int) x).1 k.from_ 1 = some (seeL 0 l0 ⟨k.from_, [], 0, 1, 0, false⟩) := by
      rw [openN, openN]
      exact openStep_is (by simpa using hs0)
    rw [e1]
    show openStep _ 1 _ = none
    unfold openStep
    rw [if_pos]
    rw [seeL_from]
    exact slotAt_bad_of (j - 10) (by omega) (by simpa using hb)
end Go.Proofs.Ytafgohnpnaiomaa
