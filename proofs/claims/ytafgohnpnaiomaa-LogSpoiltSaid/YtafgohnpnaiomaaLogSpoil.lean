/-
  What is opened of a log behind a spoilt sector.
-/
import Derived.Test.YtafgohnpnaiomaaLogHelp
import Derived.Test.YtafgohnpnaiomaaLawW
namespace Go.Proofs.Ytafgohnpnaiomaa
open Go Go.RowKit

theorem bodyG_get0 (p : Lp) : p.sec.data.toList.getD 0 0 = UInt8.ofNat p.epoch := by
  simp [Lp.sec, str, closeL, Lp.body, leB, List.range_succ]
theorem bodyG_get25 (p : Lp) : p.sec.data.toList.getD 25 0 = UInt8.ofNat p.all := by
  simp [Lp.sec, str, closeL, Lp.body, leB, List.range_succ]
theorem turn_badG (p : Lp) (h : p.ok) (hg : p.epoch < 256) (a : Nat) (x : List UInt8) (hx : x.length ≤ 4) (ha : a + x.length ≤ 64) (hne : turnK p.sec.data.toList a x x.length ≠ p.sec.data.toList) :
    (lookL (turnK p.sec.data.toList a x x.length)).2 = 2 := by
  have h1 := turn_look p.sec.data.toList a x (by rw [look_secG p h]) hx ha hne
  have h0 : (lookL (turnK p.sec.data.toList a x x.length)).2 ≠ 0 := by
    intro e
    have hz : turnK p.sec.data.toList a x x.length = List.replicate 64 0 := by
      unfold lookL at e
      split at e
      · simp at e
      · split at e
        · assumption
        · split at e <;> simp at e
    have hz' : ∀ j, (turnK p.sec.data.toList a x x.length).getD j 0 = 0 := by
      intro j
      rw [hz, List.getD_eq_getElem?_getD, List.getElem?_replicate]
      split <;> rfl
    have g := h.epoch0
    have g2 := h.all0
    have g3 := h.all
    have nz : ∀ n, 0 < n → n < 256 → UInt8.ofNat n ≠ 0 := by
      intro n h1 h2 e
      have := congrArg UInt8.toNat e
      simp at this
      omega
    by_cases hj : 0 < a
    · have := turnK_get p.sec.data.toList a x x.length 0 (.inl hj)
      rw [hz', bodyG_get0] at this
      exact nz _ g hg this.symm
    · have := turnK_get p.sec.data.toList a x x.length 25 (.inr (by omega))
      rw [hz', bodyG_get25] at this
      exact nz _ g2 g3 this.symm
  have := lookL_cases (turnK p.sec.data.toList a x x.length)
  omega
theorem scanAt_bad_of {d : Dk} {f n : Nat} (j : Nat) (hj : j < n) (hb : (lookL (d.now (f + j)).data.toList).2 = 2) : (scanAt d f n).bad = true := by
  have h1 : (scanAt d f (j + 1)).bad = true := by
    rw [scanAt_succ, scanStep]
    split
    · assumption
    · first
      | rfl
      | (rw [if_pos hb])
  rw [scanAt_bad d f (j + 1) n (by omega) h1]
  exact h1
/-- A sound sector that is spoilt bars the log, of whatever epoch. -/
theorem spoil_openG {d : Dk} {g : Lg} {rs : List (List UInt8 × Nat)} {R : List (Option Lp)} (h : LogIs d g rs R) (hp : d.pend = 0) (he : ∀ p, some p ∈ (rowOf g.epoch 0 rs).map some ++ R → p.epoch < 256) (j : Nat) (hj : j < g.sectors) (a : Nat) (x : ByteArray) (hx : x.size ≤ 4) (ha : a + x.size ≤ 64)
    (hst : (lookL (d.now (g.from_ + j)).data.toList).2 = 1) (hne : (d.spoil ((g.from_ + j : Nat) : Int) (a : Int) x).1.now (g.from_ + j) ≠ d.now (g.from_ + j)) (e : Nat) :
    openG (d.spoil ((g.from_ + j : Nat) : Int) (a : Int) x).1 g.from_ g.sectors e = none := by
  have hroom := h.room
  have hl : ((rowOf g.epoch 0 rs).map some ++ R).length = g.sectors := by rw [List.length_append, List.length_map]; exact h.len
  have hnow := Dk.spoil_now hp (i := g.from_ + j) (by omega) hx ha
  have hc := h.cells.cell j (by omega)
  have hb : (lookL ((d.spoil ((g.from_ + j : Nat) : Int) (a : Int) x).1.now (g.from_ + j)).data.toList).2 = 2 := by
    cases hL : ((rowOf g.epoch 0 rs).map some ++ R)[j] with
    | none =>
      rw [hL] at hc
      rw [hc, show secO none = zeros64 from rfl, look_zeros] at hst
      exact absurd hst (by decide)
    | some q =>
      have hmem : some q ∈ (rowOf g.epoch 0 rs).map some ++ R := hL ▸ List.getElem_mem (by omega)
      rw [hL] at hc
      rw [hnow, if_pos rfl, ← Dk.now_last hp, hc] at hne ⊢
      have hxl : x.size = x.data.toList.length := by simp
      rw [hxl] at hne ⊢
      refine turn_badG q (h.cells.ok q hmem) (he q hmem) a x.data.toList (by omega) (by omega) (fun e => hne ?_)
      show str (turnK q.sec.data.toList a x.data.toList x.data.toList.length) = q.sec
      rw [e]
      exact str_eta _
  unfold openG
  rw [if_pos (scanAt_bad_of j hj hb)]
end Go.Proofs.Ytafgohnpnaiomaa
