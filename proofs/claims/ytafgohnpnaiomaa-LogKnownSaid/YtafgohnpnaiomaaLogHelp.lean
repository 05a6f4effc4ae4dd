/-
  Small facts that the laws of chapter 10 share.
-/
import Derived.Test.YtafgohnpnaiomaaLogWorld
import Derived.Test.YtafgohnpnaiomaaArgs
namespace Go.Proofs.Ytafgohnpnaiomaa
open Go Go.RowKit

/-- Another log is opened on the disk of one. -/
theorem openG_x {w0 w : World} {p b0 : Nat} {d : Dk} {g0 g : Lg} {X : Nat → Prop} {rs : List (List UInt8 × Nat)} {R : List (Option Lp)} (hS : LgS w0 w p b0 d g0 X) (h : LogIs d g rs R) (f n e : Int) (hf : f = (g.from_ : Int)) (hn : n = (g.sectors : Int)) (he : e = (g.epoch : Int)) :
    Calls Try.prog 36 #[.pointer (some ⟨p, 0, none⟩), .int .i64 f, .int .i64 n, .int .u64 e] w fun en w' => ∃ b, en = .returned (.tuple #[.pointer (some ⟨b, 0, none⟩), .int .i64 0]) ∧ LgS w0 w' p b d g X ∧ Upd (fun _ => False) w w' ∧ w.heap.size ≤ b := by
  subst hf hn he
  obtain ⟨F, v, h1, h2, h3, h4, h5, h6⟩ := hS.ex
  refine (openG_on h1 g.from_ g.sectors g.epoch h.pos h.room h.epoch0 h.epoch h.off).mono ?_
  rintro en w' ⟨v, rfl, hO⟩
  rw [h.opens] at hO ⊢
  obtain ⟨b, v1, rfl, hB, hOwn, hb, hv⟩ := hO.ok g rfl
  refine ⟨b, rfl, ⟨⟨F, v1, h1.upd hO.upd (fun _ _ e => e), h2, hB, hOwn, fun q hq => ⟨Nat.le_trans hS.upd.size (hv q hq), fun e => ?_⟩, fun q hq => ⟨Nat.lt_of_lt_of_le (h6 q hq).1 hO.upd.size, fun e => ?_, (h6 q hq).2.2.1, fun e => ?_⟩⟩, Nat.le_trans hS.upd.size hb, hS.upd.then hO.upd (fun _ e => e.elim)⟩, hO.upd, hb⟩
  · have := h1.lt q e; have := hv q hq; omega
  · have := (h6 q hq).1; omega
  · have := (h6 q hq).1; have := hv q e; omega
theorem u64_nat {n : Int} (h : (Lit.int .u64 n).wf = true) : ∃ m : Nat, n = m ∧ m < 18446744073709551616 := by
  simp only [Lit.wf, Bool.and_eq_true, decide_eq_true_eq] at h
  have h1 : IntKind.u64.min = 0 := rfl
  have h2 : IntKind.u64.max = 18446744073709551615 := rfl
  exact ⟨n.toNat, by omega, by omega⟩
theorem u8_nat {n : Int} (h : (Lit.int .u8 n).wf = true) : ∃ m : Nat, n = m ∧ m < 256 := by
  simp only [Lit.wf, Bool.and_eq_true, decide_eq_true_eq] at h
  have h1 : IntKind.u8.min = 0 := rfl
  have h2 : IntKind.u8.max = 255 := rfl
  exact ⟨n.toNat, by omega, by omega⟩
theorem new_at (z : Int) (n : Nat) (w : World) (hz : z = (n : Int)) (h1 : 1 ≤ n) (h2 : n ≤ 4096) :
    Calls Try.prog 25 #[.int .i64 z] w fun e w' => ∃ p, e = .returned (.tuple #[.pointer (some ⟨p, 0, none⟩), .int .i64 0]) ∧ DkS w w' p (Dk.fresh n) := by
  subst hz
  exact new_s n w h1 h2
theorem fresh_now (n j : Nat) (hj : j < n) : (Dk.fresh n).now j = zeros64 := by
  unfold Dk.now Dk.at_ Dk.last Dk.fresh
  simp only [List.getD_eq_getElem?_getD, List.getElem?_replicate]
  rw [if_pos hj, if_pos hj]
  rfl
theorem fresh_pend (n : Nat) : (Dk.fresh n).pend = 0 := by
  unfold Dk.pend Dk.fresh
  simp
end Go.Proofs.Ytafgohnpnaiomaa
