/-
  What a law knows of a disk and of a log on it.
-/
import Derived.Test.YtafgohnpnaiomaaLogP
import Derived.Test.YtafgohnpnaiomaaLawV
import Derived.Outline
namespace Go.Proofs.Ytafgohnpnaiomaa
open Go Go.RowKit

/-- A log on a disk, both made behind the world w0; the blocks of X are none of theirs. -/
structure LgS (w0 w : World) (p b : Nat) (d : Dk) (g : Lg) (X : Nat → Prop) : Prop where
  ex : ∃ F v, DiskAt w p d F ∧ (∀ q ∈ F, w0.heap.size ≤ q) ∧ Blk w b 132 (g.cells p v) ∧ Own w 9 1 v g.l.length (strs g.l) ∧ (∀ q, v.ownBlock = some q → w0.heap.size ≤ q ∧ q ∉ F) ∧
    ∀ q, X q → q < w.heap.size ∧ q ≠ b ∧ q ∉ F ∧ v.ownBlock ≠ some q
  new : w0.heap.size ≤ b
  upd : Upd (fun _ => False) w0 w
section
variable {w0 w w' : World} {p b : Nat} {d : Dk} {g : Lg} {X Y : Nat → Prop}
theorem LgS.disk (h : LgS w0 w p b d g X) : DkS w0 w p d := by
  obtain ⟨F, v, h1, h2, -⟩ := h.ex
  exact ⟨⟨F, h1, h2⟩, h.upd⟩
theorem LgS.log (h : LgS w0 w p b d g X) : LogAt w p b g := by
  obtain ⟨F, v, h1, h2, h3, h4, -⟩ := h.ex
  exact ⟨v, h3, h4⟩
theorem LgS.still (h : LgS w0 w p b d g X) (hu : Upd (fun _ => False) w w') : LgS w0 w' p b d g X := by
  obtain ⟨F, v, h1, h2, h3, h4, h5, h6⟩ := h.ex
  exact ⟨⟨F, v, h1.upd hu (fun _ _ e => e), h2, h3.upd hu (fun e => e), h4.upd hu (fun _ _ e => e), h5, fun q hq => ⟨Nat.lt_of_lt_of_le (h6 q hq).1 hu.size, (h6 q hq).2⟩⟩, h.new, h.upd.then hu (fun _ e => e.elim)⟩
theorem LgS.less (h : LgS w0 w p b d g X) (hXY : ∀ q, Y q → X q) : LgS w0 w p b d g Y := by
  obtain ⟨F, v, h1, h2, h3, h4, h5, h6⟩ := h.ex
  exact ⟨⟨F, v, h1, h2, h3, h4, h5, fun q hq => h6 q (hXY q hq)⟩, h.new, h.upd⟩
/-- Blocks of Z are turned, or new ones made: these are apart too. -/
theorem LgS.turn {Z : Nat → Prop} (h : LgS w0 w p b d g X) (hZX : ∀ q, Z q → X q) (hZ : ∀ q, Z q → w0.heap.size ≤ q) (hu : Upd Z w w') (hY : ∀ q, Y q → X q ∨ (w.heap.size ≤ q ∧ q < w'.heap.size)) : LgS w0 w' p b d g Y := by
  obtain ⟨F, v, h1, h2, h3, h4, h5, h6⟩ := h.ex
  have hF := h1.lt
  refine ⟨⟨F, v, h1.upd hu (fun q hq e => (h6 q (hZX q e)).2.2.1 hq), h2, h3.upd hu (fun e => (h6 b (hZX b e)).2.1 rfl), h4.upd hu (fun q hq e => (h6 q (hZX q e)).2.2.2 hq), h5, fun q hq => ?_⟩, h.new, h.upd.then hu (fun q e => .inr (hZ q e))⟩
  rcases hY q hq with e | ⟨e1, e2⟩
  · exact ⟨Nat.lt_of_lt_of_le (h6 q e).1 hu.size, (h6 q e).2⟩
  · refine ⟨e2, fun e => ?_, fun e => ?_, fun e => ?_⟩
    · have := h3.lt; omega
    · have := hF q e; omega
    · have := h4.lt e; omega
end
theorem openG_l {w0 w : World} {p : Nat} {d : Dk} {g : Lg} {rs : List (List UInt8 × Nat)} {R : List (Option Lp)} (hD : DkS w0 w p d) (h : LogIs d g rs R) (f n e : Int) (hf : f = (g.from_ : Int)) (hn : n = (g.sectors : Int)) (he : e = (g.epoch : Int)) :
    Calls Try.prog 36 #[.pointer (some ⟨p, 0, none⟩), .int .i64 f, .int .i64 n, .int .u64 e] w fun en w' => ∃ b, en = .returned (.tuple #[.pointer (some ⟨b, 0, none⟩), .int .i64 0]) ∧ LgS w0 w' p b d g (fun q => q < w.heap.size ∧ ∀ F, DiskAt w p d F → q ∉ F) ∧ Upd (fun _ => False) w w' ∧ w.heap.size ≤ b := by
  subst hf hn he
  obtain ⟨F, h1, h2⟩ := hD.ex
  refine (openG_on h1 g.from_ g.sectors g.epoch h.pos h.room h.epoch0 h.epoch h.off).mono ?_
  rintro en w' ⟨v, rfl, hO⟩
  rw [h.opens] at hO ⊢
  obtain ⟨b, v1, rfl, hB, hOwn, hb, hv⟩ := hO.ok g rfl
  refine ⟨b, rfl, ⟨⟨F, v1, h1.upd hO.upd (fun _ _ e => e), h2, hB, hOwn, fun q hq => ⟨Nat.le_trans hD.upd.size (hv q hq), fun e => ?_⟩, fun q hq => ⟨Nat.lt_of_lt_of_le hq.1 hO.upd.size, fun e => ?_, hq.2 F h1, fun e => ?_⟩⟩, Nat.le_trans hD.upd.size hb, hD.upd.then hO.upd (fun _ e => e.elim)⟩, hO.upd, hb⟩
  · have := h1.lt q e; have := hv q hq; omega
  · have := hq.1; omega
  · have := hq.1; have := hv q e; omega
/-- What Add tells of a log that stands. -/
theorem add_not {d : Dk} {g : Lg} {rs : List (List UInt8 × Nat)} {R : List (Option Lp)} (h : LogIs d g rs R) (s : ByteArray) (hsalt : g.salt < 18446744073709551615) (hc : ¬ (s.size ≤ 1024 ∧ partsOf s.size ≤ R.length)) :
    addG d g s = (d, g, if 1024 < s.size then 3 else 6) := by
  have hu := h.used_le
  unfold addG
  rw [h.broken, if_neg (by simp)]
  by_cases h10 : 1024 < s.size
  · rw [if_pos h10, if_pos h10]
  · rw [if_neg h10, if_pos (by omega), if_neg h10]
section
variable {w0 w w' : World} {p b : Nat} {d : Dk} {g : Lg} {X : Nat → Prop} {rs : List (List UInt8 × Nat)} {R : List (Option Lp)}
theorem roomG_l (hS : LgS w0 w p b d g X) (h : LogIs d g rs R) :
    Calls Try.prog 39 #[.pointer (some ⟨b, 0, none⟩)] w fun e w' => e = .returned (.int .i64 (R.length : Int)) ∧ Upd (fun _ => False) w w' := by
  have hm := hS.disk.wf.most
  have hr := h.room
  have hu := h.used_le
  refine (room_c hS.log (by omega) (by omega)).mono ?_
  rintro e w' ⟨rfl, rfl⟩
  rw [show g.sectors - g.used = R.length by omega]
  exact ⟨rfl, (Upd.refl _ _).drew⟩
theorem recordsG_l (hS : LgS w0 w p b d g X) (h : LogIs d g rs R) :
    Calls Try.prog 40 #[.pointer (some ⟨b, 0, none⟩)] w fun e w' => ∃ v', e = .returned v' ∧ Own w' 9 1 v' g.l.length (strs g.l) ∧ Upd (fun _ => False) w w' ∧ (∀ q, v'.ownBlock = some q → w.heap.size ≤ q) := by
  have hm := hS.disk.wf.most
  have hr := h.room
  have hu := h.used_le
  have hl := h.recs_le
  exact records_c hS.log (by omega)
/-- What Add leaves of a log. -/
structure AddS (w0 w w' : World) (p b : Nat) (d : Dk) (g : Lg) (X : Nat → Prop) : Prop where
  log : LgS w0 w' p b d g X
  keep : ∀ q, X q → w'.heap[q]? = w.heap[q]?
  grow : w.heap.size ≤ w'.heap.size
theorem addG_l (hS : LgS w0 w p b d g X) (h : LogIs d g rs R) (s : ByteArray) (hsalt : g.salt < 18446744073709551615) (hp : d.pend + 40 < 1000000) :
    Calls Try.prog 37 #[.pointer (some ⟨b, 0, none⟩), .string s] w fun e w' => e = .returned (.int .i64 (addG d g s).2.2) ∧ AddS w0 w w' p b (addG d g s).1 (addG d g s).2.1 X := by
  obtain ⟨F, v, h1, h2, h3, h4, h5, h6⟩ := hS.ex
  have hm := hS.disk.wf.most
  have hr := h.room
  have hu := h.used_le
  have hl := h.recs_le
  have hll := h.last_le
  by_cases hc : s.size ≤ 1024 ∧ partsOf s.size ≤ g.sectors - g.used
  · refine (Add_goes h1 h3 h4 (fun q hq => (h5 q hq).2) s h.broken hc.1 hc.2 hsalt (by omega) (by omega) (by omega) (by omega) h.epoch (by omega) hp).mono ?_
    rintro e w' ⟨rfl, hL⟩
    obtain ⟨F', v', k1, k2, k3, k4, k5, k6⟩ := hL.ex
    have hX : ∀ q, X q → ¬ (q = b ∨ q ∈ F ∨ v.ownBlock = some q) := fun q hq e => by
      obtain ⟨-, a1, a2, a3⟩ := h6 q hq
      rcases e with e | e | e
      · exact a1 e
      · exact a2 e
      · exact a3 e
    have hsz := hL.upd.size
    have h0 := hS.upd.size
    refine ⟨rfl, ⟨⟨F', v', k1, fun q hq => (k2 q hq).elim (h2 q) (fun e => Nat.le_trans h0 e), k3, k4, fun q hq => ⟨(k5 q hq).elim (fun e => (h5 q e).1) (fun e => Nat.le_trans h0 e), k6 q hq⟩, fun q hq => ?_⟩, hS.new, hS.upd.then hL.upd fun q hq => .inr ?_⟩, fun q hq => hL.upd.block q (h6 q hq).1 (hX q hq), hsz⟩
    · obtain ⟨a0, a1, a2, a3⟩ := h6 q hq
      refine ⟨by omega, a1, fun e => ?_, fun e => ?_⟩
      · rcases k2 q e with e | e
        · exact a2 e
        · omega
      · rcases k5 q e with e | e
        · exact a3 e
        · omega
    · rcases hq with rfl | hq | hq
      · exact hS.new
      · exact h2 q hq
      · exact (h5 q hq).1
  · rw [add_not h s hsalt (fun e => hc ⟨e.1, by omega⟩)]
    refine (Add_refused hS.log s (by omega) (by omega) ?_).mono ?_
    · by_cases h10 : 1024 < s.size
      · exact .inr (.inl h10)
      · exact .inr (.inr (.inl (by omega)))
    · rintro e w' ⟨rfl, hU⟩
      refine ⟨?_, hS.still hU, fun q hq => hU.block q (h6 q hq).1 (fun e => e), hU.size⟩
      rw [h.broken]
      simp
end
end Go.Proofs.Ytafgohnpnaiomaa
