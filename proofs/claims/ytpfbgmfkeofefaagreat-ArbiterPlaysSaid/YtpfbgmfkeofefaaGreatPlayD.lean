/-
  An operation of two that may come up, in a region that draws its order; what a call of the document's disk leaves, ahead and behind.
-/
import Derived.Test.YtpfbgmfkeofefaaGreatRef07
import Derived.Test.YtpfbgmfkeofefaaGreatTakeT
import Derived.Test.YtpfbgmfkeofefaaGreatLaw7
namespace Go.Proofs.YtpfbgmfkeofefaaGreat
open Go Go.RowKit

section
variable {P : Program} {ops : Array Oper} {Q : Exit → Act → World → Prop} {md : Region.Mode} {S : World → Prop} {T : Nat → Bool}
theorem wpAnyT_two {i j : Nat} {oi oj : Oper} {fuel : Nat} {listed : Array Bool} {a : Act} {w : World} (hr : Region.ready md ops listed = [i, j]) (hi : ops[i]? = some oi) (hj : ops[j]? = some oj)
    (h1 : ∀ K' : Act → World → Prop, Shut (∀ a w, S w → wpAnyT P md ops Q S T fuel (listed.setIfInBounds i true) a w → K' a w) → if Region.wanted oi (yielded ops a.tmps) = true then Oper.wp P oi a w K' Q else K' (a.put oi.dst undef) w)
    (h2 : ∀ K' : Act → World → Prop, Shut (∀ a w, S w → wpAnyT P md ops Q S T fuel (listed.setIfInBounds j true) a w → K' a w) → if Region.wanted oj (yielded ops a.tmps) = true then Oper.wp P oj a w K' Q else K' (a.put oj.dst undef) w) :
    wpAnyT P md ops Q S T (fuel + 1) listed a w := by
  refine ⟨fun h0 => (by rw [hr] at h0; cases h0), fun k hk => ?_⟩
  rw [hr] at hk
  rcases (by simpa using hk : k = i ∨ k = j) with rfl | rfl
  · exact wpOp_step hi (fun K' hK => h1 K' (fun a w hS hW => hK a w ⟨fun _ => hS, hW⟩))
  · exact wpOp_step hj (fun K' hK => h2 K' (fun a w hS hW => hK a w ⟨fun _ => hS, hW⟩))
/-- A whole row stored, as one step of a region that draws. -/
theorem step_store_all {o : Oper} {a : Act} {w : World} {K : Act → World → Prop} {E : Prop} (hg : o.guard = none) (ty : TypeId) (x y : Operand) (ho : o.op = .store ty x y) (g : Nat) (new : Array Value) (hx : a.eval x = .pointer (some ⟨g, 0, none⟩)) (hy : a.eval y = .agg new)
    (t : TypeId) (cs : Array Value) (hB : Blk w g t cs) (hs : cs.size = new.size) (h1 : new.all (·.oneCell') = true) (hsz : (P.info? ty).map (·.size) = some new.size)
    (h : ∀ w', Blk w' g t new → Upd (· = g) w w' → w'.heap.size = w.heap.size → K (a.put o.dst undef) w') : if Region.wanted o (yielded ops a.tmps) = true then Oper.wp P o a w K Q else E := by
  have hw : Region.wanted o (yielded ops a.tmps) = true := by simp [Region.wanted, hg]
  rw [if_pos hw]
  exact wp_store_all ty x y ho g new hx hy t cs hB hs h1 hsz h
end
theorem RdLeft.pre {w W w' : World} {vl vw vl' vw' : Value} {r : Rd} (h : RdLeft W w' vl vw vl' vw' r) (hu : Upd (fun _ => False) w W) : RdLeft w w' vl vw vl' vw' r :=
  ⟨h.at_, hu.then h.upd (fun _ e => e.elim), fun q hq => (h.loc q hq).imp id (fun e => Nat.le_trans hu.size e)⟩
theorem RdLeft.post {w w' w2 : World} {vl vw vl' vw' : Value} {r : Rd} (h : RdLeft w w' vl vw vl' vw' r) (hu : Upd (fun _ => False) w' w2) : RdLeft w w2 vl vw vl' vw' r :=
  ⟨h.at_.upd hu, h.upd.then hu (fun _ e => e.elim), h.loc⟩
theorem RdLeft.refl {w : World} {vl vw : Value} {r : Rd} (h : RdAt w vl vw r) : RdLeft w w vl vw vl vw r := ⟨h, Upd.refl _ _, fun _ hq => .inl hq⟩
end Go.Proofs.YtpfbgmfkeofefaaGreat

/-
  DiskPlays: an act of the disk beside the document's.
-/
namespace Go.Proofs.YtpfbgmfkeofefaaGreat
open Go Go.RowKit

/-- The blocks of the document's disk. -/
abbrev RdX (vl vw : Value) : Nat → Prop := fun q => vl.ownBlock = some q ∨ vw.ownBlock = some q
/-- A disk beside the document's. -/
structure PlayAt (w0 w : World) (p : Nat) (d : Dk) (vl vw : Value) (r : Rd) : Prop where
  disks : DksX w0 w [(p, d)] (RdX vl vw)
  rd : RdAt w vl vw r
  is : RdIs d r
section
variable {w0 w w' : World} {p : Nat} {d d' : Dk} {vl vw vl' vw' : Value} {r r' : Rd}
theorem DksX.ref {L : List (Nat × Dk)} (h : DksX w0 w L (RdX vl vw)) (hL : RdLeft w w' vl vw vl' vw' r') : DksX w0 w' L (RdX vl' vw') :=
  h.turn (hL.upd.mono fun _ e => e.elim) fun q hq => by
    rcases hL.loc q hq with e | e
    · exact .inl e
    · refine .inr ⟨e, ?_⟩
      rcases hq with c | c
      · exact hL.at_.lasts.lt c
      · exact hL.at_.ws.lt c
theorem RdAt.kept (h : RdAt w vl vw r) (hk : XKept (RdX vl vw) w w') : RdAt w' vl vw r := ⟨h.lasts.eqb fun q hq => hk q (.inl hq), h.ws.eqb fun q hq => hk q (.inr hq)⟩
theorem PlayAt.still (h : PlayAt w0 w p d vl vw r) (hu : Upd (fun _ => False) w w') : PlayAt w0 w' p d vl vw r := ⟨h.disks.still hu, h.rd.upd hu, h.is⟩
theorem PlayAt.fits (h : PlayAt w0 w p d vl vw r) : r.fits := h.is.fits (h.disks.one 0 rfl).wf
end
section
variable {w W w' w2 w3 : World} {vl vw vl' vw' : Value} {r r' : Rd} {g : Nat}
/-- A block of the law's own is written. -/
theorem RdLeft.store (h : RdLeft w w' vl vw vl' vw' r) (hu : Upd (· = g) w' w2) (hg : ∀ q, RdX vl' vw' q → q ≠ g) (hw : w.heap.size ≤ g) : RdLeft w w2 vl vw vl' vw' r :=
  ⟨⟨h.at_.lasts.upd hu (fun _ hq e => hg _ (.inl hq) e), h.at_.ws.upd hu (fun _ hq e => hg _ (.inr hq) e)⟩, h.upd.then hu (fun _ e => .inr (by rw [e]; exact hw)), h.loc⟩
/-- Behind a new block: the disk's blocks are none of it. -/
theorem old_ne (h : RdAt w3 vl vw r) (hU : Upd (fun _ => False) w3 w) {o : Obj} (hL : RdLeft (w.alloc o) w' vl vw vl' vw' r') : ∀ q, RdX vl' vw' q → q ≠ w.heap.size := by
  intro q hq e
  have hs := hU.size
  rcases hL.loc q hq with c | c
  · rcases c with c | c
    · have := h.lasts.lt c; omega
    · have := h.ws.lt c; omega
  · have : w.heap.size + 1 ≤ q := by simpa using c
    omega
end
theorem three_new {w : World} {a b c : Array Value} {ta tb tc : TypeId} (w3 : World) (h : ((w.alloc (.cells a ta)).alloc (.cells b tb)).alloc (.cells c tc) = w3) :
    Upd (fun _ => False) w w3 ∧ Blk w3 w.heap.size ta a ∧ Blk w3 (w.heap.size + 1) tb b ∧ Blk w3 (w.heap.size + 1 + 1) tc c ∧ w3.heap.size = w.heap.size + 3 := by
  subst h
  refine ⟨(((Upd.refl _ w).alloc _).alloc _).alloc _, ((Blk.new w _ _).alloc _).alloc _, ?_, ?_, by simp⟩
  · have := (Blk.new (w.alloc (.cells a ta)) tb b).alloc (.cells c tc)
    simpa using this
  · have := Blk.new ((w.alloc (.cells a ta)).alloc (.cells b tb)) tc c
    simpa using this
section
variable {w0 w w' : World} {p : Nat} {d : Dk} {l : List (Nat × Dk)} {vl vw : Value} {r : Rd} {g : Nat} {t : TypeId} {cs : Array Value} {X : Nat → Prop}
theorem RdAt.ne (h : RdAt w vl vw r) (hB : Blk w g t cs) (h1 : 9 ≠ t) (h2 : 117 ≠ t) : ¬ RdX vl vw g := fun e => by
  rcases e with e | e
  · exact h.lasts.ne_blk hB h1 e
  · exact h.ws.ne_blk hB h2 e
/-- A block that is neither the disks' nor one of X is written. -/
theorem DksX.off (h : DksX w0 w l X) (hB : Blk w g t cs) (h1 : t ≠ 93) (h2 : t ≠ 9) (hg : w0.heap.size ≤ g) (hu : Upd (· = g) w w') : DksX w0 w' l X := by
  obtain ⟨G, a1, a2⟩ := h.ex
  exact ⟨⟨G, fun i hi => ⟨(a1 i hi).1.upd hu (fun q hq e => (a1 i hi).1.not_mem hB h1 h2 (by rw [← show q = g from e]; exact hq)), (a1 i hi).2⟩, a2⟩, fun q hq => ⟨(h.low q hq).1, Nat.lt_of_lt_of_le (h.low q hq).2 hu.size⟩, h.upd.then hu (fun q e => .inr (by rw [show q = g from e]; exact hg))⟩
/-- A row of the law's own is written. -/
theorem PlayAt.store (h : PlayAt w0 w p d vl vw r) (hB : Blk w g 33 cs) (hg : w0.heap.size ≤ g) (hu : Upd (· = g) w w') : PlayAt w0 w' p d vl vw r :=
  ⟨h.disks.off hB (by decide) (by decide) hg hu, ⟨h.rd.lasts.upd hu (fun _ hq e => h.rd.ne hB (by decide) (by decide) (.inl (by rw [← show _ = g from e]; exact hq))), h.rd.ws.upd hu (fun _ hq e => h.rd.ne hB (by decide) (by decide) (.inr (by rw [← show _ = g from e]; exact hq)))⟩, h.is⟩
end
section
variable {w W w' wz : World} {g : Nat}
theorem BlkKept.pre (hK : BlkKept W w') (hU : Upd (fun _ => False) w W) : BlkKept w w' := fun _ _ _ hB h1 h2 => hK _ _ _ (hB.upd hU (fun e => e)) h1 h2
theorem BlkKept.post (hK : BlkKept w w') (hU : Upd (fun _ => False) w' wz) : BlkKept w wz := fun _ _ _ hB h1 h2 => (hK _ _ _ hB h1 h2).upd hU (fun e => e)
theorem BlkKept.still (hU : Upd (fun _ => False) w w') : BlkKept w w' := fun _ _ _ hB _ _ => hB.upd hU (fun e => e)
/-- A block that is new since is written. -/
theorem BlkKept.ends (hK : BlkKept w w') (hU : Upd (· = g) w' wz) (hg : w.heap.size ≤ g) : BlkKept w wz := fun _ _ _ hB h1 h2 => (hK _ _ _ hB h1 h2).upd hU (fun e => by have := hB.lt; omega)
end
end Go.Proofs.YtpfbgmfkeofefaaGreat

/-
  DiskPlays: acts of the disk beside the document's: a sync. (Printed by mk_play.py.)
-/
namespace Go.Proofs.YtpfbgmfkeofefaaGreat
open Go Go.RowKit


end Go.Proofs.YtpfbgmfkeofefaaGreat

/-
  DiskPlays: acts of the disk beside the document's: a fuse, a crash, a read, and what is none. (Printed by mk_play.py.)
-/
namespace Go.Proofs.YtpfbgmfkeofefaaGreat
open Go Go.RowKit


end Go.Proofs.YtpfbgmfkeofefaaGreat

/-
  DiskPlays: acts of the disk beside the document's: a fuse, a crash. (Printed by mk_play.py.)
-/
namespace Go.Proofs.YtpfbgmfkeofefaaGreat
open Go Go.RowKit


end Go.Proofs.YtpfbgmfkeofefaaGreat
