/-
  A law's world of chapter 10: both are opened again.
-/
import Derived.Test.YtpfbgmfkeofefaaGreatPlay10
import Derived.Test.YtpfbgmfkeofefaaGreatMore
import Derived.BigQuiet
namespace Go.Proofs.YtpfbgmfkeofefaaGreat
open Go Go.RowKit

/-- No log. -/
abbrev lz : Lg := ⟨0, 0, 0, [], 0, 0, 0, false⟩
/-- The law's own row. -/
abbrev row10 (p : Nat) (kv vl vw : Value) (r : Rd) (V : Lg) (vg : Value) (f se : Int) (ep : Nat) (n : Int) : Array Value :=
  #[.pointer (some ⟨p, 0, none⟩), kv, vl, vw, .int .i64 r.fuse, .bool r.off, .int .i64 (V.from_ : Int), .int .i64 (V.sectors : Int), .int .u64 (V.epoch : Int), vg, .int .i64 (V.used : Int), .int .u64 (V.last : Int), .int .u64 (V.salt : Int), .bool V.broken, .int .i64 f, .int .i64 se, .int .u64 (ep : Int), .int .i64 n]
theorem Blk.cells18 {w : World} {g : Nat} {t : TypeId} {a b c d e f h i j k l m n o q r s u : Value} (z : Blk w g t #[a, b, c, d, e, f, h, i, j, k, l, m, n, o, q, r, s, u]) : w.cell? ⟨g, 0, none⟩ = some a ∧ w.cell? ⟨g, 1, none⟩ = some b ∧ w.cell? ⟨g, 2, none⟩ = some c ∧ w.cell? ⟨g, 3, none⟩ = some d ∧ w.cell? ⟨g, 4, none⟩ = some e ∧ w.cell? ⟨g, 5, none⟩ = some f ∧
    w.cell? ⟨g, 6, none⟩ = some h ∧ w.cell? ⟨g, 7, none⟩ = some i ∧ w.cell? ⟨g, 8, none⟩ = some j ∧ w.cell? ⟨g, 9, none⟩ = some k ∧ w.cell? ⟨g, 10, none⟩ = some l ∧ w.cell? ⟨g, 11, none⟩ = some m ∧ w.cell? ⟨g, 12, none⟩ = some n ∧ w.cell? ⟨g, 13, none⟩ = some o ∧ w.cell? ⟨g, 14, none⟩ = some q ∧ w.cell? ⟨g, 15, none⟩ = some r ∧ w.cell? ⟨g, 16, none⟩ = some s ∧ w.cell? ⟨g, 17, none⟩ = some u :=
  ⟨z.cell 0, z.cell 1, z.cell 2, z.cell 3, z.cell 4, z.cell 5, z.cell 6, z.cell 7, z.cell 8, z.cell 9, z.cell 10, z.cell 11, z.cell 12, z.cell 13, z.cell 14, z.cell 15, z.cell 16, z.cell 17⟩
/-- A block of the law's own is written, a log beside it. -/
theorem LgS.off {w0 w w' : World} {p b g : Nat} {d : Dk} {G : Lg} {X : Nat → Prop} {t : TypeId} {cs : Array Value} (h : LgS w0 w p b d G X) (hB : Blk w g t cs) (h1 : t ≠ 93) (h2 : t ≠ 9) (h3 : t ≠ 98) (hg : w0.heap.size ≤ g) (hu : Upd (· = g) w w') : LgS w0 w' p b d G X := by
  obtain ⟨F, v, a1, a2, a3, a4, a5, a6⟩ := h.ex
  exact ⟨⟨F, v, a1.upd hu (fun q hq e => a1.not_mem hB h1 h2 (e ▸ hq)), a2, a3.upd hu (fun e => a3.ne_ hB (Ne.symm h3) e), a4.upd hu (fun q hq e => a4.ne_blk hB (Ne.symm h2) (e ▸ hq)), a5, fun q hq => ⟨Nat.lt_of_lt_of_le (a6 q hq).1 hu.size, (a6 q hq).2⟩⟩, h.new, h.upd.then hu (fun q e => .inr (e ▸ hg))⟩
/-- The document's side. -/
structure Side10 (w0 w : World) (vl vw : Value) (d : Dk) (r : Rd) (vg : Value) (L : List ByteArray) : Prop where
  low : ∀ q, RgX vl vw vg q → w0.heap.size ≤ q
  rd : RdAt w vl vw r
  is : RdIs d r
  recs : Own w 9 1 vg L.length (strs L)
/-- What is kept, and the document's log of it. -/
def Keeps10 (w0 w : World) (p : Nat) (d : Dk) (kv : Value) (V : Lg) (vg : Value) (n : Int) (X : Nat → Prop) : Prop :=
  (n = 0 ∧ V.fits ∧ ∃ b, kv = .pointer (some ⟨b, 0, none⟩) ∧ LgS w0 w p b d V X) ∨ (n ≠ 0 ∧ kv = .pointer none ∧ V = lz ∧ vg = .slice none 0 0 ∧ DksX w0 w [(p, d)] X)
/-- A law's world. -/
structure W10 (w0 w : World) (x p : Nat) (d : Dk) (vl vw : Value) (r : Rd) (kv : Value) (V : Lg) (vg : Value) (f se : Int) (ep : Nat) (n : Int) : Prop where
  side : Side10 w0 w vl vw d r vg V.l
  blk : Blk w x 41 (row10 p kv vl vw r V vg f se ep n)
  low : w0.heap.size ≤ x
  kept : Keeps10 w0 w p d kv V vg n (RgX vl vw vg)
/-- A law's world, whatever is kept. -/
structure W10b (w0 w : World) (x p : Nat) (d : Dk) (vl vw : Value) (r : Rd) (kv : Value) (V : Lg) (vg : Value) (f se : Int) (ep : Nat) (n : Int) : Prop where
  side : Side10 w0 w vl vw d r vg V.l
  blk : Blk w x 41 (row10 p kv vl vw r V vg f se ep n)
  low : w0.heap.size ≤ x
  disks : DksX w0 w [(p, d)] (RgX vl vw vg)
section
variable {w0 w w' : World} {x p : Nat} {d : Dk} {vl vw kv vg : Value} {r : Rd} {V : Lg} {f se : Int} {ep : Nat} {n : Int} {X : Nat → Prop}
theorem Keeps10.one (h : Keeps10 w0 w p d kv V vg n X) : kv.oneCell' = true := by
  rcases h with ⟨_, _, b, rfl, _⟩ | ⟨_, rfl, _⟩ <;> rfl
theorem Keeps10.still (h : Keeps10 w0 w p d kv V vg n X) (hu : Upd (fun _ => False) w w') : Keeps10 w0 w' p d kv V vg n X := by
  rcases h with ⟨h1, h2, b, h3, h4⟩ | ⟨h1, h2, h3, h4, h5⟩
  · exact .inl ⟨h1, h2, b, h3, h4.still hu⟩
  · exact .inr ⟨h1, h2, h3, h4, h5.still hu⟩
theorem Keeps10.off {g : Nat} {t : TypeId} {cs : Array Value} (h : Keeps10 w0 w p d kv V vg n X) (hB : Blk w g t cs) (h1 : t ≠ 93) (h2 : t ≠ 9) (h3 : t ≠ 98) (hg : w0.heap.size ≤ g) (hu : Upd (· = g) w w') : Keeps10 w0 w' p d kv V vg n X := by
  rcases h with ⟨a1, a2, b, a3, a4⟩ | ⟨a1, a2, a3, a4, a5⟩
  · exact .inl ⟨a1, a2, b, a3, a4.off hB h1 h2 h3 hg hu⟩
  · exact .inr ⟨a1, a2, a3, a4, a5.off hB h1 h2 hg hu⟩
theorem Side10.still {L : List ByteArray} (h : Side10 w0 w vl vw d r vg L) (hu : Upd (fun _ => False) w w') : Side10 w0 w' vl vw d r vg L := ⟨h.low, h.rd.upd hu, h.is, h.recs.upd hu (fun _ _ e => e)⟩
theorem Side10.off {L : List ByteArray} {g : Nat} {t : TypeId} {cs : Array Value} (h : Side10 w0 w vl vw d r vg L) (hB : Blk w g t cs) (h2 : t ≠ 9) (h3 : t ≠ 117) (hu : Upd (· = g) w w') : Side10 w0 w' vl vw d r vg L :=
  ⟨h.low, ⟨h.rd.lasts.upd hu (fun _ hq e => h.rd.ne hB (Ne.symm h2) (Ne.symm h3) (.inl (by rw [← show _ = g from e]; exact hq))), h.rd.ws.upd hu (fun _ hq e => h.rd.ne hB (Ne.symm h2) (Ne.symm h3) (.inr (by rw [← show _ = g from e]; exact hq)))⟩, h.is, h.recs.upd hu (fun q hq e => h.recs.ne_blk hB (Ne.symm h2) (e ▸ hq))⟩
theorem W10.disks (h : W10 w0 w x p d vl vw r kv V vg f se ep n) : DksX w0 w [(p, d)] (RgX vl vw vg) := by
  rcases h.kept with ⟨_, _, b, _, h4⟩ | ⟨_, _, _, _, h5⟩
  · exact h4.dksx h.side.low
  · exact h5
theorem W10.b (h : W10 w0 w x p d vl vw r kv V vg f se ep n) : W10b w0 w x p d vl vw r kv V vg f se ep n := ⟨h.side, h.blk, h.low, h.disks⟩
theorem W10.still (h : W10 w0 w x p d vl vw r kv V vg f se ep n) (hu : Upd (fun _ => False) w w') : W10 w0 w' x p d vl vw r kv V vg f se ep n := ⟨h.side.still hu, h.blk.upd hu (fun e => e), h.low, h.kept.still hu⟩
theorem W10b.still (h : W10b w0 w x p d vl vw r kv V vg f se ep n) (hu : Upd (fun _ => False) w w') : W10b w0 w' x p d vl vw r kv V vg f se ep n := ⟨h.side.still hu, h.blk.upd hu (fun e => e), h.low, h.disks.still hu⟩
theorem W10.wf (h : W10 w0 w x p d vl vw r kv V vg f se ep n) : d.wf := (h.disks.one 0 rfl).wf
/-- What the document's Open leaves in a box. -/
structure Read10 (w1 wx : World) (V' : Lg) (vg' : Value) (O : Option Lg) (g : Nat) : Prop where
  upd : Upd (fun _ => False) w1 wx
  blk : Blk wx g 39 (V'.rowR vg')
  own : Own wx 9 1 vg' V'.l.length (strs V'.l)
  nil : O = none → vg' = .slice none 0 0
  fresh : ∀ q, vg'.ownBlock = some q → w1.heap.size ≤ q
  new : w1.heap.size ≤ g
set_option maxRecDepth 100000 in
set_option maxHeartbeats 3200000 in
theorem open_10b (hW : W10b w0 w x p d vl vw r kv V vg f se ep n) (hm : d.lasts.length ≤ 60) (hep : ep < 18446744073709551616) :
    Calls Tryz.prog 11 #[.pointer (some ⟨x, 0, none⟩)] w fun e w' => e = .returned (.bool true) ∧ ∃ kv' V' vg', W10 w0 w' x p d vl vw r kv' V' vg' f se ep (openLP d f se ep).2 ∧ Upd (· = x) w w' := by
  have hwf := (hW.disks.one 0 rfl).wf
  obtain ⟨V', hV'⟩ : ∃ V' : Lg, (∀ vg, openLg (openLP d f se ep).1 vg = V'.rowR vg ∨ (openLP d f se ep).1 = none) ∧ (∀ k, (openLP d f se ep).1 = some k → V' = k) ∧ ((openLP d f se ep).1 = none → V' = lz) := by
    cases (openLP d f se ep).1 with
    | none => exact ⟨lz, fun _ => .inr rfl, fun k e => (by cases e), fun _ => rfl⟩
    | some k => exact ⟨k, fun _ => .inl rfl, fun k' e => by cases e; rfl, fun e => by cases e⟩
  have hR0 : ∀ W, Upd (fun _ => False) w W → Calls Tryz.prog 38 #[.agg #[vl, vw, .int .i64 r.fuse, .bool r.off], .int .i64 f, .int .i64 se, .int .u64 (ep : Int)] W fun e w' => ∃ vg', e = .returned (.tuple #[.agg (V'.rowR vg'), .int .i64 (openLP d f se ep).2]) ∧ Upd (fun _ => False) W w' ∧ Own w' 9 1 vg' V'.l.length (strs V'.l) ∧ ((openLP d f se ep).1 = none → vg' = .slice none 0 0) ∧ (∀ q, vg'.ownBlock = some q → W.heap.size ≤ q) := fun W hu => by
    refine (ropen_lp (hW.side.rd.upd hu) hW.side.is hwf hm f se ep hep).mono ?_
    rintro e w' ⟨vg', rfl, hO⟩
    cases ho : (openLP d f se ep).1 with
    | none =>
      rw [ho] at hO
      obtain rfl := hV'.2.2 ho
      obtain rfl := hO.nil rfl
      exact ⟨.slice none 0 0, rfl, hO.upd, Own.nil _ _ _, fun _ => rfl, hO.new⟩
    | some k =>
      rw [ho] at hO
      obtain rfl := hV'.2.1 k ho
      exact ⟨vg', rfl, hO.upd, hO.own _ rfl, fun e => (by cases e), hO.new⟩
  have hO0 : ∀ W, Upd (fun _ => False) w W → Calls Tryz.prog 33 #[.pointer (some ⟨p, 0, none⟩), .int .i64 f, .int .i64 se, .int .u64 (ep : Int)] W fun e w' => ∃ kv', e = .returned (.tuple #[kv', .int .i64 (openLP d f se ep).2]) ∧ Upd (fun _ => False) W w' ∧
      (((openLP d f se ep).2 = 0 ∧ V'.fits ∧ ∃ b, kv' = .pointer (some ⟨b, 0, none⟩) ∧ LgS w0 w' p b d V' (RgX vl vw vg)) ∨ ((openLP d f se ep).2 ≠ 0 ∧ kv' = .pointer none ∧ V' = lz ∧ (openLP d f se ep).1 = none)) := fun W hu => by
    refine (open_lp (hW.disks.still hu) f se ep hep).mono ?_
    rintro e w' ⟨v, rfl, hS⟩
    refine ⟨v, rfl, hS.upd, ?_⟩
    rcases openLP_err d f se ep with ⟨h1, k, h2⟩ | ⟨h1, h2⟩
    · obtain ⟨b, hb, hk⟩ := hS.ok k h2
      obtain rfl := hV'.2.1 k h2
      exact .inl ⟨h1, openLP_fits hm hep h2, b, hb, hk⟩
    · exact .inr ⟨h1, hS.bad h2, hV'.2.2 h2, h2⟩
  obtain ⟨E, hE⟩ : ∃ E, (openLP d f se ep).2 = E := ⟨_, rfl⟩
  obtain ⟨O, hO⟩ : ∃ O, (openLP d f se ep).1 = O := ⟨_, rfl⟩
  rw [hE, hO] at hO0 hR0
  rw [hE]
  have HO := Lib.hid hO0
  have HR := Lib.hid hR0
  have H := Lib.hid hW
  clear hO0 hR0 hE hV' hW hO
  go_enter Tryz.func11, Tryz.ntmps11
  go_upto_region 1 with fail
  refine wp_region_noPanic ?_
  refine wp_region_T (S := fun w' => Upd (fun _ => False) w w') (T := fun _ => false) (by kernel_rfl) ?_
  have hS0 : Upd (fun _ => False) w w.drew := (Upd.refl _ w).drew
  refine wpAnyT_take (i := 0) (v := ?_) rfl (by kernel_rfl) (by kernel_rfl) (by kernel_rfl) (by kernel_rfl) (fun _ _ _ h => h) (takes_yield rfl (Or.inl ⟨by rfl, ?_⟩)) (by assumption) (by kernel_rfl) ?_
  rotate_left 1
  · intro w' hSw; have hcw := (H.out.blk.upd hSw (fun e => e)).cells18; go_split_ands; first | (go_simp; done) | (go_simp; rfl) | rfl
  simp only [Act.put, List.getElem_toArray, List.getElem_cons_zero, List.setIfInBounds_toArray, List.set_cons_zero, List.set_cons_succ]
  refine wpAnyT_take (i := 1) (v := ?_) rfl (by kernel_rfl) (by kernel_rfl) (by kernel_rfl) (by kernel_rfl) (fun _ _ _ h => h) (takes_yield rfl (Or.inl ⟨by rfl, ?_⟩)) (by assumption) (by kernel_rfl) ?_
  rotate_left 1
  · intro w' hSw; have hcw := (H.out.blk.upd hSw (fun e => e)).cells18; go_split_ands; first | (go_simp; done) | (go_simp; rfl) | rfl
  simp only [Act.put, List.getElem_toArray, List.getElem_cons_zero, List.getElem_cons_succ, List.setIfInBounds_toArray, List.set_cons_zero, List.set_cons_succ]
  refine wpAnyT_take (i := 2) (v := ?_) rfl (by kernel_rfl) (by kernel_rfl) (by kernel_rfl) (by kernel_rfl) (fun _ _ _ h => h) (takes_yield rfl (Or.inl ⟨by rfl, ?_⟩)) (by assumption) (by kernel_rfl) ?_
  rotate_left 1
  · intro w' hSw; have hcw := (H.out.blk.upd hSw (fun e => e)).cells18; go_split_ands; first | (go_simp; done) | (go_simp; rfl) | rfl
  simp only [Act.put, List.getElem_toArray, List.getElem_cons_zero, List.getElem_cons_succ, List.setIfInBounds_toArray, List.set_cons_zero, List.set_cons_succ]
  refine wpAnyT_take (i := 3) (v := ?_) rfl (by kernel_rfl) (by kernel_rfl) (by kernel_rfl) (by kernel_rfl) (fun _ _ _ h => h) (takes_yield rfl (Or.inl ⟨by rfl, ?_⟩)) (by assumption) (by kernel_rfl) ?_
  rotate_left 1
  · intro w' hSw; have hcw := (H.out.blk.upd hSw (fun e => e)).cells18; go_split_ands; first | (go_simp; done) | (go_simp; rfl) | rfl
  simp only [Act.put, List.getElem_toArray, List.getElem_cons_zero, List.getElem_cons_succ, List.setIfInBounds_toArray, List.set_cons_zero, List.set_cons_succ]
  refine wpAnyT_take (i := 4) (v := ?_) rfl (by kernel_rfl) (by kernel_rfl) (by kernel_rfl) (by kernel_rfl) (fun _ _ _ h => h) (takes_yield rfl (Or.inl ⟨by rfl, ?_⟩)) (by assumption) (by kernel_rfl) ?_
  rotate_left 1
  · intro w' hSw; have hcw := (H.out.blk.upd hSw (fun e => e)).cells18; go_split_ands; first | (go_simp; done) | (go_simp; rfl) | rfl
  simp only [Act.put, List.getElem_toArray, List.getElem_cons_zero, List.getElem_cons_succ, List.setIfInBounds_toArray, List.set_cons_zero, List.set_cons_succ]
  refine wpAnyT_take (i := 5) (v := ?_) rfl (by kernel_rfl) (by kernel_rfl) (by kernel_rfl) (by kernel_rfl) (fun _ _ _ h => h) (takes_yield rfl (Or.inl ⟨by rfl, ?_⟩)) (by assumption) (by kernel_rfl) ?_
  rotate_left 1
  · intro w' hSw; have hcw := (H.out.blk.upd hSw (fun e => e)).cells18; go_split_ands; first | (go_simp; done) | (go_simp; rfl) | rfl
  simp only [Act.put, List.getElem_toArray, List.getElem_cons_zero, List.getElem_cons_succ, List.setIfInBounds_toArray, List.set_cons_zero, List.set_cons_succ]
  refine wpAnyT_take (i := 6) (v := ?_) rfl (by kernel_rfl) (by kernel_rfl) (by kernel_rfl) (by kernel_rfl) (fun _ _ _ h => h) (takes_yield rfl (Or.inl ⟨by rfl, ?_⟩)) (by assumption) (by kernel_rfl) ?_
  rotate_left 1
  · intro w' hSw; have hcw := (H.out.blk.upd hSw (fun e => e)).cells18; go_split_ands; first | (go_simp; done) | (go_simp; rfl) | rfl
  simp only [Act.put, List.getElem_toArray, List.getElem_cons_zero, List.getElem_cons_succ, List.setIfInBounds_toArray, List.set_cons_zero, List.set_cons_succ]
  refine wpAnyT_take (i := 7) (v := ?_) rfl (by kernel_rfl) (by kernel_rfl) (by kernel_rfl) (by kernel_rfl) (fun _ _ _ h => h) (takes_yield rfl (Or.inl ⟨by rfl, ?_⟩)) (by assumption) (by kernel_rfl) ?_
  rotate_left 1
  · intro w' hSw; have hcw := (H.out.blk.upd hSw (fun e => e)).cells18; go_split_ands; first | (go_simp; done) | (go_simp; rfl) | rfl
  simp only [Act.put, List.getElem_toArray, List.getElem_cons_zero, List.getElem_cons_succ, List.setIfInBounds_toArray, List.set_cons_zero, List.set_cons_succ]
  refine wpAnyT_take (i := 8) (v := ?_) rfl (by kernel_rfl) (by kernel_rfl) (by kernel_rfl) (by kernel_rfl) (fun _ _ _ h => h) (takes_yield rfl (Or.inl ⟨by rfl, ?_⟩)) (by assumption) (by kernel_rfl) ?_
  rotate_left 1
  · intro w' hSw; have hcw := (H.out.blk.upd hSw (fun e => e)).cells18; go_split_ands; first | (go_simp; done) | (go_simp; rfl) | rfl
  simp only [Act.put, List.getElem_toArray, List.getElem_cons_zero, List.getElem_cons_succ, List.setIfInBounds_toArray, List.set_cons_zero, List.set_cons_succ]
  refine wpAnyT_take (i := 9) (v := ?_) rfl (by kernel_rfl) (by kernel_rfl) (by kernel_rfl) (by kernel_rfl) (fun _ _ _ h => h) (takes_yield rfl (Or.inl ⟨by rfl, ?_⟩)) (by assumption) (by kernel_rfl) ?_
  rotate_left 1
  · intro w' hSw; have hcw := (H.out.blk.upd hSw (fun e => e)).cells18; go_split_ands; first | (go_simp; done) | (go_simp; rfl) | rfl
  simp only [Act.put, List.getElem_toArray, List.getElem_cons_zero, List.getElem_cons_succ, List.setIfInBounds_toArray, List.set_cons_zero, List.set_cons_succ]
  refine wpAnyT_take (i := 10) (v := ?_) rfl (by kernel_rfl) (by kernel_rfl) (by kernel_rfl) (by kernel_rfl) (fun _ _ _ h => h) (takes_yield rfl (Or.inl ⟨by rfl, ?_⟩)) (by assumption) (by kernel_rfl) ?_
  rotate_left 1
  · intro w' hSw; have hcw := (H.out.blk.upd hSw (fun e => e)).cells18; go_split_ands; first | (go_simp; done) | (go_simp; rfl) | rfl
  simp only [Act.put, List.getElem_toArray, List.getElem_cons_zero, List.getElem_cons_succ, List.setIfInBounds_toArray, List.set_cons_zero, List.set_cons_succ]
  refine wpAnyT_take (i := 11) (v := ?_) rfl (by kernel_rfl) (by kernel_rfl) (by kernel_rfl) (by kernel_rfl) (fun _ _ _ h => h) (takes_yield rfl (Or.inl ⟨by rfl, ?_⟩)) (by assumption) (by kernel_rfl) ?_
  rotate_left 1
  · intro w' hSw; have hcw := (H.out.blk.upd hSw (fun e => e)).cells18; go_split_ands; first | (go_simp; done) | (go_simp; rfl) | rfl
  simp only [Act.put, List.getElem_toArray, List.getElem_cons_zero, List.getElem_cons_succ, List.setIfInBounds_toArray, List.set_cons_zero, List.set_cons_succ]
  refine wpAnyT_take (i := 12) (v := ?_) rfl (by kernel_rfl) (by kernel_rfl) (by kernel_rfl) (by kernel_rfl) (fun _ _ _ h => h) (takes_yield rfl (Or.inl ⟨by rfl, ?_⟩)) (by assumption) (by kernel_rfl) ?_
  rotate_left 1
  · intro w' hSw; have hcw := (H.out.blk.upd hSw (fun e => e)).cells18; go_split_ands; first | (go_simp; done) | (go_simp; rfl) | rfl
  simp only [Act.put, List.getElem_toArray, List.getElem_cons_zero, List.getElem_cons_succ, List.setIfInBounds_toArray, List.set_cons_zero, List.set_cons_succ]
  refine wpAnyT_take (i := 13) (v := ?_) rfl (by kernel_rfl) (by kernel_rfl) (by kernel_rfl) (by kernel_rfl) (fun _ _ _ h => h) (takes_yield rfl (Or.inl ⟨by rfl, ?_⟩)) (by assumption) (by kernel_rfl) ?_
  rotate_left 1
  · intro w' hSw; have hcw := (H.out.blk.upd hSw (fun e => e)).cells18; go_split_ands; first | (go_simp; done) | (go_simp; rfl) | rfl
  simp only [Act.put, List.getElem_toArray, List.getElem_cons_zero, List.getElem_cons_succ, List.setIfInBounds_toArray, List.set_cons_zero, List.set_cons_succ]
  refine wpAnyT_take (i := 14) (v := ?_) rfl (by kernel_rfl) (by kernel_rfl) (by kernel_rfl) (by kernel_rfl) (fun _ _ _ h => h) (takes_yield rfl (Or.inl ⟨by rfl, ?_⟩)) (by assumption) (by kernel_rfl) ?_
  rotate_left 1
  · intro w' hSw; have hcw := (H.out.blk.upd hSw (fun e => e)).cells18; go_split_ands; first | (go_simp; done) | (go_simp; rfl) | rfl
  simp only [Act.put, List.getElem_toArray, List.getElem_cons_zero, List.getElem_cons_succ, List.setIfInBounds_toArray, List.set_cons_zero, List.set_cons_succ]
  refine wpAnyT_take (i := 15) (v := ?_) rfl (by kernel_rfl) (by kernel_rfl) (by kernel_rfl) (by kernel_rfl) (fun _ _ _ h => h) (takes_yield rfl (Or.inl ⟨by rfl, ?_⟩)) (by assumption) (by kernel_rfl) ?_
  rotate_left 1
  · intro w' hSw; have hcw := (H.out.blk.upd hSw (fun e => e)).cells18; go_split_ands; first | (go_simp; done) | (go_simp; rfl) | rfl
  simp only [Act.put, List.getElem_toArray, List.getElem_cons_zero, List.getElem_cons_succ, List.setIfInBounds_toArray, List.set_cons_zero, List.set_cons_succ]
  refine wpAnyT_one (i := 16) (by kernel_rfl) rfl (fun K hK => ?_)
  go_simp
  refine (HO.out _ hS0).mono ?_
  rintro e w1 ⟨kv', rfl, hU, hKv⟩
  have hS1 := hS0.then hU (fun _ e => e.elim)
  refine hK.out _ _ hS1 ?_
  have hone : kv'.oneCell' = true := by rcases hKv with ⟨_, _, b, rfl, _⟩ | ⟨_, rfl, _⟩ <;> rfl
  have H1 := Lib.hid (And.intro (H.out.still hS1) (And.intro hKv (And.intro hS1 hone)))
  clear hK hS0 hU hKv hone
  refine wpAnyT_take (i := 17) (v := ?_) rfl (by kernel_rfl) (by kernel_rfl) (by kernel_rfl) (by kernel_rfl) (fun _ _ _ h => h) (takes_yield rfl (Or.inl ⟨by rfl, ?_⟩)) (by assumption) (by kernel_rfl) ?_
  rotate_left 1
  · intro w' hSw; go_split_ands; first | (go_simp; done) | (go_simp; rfl) | rfl
  simp only [Act.put, List.getElem_toArray, List.getElem_cons_zero, List.getElem_cons_succ, List.setIfInBounds_toArray, List.set_cons_zero, List.set_cons_succ]
  refine wpAnyT_take (i := 18) (v := ?_) rfl (by kernel_rfl) (by kernel_rfl) (by kernel_rfl) (by kernel_rfl) (fun _ _ _ h => h) (takes_yield rfl (Or.inl ⟨by rfl, ?_⟩)) (by assumption) (by kernel_rfl) ?_
  rotate_left 1
  · intro w' hSw; go_split_ands; first | (go_simp; done) | (go_simp; rfl) | rfl
  simp only [Act.put, List.getElem_toArray, List.getElem_cons_zero, List.getElem_cons_succ, List.setIfInBounds_toArray, List.set_cons_zero, List.set_cons_succ]
  refine wpAnyT_take (i := 19) (v := ?_) rfl (by kernel_rfl) (by kernel_rfl) (by kernel_rfl) (by kernel_rfl) (fun _ _ _ h => h) (takes_yield rfl (Or.inl ⟨by rfl, ?_⟩)) (by assumption) (by kernel_rfl) ?_
  rotate_left 1
  · intro w' hSw; go_split_ands; first | (go_simp; done) | (go_simp; rfl) | rfl
  simp only [Act.put, List.getElem_toArray, List.getElem_cons_zero, List.getElem_cons_succ, List.setIfInBounds_toArray, List.set_cons_zero, List.set_cons_succ]
  refine wpAnyT_take (i := 20) (v := ?_) rfl (by kernel_rfl) (by kernel_rfl) (by kernel_rfl) (by kernel_rfl) (fun _ _ _ h => h) (takes_yield rfl (Or.inl ⟨by rfl, ?_⟩)) (by assumption) (by kernel_rfl) ?_
  rotate_left 1
  · intro w' hSw; go_split_ands; first | (go_simp; done) | (go_simp; rfl) | rfl
  simp only [Act.put, List.getElem_toArray, List.getElem_cons_zero, List.getElem_cons_succ, List.setIfInBounds_toArray, List.set_cons_zero, List.set_cons_succ]
  refine wpAnyT_take (i := 21) (v := ?_) rfl (by kernel_rfl) (by kernel_rfl) (by kernel_rfl) (by kernel_rfl) (fun _ _ _ h => h) (takes_yield rfl (Or.inl ⟨by rfl, ?_⟩)) (by assumption) (by kernel_rfl) ?_
  rotate_left 1
  · intro w' hSw; go_split_ands; first | (go_simp; done) | (go_simp; rfl) | rfl
  simp only [Act.put, List.getElem_toArray, List.getElem_cons_zero, List.getElem_cons_succ, List.setIfInBounds_toArray, List.set_cons_zero, List.set_cons_succ]
  refine wpAnyT_done (by kernel_rfl) ?_ _
  refine NoPanic.normal ?_
  clear hS1
  go_upto_region 2 with fail
  go_cut [5, 6] (fun t5 t6 wx => ∃ (g : Nat) (vg' : Value), t5 = .pointer (some ⟨g, 0, none⟩) ∧ t6 = .int .i64 E ∧ Read10 w1 wx V' vg' O g)
  case first =>
    refine wp_region_noPanic ?_
    refine wp_region_T (S := fun w' => Upd (fun _ => False) w1 w') (T := fun _ => false) (by kernel_rfl) ?_
    have hS0 : Upd (fun _ => False) w1 w1.drew := (Upd.refl _ w1).drew
    have hw1 := H1.out.2.2.1
    refine wpAnyT_take (i := 0) (v := ?_) rfl (by kernel_rfl) (by kernel_rfl) (by kernel_rfl) (by kernel_rfl) (fun _ _ _ h => h) (takes_yield rfl (Or.inl ⟨by rfl, ?_⟩)) (by assumption) (by kernel_rfl) ?_
    rotate_left 1
    · intro w' hSw; have hcw := (H1.out.1.blk.upd hSw (fun e => e)).cells18; go_split_ands; first | (go_simp; done) | (go_simp; rfl) | rfl
    simp only [Act.put, List.getElem_toArray, List.getElem_cons_zero, List.setIfInBounds_toArray, List.set_cons_zero, List.set_cons_succ]
    refine wpAnyT_take (i := 1) (v := ?_) rfl (by kernel_rfl) (by kernel_rfl) (by kernel_rfl) (by kernel_rfl) (fun _ _ _ h => h) (takes_yield rfl (Or.inl ⟨by rfl, ?_⟩)) (by assumption) (by kernel_rfl) ?_
    rotate_left 1
    · intro w' hSw; have hcw := (H1.out.1.blk.upd hSw (fun e => e)).cells18; go_split_ands; first | (go_simp; done) | (go_simp; rfl) | rfl
    simp only [Act.put, List.getElem_toArray, List.getElem_cons_zero, List.getElem_cons_succ, List.setIfInBounds_toArray, List.set_cons_zero, List.set_cons_succ]
    refine wpAnyT_take (i := 2) (v := ?_) rfl (by kernel_rfl) (by kernel_rfl) (by kernel_rfl) (by kernel_rfl) (fun _ _ _ h => h) (takes_yield rfl (Or.inl ⟨by rfl, ?_⟩)) (by assumption) (by kernel_rfl) ?_
    rotate_left 1
    · intro w' hSw; have hcw := (H1.out.1.blk.upd hSw (fun e => e)).cells18; go_split_ands; first | (go_simp; done) | (go_simp; rfl) | rfl
    simp only [Act.put, List.getElem_toArray, List.getElem_cons_zero, List.getElem_cons_succ, List.setIfInBounds_toArray, List.set_cons_zero, List.set_cons_succ]
    refine wpAnyT_take (i := 3) (v := ?_) rfl (by kernel_rfl) (by kernel_rfl) (by kernel_rfl) (by kernel_rfl) (fun _ _ _ h => h) (takes_yield rfl (Or.inl ⟨by rfl, ?_⟩)) (by assumption) (by kernel_rfl) ?_
    rotate_left 1
    · intro w' hSw; have hcw := (H1.out.1.blk.upd hSw (fun e => e)).cells18; go_split_ands; first | (go_simp; done) | (go_simp; rfl) | rfl
    simp only [Act.put, List.getElem_toArray, List.getElem_cons_zero, List.getElem_cons_succ, List.setIfInBounds_toArray, List.set_cons_zero, List.set_cons_succ]
    refine wpAnyT_take (i := 4) (v := ?_) rfl (by kernel_rfl) (by kernel_rfl) (by kernel_rfl) (by kernel_rfl) (fun _ _ _ h => h) (takes_yield rfl (Or.inl ⟨by rfl, ?_⟩)) (by assumption) (by kernel_rfl) ?_
    rotate_left 1
    · intro w' hSw; have hcw := (H1.out.1.blk.upd hSw (fun e => e)).cells18; go_split_ands; first | (go_simp; done) | (go_simp; rfl) | rfl
    simp only [Act.put, List.getElem_toArray, List.getElem_cons_zero, List.getElem_cons_succ, List.setIfInBounds_toArray, List.set_cons_zero, List.set_cons_succ]
    refine wpAnyT_take (i := 5) (v := ?_) rfl (by kernel_rfl) (by kernel_rfl) (by kernel_rfl) (by kernel_rfl) (fun _ _ _ h => h) (takes_yield rfl (Or.inl ⟨by rfl, ?_⟩)) (by assumption) (by kernel_rfl) ?_
    rotate_left 1
    · intro w' hSw; have hcw := (H1.out.1.blk.upd hSw (fun e => e)).cells18; go_split_ands; first | (go_simp; done) | (go_simp; rfl) | rfl
    simp only [Act.put, List.getElem_toArray, List.getElem_cons_zero, List.getElem_cons_succ, List.setIfInBounds_toArray, List.set_cons_zero, List.set_cons_succ]
    refine wpAnyT_take (i := 6) (v := ?_) rfl (by kernel_rfl) (by kernel_rfl) (by kernel_rfl) (by kernel_rfl) (fun _ _ _ h => h) (takes_yield rfl (Or.inl ⟨by rfl, ?_⟩)) (by assumption) (by kernel_rfl) ?_
    rotate_left 1
    · intro w' hSw; have hcw := (H1.out.1.blk.upd hSw (fun e => e)).cells18; go_split_ands; first | (go_simp; done) | (go_simp; rfl) | rfl
    simp only [Act.put, List.getElem_toArray, List.getElem_cons_zero, List.getElem_cons_succ, List.setIfInBounds_toArray, List.set_cons_zero, List.set_cons_succ]
    refine wpAnyT_take (i := 7) (v := ?_) rfl (by kernel_rfl) (by kernel_rfl) (by kernel_rfl) (by kernel_rfl) (fun _ _ _ h => h) (takes_yield rfl (Or.inl ⟨by rfl, ?_⟩)) (by assumption) (by kernel_rfl) ?_
    rotate_left 1
    · intro w' hSw; have hcw := (H1.out.1.blk.upd hSw (fun e => e)).cells18; go_split_ands; first | (go_simp; done) | (go_simp; rfl) | rfl
    simp only [Act.put, List.getElem_toArray, List.getElem_cons_zero, List.getElem_cons_succ, List.setIfInBounds_toArray, List.set_cons_zero, List.set_cons_succ]
    refine wpAnyT_take (i := 8) (v := ?_) rfl (by kernel_rfl) (by kernel_rfl) (by kernel_rfl) (by kernel_rfl) (fun _ _ _ h => h) (takes_yield rfl (Or.inl ⟨by rfl, ?_⟩)) (by assumption) (by kernel_rfl) ?_
    rotate_left 1
    · intro w' hSw; have hcw := (H1.out.1.blk.upd hSw (fun e => e)).cells18; go_split_ands; first | (go_simp; done) | (go_simp; rfl) | rfl
    simp only [Act.put, List.getElem_toArray, List.getElem_cons_zero, List.getElem_cons_succ, List.setIfInBounds_toArray, List.set_cons_zero, List.set_cons_succ]
    refine wpAnyT_take (i := 9) (v := ?_) rfl (by kernel_rfl) (by kernel_rfl) (by kernel_rfl) (by kernel_rfl) (fun _ _ _ h => h) (takes_yield rfl (Or.inl ⟨by rfl, ?_⟩)) (by assumption) (by kernel_rfl) ?_
    rotate_left 1
    · intro w' hSw; have hcw := (H1.out.1.blk.upd hSw (fun e => e)).cells18; go_split_ands; first | (go_simp; done) | (go_simp; rfl) | rfl
    simp only [Act.put, List.getElem_toArray, List.getElem_cons_zero, List.getElem_cons_succ, List.setIfInBounds_toArray, List.set_cons_zero, List.set_cons_succ]
    refine wpAnyT_take (i := 10) (v := ?_) rfl (by kernel_rfl) (by kernel_rfl) (by kernel_rfl) (by kernel_rfl) (fun _ _ _ h => h) (takes_yield rfl (Or.inl ⟨by rfl, ?_⟩)) (by assumption) (by kernel_rfl) ?_
    rotate_left 1
    · intro w' hSw; have hcw := (H1.out.1.blk.upd hSw (fun e => e)).cells18; go_split_ands; first | (go_simp; done) | (go_simp; rfl) | rfl
    simp only [Act.put, List.getElem_toArray, List.getElem_cons_zero, List.getElem_cons_succ, List.setIfInBounds_toArray, List.set_cons_zero, List.set_cons_succ]
    refine wpAnyT_take (i := 11) (v := ?_) rfl (by kernel_rfl) (by kernel_rfl) (by kernel_rfl) (by kernel_rfl) (fun _ _ _ h => h) (takes_yield rfl (Or.inl ⟨by rfl, ?_⟩)) (by assumption) (by kernel_rfl) ?_
    rotate_left 1
    · intro w' hSw; have hcw := (H1.out.1.blk.upd hSw (fun e => e)).cells18; go_split_ands; first | (go_simp; done) | (go_simp; rfl) | rfl
    simp only [Act.put, List.getElem_toArray, List.getElem_cons_zero, List.getElem_cons_succ, List.setIfInBounds_toArray, List.set_cons_zero, List.set_cons_succ]
    refine wpAnyT_take (i := 12) (v := ?_) rfl (by kernel_rfl) (by kernel_rfl) (by kernel_rfl) (by kernel_rfl) (fun _ _ _ h => h) (takes_yield rfl (Or.inl ⟨by rfl, ?_⟩)) (by assumption) (by kernel_rfl) ?_
    rotate_left 1
    · intro w' hSw; have hcw := (H1.out.1.blk.upd hSw (fun e => e)).cells18; go_split_ands; first | (go_simp; done) | (go_simp; rfl) | rfl
    simp only [Act.put, List.getElem_toArray, List.getElem_cons_zero, List.getElem_cons_succ, List.setIfInBounds_toArray, List.set_cons_zero, List.set_cons_succ]
    refine wpAnyT_take (i := 13) (v := ?_) rfl (by kernel_rfl) (by kernel_rfl) (by kernel_rfl) (by kernel_rfl) (fun _ _ _ h => h) (takes_yield rfl (Or.inl ⟨by rfl, ?_⟩)) (by assumption) (by kernel_rfl) ?_
    rotate_left 1
    · intro w' hSw; have hcw := (H1.out.1.blk.upd hSw (fun e => e)).cells18; go_split_ands; first | (go_simp; done) | (go_simp; rfl) | rfl
    simp only [Act.put, List.getElem_toArray, List.getElem_cons_zero, List.getElem_cons_succ, List.setIfInBounds_toArray, List.set_cons_zero, List.set_cons_succ]
    refine wpAnyT_take (i := 14) (v := ?_) rfl (by kernel_rfl) (by kernel_rfl) (by kernel_rfl) (by kernel_rfl) (fun _ _ _ h => h) (takes_yield rfl (Or.inl ⟨by rfl, ?_⟩)) (by assumption) (by kernel_rfl) ?_
    rotate_left 1
    · intro w' hSw; have hcw := (H1.out.1.blk.upd hSw (fun e => e)).cells18; go_split_ands; first | (go_simp; done) | (go_simp; rfl) | rfl
    simp only [Act.put, List.getElem_toArray, List.getElem_cons_zero, List.getElem_cons_succ, List.setIfInBounds_toArray, List.set_cons_zero, List.set_cons_succ]
    refine wpAnyT_take (i := 15) (v := ?_) rfl (by kernel_rfl) (by kernel_rfl) (by kernel_rfl) (by kernel_rfl) (fun _ _ _ h => h) (takes_yield rfl (Or.inl ⟨by rfl, ?_⟩)) (by assumption) (by kernel_rfl) ?_
    rotate_left 1
    · intro w' hSw; have hcw := (H1.out.1.blk.upd hSw (fun e => e)).cells18; go_split_ands; first | (go_simp; done) | (go_simp; rfl) | rfl
    simp only [Act.put, List.getElem_toArray, List.getElem_cons_zero, List.getElem_cons_succ, List.setIfInBounds_toArray, List.set_cons_zero, List.set_cons_succ]
    refine wpAnyT_two (i := 16) (j := 20) (by kernel_rfl) rfl rfl (fun K hK => ?_) (fun K hK => ?_)
    · skip
      go_simp
      refine (HR.out _ (hw1.then hS0 (fun _ e => e.elim))).mono ?_
      rintro e w6 ⟨vg', rfl, hU6, g1, g2, g3⟩
      have hS6 := hS0.then hU6 (fun _ e => e.elim)
      refine hK.out _ _ hS6 ?_
      have HL := Lib.hid (And.intro g1 (And.intro g2 (fun q hq => Nat.le_trans hS0.size (g3 q hq))))
      clear hK hS0 hU6 g1 g2 g3
      refine wpAnyT_take (i := 17) (v := ?_) rfl (by kernel_rfl) (by kernel_rfl) (by kernel_rfl) (by kernel_rfl) (fun _ _ _ h => h) (takes_yield rfl (Or.inl ⟨by rfl, ?_⟩)) (by assumption) (by kernel_rfl) ?_
      rotate_left 1
      · intro w' hSw; go_split_ands; first | (go_simp; done) | (go_simp; rfl) | rfl
      simp only [Act.put, List.getElem_toArray, List.getElem_cons_zero, List.getElem_cons_succ, List.setIfInBounds_toArray, List.set_cons_zero, List.set_cons_succ]
      refine wpAnyT_take (i := 18) (v := ?_) rfl (by kernel_rfl) (by kernel_rfl) (by kernel_rfl) (by kernel_rfl) (fun _ _ _ h => h) (takes_yield rfl (Or.inl ⟨by rfl, ?_⟩)) (by assumption) (by kernel_rfl) ?_
      rotate_left 1
      · intro w' hSw; go_split_ands; first | (go_simp; done) | (go_simp; rfl) | rfl
      simp only [Act.put, List.getElem_toArray, List.getElem_cons_zero, List.getElem_cons_succ, List.setIfInBounds_toArray, List.set_cons_zero, List.set_cons_succ]
      refine wpAnyT_take (i := 19) (v := ?_) rfl (by kernel_rfl) (by kernel_rfl) (by kernel_rfl) (by kernel_rfl) (fun _ _ _ h => h) (takes_yield rfl (Or.inl ⟨by rfl, ?_⟩)) (by assumption) (by kernel_rfl) ?_
      rotate_left 1
      · intro w' hSw; go_split_ands; first | (go_simp; done) | (go_simp; rfl) | rfl
      simp only [Act.put, List.getElem_toArray, List.getElem_cons_zero, List.getElem_cons_succ, List.setIfInBounds_toArray, List.set_cons_zero, List.set_cons_succ]
      refine wpAnyT_one (i := 20) (by kernel_rfl) rfl (fun K hK => ?_)
      go_simp
      have hS7 := hS6.alloc (.cells zeroLg 39)
      refine hK.out _ _ hS7 ?_
      clear hK
      refine wpAnyT_one (i := 21) (by kernel_rfl) rfl (fun K hK => ?_)
      refine step_store_all (by rfl) 39 _ _ (by rfl) w6.heap.size (V'.rowR vg') (by rfl) (by rfl) _ _ (Blk.new w6 _ _) rfl (Lg.rowR_one _ _ HL.out.1.one) (by kernel_rfl) ?_
      intro wz hBz hUz hsz
      have hge : w1.heap.size ≤ w6.heap.size := hS6.size
      have hSz := hS7.then hUz (fun q e => .inr (by omega))
      refine hK.out _ _ hSz ?_
      have HZ := Lib.hid (show Read10 w1 wz V' vg' O w6.heap.size from ⟨hSz, hBz, (HL.out.1.alloc _).upd hUz (fun q hq e => by have := HL.out.1.lt hq; omega), HL.out.2.1, HL.out.2.2, hge⟩)
      clear hK hBz hUz hsz hS7 hS6 hge
      refine wpAnyT_take (i := 22) (v := ?_) rfl (by kernel_rfl) (by kernel_rfl) (by kernel_rfl) (by kernel_rfl) (fun _ _ _ h => h) (takes_yield rfl (Or.inl ⟨by rfl, ?_⟩)) (by assumption) (by kernel_rfl) ?_
      rotate_left 1
      · intro w' hSw; go_split_ands; first | (go_simp; done) | (go_simp; rfl) | rfl
      simp only [Act.put, List.getElem_toArray, List.getElem_cons_zero, List.getElem_cons_succ, List.setIfInBounds_toArray, List.set_cons_zero, List.set_cons_succ]
      refine wpAnyT_done (by kernel_rfl) ?_ _
      refine NoPanic.normal ?_
      go_wp2_with fail
      go_meet
      exact ⟨_, vg', rfl, rfl, HZ.out⟩
    · skip
      go_simp
      have hS5 := hS0.alloc (.cells zeroLg 39)
      refine hK.out _ _ hS5 ?_
      clear hK
      refine wpAnyT_one (i := 16) (by kernel_rfl) rfl (fun K hK => ?_)
      go_simp
      refine (HR.out _ (hw1.then hS5 (fun _ e => e.elim))).mono ?_
      rintro e w6 ⟨vg', rfl, hU6, g1, g2, g3⟩
      have hS6 := hS5.then hU6 (fun _ e => e.elim)
      refine hK.out _ _ hS6 ?_
      have hBn := (Blk.new w1.drew 39 zeroLg).upd hU6 (fun e => e)
      have HL := Lib.hid (And.intro g1 (And.intro g2 (And.intro (fun q hq => Nat.le_trans hS5.size (g3 q hq)) hBn)))
      clear hK hU6 g1 g2 g3 hBn
      refine wpAnyT_take (i := 17) (v := ?_) rfl (by kernel_rfl) (by kernel_rfl) (by kernel_rfl) (by kernel_rfl) (fun _ _ _ h => h) (takes_yield rfl (Or.inl ⟨by rfl, ?_⟩)) (by assumption) (by kernel_rfl) ?_
      rotate_left 1
      · intro w' hSw; go_split_ands; first | (go_simp; done) | (go_simp; rfl) | rfl
      simp only [Act.put, List.getElem_toArray, List.getElem_cons_zero, List.getElem_cons_succ, List.setIfInBounds_toArray, List.set_cons_zero, List.set_cons_succ]
      refine wpAnyT_take (i := 18) (v := ?_) rfl (by kernel_rfl) (by kernel_rfl) (by kernel_rfl) (by kernel_rfl) (fun _ _ _ h => h) (takes_yield rfl (Or.inl ⟨by rfl, ?_⟩)) (by assumption) (by kernel_rfl) ?_
      rotate_left 1
      · intro w' hSw; go_split_ands; first | (go_simp; done) | (go_simp; rfl) | rfl
      simp only [Act.put, List.getElem_toArray, List.getElem_cons_zero, List.getElem_cons_succ, List.setIfInBounds_toArray, List.set_cons_zero, List.set_cons_succ]
      refine wpAnyT_take (i := 19) (v := ?_) rfl (by kernel_rfl) (by kernel_rfl) (by kernel_rfl) (by kernel_rfl) (fun _ _ _ h => h) (takes_yield rfl (Or.inl ⟨by rfl, ?_⟩)) (by assumption) (by kernel_rfl) ?_
      rotate_left 1
      · intro w' hSw; go_split_ands; first | (go_simp; done) | (go_simp; rfl) | rfl
      simp only [Act.put, List.getElem_toArray, List.getElem_cons_zero, List.getElem_cons_succ, List.setIfInBounds_toArray, List.set_cons_zero, List.set_cons_succ]
      refine wpAnyT_one (i := 21) (by kernel_rfl) rfl (fun K hK => ?_)
      refine step_store_all (by rfl) 39 _ _ (by rfl) w1.drew.heap.size (V'.rowR vg') (by rfl) (by rfl) _ _ HL.out.2.2.2 rfl (Lg.rowR_one _ _ HL.out.1.one) (by kernel_rfl) ?_
      intro wz hBz hUz hsz
      have hSz := hS6.then hUz (fun q e => .inr (by rw [e]; exact Nat.le_refl _))
      refine hK.out _ _ hSz ?_
      have HZ := Lib.hid (show Read10 w1 wz V' vg' O w1.drew.heap.size from ⟨hSz, hBz, HL.out.1.upd hUz (fun q hq e => HL.out.1.ne_blk HL.out.2.2.2 (by decide) (e ▸ hq)), HL.out.2.1, HL.out.2.2.1, Nat.le_refl _⟩)
      clear hK hBz hUz hsz hS6 hS5
      refine wpAnyT_take (i := 22) (v := ?_) rfl (by kernel_rfl) (by kernel_rfl) (by kernel_rfl) (by kernel_rfl) (fun _ _ _ h => h) (takes_yield rfl (Or.inl ⟨by rfl, ?_⟩)) (by assumption) (by kernel_rfl) ?_
      rotate_left 1
      · intro w' hSw; go_split_ands; first | (go_simp; done) | (go_simp; rfl) | rfl
      simp only [Act.put, List.getElem_toArray, List.getElem_cons_zero, List.getElem_cons_succ, List.setIfInBounds_toArray, List.set_cons_zero, List.set_cons_succ]
      refine wpAnyT_done (by kernel_rfl) ?_ _
      refine NoPanic.normal ?_
      go_wp2_with fail
      go_meet
      exact ⟨_, vg', rfl, rfl, HZ.out⟩
  case rest =>
    obtain ⟨g, vg', rfl, rfl, hRd⟩ := hcut
    rename World => w3
    have hlow3 : w0.heap.size ≤ g := Nat.le_trans H1.out.1.disks.upd.size hRd.new
    have hne : x ≠ g := by have := H1.out.1.blk.lt; have := hRd.new; omega
    have HRd := Lib.hid hRd
    have H3 := Lib.hid (H1.out.1.still hRd.upd)
    have hKv : Keeps10 w0 w3 p d kv' V' vg' E (RgX vl vw vg') := by
      have hlw : ∀ q, RgX vl vw vg' q → w0.heap.size ≤ q := fun q hq => hq.elim (fun e => H.out.side.low q (.inl e)) (fun e => Nat.le_trans H1.out.1.disks.upd.size (hRd.fresh q e))
      have hY : ∀ q, RgX vl vw vg' q → RgX vl vw vg q ∨ (w1.heap.size ≤ q ∧ q < w3.heap.size) := fun q hq => hq.elim (fun e => .inl (.inl e)) (fun e => .inr ⟨hRd.fresh q e, hRd.own.lt e⟩)
      rcases H1.out.2.1 with ⟨a1, a2, b, a3, a4⟩ | ⟨a1, a2, a3, a4⟩
      · exact .inl ⟨a1, a2, b, a3, a4.turn (Z := fun _ => False) (fun _ e => e.elim) (fun _ e => e.elim) hRd.upd hY⟩
      · exact .inr ⟨a1, a2, a3, hRd.nil a4, H1.out.1.disks.turn (hRd.upd.mono (fun _ e => e.elim)) hY⟩
    have hSd : Side10 w0 w3 vl vw d r vg' V'.l := ⟨fun q hq => hq.elim (fun e => H.out.side.low q (.inl e)) (fun e => Nat.le_trans H1.out.1.disks.upd.size (hRd.fresh q e)), H3.out.side.rd, H3.out.side.is, hRd.own⟩
    have HK := Lib.hid (And.intro hKv hSd)
    have hone := Lib.hid H1.out.2.2.2
    have Hne := Lib.hid hne
    have hrone := Lib.hid (Lg.rowR_one V' vg' hRd.own.one)
    have HU3 := Lib.hid (H1.out.2.2.1.then hRd.upd (fun _ e => e.elim))
    clear hRd hKv hSd hne hlow3
    go_upto_region 3 with fail
    refine wp_region_noPanic ?_
    refine wp_region_T (S := fun w' => Blk w' g 39 (V'.rowR vg')) (T := fun _ => false) (by kernel_rfl) ?_
    have hS0 := HRd.out.blk.drew
    refine wpAnyT_take (i := 0) (v := ?_) rfl (by kernel_rfl) (by kernel_rfl) (by kernel_rfl) (by kernel_rfl) (fun _ _ _ h => h) (takes_yield rfl (Or.inl ⟨by rfl, ?_⟩)) (by assumption) (by kernel_rfl) ?_
    rotate_left 1
    · intro w' hSw; have hcw := hSw.cells8; go_split_ands; first | (go_simp; done) | (go_simp; rfl) | rfl
    simp only [Act.put, List.getElem_toArray, List.getElem_cons_zero, List.setIfInBounds_toArray, List.set_cons_zero, List.set_cons_succ]
    refine wpAnyT_take (i := 1) (v := ?_) rfl (by kernel_rfl) (by kernel_rfl) (by kernel_rfl) (by kernel_rfl) (fun _ _ _ h => h) (takes_yield rfl (Or.inl ⟨by rfl, ?_⟩)) (by assumption) (by kernel_rfl) ?_
    rotate_left 1
    · intro w' hSw; have hcw := hSw.cells8; go_split_ands; first | (go_simp; done) | (go_simp; rfl) | rfl
    simp only [Act.put, List.getElem_toArray, List.getElem_cons_zero, List.getElem_cons_succ, List.setIfInBounds_toArray, List.set_cons_zero, List.set_cons_succ]
    refine wpAnyT_take (i := 2) (v := ?_) rfl (by kernel_rfl) (by kernel_rfl) (by kernel_rfl) (by kernel_rfl) (fun _ _ _ h => h) (takes_yield rfl (Or.inl ⟨by rfl, ?_⟩)) (by assumption) (by kernel_rfl) ?_
    rotate_left 1
    · intro w' hSw; have hcw := hSw.cells8; go_split_ands; first | (go_simp; done) | (go_simp; rfl) | rfl
    simp only [Act.put, List.getElem_toArray, List.getElem_cons_zero, List.getElem_cons_succ, List.setIfInBounds_toArray, List.set_cons_zero, List.set_cons_succ]
    refine wpAnyT_take (i := 3) (v := ?_) rfl (by kernel_rfl) (by kernel_rfl) (by kernel_rfl) (by kernel_rfl) (fun _ _ _ h => h) (takes_yield rfl (Or.inl ⟨by rfl, ?_⟩)) (by assumption) (by kernel_rfl) ?_
    rotate_left 1
    · intro w' hSw; have hcw := hSw.cells8; go_split_ands; first | (go_simp; done) | (go_simp; rfl) | rfl
    simp only [Act.put, List.getElem_toArray, List.getElem_cons_zero, List.getElem_cons_succ, List.setIfInBounds_toArray, List.set_cons_zero, List.set_cons_succ]
    refine wpAnyT_take (i := 4) (v := ?_) rfl (by kernel_rfl) (by kernel_rfl) (by kernel_rfl) (by kernel_rfl) (fun _ _ _ h => h) (takes_yield rfl (Or.inl ⟨by rfl, ?_⟩)) (by assumption) (by kernel_rfl) ?_
    rotate_left 1
    · intro w' hSw; have hcw := hSw.cells8; go_split_ands; first | (go_simp; done) | (go_simp; rfl) | rfl
    simp only [Act.put, List.getElem_toArray, List.getElem_cons_zero, List.getElem_cons_succ, List.setIfInBounds_toArray, List.set_cons_zero, List.set_cons_succ]
    refine wpAnyT_take (i := 5) (v := ?_) rfl (by kernel_rfl) (by kernel_rfl) (by kernel_rfl) (by kernel_rfl) (fun _ _ _ h => h) (takes_yield rfl (Or.inl ⟨by rfl, ?_⟩)) (by assumption) (by kernel_rfl) ?_
    rotate_left 1
    · intro w' hSw; have hcw := hSw.cells8; go_split_ands; first | (go_simp; done) | (go_simp; rfl) | rfl
    simp only [Act.put, List.getElem_toArray, List.getElem_cons_zero, List.getElem_cons_succ, List.setIfInBounds_toArray, List.set_cons_zero, List.set_cons_succ]
    refine wpAnyT_take (i := 6) (v := ?_) rfl (by kernel_rfl) (by kernel_rfl) (by kernel_rfl) (by kernel_rfl) (fun _ _ _ h => h) (takes_yield rfl (Or.inl ⟨by rfl, ?_⟩)) (by assumption) (by kernel_rfl) ?_
    rotate_left 1
    · intro w' hSw; have hcw := hSw.cells8; go_split_ands; first | (go_simp; done) | (go_simp; rfl) | rfl
    simp only [Act.put, List.getElem_toArray, List.getElem_cons_zero, List.getElem_cons_succ, List.setIfInBounds_toArray, List.set_cons_zero, List.set_cons_succ]
    refine wpAnyT_take (i := 7) (v := ?_) rfl (by kernel_rfl) (by kernel_rfl) (by kernel_rfl) (by kernel_rfl) (fun _ _ _ h => h) (takes_yield rfl (Or.inl ⟨by rfl, ?_⟩)) (by assumption) (by kernel_rfl) ?_
    rotate_left 1
    · intro w' hSw; have hcw := hSw.cells8; go_split_ands; first | (go_simp; done) | (go_simp; rfl) | rfl
    simp only [Act.put, List.getElem_toArray, List.getElem_cons_zero, List.getElem_cons_succ, List.setIfInBounds_toArray, List.set_cons_zero, List.set_cons_succ]
    refine wpAnyT_one (i := 8) (by kernel_rfl) rfl (fun K hK => ?_)
    refine step_store_one (by rfl) 37 _ _ (by rfl) x 1 kv' (by rfl) (by rfl) _ _ (row10 p kv' vl vw r V vg f se ep n) H3.out.blk.drew (by simp) rfl hone.out (by kernel_rfl) ?_
    intro w4 hB4 hU4 hs4
    have hS4 := hS0.upd hU4 (Ne.symm Hne.out)
    refine hK.out _ _ hS4 ?_
    clear hK hS0
    refine wpAnyT_take (i := 9) (v := ?_) rfl (by kernel_rfl) (by kernel_rfl) (by kernel_rfl) (by kernel_rfl) (fun _ _ _ h => h) (takes_yield rfl (Or.inl ⟨by rfl, ?_⟩)) (by assumption) (by kernel_rfl) ?_
    rotate_left 1
    · intro w' hSw; go_split_ands; first | (go_simp; done) | (go_simp; rfl) | rfl
    simp only [Act.put, List.getElem_toArray, List.getElem_cons_zero, List.getElem_cons_succ, List.setIfInBounds_toArray, List.set_cons_zero, List.set_cons_succ]
    refine wpAnyT_take (i := 10) (v := ?_) rfl (by kernel_rfl) (by kernel_rfl) (by kernel_rfl) (by kernel_rfl) (fun _ _ _ h => h) (takes_yield rfl (Or.inl ⟨by rfl, ?_⟩)) (by assumption) (by kernel_rfl) ?_
    rotate_left 1
    · intro w' hSw; go_split_ands; first | (go_simp; done) | (go_simp; rfl) | rfl
    simp only [Act.put, List.getElem_toArray, List.getElem_cons_zero, List.getElem_cons_succ, List.setIfInBounds_toArray, List.set_cons_zero, List.set_cons_succ]
    refine wpAnyT_one (i := 11) (by kernel_rfl) rfl (fun K hK => ?_)
    refine step_store_part (by rfl) 39 _ _ (by rfl) x 6 (V'.rowR vg') (by rfl) (by rfl) _ _ (row10 p kv' vl vw r V' vg' f se ep n) hB4 (by simp) rfl hrone.out (by kernel_rfl) ?_
    intro w5 hB5 hU5 hs5
    have hS5 := hS4.upd hU5 (Ne.symm Hne.out)
    refine hK.out _ _ hS5 ?_
    clear hK hS4
    refine wpAnyT_take (i := 12) (v := ?_) rfl (by kernel_rfl) (by kernel_rfl) (by kernel_rfl) (by kernel_rfl) (fun _ _ _ h => h) (takes_yield rfl (Or.inl ⟨by rfl, ?_⟩)) (by assumption) (by kernel_rfl) ?_
    rotate_left 1
    · intro w' hSw; go_split_ands; first | (go_simp; done) | (go_simp; rfl) | rfl
    simp only [Act.put, List.getElem_toArray, List.getElem_cons_zero, List.getElem_cons_succ, List.setIfInBounds_toArray, List.set_cons_zero, List.set_cons_succ]
    refine wpAnyT_take (i := 13) (v := ?_) rfl (by kernel_rfl) (by kernel_rfl) (by kernel_rfl) (by kernel_rfl) (fun _ _ _ h => h) (takes_yield rfl (Or.inl ⟨by rfl, ?_⟩)) (by assumption) (by kernel_rfl) ?_
    rotate_left 1
    · intro w' hSw; go_split_ands; first | (go_simp; done) | (go_simp; rfl) | rfl
    simp only [Act.put, List.getElem_toArray, List.getElem_cons_zero, List.getElem_cons_succ, List.setIfInBounds_toArray, List.set_cons_zero, List.set_cons_succ]
    refine wpAnyT_one (i := 14) (by kernel_rfl) rfl (fun K hK => ?_)
    refine step_store_one (by rfl) 3 _ _ (by rfl) x 17 (.int .i64 E) (by rfl) (by rfl) _ _ (row10 p kv' vl vw r V' vg' f se ep E) hB5 (by simp) rfl rfl (by kernel_rfl) ?_
    intro w6 hB6 hU6 hs6
    have hS6 := hS5.upd hU6 (Ne.symm Hne.out)
    refine hK.out _ _ hS6 ?_
    have hUx : Upd (· = x) w3.drew w6 := (hU4.then hU5 (fun _ e => .inl e)).then hU6 (fun _ e => .inl e)
    have hWn : W10 w0 w6 x p d vl vw r kv' V' vg' f se ep E := ⟨(HK.out.2.still (Upd.refl _ w3).drew).off H3.out.blk.drew (by decide) (by decide) hUx, hB6, H3.out.low, (HK.out.1.still (Upd.refl _ w3).drew).off H3.out.blk.drew (by decide) (by decide) (by decide) H3.out.low hUx⟩
    have HUf : Hid (Upd (· = x) w w6) := Lib.hid ((HU3.out.mono (fun _ e => e.elim)).then ((Upd.refl (· = x) w3).drew.then hUx (fun _ e => .inl e)) (fun _ e => .inl e))
    have HE := Lib.hid hWn
    clear hK hS5 hS6 hB4 hU4 hs4 hB5 hU5 hs5 hB6 hU6 hs6 hUx hWn
    refine wpAnyT_done (by kernel_rfl) ?_ _
    refine NoPanic.normal ?_
    have hke := HE.out.kept
    rcases hke with ⟨h1, -, b, h2, -⟩ | ⟨h1, h2, -⟩
    · subst h1
      subst h2
      go_wp2_with fail
      go_ret
      exact ⟨rfl, ⟨_, _, _, HE.out⟩, HUf.out⟩
    · have hE1 : (E != 0) = true := bne_iff_ne.2 h1
      subst h2
      clear h1
      go_wp2_with fail
      go_ret
      exact ⟨rfl, ⟨_, _, _, HE.out⟩, HUf.out⟩
end
end Go.Proofs.YtpfbgmfkeofefaaGreat

/-
  A law's world of chapter 10: acts. (Printed by mk_law10.py.)
-/
namespace Go.Proofs.YtpfbgmfkeofefaaGreat
open Go Go.RowKit

theorem AddV.pre {w0 w w' : World} {vg vg' : Value} {l : List ByteArray} (h : AddV w w' vg vg' l) (hu : Upd (fun _ => False) w0 w) : AddV w0 w' vg vg' l := ⟨h.own, fun q hq => (h.new q hq).imp id (fun e => Nat.le_trans hu.size e)⟩
/-- What the document's Add leaves in boxes. -/
structure Boxed10 (wa wx : World) (vl vw vg vl' vw' vg' : Value) (R : Rd × Lg × Int) (g8 g9 : Nat) : Prop where
  b8 : Blk wx g8 39 (R.2.1.rowR vg')
  b9 : Blk wx g9 33 #[vl', vw', .int .i64 R.1.fuse, .bool R.1.off]
  left : RdLeft wa wx vl vw vl' vw' R.1
  recs : AddV wa wx vg vg' R.2.1.l
  n8 : wa.heap.size ≤ g8
  n9 : wa.heap.size ≤ g9
  ne : g8 ≠ g9
section
variable {w0 w w' : World} {x p : Nat} {d : Dk} {vl vw kv vg : Value} {r : Rd} {V : Lg} {f se : Int} {ep : Nat} {n : Int}
/-- What an act leaves. -/
def Done10 (w0 : World) (x p : Nat) (d : Dk) (f se : Int) (w' : World) : Prop := ∃ d' vl' vw' r' kv' V' vg' ep' n', W10 w0 w' x p d' vl' vw' r' kv' V' vg' f se ep' n' ∧ d'.pend ≤ d.pend + 40 ∧ d'.lasts.length = d.lasts.length ∧ ep' < 18446744073709551616
theorem open_10 (hW : W10 w0 w x p d vl vw r kv V vg f se ep n) (hm : d.lasts.length ≤ 60) (hep : ep < 18446744073709551616) :
    Calls Tryz.prog 11 #[.pointer (some ⟨x, 0, none⟩)] w fun e w' => e = .returned (.bool true) ∧ ∃ kv' V' vg', W10 w0 w' x p d vl vw r kv' V' vg' f se ep (openLP d f se ep).2 := (open_10b hW.b hm hep).mono fun _ _ ⟨h1, kv', V', vg', h2, _⟩ => ⟨h1, kv', V', vg', h2⟩
set_option maxRecDepth 100000 in
set_option maxHeartbeats 3200000 in
theorem d10_none (hW : W10 w0 w x p d vl vw r kv V vg f se ep n) (t : ByteArray) (n_ a_ : Int) (x_ : ByteArray) (kp : Value) (do_ : Int) (hdo : do_ < 0 ∨ 5 < do_) (hep : ep < 18446744073709551616) :
    Calls Tryz.prog 14 #[.pointer (some ⟨x, 0, none⟩), .agg (act9 do_ t n_ a_ x_ kp)] w fun e w' => e = .returned (.bool true) ∧ Done10 w0 x p d f se w' := by
  have hwf := hW.wf
  obtain ⟨w3, hw3⟩ : ∃ w3, w.alloc (.cells (act9 do_ t n_ a_ x_ kp) 46) = w3 := ⟨_, rfl⟩
  have hU3 : Upd (fun _ => False) w w3 := by rw [← hw3]; exact (Upd.refl _ w).alloc _
  have hB3 : Blk w3 w.heap.size 46 (act9 do_ t n_ a_ x_ kp) := by rw [← hw3]; exact Blk.new w _ _
  have H3 := Lib.hid (And.intro (hW.still hU3) hB3)
  have Hw := Lib.hid hw3
  have hc := hB3.cells6
  have hcx := H3.out.1.blk.cells18
  have hne0 : (do_ == 0) = false := by rw [beq_eq_false_iff_ne]; omega
  have hne1 : (do_ == 1) = false := by rw [beq_eq_false_iff_ne]; omega
  have hne2 : (do_ == 2) = false := by rw [beq_eq_false_iff_ne]; omega
  have hne3 : (do_ == 3) = false := by rw [beq_eq_false_iff_ne]; omega
  have hne4 : (do_ == 4) = false := by rw [beq_eq_false_iff_ne]; omega
  have hne5 : (do_ == 5) = false := by rw [beq_eq_false_iff_ne]; omega
  clear hU3 hB3 hw3 hW hwf hdo
  go_enter Tryz.func14, Tryz.ntmps14
  go_upto_region 1 with fail
  rw [Hw.out]
  clear Hw
  go_wp2_with fail
  go_ret
  exact ⟨rfl, d, vl, vw, r, kv, V, vg, ep, n, H3.out.1, by omega, rfl, hep⟩
set_option maxRecDepth 100000 in
set_option maxHeartbeats 3200000 in
theorem d10_open (hW : W10 w0 w x p d vl vw r kv V vg f se ep n) (t : ByteArray) (n_ a_ : Int) (x_ : ByteArray) (kp : Value) (hm : d.lasts.length ≤ 60) (hep : ep < 18446744073709551616) :
    Calls Tryz.prog 14 #[.pointer (some ⟨x, 0, none⟩), .agg (act9 4 t n_ a_ x_ kp)] w fun e w' => e = .returned (.bool true) ∧ Done10 w0 x p d f se w' := by
  have hwf := hW.wf
  obtain ⟨w3, hw3⟩ : ∃ w3, w.alloc (.cells (act9 4 t n_ a_ x_ kp) 46) = w3 := ⟨_, rfl⟩
  have hU3 : Upd (fun _ => False) w w3 := by rw [← hw3]; exact (Upd.refl _ w).alloc _
  have hB3 : Blk w3 w.heap.size 46 (act9 4 t n_ a_ x_ kp) := by rw [← hw3]; exact Blk.new w _ _
  have H3 := Lib.hid (And.intro (hW.still hU3) hB3)
  have Hw := Lib.hid hw3
  have hc := hB3.cells6
  have hcx := H3.out.1.blk.cells18
  have HO := Lib.hid (open_10 H3.out.1 hm hep)
  clear hU3 hB3 hw3 hW hwf hcx
  go_enter Tryz.func14, Tryz.ntmps14
  go_upto_region 1 with fail
  rw [Hw.out]
  clear Hw
  go_wp2_with fail
  refine HO.out.mono ?_
  rintro e w4 ⟨rfl, kv', V', vg', hW4⟩
  have H4 := Lib.hid hW4
  clear hW4 hc
  go_wp2_with fail
  go_ret
  exact ⟨rfl, d, vl, vw, r, kv', V', vg', ep, _, H4.out, by omega, rfl, hep⟩
set_option maxRecDepth 100000 in
set_option maxHeartbeats 3200000 in
theorem d10_no (hW : W10 w0 w x p d vl vw r (.pointer none) V vg f se ep n) (t : ByteArray) (n_ a_ : Int) (x_ : ByteArray) (kp : Value) (hn : n ≠ 0) (hep : ep < 18446744073709551616) :
    Calls Tryz.prog 14 #[.pointer (some ⟨x, 0, none⟩), .agg (act9 0 t n_ a_ x_ kp)] w fun e w' => e = .returned (.bool true) ∧ Done10 w0 x p d f se w' := by
  have hwf := hW.wf
  obtain ⟨w3, hw3⟩ : ∃ w3, w.alloc (.cells (act9 0 t n_ a_ x_ kp) 46) = w3 := ⟨_, rfl⟩
  have hU3 : Upd (fun _ => False) w w3 := by rw [← hw3]; exact (Upd.refl _ w).alloc _
  have hB3 : Blk w3 w.heap.size 46 (act9 0 t n_ a_ x_ kp) := by rw [← hw3]; exact Blk.new w _ _
  have H3 := Lib.hid (And.intro (hW.still hU3) hB3)
  have Hw := Lib.hid hw3
  have hc := hB3.cells6
  have hcx := H3.out.1.blk.cells18
  have hne : (n != 0) = true := bne_iff_ne.2 hn
  clear hn hU3 hB3 hw3 hW hwf
  go_enter Tryz.func14, Tryz.ntmps14
  go_upto_region 1 with fail
  rw [Hw.out]
  clear Hw
  go_upto_region 3 with fail
  refine wp_region_noPanic ?_
  refine wp_region_T (S := fun w' => Upd (fun _ => False) w3 w') (T := fun _ => false) (by kernel_rfl) ?_
  have hS0 : Upd (fun _ => False) w3 w3.drew := (Upd.refl _ _).drew
  refine wpAnyT_take (i := 0) (v := ?_) rfl (by kernel_rfl) (by kernel_rfl) (by kernel_rfl) (by kernel_rfl) (fun _ _ _ h => h) (takes_yield rfl (Or.inl ⟨by rfl, ?_⟩)) (by assumption) (by kernel_rfl) ?_
  rotate_left 1
  · intro w' hSw; have hcw := (H3.out.1.blk.upd hSw (fun e => e)).cells18; have hca := (H3.out.2.upd hSw (fun e => e)).cells6; go_split_ands; first | (go_simp; done) | (go_simp; rfl) | rfl
  simp only [Act.put, List.getElem_toArray, List.getElem_cons_zero, List.setIfInBounds_toArray, List.set_cons_zero, List.set_cons_succ]
  refine wpAnyT_take (i := 1) (v := ?_) rfl (by kernel_rfl) (by kernel_rfl) (by kernel_rfl) (by kernel_rfl) (fun _ _ _ h => h) (takes_yield rfl (Or.inl ⟨by rfl, ?_⟩)) (by assumption) (by kernel_rfl) ?_
  rotate_left 1
  · intro w' hSw; have hcw := (H3.out.1.blk.upd hSw (fun e => e)).cells18; have hca := (H3.out.2.upd hSw (fun e => e)).cells6; go_split_ands; first | (go_simp; done) | (go_simp; rfl) | rfl
  simp only [Act.put, List.getElem_toArray, List.getElem_cons_zero, List.getElem_cons_succ, List.setIfInBounds_toArray, List.set_cons_zero, List.set_cons_succ]
  refine wpAnyT_take (i := 2) (v := ?_) rfl (by kernel_rfl) (by kernel_rfl) (by kernel_rfl) (by kernel_rfl) (fun _ _ _ h => h) (takes_yield rfl (Or.inl ⟨by rfl, ?_⟩)) (by assumption) (by kernel_rfl) ?_
  rotate_left 1
  · intro w' hSw; have hcw := (H3.out.1.blk.upd hSw (fun e => e)).cells18; have hca := (H3.out.2.upd hSw (fun e => e)).cells6; go_split_ands; first | (go_simp; done) | (go_simp; rfl) | rfl
  simp only [Act.put, List.getElem_toArray, List.getElem_cons_zero, List.getElem_cons_succ, List.setIfInBounds_toArray, List.set_cons_zero, List.set_cons_succ]
  refine wpAnyT_take (i := 3) (v := ?_) rfl (by kernel_rfl) (by kernel_rfl) (by kernel_rfl) (by kernel_rfl) (fun _ _ _ h => h) (takes_yield rfl (Or.inl ⟨by rfl, ?_⟩)) (by assumption) (by kernel_rfl) ?_
  rotate_left 1
  · intro w' hSw; have hcw := (H3.out.1.blk.upd hSw (fun e => e)).cells18; have hca := (H3.out.2.upd hSw (fun e => e)).cells6; go_split_ands; first | (go_simp; done) | (go_simp; rfl) | rfl
  simp only [Act.put, List.getElem_toArray, List.getElem_cons_zero, List.getElem_cons_succ, List.setIfInBounds_toArray, List.set_cons_zero, List.set_cons_succ]
  refine wpAnyT_take (i := 4) (v := ?_) rfl (by kernel_rfl) (by kernel_rfl) (by kernel_rfl) (by kernel_rfl) (fun _ _ _ h => h) (takes_yield rfl (Or.inl ⟨by rfl, ?_⟩)) (by assumption) (by kernel_rfl) ?_
  rotate_left 1
  · intro w' hSw; have hcw := (H3.out.1.blk.upd hSw (fun e => e)).cells18; have hca := (H3.out.2.upd hSw (fun e => e)).cells6; go_split_ands; first | (go_simp; done) | (go_simp; rfl) | rfl
  simp only [Act.put, List.getElem_toArray, List.getElem_cons_zero, List.getElem_cons_succ, List.setIfInBounds_toArray, List.set_cons_zero, List.set_cons_succ]
  refine wpAnyT_take (i := 5) (v := ?_) rfl (by kernel_rfl) (by kernel_rfl) (by kernel_rfl) (by kernel_rfl) (fun _ _ _ h => h) (takes_yield rfl (Or.inl ⟨by rfl, ?_⟩)) (by assumption) (by kernel_rfl) ?_
  rotate_left 1
  · intro w' hSw; have hcw := (H3.out.1.blk.upd hSw (fun e => e)).cells18; have hca := (H3.out.2.upd hSw (fun e => e)).cells6; go_split_ands; first | (go_simp; done) | (go_simp; rfl) | rfl
  simp only [Act.put, List.getElem_toArray, List.getElem_cons_zero, List.getElem_cons_succ, List.setIfInBounds_toArray, List.set_cons_zero, List.set_cons_succ]
  refine wpAnyT_one (i := 6) (by kernel_rfl) rfl (fun K hK => ?_)
  go_simp
  refine (Add_nil _ t).mono ?_
  rintro e w4 ⟨rfl, rfl⟩
  refine hK.out _ _ hS0 ?_
  clear hK
  refine wpAnyT_take (i := 7) (v := ?_) rfl (by kernel_rfl) (by kernel_rfl) (by kernel_rfl) (by kernel_rfl) (fun _ _ _ h => h) (takes_yield rfl (Or.inl ⟨by rfl, ?_⟩)) (by assumption) (by kernel_rfl) ?_
  rotate_left 1
  · intro w' hSw; go_split_ands; first | (go_simp; done) | (go_simp; rfl) | rfl
  simp only [Act.put, List.getElem_toArray, List.getElem_cons_zero, List.getElem_cons_succ, List.setIfInBounds_toArray, List.set_cons_zero, List.set_cons_succ]
  refine wpAnyT_done (by kernel_rfl) ?_ _
  refine NoPanic.normal ?_
  have H4 := Lib.hid (H3.out.1.still (Upd.refl _ w3).drew)
  have hc4 := H4.out.blk.cells18
  clear hS0 hc hcx
  go_wp2_with fail
  go_ret
  exact ⟨rfl, d, vl, vw, r, _, V, vg, ep, n, H4.out, by omega, rfl, hep⟩
set_option maxRecDepth 100000 in
set_option maxHeartbeats 3200000 in
theorem d10_add {b : Nat} (hW : W10 w0 w x p d vl vw r (.pointer (some ⟨b, 0, none⟩)) V vg f se ep 0) (t : ByteArray) (n_ a_ : Int) (x_ : ByteArray) (kp : Value) (hp : d.pend + 40 < 1000000) (hep : ep < 18446744073709551616) :
    Calls Tryz.prog 14 #[.pointer (some ⟨x, 0, none⟩), .agg (act9 0 t n_ a_ x_ kp)] w fun e w' => e = .returned (.bool true) ∧ Done10 w0 x p d f se w' := by
  have hwf := hW.wf
  obtain ⟨w3, hw3⟩ : ∃ w3, w.alloc (.cells (act9 0 t n_ a_ x_ kp) 46) = w3 := ⟨_, rfl⟩
  have hU3 : Upd (fun _ => False) w w3 := by rw [← hw3]; exact (Upd.refl _ w).alloc _
  have hB3 : Blk w3 w.heap.size 46 (act9 0 t n_ a_ x_ kp) := by rw [← hw3]; exact Blk.new w _ _
  have H3 := Lib.hid (And.intro (hW.still hU3) hB3)
  have Hw := Lib.hid hw3
  have hc := hB3.cells6
  have hcx := H3.out.1.blk.cells18
  obtain ⟨hVf, hkp⟩ : V.fits ∧ LgS w0 w p b d V (RgX vl vw vg) := by
    rcases hW.kept with ⟨_, h2, b', h3, h4⟩ | ⟨h1, _⟩
    · simp only [Value.pointer.injEq, Option.some.injEq, Addr.mk.injEq, and_true] at h3
      subst h3
      exact ⟨h2, h4⟩
    · exact absurd rfl h1
  obtain ⟨hri, hrq⟩ := add_ref hW.side.is hwf.len V t
  have hpe := addG_pend V t hwf.len
  have hVf' := addG_fits (d := d) hVf t
  obtain ⟨R, hR⟩ : ∃ R, addR r V t = R := ⟨_, rfl⟩
  obtain ⟨Q, hQ⟩ : ∃ Q, addG d V t = Q := ⟨_, rfl⟩
  rw [hR, hQ] at hri hrq
  rw [hQ] at hpe hVf'
  have hput0 : ∀ W, Upd (fun _ => False) w3 W → Calls Tryz.prog 12 #[.pointer (some ⟨b, 0, none⟩), .string t] W fun e w' => e = .returned (.int .i64 Q.2.2) ∧ AddS w0 W w' p b Q.1 Q.2.1 (RgX vl vw vg) ∧ BlkKept4 W w' := fun W hu => by
    rw [← hQ]
    exact add_lv ((hkp.still hU3).still hu) hVf hp t
  have hHr0 : ∀ W, Side10 w0 W vl vw d r vg V.l → Calls Tryz.prog 44 #[.agg (V.rowR vg), .agg #[vl, vw, .int .i64 r.fuse, .bool r.off], .string t] W fun e w' =>
      ∃ vl' vw' vg', e = .returned (.tuple #[.agg (R.2.1.rowR vg'), .agg #[vl', vw', .int .i64 R.1.fuse, .bool R.1.off], .int .i64 R.2.2]) ∧ RdLeft W w' vl vw vl' vw' R.1 ∧ AddV W w' vg vg' R.2.1.l := fun W h => by
    have := radd_lp h.rd (hW.side.is.fits hwf) hVf h.recs (by rw [hW.side.is.pend]; omega) t
    rw [hR] at this
    exact this
  have hput := Lib.hid hput0
  have hHr := Lib.hid hHr0
  have HQ := Lib.hid (And.intro hri (And.intro hrq (And.intro hpe hVf')))
  clear hU3 hB3 hw3 hW hwf hkp hVf hri hrq hR hQ hpe hVf' hput0 hHr0 hp
  go_enter Tryz.func14, Tryz.ntmps14
  go_upto_region 1 with fail
  rw [Hw.out]
  clear Hw
  go_upto_region 3 with fail
  refine wp_region_noPanic ?_
  refine wp_region_T (S := fun w' => Blk w' x 41 (row10 p (.pointer (some ⟨b, 0, none⟩)) vl vw r V vg f se ep 0) ∧ Blk w' w.heap.size 46 (act9 0 t n_ a_ x_ kp)) (T := fun _ => false) (by kernel_rfl) ?_
  have hS0 := And.intro H3.out.1.blk.drew H3.out.2.drew
  refine wpAnyT_take (i := 0) (v := ?_) rfl (by kernel_rfl) (by kernel_rfl) (by kernel_rfl) (by kernel_rfl) (fun _ _ _ h => h) (takes_yield rfl (Or.inl ⟨by rfl, ?_⟩)) (by assumption) (by kernel_rfl) ?_
  rotate_left 1
  · intro w' hSw; have hcw := hSw.1.cells18; have hca := hSw.2.cells6; go_split_ands; first | (go_simp; done) | (go_simp; rfl) | rfl
  simp only [Act.put, List.getElem_toArray, List.getElem_cons_zero, List.setIfInBounds_toArray, List.set_cons_zero, List.set_cons_succ]
  refine wpAnyT_take (i := 1) (v := ?_) rfl (by kernel_rfl) (by kernel_rfl) (by kernel_rfl) (by kernel_rfl) (fun _ _ _ h => h) (takes_yield rfl (Or.inl ⟨by rfl, ?_⟩)) (by assumption) (by kernel_rfl) ?_
  rotate_left 1
  · intro w' hSw; have hcw := hSw.1.cells18; have hca := hSw.2.cells6; go_split_ands; first | (go_simp; done) | (go_simp; rfl) | rfl
  simp only [Act.put, List.getElem_toArray, List.getElem_cons_zero, List.getElem_cons_succ, List.setIfInBounds_toArray, List.set_cons_zero, List.set_cons_succ]
  refine wpAnyT_take (i := 2) (v := ?_) rfl (by kernel_rfl) (by kernel_rfl) (by kernel_rfl) (by kernel_rfl) (fun _ _ _ h => h) (takes_yield rfl (Or.inl ⟨by rfl, ?_⟩)) (by assumption) (by kernel_rfl) ?_
  rotate_left 1
  · intro w' hSw; have hcw := hSw.1.cells18; have hca := hSw.2.cells6; go_split_ands; first | (go_simp; done) | (go_simp; rfl) | rfl
  simp only [Act.put, List.getElem_toArray, List.getElem_cons_zero, List.getElem_cons_succ, List.setIfInBounds_toArray, List.set_cons_zero, List.set_cons_succ]
  refine wpAnyT_take (i := 3) (v := ?_) rfl (by kernel_rfl) (by kernel_rfl) (by kernel_rfl) (by kernel_rfl) (fun _ _ _ h => h) (takes_yield rfl (Or.inl ⟨by rfl, ?_⟩)) (by assumption) (by kernel_rfl) ?_
  rotate_left 1
  · intro w' hSw; have hcw := hSw.1.cells18; have hca := hSw.2.cells6; go_split_ands; first | (go_simp; done) | (go_simp; rfl) | rfl
  simp only [Act.put, List.getElem_toArray, List.getElem_cons_zero, List.getElem_cons_succ, List.setIfInBounds_toArray, List.set_cons_zero, List.set_cons_succ]
  refine wpAnyT_take (i := 4) (v := ?_) rfl (by kernel_rfl) (by kernel_rfl) (by kernel_rfl) (by kernel_rfl) (fun _ _ _ h => h) (takes_yield rfl (Or.inl ⟨by rfl, ?_⟩)) (by assumption) (by kernel_rfl) ?_
  rotate_left 1
  · intro w' hSw; have hcw := hSw.1.cells18; have hca := hSw.2.cells6; go_split_ands; first | (go_simp; done) | (go_simp; rfl) | rfl
  simp only [Act.put, List.getElem_toArray, List.getElem_cons_zero, List.getElem_cons_succ, List.setIfInBounds_toArray, List.set_cons_zero, List.set_cons_succ]
  refine wpAnyT_take (i := 5) (v := ?_) rfl (by kernel_rfl) (by kernel_rfl) (by kernel_rfl) (by kernel_rfl) (fun _ _ _ h => h) (takes_yield rfl (Or.inl ⟨by rfl, ?_⟩)) (by assumption) (by kernel_rfl) ?_
  rotate_left 1
  · intro w' hSw; have hcw := hSw.1.cells18; have hca := hSw.2.cells6; go_split_ands; first | (go_simp; done) | (go_simp; rfl) | rfl
  simp only [Act.put, List.getElem_toArray, List.getElem_cons_zero, List.getElem_cons_succ, List.setIfInBounds_toArray, List.set_cons_zero, List.set_cons_succ]
  refine wpAnyT_one (i := 6) (by kernel_rfl) rfl (fun K hK => ?_)
  go_simp
  refine (hput.out _ (Upd.refl _ _).drew).mono ?_
  rintro e w4 ⟨rfl, hAd, hBk⟩
  have hS4 := And.intro (hBk _ _ _ hS0.1 (by decide) (by decide) (by decide)) (hBk _ _ _ hS0.2 (by decide) (by decide) (by decide))
  refine hK.out _ _ hS4 ?_
  have hsd := H3.out.1.side.still (Upd.refl _ w3).drew
  have hsd4 : Side10 w0 w4 vl vw d r vg V.l := ⟨hsd.low, ⟨hsd.rd.lasts.eqb fun q hq => hAd.keep q (.inl (.inl hq)), hsd.rd.ws.eqb fun q hq => hAd.keep q (.inl (.inr hq))⟩, hsd.is, hsd.recs.eqb fun q hq => hAd.keep q (.inr hq)⟩
  have H4 := Lib.hid (And.intro hS4 (And.intro hAd.log (And.intro hsd4 H3.out.1.low)))
  clear hK hS0 hAd hBk hsd hsd4 hc hcx
  refine wpAnyT_take (i := 7) (v := ?_) rfl (by kernel_rfl) (by kernel_rfl) (by kernel_rfl) (by kernel_rfl) (fun _ _ _ h => h) (takes_yield rfl (Or.inl ⟨by rfl, ?_⟩)) (by assumption) (by kernel_rfl) ?_
  rotate_left 1
  · intro w' hSw; go_split_ands; first | (go_simp; done) | (go_simp; rfl) | rfl
  simp only [Act.put, List.getElem_toArray, List.getElem_cons_zero, List.getElem_cons_succ, List.setIfInBounds_toArray, List.set_cons_zero, List.set_cons_succ]
  refine wpAnyT_done (by kernel_rfl) ?_ _
  refine NoPanic.normal ?_
  have hc4 := H4.out.1.1.cells18
  have hca4 := H4.out.1.2.cells6
  clear hS4 H3
  go_upto_region 6 with fail
  rename World => w3
  have hrp : Hid (∀ W, Upd (fun _ => False) w3 W → Calls Tryz.prog 44 #[.agg (V.rowR vg), .agg #[vl, vw, .int .i64 r.fuse, .bool r.off], .string t] W fun e w' =>
      ∃ vl' vw' vg', e = .returned (.tuple #[.agg (R.2.1.rowR vg'), .agg #[vl', vw', .int .i64 R.1.fuse, .bool R.1.off], .int .i64 R.2.2]) ∧ RdLeft W w' vl vw vl' vw' R.1 ∧ AddV W w' vg vg' R.2.1.l) := Lib.hid fun W hu => hHr.out W (H4.out.2.2.1.still hu)
  clear hc4 hca4
  go_cut [6, 7, 8] (fun t6 t7 t8 wx => ∃ (g8 g9 : Nat) (vl' vw' vg' : Value), t6 = .pointer (some ⟨g8, 0, none⟩) ∧ t7 = .pointer (some ⟨g9, 0, none⟩) ∧ t8 = .int .i64 R.2.2 ∧ Boxed10 w3 wx vl vw vg vl' vw' vg' R g8 g9)
  case first =>
    refine wp_region_noPanic ?_
    refine wp_region_T (S := fun w' => Blk w' x 41 (row10 p (.pointer (some ⟨b, 0, none⟩)) vl vw r V vg f se ep 0) ∧ Blk w' w.heap.size 46 (act9 0 t n_ a_ x_ kp)) (T := fun _ => false) (by kernel_rfl) ?_
    have hS0 := And.intro H4.out.1.1.drew H4.out.1.2.drew
    have hU0 : Upd (fun _ => False) w3 w3.drew := (Upd.refl _ _).drew
    refine wpAnyT_take (i := 0) (v := ?_) rfl (by kernel_rfl) (by kernel_rfl) (by kernel_rfl) (by kernel_rfl) (fun _ _ _ h => h) (takes_yield rfl (Or.inl ⟨by rfl, ?_⟩)) (by assumption) (by kernel_rfl) ?_
    rotate_left 1
    · intro w' hSw; have hcw := hSw.1.cells18; have hca := hSw.2.cells6; go_split_ands; first | (go_simp; done) | (go_simp; rfl) | rfl
    simp only [Act.put, List.getElem_toArray, List.getElem_cons_zero, List.setIfInBounds_toArray, List.set_cons_zero, List.set_cons_succ]
    refine wpAnyT_take (i := 1) (v := ?_) rfl (by kernel_rfl) (by kernel_rfl) (by kernel_rfl) (by kernel_rfl) (fun _ _ _ h => h) (takes_yield rfl (Or.inl ⟨by rfl, ?_⟩)) (by assumption) (by kernel_rfl) ?_
    rotate_left 1
    · intro w' hSw; have hcw := hSw.1.cells18; have hca := hSw.2.cells6; go_split_ands; first | (go_simp; done) | (go_simp; rfl) | rfl
    simp only [Act.put, List.getElem_toArray, List.getElem_cons_zero, List.getElem_cons_succ, List.setIfInBounds_toArray, List.set_cons_zero, List.set_cons_succ]
    refine wpAnyT_take (i := 2) (v := ?_) rfl (by kernel_rfl) (by kernel_rfl) (by kernel_rfl) (by kernel_rfl) (fun _ _ _ h => h) (takes_yield rfl (Or.inl ⟨by rfl, ?_⟩)) (by assumption) (by kernel_rfl) ?_
    rotate_left 1
    · intro w' hSw; have hcw := hSw.1.cells18; have hca := hSw.2.cells6; go_split_ands; first | (go_simp; done) | (go_simp; rfl) | rfl
    simp only [Act.put, List.getElem_toArray, List.getElem_cons_zero, List.getElem_cons_succ, List.setIfInBounds_toArray, List.set_cons_zero, List.set_cons_succ]
    refine wpAnyT_take (i := 3) (v := ?_) rfl (by kernel_rfl) (by kernel_rfl) (by kernel_rfl) (by kernel_rfl) (fun _ _ _ h => h) (takes_yield rfl (Or.inl ⟨by rfl, ?_⟩)) (by assumption) (by kernel_rfl) ?_
    rotate_left 1
    · intro w' hSw; have hcw := hSw.1.cells18; have hca := hSw.2.cells6; go_split_ands; first | (go_simp; done) | (go_simp; rfl) | rfl
    simp only [Act.put, List.getElem_toArray, List.getElem_cons_zero, List.getElem_cons_succ, List.setIfInBounds_toArray, List.set_cons_zero, List.set_cons_succ]
    refine wpAnyT_take (i := 4) (v := ?_) rfl (by kernel_rfl) (by kernel_rfl) (by kernel_rfl) (by kernel_rfl) (fun _ _ _ h => h) (takes_yield rfl (Or.inl ⟨by rfl, ?_⟩)) (by assumption) (by kernel_rfl) ?_
    rotate_left 1
    · intro w' hSw; have hcw := hSw.1.cells18; have hca := hSw.2.cells6; go_split_ands; first | (go_simp; done) | (go_simp; rfl) | rfl
    simp only [Act.put, List.getElem_toArray, List.getElem_cons_zero, List.getElem_cons_succ, List.setIfInBounds_toArray, List.set_cons_zero, List.set_cons_succ]
    refine wpAnyT_take (i := 5) (v := ?_) rfl (by kernel_rfl) (by kernel_rfl) (by kernel_rfl) (by kernel_rfl) (fun _ _ _ h => h) (takes_yield rfl (Or.inl ⟨by rfl, ?_⟩)) (by assumption) (by kernel_rfl) ?_
    rotate_left 1
    · intro w' hSw; have hcw := hSw.1.cells18; have hca := hSw.2.cells6; go_split_ands; first | (go_simp; done) | (go_simp; rfl) | rfl
    simp only [Act.put, List.getElem_toArray, List.getElem_cons_zero, List.getElem_cons_succ, List.setIfInBounds_toArray, List.set_cons_zero, List.set_cons_succ]
    refine wpAnyT_take (i := 6) (v := ?_) rfl (by kernel_rfl) (by kernel_rfl) (by kernel_rfl) (by kernel_rfl) (fun _ _ _ h => h) (takes_yield rfl (Or.inl ⟨by rfl, ?_⟩)) (by assumption) (by kernel_rfl) ?_
    rotate_left 1
    · intro w' hSw; have hcw := hSw.1.cells18; have hca := hSw.2.cells6; go_split_ands; first | (go_simp; done) | (go_simp; rfl) | rfl
    simp only [Act.put, List.getElem_toArray, List.getElem_cons_zero, List.getElem_cons_succ, List.setIfInBounds_toArray, List.set_cons_zero, List.set_cons_succ]
    refine wpAnyT_take (i := 7) (v := ?_) rfl (by kernel_rfl) (by kernel_rfl) (by kernel_rfl) (by kernel_rfl) (fun _ _ _ h => h) (takes_yield rfl (Or.inl ⟨by rfl, ?_⟩)) (by assumption) (by kernel_rfl) ?_
    rotate_left 1
    · intro w' hSw; have hcw := hSw.1.cells18; have hca := hSw.2.cells6; go_split_ands; first | (go_simp; done) | (go_simp; rfl) | rfl
    simp only [Act.put, List.getElem_toArray, List.getElem_cons_zero, List.getElem_cons_succ, List.setIfInBounds_toArray, List.set_cons_zero, List.set_cons_succ]
    refine wpAnyT_take (i := 8) (v := ?_) rfl (by kernel_rfl) (by kernel_rfl) (by kernel_rfl) (by kernel_rfl) (fun _ _ _ h => h) (takes_yield rfl (Or.inl ⟨by rfl, ?_⟩)) (by assumption) (by kernel_rfl) ?_
    rotate_left 1
    · intro w' hSw; have hcw := hSw.1.cells18; have hca := hSw.2.cells6; go_split_ands; first | (go_simp; done) | (go_simp; rfl) | rfl
    simp only [Act.put, List.getElem_toArray, List.getElem_cons_zero, List.getElem_cons_succ, List.setIfInBounds_toArray, List.set_cons_zero, List.set_cons_succ]
    refine wpAnyT_take (i := 9) (v := ?_) rfl (by kernel_rfl) (by kernel_rfl) (by kernel_rfl) (by kernel_rfl) (fun _ _ _ h => h) (takes_yield rfl (Or.inl ⟨by rfl, ?_⟩)) (by assumption) (by kernel_rfl) ?_
    rotate_left 1
    · intro w' hSw; have hcw := hSw.1.cells18; have hca := hSw.2.cells6; go_split_ands; first | (go_simp; done) | (go_simp; rfl) | rfl
    simp only [Act.put, List.getElem_toArray, List.getElem_cons_zero, List.getElem_cons_succ, List.setIfInBounds_toArray, List.set_cons_zero, List.set_cons_succ]
    refine wpAnyT_three (i := 10) (j := 15) (k := 16) (by kernel_rfl) rfl rfl rfl (fun K hK => ?_) (fun K hK => ?_) (fun K hK => ?_)
    · skip
      go_simp
      refine (hrp.out _ hU0).mono ?_
      rintro e wc1 ⟨vl', vw', vg', rfl, hl1, hav0⟩
      have hav := hav0.pre hU0
      clear hav0
      have hs1 := And.intro (hS0.1.upd hl1.upd (fun e => e)) (hS0.2.upd hl1.upd (fun e => e))
      have hu1 := hU0.then hl1.upd (fun _ e => e.elim)
      refine hK.out _ _ hs1 ?_
      have hl1b := hl1.pre hU0
      clear hK
      refine wpAnyT_take (i := 11) (v := ?_) rfl (by kernel_rfl) (by kernel_rfl) (by kernel_rfl) (by kernel_rfl) (fun _ _ _ h => h) (takes_yield rfl (Or.inl ⟨by rfl, ?_⟩)) (by assumption) (by kernel_rfl) ?_
      rotate_left 1
      · intro w' hSw; go_split_ands; first | (go_simp; done) | (go_simp; rfl) | rfl
      simp only [Act.put, List.getElem_toArray, List.getElem_cons_zero, List.getElem_cons_succ, List.setIfInBounds_toArray, List.set_cons_zero, List.set_cons_succ]
      refine wpAnyT_take (i := 12) (v := ?_) rfl (by kernel_rfl) (by kernel_rfl) (by kernel_rfl) (by kernel_rfl) (fun _ _ _ h => h) (takes_yield rfl (Or.inl ⟨by rfl, ?_⟩)) (by assumption) (by kernel_rfl) ?_
      rotate_left 1
      · intro w' hSw; go_split_ands; first | (go_simp; done) | (go_simp; rfl) | rfl
      simp only [Act.put, List.getElem_toArray, List.getElem_cons_zero, List.getElem_cons_succ, List.setIfInBounds_toArray, List.set_cons_zero, List.set_cons_succ]
      refine wpAnyT_take (i := 13) (v := ?_) rfl (by kernel_rfl) (by kernel_rfl) (by kernel_rfl) (by kernel_rfl) (fun _ _ _ h => h) (takes_yield rfl (Or.inl ⟨by rfl, ?_⟩)) (by assumption) (by kernel_rfl) ?_
      rotate_left 1
      · intro w' hSw; go_split_ands; first | (go_simp; done) | (go_simp; rfl) | rfl
      simp only [Act.put, List.getElem_toArray, List.getElem_cons_zero, List.getElem_cons_succ, List.setIfInBounds_toArray, List.set_cons_zero, List.set_cons_succ]
      refine wpAnyT_take (i := 14) (v := ?_) rfl (by kernel_rfl) (by kernel_rfl) (by kernel_rfl) (by kernel_rfl) (fun _ _ _ h => h) (takes_yield rfl (Or.inl ⟨by rfl, ?_⟩)) (by assumption) (by kernel_rfl) ?_
      rotate_left 1
      · intro w' hSw; go_split_ands; first | (go_simp; done) | (go_simp; rfl) | rfl
      simp only [Act.put, List.getElem_toArray, List.getElem_cons_zero, List.getElem_cons_succ, List.setIfInBounds_toArray, List.set_cons_zero, List.set_cons_succ]
      refine wpAnyT_two (i := 15) (j := 16) (by kernel_rfl) rfl rfl (fun K hK => ?_) (fun K hK => ?_)
      · skip
        go_simp
        have hs2 := And.intro (hs1.1.alloc (.cells zeroLg 39)) (hs1.2.alloc (.cells zeroLg 39))
        have hu2 := hu1.alloc (.cells zeroLg 39)
        refine hK.out _ _ hs2 ?_
        have b8_2 := Blk.new (wc1) 39 zeroLg
        have n8_2 := hu1.size
        have hl2 := hl1b.post ((Upd.refl (fun _ => False) (wc1)).alloc (.cells zeroLg 39))
        clear hK
        refine wpAnyT_one (i := 16) (by kernel_rfl) rfl (fun K hK => ?_)
        go_simp
        have hs3 := And.intro (hs2.1.alloc (.cells zeroRd 33)) (hs2.2.alloc (.cells zeroRd 33))
        have hu3 := hu2.alloc (.cells zeroRd 33)
        refine hK.out _ _ hs3 ?_
        have b8_3 := b8_2.alloc (.cells zeroRd 33)
        have e9_3 : (wc1.alloc (.cells zeroLg 39)).heap.size = wc1.heap.size + 1 := by simp
        have b9_3 := Blk.new (wc1.alloc (.cells zeroLg 39)) 33 zeroRd
        have n9_3 := hu2.size
        rw [e9_3] at b9_3 n9_3
        clear e9_3
        have hl3 := hl2.post ((Upd.refl (fun _ => False) (wc1.alloc (.cells zeroLg 39))).alloc (.cells zeroRd 33))
        clear hK
        refine wpAnyT_one (i := 17) (by kernel_rfl) rfl (fun K hK => ?_)
        refine step_store_all (by rfl) 39 _ _ (by rfl) (wc1).heap.size (R.2.1.rowR vg') (by rfl) (by rfl) _ _ b8_3 rfl (Lg.rowR_one _ _ hav.own.one) (by kernel_rfl) ?_
        intro y1 hB1 hU1 hz1
        have hg8 : w3.heap.size ≤ (wc1).heap.size := n8_2
        have hg9 : w3.heap.size ≤ (wc1.heap.size + 1) := n9_3
        have hg89 : (wc1.heap.size + 1) ≠ (wc1).heap.size := b9_3.ne_ b8_3 (by decide)
        have hy1 := And.intro (hs3.1.upd hU1 (fun e => hs3.1.ne_ b8_3 (by decide) e)) (hs3.2.upd hU1 (fun e => hs3.2.ne_ b8_3 (by decide) e))
        refine hK.out _ _ hy1 ?_
        clear hK
        refine wpAnyT_one (i := 18) (by kernel_rfl) rfl (fun K hK => ?_)
        refine step_store_all (by rfl) 33 _ _ (by rfl) (wc1.heap.size + 1) #[vl', vw', .int .i64 R.1.fuse, .bool R.1.off] (by rfl) (by rfl) _ _ (b9_3.upd hU1 hg89) rfl (rdrow_one R.1 hl3.at_) (by kernel_rfl) ?_
        intro y2 hB2 hU2 hz2
        have hy2 := And.intro (hy1.1.upd hU2 (fun e => hs3.1.ne_ b9_3 (by decide) e)) (hy1.2.upd hU2 (fun e => hs3.2.ne_ b9_3 (by decide) e))
        refine hK.out _ _ hy2 ?_
        have hly := (hl3.store hU1 (fun q hq e => hl3.at_.ne b8_3 (by decide) (by decide) (e ▸ hq)) hg8).store hU2 (fun q hq e => hl3.at_.ne b9_3 (by decide) (by decide) (e ▸ hq)) hg9
        have hcw : Upd (fun _ => False) wc1 ((wc1.alloc (.cells zeroLg 39)).alloc (.cells zeroRd 33)) := by first | exact Upd.refl _ _ | exact (Upd.refl _ _).alloc _ | exact ((Upd.refl _ _).alloc _).alloc _
        have hvo := hav.own.upd hcw (fun _ _ e => e)
        have hav2 : AddV w3 y2 vg vg' R.2.1.l := ⟨(hvo.upd hU1 (fun q hq e => hvo.ne_blk b8_3 (by decide) (e ▸ hq))).upd hU2 (fun q hq e => hvo.ne_blk b9_3 (by decide) (e ▸ hq)), hav.new⟩
        have HZ := Lib.hid (show Boxed10 w3 y2 vl vw vg vl' vw' vg' R (wc1).heap.size (wc1.heap.size + 1) from ⟨hB1.upd hU2 (Ne.symm hg89), hB2, hly, hav2, hg8, hg9, Ne.symm hg89⟩)
        clear hK hB1 hU1 hz1 hB2 hU2 hz2 hly hy1 hcw hvo hav2
        refine wpAnyT_take (i := 19) (v := ?_) rfl (by kernel_rfl) (by kernel_rfl) (by kernel_rfl) (by kernel_rfl) (fun _ _ _ h => h) (takes_yield rfl (Or.inl ⟨by rfl, ?_⟩)) (by assumption) (by kernel_rfl) ?_
        rotate_left 1
        · intro w' hSw; go_split_ands; first | (go_simp; done) | (go_simp; rfl) | rfl
        simp only [Act.put, List.getElem_toArray, List.getElem_cons_zero, List.getElem_cons_succ, List.setIfInBounds_toArray, List.set_cons_zero, List.set_cons_succ]
        refine wpAnyT_done (by kernel_rfl) ?_ _
        refine NoPanic.normal ?_
        go_wp2_with fail
        go_meet
        exact ⟨_, _, vl', vw', vg', rfl, rfl, rfl, HZ.out⟩
      · skip
        go_simp
        have hs4 := And.intro (hs1.1.alloc (.cells zeroRd 33)) (hs1.2.alloc (.cells zeroRd 33))
        have hu4 := hu1.alloc (.cells zeroRd 33)
        refine hK.out _ _ hs4 ?_
        have b9_4 := Blk.new (wc1) 33 zeroRd
        have n9_4 := hu1.size
        have hl4 := hl1b.post ((Upd.refl (fun _ => False) (wc1)).alloc (.cells zeroRd 33))
        clear hK
        refine wpAnyT_one (i := 15) (by kernel_rfl) rfl (fun K hK => ?_)
        go_simp
        have hs5 := And.intro (hs4.1.alloc (.cells zeroLg 39)) (hs4.2.alloc (.cells zeroLg 39))
        have hu5 := hu4.alloc (.cells zeroLg 39)
        refine hK.out _ _ hs5 ?_
        have b9_5 := b9_4.alloc (.cells zeroLg 39)
        have e8_5 : (wc1.alloc (.cells zeroRd 33)).heap.size = wc1.heap.size + 1 := by simp
        have b8_5 := Blk.new (wc1.alloc (.cells zeroRd 33)) 39 zeroLg
        have n8_5 := hu4.size
        rw [e8_5] at b8_5 n8_5
        clear e8_5
        have hl5 := hl4.post ((Upd.refl (fun _ => False) (wc1.alloc (.cells zeroRd 33))).alloc (.cells zeroLg 39))
        clear hK
        refine wpAnyT_one (i := 17) (by kernel_rfl) rfl (fun K hK => ?_)
        refine step_store_all (by rfl) 39 _ _ (by rfl) (wc1.heap.size + 1) (R.2.1.rowR vg') (by rfl) (by rfl) _ _ b8_5 rfl (Lg.rowR_one _ _ hav.own.one) (by kernel_rfl) ?_
        intro y1 hB1 hU1 hz1
        have hg8 : w3.heap.size ≤ (wc1.heap.size + 1) := n8_5
        have hg9 : w3.heap.size ≤ (wc1).heap.size := n9_4
        have hg89 : (wc1).heap.size ≠ (wc1.heap.size + 1) := b9_5.ne_ b8_5 (by decide)
        have hy1 := And.intro (hs5.1.upd hU1 (fun e => hs5.1.ne_ b8_5 (by decide) e)) (hs5.2.upd hU1 (fun e => hs5.2.ne_ b8_5 (by decide) e))
        refine hK.out _ _ hy1 ?_
        clear hK
        refine wpAnyT_one (i := 18) (by kernel_rfl) rfl (fun K hK => ?_)
        refine step_store_all (by rfl) 33 _ _ (by rfl) (wc1).heap.size #[vl', vw', .int .i64 R.1.fuse, .bool R.1.off] (by rfl) (by rfl) _ _ (b9_5.upd hU1 hg89) rfl (rdrow_one R.1 hl5.at_) (by kernel_rfl) ?_
        intro y2 hB2 hU2 hz2
        have hy2 := And.intro (hy1.1.upd hU2 (fun e => hs5.1.ne_ b9_5 (by decide) e)) (hy1.2.upd hU2 (fun e => hs5.2.ne_ b9_5 (by decide) e))
        refine hK.out _ _ hy2 ?_
        have hly := (hl5.store hU1 (fun q hq e => hl5.at_.ne b8_5 (by decide) (by decide) (e ▸ hq)) hg8).store hU2 (fun q hq e => hl5.at_.ne b9_5 (by decide) (by decide) (e ▸ hq)) hg9
        have hcw : Upd (fun _ => False) wc1 ((wc1.alloc (.cells zeroRd 33)).alloc (.cells zeroLg 39)) := by first | exact Upd.refl _ _ | exact (Upd.refl _ _).alloc _ | exact ((Upd.refl _ _).alloc _).alloc _
        have hvo := hav.own.upd hcw (fun _ _ e => e)
        have hav2 : AddV w3 y2 vg vg' R.2.1.l := ⟨(hvo.upd hU1 (fun q hq e => hvo.ne_blk b8_5 (by decide) (e ▸ hq))).upd hU2 (fun q hq e => hvo.ne_blk b9_5 (by decide) (e ▸ hq)), hav.new⟩
        have HZ := Lib.hid (show Boxed10 w3 y2 vl vw vg vl' vw' vg' R (wc1.heap.size + 1) (wc1).heap.size from ⟨hB1.upd hU2 (Ne.symm hg89), hB2, hly, hav2, hg8, hg9, Ne.symm hg89⟩)
        clear hK hB1 hU1 hz1 hB2 hU2 hz2 hly hy1 hcw hvo hav2
        refine wpAnyT_take (i := 19) (v := ?_) rfl (by kernel_rfl) (by kernel_rfl) (by kernel_rfl) (by kernel_rfl) (fun _ _ _ h => h) (takes_yield rfl (Or.inl ⟨by rfl, ?_⟩)) (by assumption) (by kernel_rfl) ?_
        rotate_left 1
        · intro w' hSw; go_split_ands; first | (go_simp; done) | (go_simp; rfl) | rfl
        simp only [Act.put, List.getElem_toArray, List.getElem_cons_zero, List.getElem_cons_succ, List.setIfInBounds_toArray, List.set_cons_zero, List.set_cons_succ]
        refine wpAnyT_done (by kernel_rfl) ?_ _
        refine NoPanic.normal ?_
        go_wp2_with fail
        go_meet
        exact ⟨_, _, vl', vw', vg', rfl, rfl, rfl, HZ.out⟩
    · skip
      go_simp
      have hs6 := And.intro (hS0.1.alloc (.cells zeroLg 39)) (hS0.2.alloc (.cells zeroLg 39))
      have hu6 := hU0.alloc (.cells zeroLg 39)
      refine hK.out _ _ hs6 ?_
      have b8_6 := Blk.new (w3.drew) 39 zeroLg
      have n8_6 := hU0.size
      clear hK
      refine wpAnyT_two (i := 10) (j := 16) (by kernel_rfl) rfl rfl (fun K hK => ?_) (fun K hK => ?_)
      · skip
        go_simp
        refine (hrp.out _ hu6).mono ?_
        rintro e wc7 ⟨vl', vw', vg', rfl, hl7, hav0⟩
        have hav := hav0.pre hu6
        clear hav0
        have hs7 := And.intro (hs6.1.upd hl7.upd (fun e => e)) (hs6.2.upd hl7.upd (fun e => e))
        have hu7 := hu6.then hl7.upd (fun _ e => e.elim)
        refine hK.out _ _ hs7 ?_
        have b8_7 := b8_6.upd hl7.upd (fun e => e)
        have hl7b := hl7.pre hu6
        clear hK
        refine wpAnyT_take (i := 11) (v := ?_) rfl (by kernel_rfl) (by kernel_rfl) (by kernel_rfl) (by kernel_rfl) (fun _ _ _ h => h) (takes_yield rfl (Or.inl ⟨by rfl, ?_⟩)) (by assumption) (by kernel_rfl) ?_
        rotate_left 1
        · intro w' hSw; go_split_ands; first | (go_simp; done) | (go_simp; rfl) | rfl
        simp only [Act.put, List.getElem_toArray, List.getElem_cons_zero, List.getElem_cons_succ, List.setIfInBounds_toArray, List.set_cons_zero, List.set_cons_succ]
        refine wpAnyT_take (i := 12) (v := ?_) rfl (by kernel_rfl) (by kernel_rfl) (by kernel_rfl) (by kernel_rfl) (fun _ _ _ h => h) (takes_yield rfl (Or.inl ⟨by rfl, ?_⟩)) (by assumption) (by kernel_rfl) ?_
        rotate_left 1
        · intro w' hSw; go_split_ands; first | (go_simp; done) | (go_simp; rfl) | rfl
        simp only [Act.put, List.getElem_toArray, List.getElem_cons_zero, List.getElem_cons_succ, List.setIfInBounds_toArray, List.set_cons_zero, List.set_cons_succ]
        refine wpAnyT_take (i := 13) (v := ?_) rfl (by kernel_rfl) (by kernel_rfl) (by kernel_rfl) (by kernel_rfl) (fun _ _ _ h => h) (takes_yield rfl (Or.inl ⟨by rfl, ?_⟩)) (by assumption) (by kernel_rfl) ?_
        rotate_left 1
        · intro w' hSw; go_split_ands; first | (go_simp; done) | (go_simp; rfl) | rfl
        simp only [Act.put, List.getElem_toArray, List.getElem_cons_zero, List.getElem_cons_succ, List.setIfInBounds_toArray, List.set_cons_zero, List.set_cons_succ]
        refine wpAnyT_take (i := 14) (v := ?_) rfl (by kernel_rfl) (by kernel_rfl) (by kernel_rfl) (by kernel_rfl) (fun _ _ _ h => h) (takes_yield rfl (Or.inl ⟨by rfl, ?_⟩)) (by assumption) (by kernel_rfl) ?_
        rotate_left 1
        · intro w' hSw; go_split_ands; first | (go_simp; done) | (go_simp; rfl) | rfl
        simp only [Act.put, List.getElem_toArray, List.getElem_cons_zero, List.getElem_cons_succ, List.setIfInBounds_toArray, List.set_cons_zero, List.set_cons_succ]
        refine wpAnyT_one (i := 16) (by kernel_rfl) rfl (fun K hK => ?_)
        go_simp
        have hs8 := And.intro (hs7.1.alloc (.cells zeroRd 33)) (hs7.2.alloc (.cells zeroRd 33))
        have hu8 := hu7.alloc (.cells zeroRd 33)
        refine hK.out _ _ hs8 ?_
        have b8_8 := b8_7.alloc (.cells zeroRd 33)
        have b9_8 := Blk.new (wc7) 33 zeroRd
        have n9_8 := hu7.size
        have hl8 := hl7b.post ((Upd.refl (fun _ => False) (wc7)).alloc (.cells zeroRd 33))
        clear hK
        refine wpAnyT_one (i := 17) (by kernel_rfl) rfl (fun K hK => ?_)
        refine step_store_all (by rfl) 39 _ _ (by rfl) (w3.drew).heap.size (R.2.1.rowR vg') (by rfl) (by rfl) _ _ b8_8 rfl (Lg.rowR_one _ _ hav.own.one) (by kernel_rfl) ?_
        intro y1 hB1 hU1 hz1
        have hg8 : w3.heap.size ≤ (w3.drew).heap.size := n8_6
        have hg9 : w3.heap.size ≤ (wc7).heap.size := n9_8
        have hg89 : (wc7).heap.size ≠ (w3.drew).heap.size := b9_8.ne_ b8_8 (by decide)
        have hy1 := And.intro (hs8.1.upd hU1 (fun e => hs8.1.ne_ b8_8 (by decide) e)) (hs8.2.upd hU1 (fun e => hs8.2.ne_ b8_8 (by decide) e))
        refine hK.out _ _ hy1 ?_
        clear hK
        refine wpAnyT_one (i := 18) (by kernel_rfl) rfl (fun K hK => ?_)
        refine step_store_all (by rfl) 33 _ _ (by rfl) (wc7).heap.size #[vl', vw', .int .i64 R.1.fuse, .bool R.1.off] (by rfl) (by rfl) _ _ (b9_8.upd hU1 hg89) rfl (rdrow_one R.1 hl8.at_) (by kernel_rfl) ?_
        intro y2 hB2 hU2 hz2
        have hy2 := And.intro (hy1.1.upd hU2 (fun e => hs8.1.ne_ b9_8 (by decide) e)) (hy1.2.upd hU2 (fun e => hs8.2.ne_ b9_8 (by decide) e))
        refine hK.out _ _ hy2 ?_
        have hly := (hl8.store hU1 (fun q hq e => hl8.at_.ne b8_8 (by decide) (by decide) (e ▸ hq)) hg8).store hU2 (fun q hq e => hl8.at_.ne b9_8 (by decide) (by decide) (e ▸ hq)) hg9
        have hcw : Upd (fun _ => False) wc7 (wc7.alloc (.cells zeroRd 33)) := by first | exact Upd.refl _ _ | exact (Upd.refl _ _).alloc _ | exact ((Upd.refl _ _).alloc _).alloc _
        have hvo := hav.own.upd hcw (fun _ _ e => e)
        have hav2 : AddV w3 y2 vg vg' R.2.1.l := ⟨(hvo.upd hU1 (fun q hq e => hvo.ne_blk b8_8 (by decide) (e ▸ hq))).upd hU2 (fun q hq e => hvo.ne_blk b9_8 (by decide) (e ▸ hq)), hav.new⟩
        have HZ := Lib.hid (show Boxed10 w3 y2 vl vw vg vl' vw' vg' R (w3.drew).heap.size (wc7).heap.size from ⟨hB1.upd hU2 (Ne.symm hg89), hB2, hly, hav2, hg8, hg9, Ne.symm hg89⟩)
        clear hK hB1 hU1 hz1 hB2 hU2 hz2 hly hy1 hcw hvo hav2
        refine wpAnyT_take (i := 19) (v := ?_) rfl (by kernel_rfl) (by kernel_rfl) (by kernel_rfl) (by kernel_rfl) (fun _ _ _ h => h) (takes_yield rfl (Or.inl ⟨by rfl, ?_⟩)) (by assumption) (by kernel_rfl) ?_
        rotate_left 1
        · intro w' hSw; go_split_ands; first | (go_simp; done) | (go_simp; rfl) | rfl
        simp only [Act.put, List.getElem_toArray, List.getElem_cons_zero, List.getElem_cons_succ, List.setIfInBounds_toArray, List.set_cons_zero, List.set_cons_succ]
        refine wpAnyT_done (by kernel_rfl) ?_ _
        refine NoPanic.normal ?_
        go_wp2_with fail
        go_meet
        exact ⟨_, _, vl', vw', vg', rfl, rfl, rfl, HZ.out⟩
      · skip
        go_simp
        have hs9 := And.intro (hs6.1.alloc (.cells zeroRd 33)) (hs6.2.alloc (.cells zeroRd 33))
        have hu9 := hu6.alloc (.cells zeroRd 33)
        refine hK.out _ _ hs9 ?_
        have b8_9 := b8_6.alloc (.cells zeroRd 33)
        have e9_9 : (w3.drew.alloc (.cells zeroLg 39)).heap.size = w3.heap.size + 1 := by simp
        have b9_9 := Blk.new (w3.drew.alloc (.cells zeroLg 39)) 33 zeroRd
        have n9_9 := hu6.size
        rw [e9_9] at b9_9 n9_9
        clear e9_9
        clear hK
        refine wpAnyT_one (i := 10) (by kernel_rfl) rfl (fun K hK => ?_)
        go_simp
        refine (hrp.out _ hu9).mono ?_
        rintro e wc10 ⟨vl', vw', vg', rfl, hl10, hav0⟩
        have hav := hav0.pre hu9
        clear hav0
        have hs10 := And.intro (hs9.1.upd hl10.upd (fun e => e)) (hs9.2.upd hl10.upd (fun e => e))
        have hu10 := hu9.then hl10.upd (fun _ e => e.elim)
        refine hK.out _ _ hs10 ?_
        have b8_10 := b8_9.upd hl10.upd (fun e => e)
        have b9_10 := b9_9.upd hl10.upd (fun e => e)
        have hl10b := hl10.pre hu9
        clear hK
        refine wpAnyT_take (i := 11) (v := ?_) rfl (by kernel_rfl) (by kernel_rfl) (by kernel_rfl) (by kernel_rfl) (fun _ _ _ h => h) (takes_yield rfl (Or.inl ⟨by rfl, ?_⟩)) (by assumption) (by kernel_rfl) ?_
        rotate_left 1
        · intro w' hSw; go_split_ands; first | (go_simp; done) | (go_simp; rfl) | rfl
        simp only [Act.put, List.getElem_toArray, List.getElem_cons_zero, List.getElem_cons_succ, List.setIfInBounds_toArray, List.set_cons_zero, List.set_cons_succ]
        refine wpAnyT_take (i := 12) (v := ?_) rfl (by kernel_rfl) (by kernel_rfl) (by kernel_rfl) (by kernel_rfl) (fun _ _ _ h => h) (takes_yield rfl (Or.inl ⟨by rfl, ?_⟩)) (by assumption) (by kernel_rfl) ?_
        rotate_left 1
        · intro w' hSw; go_split_ands; first | (go_simp; done) | (go_simp; rfl) | rfl
        simp only [Act.put, List.getElem_toArray, List.getElem_cons_zero, List.getElem_cons_succ, List.setIfInBounds_toArray, List.set_cons_zero, List.set_cons_succ]
        refine wpAnyT_take (i := 13) (v := ?_) rfl (by kernel_rfl) (by kernel_rfl) (by kernel_rfl) (by kernel_rfl) (fun _ _ _ h => h) (takes_yield rfl (Or.inl ⟨by rfl, ?_⟩)) (by assumption) (by kernel_rfl) ?_
        rotate_left 1
        · intro w' hSw; go_split_ands; first | (go_simp; done) | (go_simp; rfl) | rfl
        simp only [Act.put, List.getElem_toArray, List.getElem_cons_zero, List.getElem_cons_succ, List.setIfInBounds_toArray, List.set_cons_zero, List.set_cons_succ]
        refine wpAnyT_take (i := 14) (v := ?_) rfl (by kernel_rfl) (by kernel_rfl) (by kernel_rfl) (by kernel_rfl) (fun _ _ _ h => h) (takes_yield rfl (Or.inl ⟨by rfl, ?_⟩)) (by assumption) (by kernel_rfl) ?_
        rotate_left 1
        · intro w' hSw; go_split_ands; first | (go_simp; done) | (go_simp; rfl) | rfl
        simp only [Act.put, List.getElem_toArray, List.getElem_cons_zero, List.getElem_cons_succ, List.setIfInBounds_toArray, List.set_cons_zero, List.set_cons_succ]
        refine wpAnyT_one (i := 17) (by kernel_rfl) rfl (fun K hK => ?_)
        refine step_store_all (by rfl) 39 _ _ (by rfl) (w3.drew).heap.size (R.2.1.rowR vg') (by rfl) (by rfl) _ _ b8_10 rfl (Lg.rowR_one _ _ hav.own.one) (by kernel_rfl) ?_
        intro y1 hB1 hU1 hz1
        have hg8 : w3.heap.size ≤ (w3.drew).heap.size := n8_6
        have hg9 : w3.heap.size ≤ (w3.heap.size + 1) := n9_9
        have hg89 : (w3.heap.size + 1) ≠ (w3.drew).heap.size := b9_10.ne_ b8_10 (by decide)
        have hy1 := And.intro (hs10.1.upd hU1 (fun e => hs10.1.ne_ b8_10 (by decide) e)) (hs10.2.upd hU1 (fun e => hs10.2.ne_ b8_10 (by decide) e))
        refine hK.out _ _ hy1 ?_
        clear hK
        refine wpAnyT_one (i := 18) (by kernel_rfl) rfl (fun K hK => ?_)
        refine step_store_all (by rfl) 33 _ _ (by rfl) (w3.heap.size + 1) #[vl', vw', .int .i64 R.1.fuse, .bool R.1.off] (by rfl) (by rfl) _ _ (b9_10.upd hU1 hg89) rfl (rdrow_one R.1 hl10b.at_) (by kernel_rfl) ?_
        intro y2 hB2 hU2 hz2
        have hy2 := And.intro (hy1.1.upd hU2 (fun e => hs10.1.ne_ b9_10 (by decide) e)) (hy1.2.upd hU2 (fun e => hs10.2.ne_ b9_10 (by decide) e))
        refine hK.out _ _ hy2 ?_
        have hly := (hl10b.store hU1 (fun q hq e => hl10b.at_.ne b8_10 (by decide) (by decide) (e ▸ hq)) hg8).store hU2 (fun q hq e => hl10b.at_.ne b9_10 (by decide) (by decide) (e ▸ hq)) hg9
        have hcw : Upd (fun _ => False) wc10 (wc10) := by first | exact Upd.refl _ _ | exact (Upd.refl _ _).alloc _ | exact ((Upd.refl _ _).alloc _).alloc _
        have hvo := hav.own.upd hcw (fun _ _ e => e)
        have hav2 : AddV w3 y2 vg vg' R.2.1.l := ⟨(hvo.upd hU1 (fun q hq e => hvo.ne_blk b8_10 (by decide) (e ▸ hq))).upd hU2 (fun q hq e => hvo.ne_blk b9_10 (by decide) (e ▸ hq)), hav.new⟩
        have HZ := Lib.hid (show Boxed10 w3 y2 vl vw vg vl' vw' vg' R (w3.drew).heap.size (w3.heap.size + 1) from ⟨hB1.upd hU2 (Ne.symm hg89), hB2, hly, hav2, hg8, hg9, Ne.symm hg89⟩)
        clear hK hB1 hU1 hz1 hB2 hU2 hz2 hly hy1 hcw hvo hav2
        refine wpAnyT_take (i := 19) (v := ?_) rfl (by kernel_rfl) (by kernel_rfl) (by kernel_rfl) (by kernel_rfl) (fun _ _ _ h => h) (takes_yield rfl (Or.inl ⟨by rfl, ?_⟩)) (by assumption) (by kernel_rfl) ?_
        rotate_left 1
        · intro w' hSw; go_split_ands; first | (go_simp; done) | (go_simp; rfl) | rfl
        simp only [Act.put, List.getElem_toArray, List.getElem_cons_zero, List.getElem_cons_succ, List.setIfInBounds_toArray, List.set_cons_zero, List.set_cons_succ]
        refine wpAnyT_done (by kernel_rfl) ?_ _
        refine NoPanic.normal ?_
        go_wp2_with fail
        go_meet
        exact ⟨_, _, vl', vw', vg', rfl, rfl, rfl, HZ.out⟩
    · skip
      go_simp
      have hs11 := And.intro (hS0.1.alloc (.cells zeroRd 33)) (hS0.2.alloc (.cells zeroRd 33))
      have hu11 := hU0.alloc (.cells zeroRd 33)
      refine hK.out _ _ hs11 ?_
      have b9_11 := Blk.new (w3.drew) 33 zeroRd
      have n9_11 := hU0.size
      clear hK
      refine wpAnyT_two (i := 10) (j := 15) (by kernel_rfl) rfl rfl (fun K hK => ?_) (fun K hK => ?_)
      · skip
        go_simp
        refine (hrp.out _ hu11).mono ?_
        rintro e wc12 ⟨vl', vw', vg', rfl, hl12, hav0⟩
        have hav := hav0.pre hu11
        clear hav0
        have hs12 := And.intro (hs11.1.upd hl12.upd (fun e => e)) (hs11.2.upd hl12.upd (fun e => e))
        have hu12 := hu11.then hl12.upd (fun _ e => e.elim)
        refine hK.out _ _ hs12 ?_
        have b9_12 := b9_11.upd hl12.upd (fun e => e)
        have hl12b := hl12.pre hu11
        clear hK
        refine wpAnyT_take (i := 11) (v := ?_) rfl (by kernel_rfl) (by kernel_rfl) (by kernel_rfl) (by kernel_rfl) (fun _ _ _ h => h) (takes_yield rfl (Or.inl ⟨by rfl, ?_⟩)) (by assumption) (by kernel_rfl) ?_
        rotate_left 1
        · intro w' hSw; go_split_ands; first | (go_simp; done) | (go_simp; rfl) | rfl
        simp only [Act.put, List.getElem_toArray, List.getElem_cons_zero, List.getElem_cons_succ, List.setIfInBounds_toArray, List.set_cons_zero, List.set_cons_succ]
        refine wpAnyT_take (i := 12) (v := ?_) rfl (by kernel_rfl) (by kernel_rfl) (by kernel_rfl) (by kernel_rfl) (fun _ _ _ h => h) (takes_yield rfl (Or.inl ⟨by rfl, ?_⟩)) (by assumption) (by kernel_rfl) ?_
        rotate_left 1
        · intro w' hSw; go_split_ands; first | (go_simp; done) | (go_simp; rfl) | rfl
        simp only [Act.put, List.getElem_toArray, List.getElem_cons_zero, List.getElem_cons_succ, List.setIfInBounds_toArray, List.set_cons_zero, List.set_cons_succ]
        refine wpAnyT_take (i := 13) (v := ?_) rfl (by kernel_rfl) (by kernel_rfl) (by kernel_rfl) (by kernel_rfl) (fun _ _ _ h => h) (takes_yield rfl (Or.inl ⟨by rfl, ?_⟩)) (by assumption) (by kernel_rfl) ?_
        rotate_left 1
        · intro w' hSw; go_split_ands; first | (go_simp; done) | (go_simp; rfl) | rfl
        simp only [Act.put, List.getElem_toArray, List.getElem_cons_zero, List.getElem_cons_succ, List.setIfInBounds_toArray, List.set_cons_zero, List.set_cons_succ]
        refine wpAnyT_take (i := 14) (v := ?_) rfl (by kernel_rfl) (by kernel_rfl) (by kernel_rfl) (by kernel_rfl) (fun _ _ _ h => h) (takes_yield rfl (Or.inl ⟨by rfl, ?_⟩)) (by assumption) (by kernel_rfl) ?_
        rotate_left 1
        · intro w' hSw; go_split_ands; first | (go_simp; done) | (go_simp; rfl) | rfl
        simp only [Act.put, List.getElem_toArray, List.getElem_cons_zero, List.getElem_cons_succ, List.setIfInBounds_toArray, List.set_cons_zero, List.set_cons_succ]
        refine wpAnyT_one (i := 15) (by kernel_rfl) rfl (fun K hK => ?_)
        go_simp
        have hs13 := And.intro (hs12.1.alloc (.cells zeroLg 39)) (hs12.2.alloc (.cells zeroLg 39))
        have hu13 := hu12.alloc (.cells zeroLg 39)
        refine hK.out _ _ hs13 ?_
        have b9_13 := b9_12.alloc (.cells zeroLg 39)
        have b8_13 := Blk.new (wc12) 39 zeroLg
        have n8_13 := hu12.size
        have hl13 := hl12b.post ((Upd.refl (fun _ => False) (wc12)).alloc (.cells zeroLg 39))
        clear hK
        refine wpAnyT_one (i := 17) (by kernel_rfl) rfl (fun K hK => ?_)
        refine step_store_all (by rfl) 39 _ _ (by rfl) (wc12).heap.size (R.2.1.rowR vg') (by rfl) (by rfl) _ _ b8_13 rfl (Lg.rowR_one _ _ hav.own.one) (by kernel_rfl) ?_
        intro y1 hB1 hU1 hz1
        have hg8 : w3.heap.size ≤ (wc12).heap.size := n8_13
        have hg9 : w3.heap.size ≤ (w3.drew).heap.size := n9_11
        have hg89 : (w3.drew).heap.size ≠ (wc12).heap.size := b9_13.ne_ b8_13 (by decide)
        have hy1 := And.intro (hs13.1.upd hU1 (fun e => hs13.1.ne_ b8_13 (by decide) e)) (hs13.2.upd hU1 (fun e => hs13.2.ne_ b8_13 (by decide) e))
        refine hK.out _ _ hy1 ?_
        clear hK
        refine wpAnyT_one (i := 18) (by kernel_rfl) rfl (fun K hK => ?_)
        refine step_store_all (by rfl) 33 _ _ (by rfl) (w3.drew).heap.size #[vl', vw', .int .i64 R.1.fuse, .bool R.1.off] (by rfl) (by rfl) _ _ (b9_13.upd hU1 hg89) rfl (rdrow_one R.1 hl13.at_) (by kernel_rfl) ?_
        intro y2 hB2 hU2 hz2
        have hy2 := And.intro (hy1.1.upd hU2 (fun e => hs13.1.ne_ b9_13 (by decide) e)) (hy1.2.upd hU2 (fun e => hs13.2.ne_ b9_13 (by decide) e))
        refine hK.out _ _ hy2 ?_
        have hly := (hl13.store hU1 (fun q hq e => hl13.at_.ne b8_13 (by decide) (by decide) (e ▸ hq)) hg8).store hU2 (fun q hq e => hl13.at_.ne b9_13 (by decide) (by decide) (e ▸ hq)) hg9
        have hcw : Upd (fun _ => False) wc12 (wc12.alloc (.cells zeroLg 39)) := by first | exact Upd.refl _ _ | exact (Upd.refl _ _).alloc _ | exact ((Upd.refl _ _).alloc _).alloc _
        have hvo := hav.own.upd hcw (fun _ _ e => e)
        have hav2 : AddV w3 y2 vg vg' R.2.1.l := ⟨(hvo.upd hU1 (fun q hq e => hvo.ne_blk b8_13 (by decide) (e ▸ hq))).upd hU2 (fun q hq e => hvo.ne_blk b9_13 (by decide) (e ▸ hq)), hav.new⟩
        have HZ := Lib.hid (show Boxed10 w3 y2 vl vw vg vl' vw' vg' R (wc12).heap.size (w3.drew).heap.size from ⟨hB1.upd hU2 (Ne.symm hg89), hB2, hly, hav2, hg8, hg9, Ne.symm hg89⟩)
        clear hK hB1 hU1 hz1 hB2 hU2 hz2 hly hy1 hcw hvo hav2
        refine wpAnyT_take (i := 19) (v := ?_) rfl (by kernel_rfl) (by kernel_rfl) (by kernel_rfl) (by kernel_rfl) (fun _ _ _ h => h) (takes_yield rfl (Or.inl ⟨by rfl, ?_⟩)) (by assumption) (by kernel_rfl) ?_
        rotate_left 1
        · intro w' hSw; go_split_ands; first | (go_simp; done) | (go_simp; rfl) | rfl
        simp only [Act.put, List.getElem_toArray, List.getElem_cons_zero, List.getElem_cons_succ, List.setIfInBounds_toArray, List.set_cons_zero, List.set_cons_succ]
        refine wpAnyT_done (by kernel_rfl) ?_ _
        refine NoPanic.normal ?_
        go_wp2_with fail
        go_meet
        exact ⟨_, _, vl', vw', vg', rfl, rfl, rfl, HZ.out⟩
      · skip
        go_simp
        have hs14 := And.intro (hs11.1.alloc (.cells zeroLg 39)) (hs11.2.alloc (.cells zeroLg 39))
        have hu14 := hu11.alloc (.cells zeroLg 39)
        refine hK.out _ _ hs14 ?_
        have b9_14 := b9_11.alloc (.cells zeroLg 39)
        have e8_14 : (w3.drew.alloc (.cells zeroRd 33)).heap.size = w3.heap.size + 1 := by simp
        have b8_14 := Blk.new (w3.drew.alloc (.cells zeroRd 33)) 39 zeroLg
        have n8_14 := hu11.size
        rw [e8_14] at b8_14 n8_14
        clear e8_14
        clear hK
        refine wpAnyT_one (i := 10) (by kernel_rfl) rfl (fun K hK => ?_)
        go_simp
        refine (hrp.out _ hu14).mono ?_
        rintro e wc15 ⟨vl', vw', vg', rfl, hl15, hav0⟩
        have hav := hav0.pre hu14
        clear hav0
        have hs15 := And.intro (hs14.1.upd hl15.upd (fun e => e)) (hs14.2.upd hl15.upd (fun e => e))
        have hu15 := hu14.then hl15.upd (fun _ e => e.elim)
        refine hK.out _ _ hs15 ?_
        have b9_15 := b9_14.upd hl15.upd (fun e => e)
        have b8_15 := b8_14.upd hl15.upd (fun e => e)
        have hl15b := hl15.pre hu14
        clear hK
        refine wpAnyT_take (i := 11) (v := ?_) rfl (by kernel_rfl) (by kernel_rfl) (by kernel_rfl) (by kernel_rfl) (fun _ _ _ h => h) (takes_yield rfl (Or.inl ⟨by rfl, ?_⟩)) (by assumption) (by kernel_rfl) ?_
        rotate_left 1
        · intro w' hSw; go_split_ands; first | (go_simp; done) | (go_simp; rfl) | rfl
        simp only [Act.put, List.getElem_toArray, List.getElem_cons_zero, List.getElem_cons_succ, List.setIfInBounds_toArray, List.set_cons_zero, List.set_cons_succ]
        refine wpAnyT_take (i := 12) (v := ?_) rfl (by kernel_rfl) (by kernel_rfl) (by kernel_rfl) (by kernel_rfl) (fun _ _ _ h => h) (takes_yield rfl (Or.inl ⟨by rfl, ?_⟩)) (by assumption) (by kernel_rfl) ?_
        rotate_left 1
        · intro w' hSw; go_split_ands; first | (go_simp; done) | (go_simp; rfl) | rfl
        simp only [Act.put, List.getElem_toArray, List.getElem_cons_zero, List.getElem_cons_succ, List.setIfInBounds_toArray, List.set_cons_zero, List.set_cons_succ]
        refine wpAnyT_take (i := 13) (v := ?_) rfl (by kernel_rfl) (by kernel_rfl) (by kernel_rfl) (by kernel_rfl) (fun _ _ _ h => h) (takes_yield rfl (Or.inl ⟨by rfl, ?_⟩)) (by assumption) (by kernel_rfl) ?_
        rotate_left 1
        · intro w' hSw; go_split_ands; first | (go_simp; done) | (go_simp; rfl) | rfl
        simp only [Act.put, List.getElem_toArray, List.getElem_cons_zero, List.getElem_cons_succ, List.setIfInBounds_toArray, List.set_cons_zero, List.set_cons_succ]
        refine wpAnyT_take (i := 14) (v := ?_) rfl (by kernel_rfl) (by kernel_rfl) (by kernel_rfl) (by kernel_rfl) (fun _ _ _ h => h) (takes_yield rfl (Or.inl ⟨by rfl, ?_⟩)) (by assumption) (by kernel_rfl) ?_
        rotate_left 1
        · intro w' hSw; go_split_ands; first | (go_simp; done) | (go_simp; rfl) | rfl
        simp only [Act.put, List.getElem_toArray, List.getElem_cons_zero, List.getElem_cons_succ, List.setIfInBounds_toArray, List.set_cons_zero, List.set_cons_succ]
        refine wpAnyT_one (i := 17) (by kernel_rfl) rfl (fun K hK => ?_)
        refine step_store_all (by rfl) 39 _ _ (by rfl) (w3.heap.size + 1) (R.2.1.rowR vg') (by rfl) (by rfl) _ _ b8_15 rfl (Lg.rowR_one _ _ hav.own.one) (by kernel_rfl) ?_
        intro y1 hB1 hU1 hz1
        have hg8 : w3.heap.size ≤ (w3.heap.size + 1) := n8_14
        have hg9 : w3.heap.size ≤ (w3.drew).heap.size := n9_11
        have hg89 : (w3.drew).heap.size ≠ (w3.heap.size + 1) := b9_15.ne_ b8_15 (by decide)
        have hy1 := And.intro (hs15.1.upd hU1 (fun e => hs15.1.ne_ b8_15 (by decide) e)) (hs15.2.upd hU1 (fun e => hs15.2.ne_ b8_15 (by decide) e))
        refine hK.out _ _ hy1 ?_
        clear hK
        refine wpAnyT_one (i := 18) (by kernel_rfl) rfl (fun K hK => ?_)
        refine step_store_all (by rfl) 33 _ _ (by rfl) (w3.drew).heap.size #[vl', vw', .int .i64 R.1.fuse, .bool R.1.off] (by rfl) (by rfl) _ _ (b9_15.upd hU1 hg89) rfl (rdrow_one R.1 hl15b.at_) (by kernel_rfl) ?_
        intro y2 hB2 hU2 hz2
        have hy2 := And.intro (hy1.1.upd hU2 (fun e => hs15.1.ne_ b9_15 (by decide) e)) (hy1.2.upd hU2 (fun e => hs15.2.ne_ b9_15 (by decide) e))
        refine hK.out _ _ hy2 ?_
        have hly := (hl15b.store hU1 (fun q hq e => hl15b.at_.ne b8_15 (by decide) (by decide) (e ▸ hq)) hg8).store hU2 (fun q hq e => hl15b.at_.ne b9_15 (by decide) (by decide) (e ▸ hq)) hg9
        have hcw : Upd (fun _ => False) wc15 (wc15) := by first | exact Upd.refl _ _ | exact (Upd.refl _ _).alloc _ | exact ((Upd.refl _ _).alloc _).alloc _
        have hvo := hav.own.upd hcw (fun _ _ e => e)
        have hav2 : AddV w3 y2 vg vg' R.2.1.l := ⟨(hvo.upd hU1 (fun q hq e => hvo.ne_blk b8_15 (by decide) (e ▸ hq))).upd hU2 (fun q hq e => hvo.ne_blk b9_15 (by decide) (e ▸ hq)), hav.new⟩
        have HZ := Lib.hid (show Boxed10 w3 y2 vl vw vg vl' vw' vg' R (w3.heap.size + 1) (w3.drew).heap.size from ⟨hB1.upd hU2 (Ne.symm hg89), hB2, hly, hav2, hg8, hg9, Ne.symm hg89⟩)
        clear hK hB1 hU1 hz1 hB2 hU2 hz2 hly hy1 hcw hvo hav2
        refine wpAnyT_take (i := 19) (v := ?_) rfl (by kernel_rfl) (by kernel_rfl) (by kernel_rfl) (by kernel_rfl) (fun _ _ _ h => h) (takes_yield rfl (Or.inl ⟨by rfl, ?_⟩)) (by assumption) (by kernel_rfl) ?_
        rotate_left 1
        · intro w' hSw; go_split_ands; first | (go_simp; done) | (go_simp; rfl) | rfl
        simp only [Act.put, List.getElem_toArray, List.getElem_cons_zero, List.getElem_cons_succ, List.setIfInBounds_toArray, List.set_cons_zero, List.set_cons_succ]
        refine wpAnyT_done (by kernel_rfl) ?_ _
        refine NoPanic.normal ?_
        go_wp2_with fail
        go_meet
        exact ⟨_, _, vl', vw', vg', rfl, rfl, rfl, HZ.out⟩
  case rest =>
    obtain ⟨g8, g9, vl', vw', vg', rfl, rfl, rfl, hBo⟩ := hcut
    have HBo := Lib.hid hBo
    clear hBo
    obtain ⟨hq1, hq2, hq3, hq4⟩ := HQ.out
    have hRQ1 : R.2.1 = Q.2.1 := by rw [hq2]
    have hRQ2 : R.2.2 = Q.2.2 := by rw [hq2]
    rename World => wx
    have hbx := H4.out.1.1.upd HBo.out.left.upd (fun e => e)
    have hw0 := H4.out.2.1.upd.size
    have hsdx : Side10 w0 wx vl' vw' Q.1 R.1 vg' R.2.1.l := ⟨fun q hq => by
      rcases hq with hq | hq
      · rcases HBo.out.left.loc q hq with e | e
        · exact H4.out.2.2.1.low q (.inl e)
        · exact Nat.le_trans hw0 e
      · rcases HBo.out.recs.new q hq with e | e
        · exact H4.out.2.2.1.low q (.inr e)
        · exact Nat.le_trans hw0 e, HBo.out.left.at_, hq1, HBo.out.recs.own⟩
    have hLg : LgS w0 wx p b Q.1 R.2.1 (RgX vl' vw' vg') := by
      rw [hRQ1]
      refine H4.out.2.1.turn (Z := fun _ => False) (fun _ e => e.elim) (fun _ e => e.elim) HBo.out.left.upd (fun q hq => ?_)
      rcases hq with hq | hq
      · rcases HBo.out.left.loc q hq with e | e
        · exact .inl (.inl e)
        · exact .inr ⟨e, hq.elim (fun c => HBo.out.left.at_.lasts.lt c) (fun c => HBo.out.left.at_.ws.lt c)⟩
      · rcases HBo.out.recs.new q hq with e | e
        · exact .inl (.inr e)
        · exact .inr ⟨e, HBo.out.recs.own.lt hq⟩
    have hfit : R.2.1.fits := by rw [hRQ1]; exact hq4
    have heq : Hid (R.2.2 = Q.2.2) := hRQ2
    have hrone := Lib.hid (Lg.rowR_one R.2.1 vg' HBo.out.recs.own.one)
    have HX := Lib.hid (And.intro hbx (And.intro hsdx (And.intro hLg (And.intro hfit hq3))))
    have HL := Lib.hid H4.out.2.2.2
    obtain ⟨R1, K1, E1⟩ := R
    obtain ⟨Q1, Q2, E2⟩ := Q
    simp only at heq HX HBo hrone ⊢
    obtain rfl : E1 = E2 := heq.out
    clear hq1 hq2 hq3 hq4 hRQ1 hRQ2 hbx hsdx hLg hfit heq hrp HQ H4 hput hHr hw0
    go_upto_region 7 with fail
    refine wp_region_noPanic ?_
    refine wp_region_T (S := fun w' => Blk w' g8 39 (K1.rowR vg') ∧ Blk w' g9 33 #[vl', vw', .int .i64 R1.fuse, .bool R1.off]) (T := fun _ => false) (by kernel_rfl) ?_
    have hS0 := And.intro HBo.out.b8.drew HBo.out.b9.drew
    refine wpAnyT_take (i := 0) (v := ?_) rfl (by kernel_rfl) (by kernel_rfl) (by kernel_rfl) (by kernel_rfl) (fun _ _ _ h => h) (takes_yield rfl (Or.inl ⟨by rfl, ?_⟩)) (by assumption) (by kernel_rfl) ?_
    rotate_left 1
    · intro w' hSw; have hcw := hSw.1.cells8; have hca := hSw.2.cells4; go_split_ands; first | (go_simp; done) | (go_simp; rfl) | rfl
    simp only [Act.put, List.getElem_toArray, List.getElem_cons_zero, List.setIfInBounds_toArray, List.set_cons_zero, List.set_cons_succ]
    refine wpAnyT_take (i := 1) (v := ?_) rfl (by kernel_rfl) (by kernel_rfl) (by kernel_rfl) (by kernel_rfl) (fun _ _ _ h => h) (takes_yield rfl (Or.inl ⟨by rfl, ?_⟩)) (by assumption) (by kernel_rfl) ?_
    rotate_left 1
    · intro w' hSw; have hcw := hSw.1.cells8; have hca := hSw.2.cells4; go_split_ands; first | (go_simp; done) | (go_simp; rfl) | rfl
    simp only [Act.put, List.getElem_toArray, List.getElem_cons_zero, List.getElem_cons_succ, List.setIfInBounds_toArray, List.set_cons_zero, List.set_cons_succ]
    refine wpAnyT_take (i := 2) (v := ?_) rfl (by kernel_rfl) (by kernel_rfl) (by kernel_rfl) (by kernel_rfl) (fun _ _ _ h => h) (takes_yield rfl (Or.inl ⟨by rfl, ?_⟩)) (by assumption) (by kernel_rfl) ?_
    rotate_left 1
    · intro w' hSw; have hcw := hSw.1.cells8; have hca := hSw.2.cells4; go_split_ands; first | (go_simp; done) | (go_simp; rfl) | rfl
    simp only [Act.put, List.getElem_toArray, List.getElem_cons_zero, List.getElem_cons_succ, List.setIfInBounds_toArray, List.set_cons_zero, List.set_cons_succ]
    refine wpAnyT_take (i := 3) (v := ?_) rfl (by kernel_rfl) (by kernel_rfl) (by kernel_rfl) (by kernel_rfl) (fun _ _ _ h => h) (takes_yield rfl (Or.inl ⟨by rfl, ?_⟩)) (by assumption) (by kernel_rfl) ?_
    rotate_left 1
    · intro w' hSw; have hcw := hSw.1.cells8; have hca := hSw.2.cells4; go_split_ands; first | (go_simp; done) | (go_simp; rfl) | rfl
    simp only [Act.put, List.getElem_toArray, List.getElem_cons_zero, List.getElem_cons_succ, List.setIfInBounds_toArray, List.set_cons_zero, List.set_cons_succ]
    refine wpAnyT_take (i := 4) (v := ?_) rfl (by kernel_rfl) (by kernel_rfl) (by kernel_rfl) (by kernel_rfl) (fun _ _ _ h => h) (takes_yield rfl (Or.inl ⟨by rfl, ?_⟩)) (by assumption) (by kernel_rfl) ?_
    rotate_left 1
    · intro w' hSw; have hcw := hSw.1.cells8; have hca := hSw.2.cells4; go_split_ands; first | (go_simp; done) | (go_simp; rfl) | rfl
    simp only [Act.put, List.getElem_toArray, List.getElem_cons_zero, List.getElem_cons_succ, List.setIfInBounds_toArray, List.set_cons_zero, List.set_cons_succ]
    refine wpAnyT_take (i := 5) (v := ?_) rfl (by kernel_rfl) (by kernel_rfl) (by kernel_rfl) (by kernel_rfl) (fun _ _ _ h => h) (takes_yield rfl (Or.inl ⟨by rfl, ?_⟩)) (by assumption) (by kernel_rfl) ?_
    rotate_left 1
    · intro w' hSw; have hcw := hSw.1.cells8; have hca := hSw.2.cells4; go_split_ands; first | (go_simp; done) | (go_simp; rfl) | rfl
    simp only [Act.put, List.getElem_toArray, List.getElem_cons_zero, List.getElem_cons_succ, List.setIfInBounds_toArray, List.set_cons_zero, List.set_cons_succ]
    refine wpAnyT_one (i := 6) (by kernel_rfl) rfl (fun K hK => ?_)
    refine step_store_part (by rfl) 39 _ _ (by rfl) x 6 (K1.rowR vg') (by rfl) (by rfl) _ _ (row10 p (.pointer (some ⟨b, 0, none⟩)) vl vw r K1 vg' f se ep 0) HX.out.1.drew (by simp) rfl hrone.out (by kernel_rfl) ?_
    intro y1 hB1 hU1 hz1
    have hS1 := And.intro (hS0.1.upd hU1 (fun e => HX.out.1.drew.ne_ hS0.1 (by decide) e.symm)) (hS0.2.upd hU1 (fun e => HX.out.1.drew.ne_ hS0.2 (by decide) e.symm))
    refine hK.out _ _ hS1 ?_
    clear hK
    refine wpAnyT_take (i := 7) (v := ?_) rfl (by kernel_rfl) (by kernel_rfl) (by kernel_rfl) (by kernel_rfl) (fun _ _ _ h => h) (takes_yield rfl (Or.inl ⟨by rfl, ?_⟩)) (by assumption) (by kernel_rfl) ?_
    rotate_left 1
    · intro w' hSw; go_split_ands; first | (go_simp; done) | (go_simp; rfl) | rfl
    simp only [Act.put, List.getElem_toArray, List.getElem_cons_zero, List.getElem_cons_succ, List.setIfInBounds_toArray, List.set_cons_zero, List.set_cons_succ]
    refine wpAnyT_take (i := 8) (v := ?_) rfl (by kernel_rfl) (by kernel_rfl) (by kernel_rfl) (by kernel_rfl) (fun _ _ _ h => h) (takes_yield rfl (Or.inl ⟨by rfl, ?_⟩)) (by assumption) (by kernel_rfl) ?_
    rotate_left 1
    · intro w' hSw; go_split_ands; first | (go_simp; done) | (go_simp; rfl) | rfl
    simp only [Act.put, List.getElem_toArray, List.getElem_cons_zero, List.getElem_cons_succ, List.setIfInBounds_toArray, List.set_cons_zero, List.set_cons_succ]
    refine wpAnyT_one (i := 9) (by kernel_rfl) rfl (fun K hK => ?_)
    refine step_store_part (by rfl) 33 _ _ (by rfl) x 2 #[vl', vw', .int .i64 R1.fuse, .bool R1.off] (by rfl) (by rfl) _ _ (row10 p (.pointer (some ⟨b, 0, none⟩)) vl' vw' R1 K1 vg' f se ep 0) hB1 (by simp) rfl (rdrow_one R1 HX.out.2.1.rd) (by kernel_rfl) ?_
    intro y2 hB2 hU2 hz2
    have hS2 := And.intro (hS1.1.upd hU2 (fun e => HX.out.1.drew.ne_ hS0.1 (by decide) e.symm)) (hS1.2.upd hU2 (fun e => HX.out.1.drew.ne_ hS0.2 (by decide) e.symm))
    refine hK.out _ _ hS2 ?_
    have hUx : Upd (· = x) wx.drew y2 := hU1.then hU2 (fun _ e => .inl e)
    have hE : W10 w0 y2 x p Q1 vl' vw' R1 (.pointer (some ⟨b, 0, none⟩)) K1 vg' f se ep 0 :=
      ⟨(HX.out.2.1.still (Upd.refl _ wx).drew).off HX.out.1.drew (by decide) (by decide) hUx, hB2, HL.out, .inl ⟨rfl, HX.out.2.2.2.1, b, rfl, (HX.out.2.2.1.still (Upd.refl _ wx).drew).off HX.out.1.drew (by decide) (by decide) (by decide) HL.out hUx⟩⟩
    have HE := Lib.hid hE
    clear hK hS0 hS1 hS2 hB1 hU1 hz1 hB2 hU2 hz2 hUx hE
    refine wpAnyT_done (by kernel_rfl) ?_ _
    refine NoPanic.normal ?_
    go_wp2_with fail
    go_ret
    exact ⟨rfl, Q1, vl', vw', R1, _, K1, vg', ep, 0, HE.out, by have := HX.out.2.2.2.2.1; omega, HX.out.2.2.2.2.2, hep⟩
end
end Go.Proofs.YtpfbgmfkeofefaaGreat

/-
  A law's world of chapter 10: the other acts. (Printed by mk_law10.py.)
-/
namespace Go.Proofs.YtpfbgmfkeofefaaGreat
open Go Go.RowKit

/-- The sector that is spoilt. -/
def spoilJ (f se n : Int) : Int := if 0 ≤ n ∧ n < 100 then f + n % se else n
/-- What the document's Spoil leaves in a box. -/
structure Spoilt10 (wa wx : World) (vl vw vl' : Value) (r2 : Rd) (g2 : Nat) : Prop where
  blk : Blk wx g2 33 #[vl', vw, .int .i64 r2.fuse, .bool r2.off]
  left : RdLeft wa wx vl vw vl' vw r2
section
variable {w0 w w' : World} {x p : Nat} {d : Dk} {vl vw kv vg : Value} {r : Rd} {V : Lg} {f se : Int} {ep : Nat} {n : Int}
/-- The document's disk is turned. -/
theorem Side10.ref {L : List ByteArray} {d2 : Dk} {r2 : Rd} {vl' vw' : Value} (h : Side10 w0 w vl vw d r vg L) (h0 : w0.heap.size ≤ w.heap.size) (hL : RdLeft w w' vl vw vl' vw' r2) (hI : RdIs d2 r2) : Side10 w0 w' vl' vw' d2 r2 vg L :=
  ⟨fun q hq => hq.elim (fun e => (hL.loc q e).elim (fun c => h.low q (.inl c)) (fun c => Nat.le_trans h0 c)) (fun e => h.low q (.inr e)), hL.at_, hI, h.recs.upd hL.upd (fun _ _ e => e)⟩
theorem DksX.refG {Ls : List (Nat × Dk)} {r2 : Rd} {vl' vw' : Value} (h : DksX w0 w Ls (RgX vl vw vg)) (hL : RdLeft w w' vl vw vl' vw' r2) (_hv : ∀ q, vg.ownBlock = some q → q < w.heap.size) : DksX w0 w' Ls (RgX vl' vw' vg) :=
  h.turn (hL.upd.mono fun _ e => e.elim) fun q hq => hq.elim (fun e => (hL.loc q e).elim (fun c => .inl (.inl c)) (fun c => .inr ⟨c, e.elim (fun e => hL.at_.lasts.lt e) (fun e => hL.at_.ws.lt e)⟩)) (fun e => .inl (.inr e))
theorem Side10.kept {L : List ByteArray} (h : Side10 w0 w vl vw d r vg L) (hk : XKept (RgX vl vw vg) w w') : Side10 w0 w' vl vw d r vg L :=
  ⟨h.low, ⟨h.rd.lasts.eqb fun q hq => hk q (.inl (.inl hq)), h.rd.ws.eqb fun q hq => hk q (.inl (.inr hq))⟩, h.is, h.recs.eqb fun q hq => hk q (.inr hq)⟩
/-- The disk's fuse. -/
theorem fuse_10 {X : Nat → Prop} (hK : Keeps10 w0 w p d kv V vg n X) (m : Int) (hm : m ≤ 9223372036854775807) :
    Calls Tryz.prog 31 #[.pointer (some ⟨p, 0, none⟩), .int .i64 m] w fun e w' => e = .returned (.tuple #[]) ∧ Keeps10 w0 w' p (d.setFuse m) kv V vg n X ∧ BlkKept w w' ∧ XKept X w w' := by
  rcases hK with ⟨h1, h2, b, h3, h4⟩ | ⟨h1, h2, h3, h4, h5⟩
  · exact (fuse_lv h4 m hm).mono fun e w' ⟨k1, k2, k3⟩ => ⟨k1, .inl ⟨h1, h2, b, h3, k2.log⟩, k3, k2.keep⟩
  · exact (fuse_v h5 (i := 0) rfl m hm).mono fun e w' ⟨k1, k2, k3, k4⟩ => ⟨k1, .inr ⟨h1, h2, h3, h4, k2⟩, k3, k4⟩
set_option maxRecDepth 100000 in
set_option maxHeartbeats 3200000 in
theorem d10_fuse (hW : W10 w0 w x p d vl vw r kv V vg f se ep n) (t : ByteArray) (n_ a_ : Int) (x_ : ByteArray) (kp : Value) (hn_ : i64ok n_) (hep : ep < 18446744073709551616) :
    Calls Tryz.prog 14 #[.pointer (some ⟨x, 0, none⟩), .agg (act9 1 t n_ a_ x_ kp)] w fun e w' => e = .returned (.bool true) ∧ Done10 w0 x p d f se w' := by
  have hwf := hW.wf
  obtain ⟨w3, hw3⟩ : ∃ w3, w.alloc (.cells (act9 1 t n_ a_ x_ kp) 46) = w3 := ⟨_, rfl⟩
  have hU3 : Upd (fun _ => False) w w3 := by rw [← hw3]; exact (Upd.refl _ w).alloc _
  have hB3 : Blk w3 w.heap.size 46 (act9 1 t n_ a_ x_ kp) := by rw [← hw3]; exact Blk.new w _ _
  have H3 := Lib.hid (And.intro (hW.still hU3) hB3)
  have Hw := Lib.hid hw3
  have hc := hB3.cells6
  have hcx := H3.out.1.blk.cells18
  have hF0 : ∀ W, Upd (fun _ => False) w3 W → Calls Tryz.prog 31 #[.pointer (some ⟨p, 0, none⟩), .int .i64 n_] W fun e w' => e = .returned (.tuple #[]) ∧ Keeps10 w0 w' p (d.setFuse n_) kv V vg n (RgX vl vw vg) ∧ BlkKept W w' ∧ XKept (RgX vl vw vg) W w' := fun W hu =>
    fuse_10 ((hW.kept.still hU3).still hu) n_ hn_.2
  have hF := Lib.hid hF0
  have HI := Lib.hid (hW.side.is.setFuse n_)
  clear hU3 hB3 hw3 hW hwf hF0 hn_
  go_enter Tryz.func14, Tryz.ntmps14
  go_upto_region 1 with fail
  rw [Hw.out]
  clear Hw
  go_upto_region 10 with fail
  refine wp_region_noPanic ?_
  refine wp_region_T (S := fun w' => Blk w' x 41 (row10 p kv vl vw r V vg f se ep n) ∧ Blk w' w.heap.size 46 (act9 1 t n_ a_ x_ kp)) (T := fun _ => false) (by kernel_rfl) ?_
  have hS0 := And.intro H3.out.1.blk.drew H3.out.2.drew
  refine wpAnyT_take (i := 0) (v := ?_) rfl (by kernel_rfl) (by kernel_rfl) (by kernel_rfl) (by kernel_rfl) (fun _ _ _ h => h) (takes_yield rfl (Or.inl ⟨by rfl, ?_⟩)) (by assumption) (by kernel_rfl) ?_
  rotate_left 1
  · intro w' hSw; have hcw := hSw.1.cells18; have hca := hSw.2.cells6; go_split_ands; first | (go_simp; done) | (go_simp; rfl) | rfl
  simp only [Act.put, List.getElem_toArray, List.getElem_cons_zero, List.setIfInBounds_toArray, List.set_cons_zero, List.set_cons_succ]
  refine wpAnyT_take (i := 1) (v := ?_) rfl (by kernel_rfl) (by kernel_rfl) (by kernel_rfl) (by kernel_rfl) (fun _ _ _ h => h) (takes_yield rfl (Or.inl ⟨by rfl, ?_⟩)) (by assumption) (by kernel_rfl) ?_
  rotate_left 1
  · intro w' hSw; have hcw := hSw.1.cells18; have hca := hSw.2.cells6; go_split_ands; first | (go_simp; done) | (go_simp; rfl) | rfl
  simp only [Act.put, List.getElem_toArray, List.getElem_cons_zero, List.getElem_cons_succ, List.setIfInBounds_toArray, List.set_cons_zero, List.set_cons_succ]
  refine wpAnyT_take (i := 2) (v := ?_) rfl (by kernel_rfl) (by kernel_rfl) (by kernel_rfl) (by kernel_rfl) (fun _ _ _ h => h) (takes_yield rfl (Or.inl ⟨by rfl, ?_⟩)) (by assumption) (by kernel_rfl) ?_
  rotate_left 1
  · intro w' hSw; have hcw := hSw.1.cells18; have hca := hSw.2.cells6; go_split_ands; first | (go_simp; done) | (go_simp; rfl) | rfl
  simp only [Act.put, List.getElem_toArray, List.getElem_cons_zero, List.getElem_cons_succ, List.setIfInBounds_toArray, List.set_cons_zero, List.set_cons_succ]
  refine wpAnyT_take (i := 3) (v := ?_) rfl (by kernel_rfl) (by kernel_rfl) (by kernel_rfl) (by kernel_rfl) (fun _ _ _ h => h) (takes_yield rfl (Or.inl ⟨by rfl, ?_⟩)) (by assumption) (by kernel_rfl) ?_
  rotate_left 1
  · intro w' hSw; have hcw := hSw.1.cells18; have hca := hSw.2.cells6; go_split_ands; first | (go_simp; done) | (go_simp; rfl) | rfl
  simp only [Act.put, List.getElem_toArray, List.getElem_cons_zero, List.getElem_cons_succ, List.setIfInBounds_toArray, List.set_cons_zero, List.set_cons_succ]
  refine wpAnyT_take (i := 4) (v := ?_) rfl (by kernel_rfl) (by kernel_rfl) (by kernel_rfl) (by kernel_rfl) (fun _ _ _ h => h) (takes_yield rfl (Or.inl ⟨by rfl, ?_⟩)) (by assumption) (by kernel_rfl) ?_
  rotate_left 1
  · intro w' hSw; have hcw := hSw.1.cells18; have hca := hSw.2.cells6; go_split_ands; first | (go_simp; done) | (go_simp; rfl) | rfl
  simp only [Act.put, List.getElem_toArray, List.getElem_cons_zero, List.getElem_cons_succ, List.setIfInBounds_toArray, List.set_cons_zero, List.set_cons_succ]
  refine wpAnyT_take (i := 5) (v := ?_) rfl (by kernel_rfl) (by kernel_rfl) (by kernel_rfl) (by kernel_rfl) (fun _ _ _ h => h) (takes_yield rfl (Or.inl ⟨by rfl, ?_⟩)) (by assumption) (by kernel_rfl) ?_
  rotate_left 1
  · intro w' hSw; have hcw := hSw.1.cells18; have hca := hSw.2.cells6; go_split_ands; first | (go_simp; done) | (go_simp; rfl) | rfl
  simp only [Act.put, List.getElem_toArray, List.getElem_cons_zero, List.getElem_cons_succ, List.setIfInBounds_toArray, List.set_cons_zero, List.set_cons_succ]
  refine wpAnyT_one (i := 6) (by kernel_rfl) rfl (fun K hK => ?_)
  go_simp
  refine (hF.out _ (Upd.refl _ _).drew).mono ?_
  rintro e w4 ⟨rfl, hKp, hBk, hXk⟩
  have hS4 := And.intro (hBk _ _ _ hS0.1 (by decide) (by decide)) (hBk _ _ _ hS0.2 (by decide) (by decide))
  refine hK.out _ _ hS4 ?_
  have hsd4 := (H3.out.1.side.still (Upd.refl _ w3).drew).kept hXk
  have H4 := Lib.hid (And.intro hS4 (And.intro hKp (And.intro hsd4 H3.out.1.low)))
  clear hK hS0 hKp hBk hXk hsd4 hc hcx
  refine wpAnyT_done (by kernel_rfl) ?_ _
  refine NoPanic.normal ?_
  have hc4 := H4.out.1.1.cells18
  have hca4 := H4.out.1.2.cells6
  have hf4 := H4.out.1.1.frozen 4
  clear hS4 H3
  have hUx : Upd (· = x) w4 (w4.setCell ⟨x, 4, none⟩ (.int .i64 (max n_ (-1)))) := (Upd.refl (· = x) w4).setCell (p := ⟨x, 4, none⟩) (.inl rfl) _
  have hset : Blk (w4.setCell ⟨x, 4, none⟩ (.int .i64 (max n_ (-1)))) x 41 (row10 p kv vl vw (r.setFuse n_) V vg f se ep n) := H4.out.1.1.set_ 4 (.int .i64 (max n_ (-1)))
  have hsd5 := H4.out.2.2.1.off H4.out.1.1 (by decide) (by decide) hUx
  have hE : W10 w0 (w4.setCell ⟨x, 4, none⟩ (.int .i64 (max n_ (-1)))) x p (d.setFuse n_) vl vw (r.setFuse n_) kv V vg f se ep n :=
    ⟨⟨hsd5.low, ⟨hsd5.rd.lasts, hsd5.rd.ws⟩, HI.out, hsd5.recs⟩, hset, H4.out.2.2.2, H4.out.2.1.off H4.out.1.1 (by decide) (by decide) (by decide) H4.out.2.2.2 hUx⟩
  have HE := Lib.hid hE
  clear hset hUx hsd5 hE
  go_wp2_with fail
  go_ret
  exact ⟨rfl, d.setFuse n_, vl, vw, r.setFuse n_, kv, V, vg, ep, n, HE.out, by rw [setFuse_pend]; omega, rfl, hep⟩
set_option maxRecDepth 100000 in
set_option maxHeartbeats 3200000 in
theorem d10_crash (hW : W10 w0 w x p d vl vw r kv V vg f se ep n) (t : ByteArray) (n_ a_ : Int) (x_ : ByteArray) (kp : Value) (ks : List Int) (hA : IsInts w0 kp ks) (hm : d.lasts.length ≤ 60) (hep : ep < 18446744073709551616) :
    Calls Tryz.prog 14 #[.pointer (some ⟨x, 0, none⟩), .agg (act9 2 t n_ a_ x_ kp)] w fun e w' => e = .returned (.bool true) ∧ Done10 w0 x p d f se w' := by
  have hwf := hW.wf
  obtain ⟨w3, hw3⟩ : ∃ w3, w.alloc (.cells (act9 2 t n_ a_ x_ kp) 46) = w3 := ⟨_, rfl⟩
  have hU3 : Upd (fun _ => False) w w3 := by rw [← hw3]; exact (Upd.refl _ w).alloc _
  have hB3 : Blk w3 w.heap.size 46 (act9 2 t n_ a_ x_ kp) := by rw [← hw3]; exact Blk.new w _ _
  have H3 := Lib.hid (And.intro (hW.still hU3) hB3)
  have Hw := Lib.hid hw3
  have hc := hB3.cells6
  have hcx := H3.out.1.blk.cells18
  have hF0 : ∀ W, Upd (fun _ => False) w3 W → Calls Tryz.prog 32 #[.pointer (some ⟨p, 0, none⟩), kp] W fun e w' => e = .returned (.tuple #[]) ∧ DksX w0 w' [(p, d.crash ks)] (RgX vl vw vg) ∧ BlkKept W w' ∧ XKept (RgX vl vw vg) W w' := fun W hu =>
    crash_v ((hW.disks.still hU3).still hu) (i := 0) rfl hA
  have hF := Lib.hid hF0
  have HI := Lib.hid (hW.side.is.crash hwf ks)
  have HA := Lib.hid (And.intro hA.1 hA)
  have Hpe : Hid ((d.crash ks).pend ≤ d.pend + 40 ∧ (d.crash ks).lasts.length = d.lasts.length) := ⟨by rw [Dk.crash_pend hwf]; omega, Dk.crash_len' d ks⟩
  have Hfi := Lib.hid (hW.side.is.fits hwf)
  clear hU3 hB3 hw3 hW hwf hF0 hA
  go_enter Tryz.func14, Tryz.ntmps14
  go_upto_region 1 with fail
  rw [Hw.out]
  clear Hw
  go_upto_region 14 with fail
  refine wp_region_noPanic ?_
  refine wp_region_T (S := fun w' => Blk w' x 41 (row10 p kv vl vw r V vg f se ep n) ∧ Blk w' w.heap.size 46 (act9 2 t n_ a_ x_ kp)) (T := fun _ => false) (by kernel_rfl) ?_
  have hS0 := And.intro H3.out.1.blk.drew H3.out.2.drew
  refine wpAnyT_take (i := 0) (v := ?_) rfl (by kernel_rfl) (by kernel_rfl) (by kernel_rfl) (by kernel_rfl) (fun _ _ _ h => h) (takes_yield rfl (Or.inl ⟨by rfl, ?_⟩)) (by assumption) (by kernel_rfl) ?_
  rotate_left 1
  · intro w' hSw; have hcw := hSw.1.cells18; have hca := hSw.2.cells6; go_split_ands; first | (go_simp; done) | (go_simp; rfl) | rfl
  simp only [Act.put, List.getElem_toArray, List.getElem_cons_zero, List.setIfInBounds_toArray, List.set_cons_zero, List.set_cons_succ]
  refine wpAnyT_take (i := 1) (v := ?_) rfl (by kernel_rfl) (by kernel_rfl) (by kernel_rfl) (by kernel_rfl) (fun _ _ _ h => h) (takes_yield rfl (Or.inl ⟨by rfl, ?_⟩)) (by assumption) (by kernel_rfl) ?_
  rotate_left 1
  · intro w' hSw; have hcw := hSw.1.cells18; have hca := hSw.2.cells6; go_split_ands; first | (go_simp; done) | (go_simp; rfl) | rfl
  simp only [Act.put, List.getElem_toArray, List.getElem_cons_zero, List.getElem_cons_succ, List.setIfInBounds_toArray, List.set_cons_zero, List.set_cons_succ]
  refine wpAnyT_take (i := 2) (v := ?_) rfl (by kernel_rfl) (by kernel_rfl) (by kernel_rfl) (by kernel_rfl) (fun _ _ _ h => h) (takes_yield rfl (Or.inl ⟨by rfl, ?_⟩)) (by assumption) (by kernel_rfl) ?_
  rotate_left 1
  · intro w' hSw; have hcw := hSw.1.cells18; have hca := hSw.2.cells6; go_split_ands; first | (go_simp; done) | (go_simp; rfl) | rfl
  simp only [Act.put, List.getElem_toArray, List.getElem_cons_zero, List.getElem_cons_succ, List.setIfInBounds_toArray, List.set_cons_zero, List.set_cons_succ]
  refine wpAnyT_take (i := 3) (v := ?_) rfl (by kernel_rfl) (by kernel_rfl) (by kernel_rfl) (by kernel_rfl) (fun _ _ _ h => h) (takes_yield rfl (Or.inl ⟨by rfl, ?_⟩)) (by assumption) (by kernel_rfl) ?_
  rotate_left 1
  · intro w' hSw; have hcw := hSw.1.cells18; have hca := hSw.2.cells6; go_split_ands; first | (go_simp; done) | (go_simp; rfl) | rfl
  simp only [Act.put, List.getElem_toArray, List.getElem_cons_zero, List.getElem_cons_succ, List.setIfInBounds_toArray, List.set_cons_zero, List.set_cons_succ]
  refine wpAnyT_take (i := 4) (v := ?_) rfl (by kernel_rfl) (by kernel_rfl) (by kernel_rfl) (by kernel_rfl) (fun _ _ _ h => h) (takes_yield rfl (Or.inl ⟨by rfl, ?_⟩)) (by assumption) (by kernel_rfl) ?_
  rotate_left 1
  · intro w' hSw; have hcw := hSw.1.cells18; have hca := hSw.2.cells6; go_split_ands; first | (go_simp; done) | (go_simp; rfl) | rfl
  simp only [Act.put, List.getElem_toArray, List.getElem_cons_zero, List.getElem_cons_succ, List.setIfInBounds_toArray, List.set_cons_zero, List.set_cons_succ]
  refine wpAnyT_take (i := 5) (v := ?_) rfl (by kernel_rfl) (by kernel_rfl) (by kernel_rfl) (by kernel_rfl) (fun _ _ _ h => h) (takes_yield rfl (Or.inl ⟨by rfl, ?_⟩)) (by assumption) (by kernel_rfl) ?_
  rotate_left 1
  · intro w' hSw; have hcw := hSw.1.cells18; have hca := hSw.2.cells6; go_split_ands; first | (go_simp; done) | (go_simp; rfl) | rfl
  simp only [Act.put, List.getElem_toArray, List.getElem_cons_zero, List.getElem_cons_succ, List.setIfInBounds_toArray, List.set_cons_zero, List.set_cons_succ]
  refine wpAnyT_one (i := 6) (by kernel_rfl) rfl (fun K hK => ?_)
  go_simp
  refine (hF.out _ (Upd.refl _ _).drew).mono ?_
  rintro e w4 ⟨rfl, hDx, hBk, hXk⟩
  have hS4 := And.intro (hBk _ _ _ hS0.1 (by decide) (by decide)) (hBk _ _ _ hS0.2 (by decide) (by decide))
  refine hK.out _ _ hS4 ?_
  have hsd4 := (H3.out.1.side.still (Upd.refl _ w3).drew).kept hXk
  have H4 := Lib.hid (And.intro hS4 (And.intro hDx (And.intro hsd4 H3.out.1.low)))
  clear hK hS0 hDx hBk hXk hsd4 hc hcx
  refine wpAnyT_done (by kernel_rfl) ?_ _
  refine NoPanic.normal ?_
  have hc4 := H4.out.1.1.cells18
  have hca4 := H4.out.1.2.cells6
  have hrc : Hid (∀ W, Upd (fun _ => False) w4 W → Calls Tryz.prog 45 #[.agg #[vl, vw, .int .i64 r.fuse, .bool r.off], kp] W fun e w' => ∃ vl' vw', e = .returned (.agg #[vl', vw', .int .i64 (-1), .bool false]) ∧ RdLeft W w' vl vw vl' vw' (r.crash ks)) := Lib.hid fun W hu => by
    have hu0 : Upd (fun _ => False) w0 W := H4.out.2.1.upd.then hu (fun _ e => e.elim)
    exact rcrash_c (H4.out.2.2.1.rd.upd hu) Hfi.out ⟨HA.out.2.1.upd hu0, HA.out.2.2⟩
  clear hS4 H3
  go_upto_region 15 with fail
  refine wp_region_noPanic ?_
  refine wp_region_T (S := fun w' => Blk w' x 41 (row10 p kv vl vw r V vg f se ep n) ∧ Blk w' w.heap.size 46 (act9 2 t n_ a_ x_ kp)) (T := fun k => k == 10) (by kernel_rfl) ?_
  have hS0 := And.intro H4.out.1.1.drew H4.out.1.2.drew
  refine wpAnyT_take (i := 0) (v := ?_) rfl (by kernel_rfl) (by kernel_rfl) (by kernel_rfl) (by kernel_rfl) (fun _ _ _ h => h) (takes_yield rfl (Or.inl ⟨by rfl, ?_⟩)) (by assumption) (by kernel_rfl) ?_
  rotate_left 1
  · intro w' hSw; have hcw := hSw.1.cells18; have hca := hSw.2.cells6; go_split_ands; first | (go_simp; done) | (go_simp; rfl) | rfl
  simp only [Act.put, List.getElem_toArray, List.getElem_cons_zero, List.setIfInBounds_toArray, List.set_cons_zero, List.set_cons_succ]
  refine wpAnyT_take (i := 1) (v := ?_) rfl (by kernel_rfl) (by kernel_rfl) (by kernel_rfl) (by kernel_rfl) (fun _ _ _ h => h) (takes_yield rfl (Or.inl ⟨by rfl, ?_⟩)) (by assumption) (by kernel_rfl) ?_
  rotate_left 1
  · intro w' hSw; have hcw := hSw.1.cells18; have hca := hSw.2.cells6; go_split_ands; first | (go_simp; done) | (go_simp; rfl) | rfl
  simp only [Act.put, List.getElem_toArray, List.getElem_cons_zero, List.getElem_cons_succ, List.setIfInBounds_toArray, List.set_cons_zero, List.set_cons_succ]
  refine wpAnyT_take (i := 2) (v := ?_) rfl (by kernel_rfl) (by kernel_rfl) (by kernel_rfl) (by kernel_rfl) (fun _ _ _ h => h) (takes_yield rfl (Or.inl ⟨by rfl, ?_⟩)) (by assumption) (by kernel_rfl) ?_
  rotate_left 1
  · intro w' hSw; have hcw := hSw.1.cells18; have hca := hSw.2.cells6; go_split_ands; first | (go_simp; done) | (go_simp; rfl) | rfl
  simp only [Act.put, List.getElem_toArray, List.getElem_cons_zero, List.getElem_cons_succ, List.setIfInBounds_toArray, List.set_cons_zero, List.set_cons_succ]
  refine wpAnyT_take (i := 3) (v := ?_) rfl (by kernel_rfl) (by kernel_rfl) (by kernel_rfl) (by kernel_rfl) (fun _ _ _ h => h) (takes_yield rfl (Or.inl ⟨by rfl, ?_⟩)) (by assumption) (by kernel_rfl) ?_
  rotate_left 1
  · intro w' hSw; have hcw := hSw.1.cells18; have hca := hSw.2.cells6; go_split_ands; first | (go_simp; done) | (go_simp; rfl) | rfl
  simp only [Act.put, List.getElem_toArray, List.getElem_cons_zero, List.getElem_cons_succ, List.setIfInBounds_toArray, List.set_cons_zero, List.set_cons_succ]
  refine wpAnyT_take (i := 4) (v := ?_) rfl (by kernel_rfl) (by kernel_rfl) (by kernel_rfl) (by kernel_rfl) (fun _ _ _ h => h) (takes_yield rfl (Or.inl ⟨by rfl, ?_⟩)) (by assumption) (by kernel_rfl) ?_
  rotate_left 1
  · intro w' hSw; have hcw := hSw.1.cells18; have hca := hSw.2.cells6; go_split_ands; first | (go_simp; done) | (go_simp; rfl) | rfl
  simp only [Act.put, List.getElem_toArray, List.getElem_cons_zero, List.getElem_cons_succ, List.setIfInBounds_toArray, List.set_cons_zero, List.set_cons_succ]
  refine wpAnyT_take (i := 5) (v := ?_) rfl (by kernel_rfl) (by kernel_rfl) (by kernel_rfl) (by kernel_rfl) (fun _ _ _ h => h) (takes_yield rfl (Or.inl ⟨by rfl, ?_⟩)) (by assumption) (by kernel_rfl) ?_
  rotate_left 1
  · intro w' hSw; have hcw := hSw.1.cells18; have hca := hSw.2.cells6; go_split_ands; first | (go_simp; done) | (go_simp; rfl) | rfl
  simp only [Act.put, List.getElem_toArray, List.getElem_cons_zero, List.getElem_cons_succ, List.setIfInBounds_toArray, List.set_cons_zero, List.set_cons_succ]
  refine wpAnyT_take (i := 6) (v := ?_) rfl (by kernel_rfl) (by kernel_rfl) (by kernel_rfl) (by kernel_rfl) (fun _ _ _ h => h) (takes_yield rfl (Or.inl ⟨by rfl, ?_⟩)) (by assumption) (by kernel_rfl) ?_
  rotate_left 1
  · intro w' hSw; have hcw := hSw.1.cells18; have hca := hSw.2.cells6; go_split_ands; first | (go_simp; done) | (go_simp; rfl) | rfl
  simp only [Act.put, List.getElem_toArray, List.getElem_cons_zero, List.getElem_cons_succ, List.setIfInBounds_toArray, List.set_cons_zero, List.set_cons_succ]
  refine wpAnyT_one (i := 7) (by kernel_rfl) rfl (fun K hK => ?_)
  go_simp
  refine (hrc.out _ (Upd.refl _ _).drew).mono ?_
  rintro e w5 ⟨vl', vw', rfl, hL⟩
  have hS5 := And.intro (hS0.1.upd hL.upd (fun e => e)) (hS0.2.upd hL.upd (fun e => e))
  refine hK.out _ _ hS5 ?_
  have hLp := hL.pre (Upd.refl _ w4).drew
  have hsd5 := H4.out.2.2.1.ref H4.out.2.1.upd.size hLp HI.out
  have hDx5 := H4.out.2.1.refG hLp (fun q hq => H4.out.2.2.1.recs.lt hq)
  have H5 := Lib.hid (And.intro hS5 (And.intro hsd5 hDx5))
  clear hK hS0 hL hLp hsd5 hDx5 hc4 hca4
  refine wpAnyT_take (i := 8) (v := ?_) rfl (by kernel_rfl) (by kernel_rfl) (by kernel_rfl) (by kernel_rfl) (fun _ _ _ h => h) (takes_yield rfl (Or.inl ⟨by rfl, ?_⟩)) (by assumption) (by kernel_rfl) ?_
  rotate_left 1
  · intro w' hSw; go_split_ands; first | (go_simp; done) | (go_simp; rfl) | rfl
  simp only [Act.put, List.getElem_toArray, List.getElem_cons_zero, List.getElem_cons_succ, List.setIfInBounds_toArray, List.set_cons_zero, List.set_cons_succ]
  refine wpAnyT_take (i := 9) (v := ?_) rfl (by kernel_rfl) (by kernel_rfl) (by kernel_rfl) (by kernel_rfl) (fun _ _ _ h => h) (takes_yield rfl (Or.inl ⟨by rfl, ?_⟩)) (by assumption) (by kernel_rfl) ?_
  rotate_left 1
  · intro w' hSw; go_split_ands; first | (go_simp; done) | (go_simp; rfl) | rfl
  simp only [Act.put, List.getElem_toArray, List.getElem_cons_zero, List.getElem_cons_succ, List.setIfInBounds_toArray, List.set_cons_zero, List.set_cons_succ]
  refine wpAnyT_oneT (i := 10) (by kernel_rfl) rfl (by kernel_rfl) (fun K hK => ?_)
  refine step_store_part (by rfl) 33 _ _ (by rfl) x 2 #[vl', vw', .int .i64 (-1), .bool false] (by rfl) (by rfl) _ _ (row10 p kv vl' vw' (r.crash ks) V vg f se ep n) H5.out.1.1 (by simp) rfl (row_one _ _ H5.out.2.1.rd.lasts.one H5.out.2.1.rd.ws.one _ _) (by kernel_rfl) ?_
  intro w6 hB6 hU6 hz6
  refine hK.out _ _ ?_
  have hE : W10b w0 w6 x p (d.crash ks) vl' vw' (r.crash ks) kv V vg f se ep n :=
    ⟨H5.out.2.1.off H5.out.1.1 (by decide) (by decide) hU6, hB6, H4.out.2.2.2, H5.out.2.2.off H5.out.1.1 (by decide) (by decide) H4.out.2.2.2 hU6⟩
  have HO := Lib.hid (open_10b hE (by rw [Hpe.out.2]; exact hm) hep)
  clear hK hS5 hB6 hU6 hz6 hE
  refine wpAnyT_done (by kernel_rfl) ?_ _
  refine NoPanic.normal ?_
  go_wp2_with fail
  refine HO.out.mono ?_
  rintro e w7 ⟨rfl, kv', V', vg', hW7, -⟩
  have H7 := Lib.hid hW7
  clear hW7
  go_wp2_with fail
  go_ret
  exact ⟨rfl, d.crash ks, vl', vw', r.crash ks, kv', V', vg', ep, _, H7.out, Hpe.out.1, Hpe.out.2, hep⟩
set_option maxRecDepth 100000 in
set_option maxHeartbeats 3200000 in
theorem d10_epoch (hW : W10 w0 w x p d vl vw r kv V vg f se ep n) (t : ByteArray) (n_ a_ : Int) (x_ : ByteArray) (kp : Value) (hm : d.lasts.length ≤ 60) :
    Calls Tryz.prog 14 #[.pointer (some ⟨x, 0, none⟩), .agg (act9 5 t n_ a_ x_ kp)] w fun e w' => e = .returned (.bool true) ∧ Done10 w0 x p d f se w' := by
  have hwf := hW.wf
  obtain ⟨w3, hw3⟩ : ∃ w3, w.alloc (.cells (act9 5 t n_ a_ x_ kp) 46) = w3 := ⟨_, rfl⟩
  have hU3 : Upd (fun _ => False) w w3 := by rw [← hw3]; exact (Upd.refl _ w).alloc _
  have hB3 : Blk w3 w.heap.size 46 (act9 5 t n_ a_ x_ kp) := by rw [← hw3]; exact Blk.new w _ _
  have H3 := Lib.hid (And.intro (hW.still hU3) hB3)
  have Hw := Lib.hid hw3
  have hc := hB3.cells6
  have hcx := H3.out.1.blk.cells18
  obtain ⟨m, hmm⟩ : ∃ m : Nat, IntKind.u64.wrap n_ = (m : Int) := ⟨(IntKind.u64.wrap n_).toNat, by have h0 : 0 ≤ IntKind.u64.wrap n_ := (by rw [IntKind.wrap_u64]; omega); omega⟩
  obtain ⟨ep', hep'⟩ : ∃ ep' : Nat, 1 + m % 4 = ep' := ⟨_, rfl⟩
  have hv : (1 : Int) + (m : Int) % 4 = (ep' : Int) := by omega
  have he4 : ep' < 18446744073709551616 := by omega
  have hf16 := H3.out.1.blk.frozen 16
  have hUx : Upd (· = x) w3 (w3.setCell ⟨x, 16, none⟩ (.int .u64 (ep' : Int))) := (Upd.refl (· = x) w3).setCell (p := ⟨x, 16, none⟩) (.inl rfl) _
  have hset : Blk (w3.setCell ⟨x, 16, none⟩ (.int .u64 (ep' : Int))) x 41 (row10 p kv vl vw r V vg f se ep' n) := H3.out.1.blk.set_ 16 (.int .u64 (ep' : Int))
  have hE : W10b w0 (w3.setCell ⟨x, 16, none⟩ (.int .u64 (ep' : Int))) x p d vl vw r kv V vg f se ep' n :=
    ⟨H3.out.1.side.off H3.out.1.blk (by decide) (by decide) hUx, hset, H3.out.1.low, H3.out.1.disks.off H3.out.1.blk (by decide) (by decide) H3.out.1.low hUx⟩
  have HO := Lib.hid (open_10b hE hm he4)
  have Hv := Lib.hid hv
  clear hU3 hB3 hw3 hW hwf hUx hset hE hep' hv
  go_enter Tryz.func14, Tryz.ntmps14
  go_upto_region 1 with fail
  rw [Hw.out]
  clear Hw
  go_upto_region 28 with fail
  rw [Hv.out]
  go_wp2_with fail
  refine HO.out.mono ?_
  rintro e w4 ⟨rfl, kv', V', vg', hW4, -⟩
  have H4 := Lib.hid hW4
  clear hW4
  go_wp2_with fail
  go_ret
  exact ⟨rfl, d, vl, vw, r, kv', V', vg', ep', _, H4.out, by omega, rfl, he4⟩
end
end Go.Proofs.YtpfbgmfkeofefaaGreat

/-
  A law's world of chapter 10: a spoilt sector; any act. (Printed by mk_law10.py.)
-/
namespace Go.Proofs.YtpfbgmfkeofefaaGreat
open Go Go.RowKit

section
variable {w0 w w' : World} {x p : Nat} {d : Dk} {vl vw kv vg : Value} {r : Rd} {V : Lg} {f se : Int} {ep : Nat} {n : Int}
set_option maxRecDepth 100000 in
set_option maxHeartbeats 3200000 in
theorem d10_spoil (hW : W10 w0 w x p d vl vw r kv V vg f se ep n) (t : ByteArray) (n_ a_ : Int) (x_ : ByteArray) (kp : Value) (hn_ : i64ok n_) (ha_ : i64ok a_) (hx_ : x_.size ≤ 9223372036854775807) (hf0 : 0 ≤ f) (hf1 : f ≤ 100) (hse0 : 1 ≤ se) (hse1 : se ≤ 100) (hm : d.lasts.length ≤ 60) (hep : ep < 18446744073709551616) :
    Calls Tryz.prog 14 #[.pointer (some ⟨x, 0, none⟩), .agg (act9 3 t n_ a_ x_ kp)] w fun e w' => e = .returned (.bool true) ∧ Done10 w0 x p d f se w' := by
  have hwf := hW.wf
  obtain ⟨w3, hw3⟩ : ∃ w3, w.alloc (.cells (act9 3 t n_ a_ x_ kp) 46) = w3 := ⟨_, rfl⟩
  have hU3 : Upd (fun _ => False) w w3 := by rw [← hw3]; exact (Upd.refl _ w).alloc _
  have hB3 : Blk w3 w.heap.size 46 (act9 3 t n_ a_ x_ kp) := by rw [← hw3]; exact Blk.new w _ _
  have H3 := Lib.hid (And.intro (hW.still hU3) hB3)
  have Hw := Lib.hid hw3
  have hc := hB3.cells6
  have hcx := H3.out.1.blk.cells18
  obtain ⟨J, hJ⟩ : ∃ J, spoilJ f se n_ = J := ⟨_, rfl⟩
  obtain ⟨hi1, hi2⟩ := hW.side.is.spoil J a_ x_
  obtain ⟨⟨r2, E⟩, hR2⟩ : ∃ q, r.spoil J a_ x_ = q := ⟨_, rfl⟩
  obtain ⟨⟨d2, E2⟩, hD2⟩ : ∃ q, d.spoil J a_ x_ = q := ⟨_, rfl⟩
  rw [hR2, hD2] at hi1 hi2
  simp only at hi1 hi2
  subst hi2
  have hsm := spoil_same d J a_ x_
  rw [hD2] at hsm
  simp only at hsm
  have hrp : Hid (∀ W, Upd (fun _ => False) w3 W → Calls Tryz.prog 46 #[.agg #[vl, vw, .int .i64 r.fuse, .bool r.off], .int .i64 J, .int .i64 a_, .string x_] W fun e w' => ∃ vl', e = .returned (.tuple #[.agg #[vl', vw, .int .i64 r2.fuse, .bool r2.off], .int .i64 E]) ∧ RdLeft W w' vl vw vl' vw r2) := Lib.hid fun W hu => by
    have := rspoil_c (H3.out.1.side.rd.upd hu) (hW.side.is.fits hwf) J a_ x_ ha_ hx_
    rw [hR2] at this
    exact this
  have hsp : Hid (∀ W X, DksX w0 W [(p, d)] X → Calls Tryz.prog 47 #[.pointer (some ⟨p, 0, none⟩), .int .i64 J, .int .i64 a_, .string x_] W fun e w' => e = .returned (.int .i64 E) ∧ DksX w0 w' [(p, d2)] X ∧ BlkKept W w' ∧ XKept X W w') := Lib.hid fun W X hX => by
    have := spoil_v hX (i := 0) rfl J a_ x_ ha_ hx_
    rw [hD2] at this
    exact this
  have HI := Lib.hid (And.intro hi1 hsm)
  have HAx : Hid (w.heap.size ≠ x) := fun e => hB3.ne_ H3.out.1.blk (by decide) e
  have HJ := Lib.hid hJ
  obtain ⟨hn1, hn2⟩ := hn_
  clear hU3 hB3 hw3 hW hwf hJ hi1 hR2 hD2 hsm ha_ hx_
  go_enter Tryz.func14, Tryz.ntmps14
  go_upto_region 1 with fail
  rw [Hw.out]
  clear Hw
  go_upto_region 19 with fail
  obtain ⟨B, hB⟩ : ∃ B, decide (0 ≤ n_ ∧ n_ < 100) = B := ⟨_, rfl⟩
  have HB := Lib.hid hB
  clear hB
  go_cut [102] (fun t102 wx => t102 = .bool B ∧ w3 = wx)
  case first =>
    have hcs : (0 ≤ n_ ∧ n_ < 100 ∧ B = true) ∨ (n_ < 0 ∧ B = false) ∨ (0 ≤ n_ ∧ ¬ n_ < 100 ∧ B = false) := by
      have := HB.out
      cases B
      · have := of_decide_eq_false this
        simp
        omega
      · have := of_decide_eq_true this
        simp
        omega
    rcases hcs with ⟨c1, c2, rfl⟩ | ⟨c1, rfl⟩ | ⟨c1, c2, rfl⟩
    all_goals
      go_wp2_with fail
      go_meet
      exact ⟨rfl, rfl⟩
  case rest =>
  obtain ⟨rfl, rfl⟩ := hcut
  go_upto_if 102 with fail
  go_cut [9] (fun t9 wx => t9 = .int .i64 J ∧ ∃ k, wx = w3.drewN k)
  case first =>
    cases B
    · have c := of_decide_eq_false HB.out
      obtain rfl : n_ = J := by
        have := HJ.out
        unfold spoilJ at this
        rw [if_neg c] at this
        exact this
      clear c
      go_wp2_with fail
      go_meet
      exact ⟨rfl, 0, rfl⟩
    · have c := of_decide_eq_true HB.out
      obtain ⟨c1, c2⟩ := c
      have c3 : f + n_ % se = J := by
        have := HJ.out
        unfold spoilJ at this
        rw [if_pos ⟨c1, c2⟩] at this
        exact this
      have hm1 : n_ % se < se := Int.emod_lt_of_pos _ (by omega)
      have hm0 : 0 ≤ n_ % se := Int.emod_nonneg _ (by omega)
      have hz : (se == 0) = false := by rw [beq_eq_false_iff_ne]; omega
      have hse2 : se ≠ 0 := by omega
      have hrem : n_.tmod se = n_ % se := IntWalk.rem_in _ _ c1
      have hwr : IntKind.i64.wrap (n_ % se) = n_ % se := IntWalk.i64_in _ (by omega)
      have hwr2 : IntKind.i64.wrap (f + n_ % se) = f + n_ % se := IntWalk.i64_in _ (by omega)
      go_upto_region 20 with fail
      go_quiet (fail)
      go_wp2_with fail
      go_meet
      exact ⟨by first | rfl | rw [c3], _, rfl⟩
  case rest =>
    obtain ⟨rfl, kk, rfl⟩ := hcut
    have HD := Lib.hid (And.intro (H3.out.1.still ((Upd.refl (fun _ => False) w3).drewN kk)) (H3.out.2.upd ((Upd.refl (fun _ => False) w3).drewN kk) (fun e => e)))
    have hrp' : Hid (∀ W, Upd (fun _ => False) (w3.drewN kk) W → Calls Tryz.prog 46 #[.agg #[vl, vw, .int .i64 r.fuse, .bool r.off], .int .i64 J, .int .i64 a_, .string x_] W fun e w' => ∃ vl', e = .returned (.tuple #[.agg #[vl', vw, .int .i64 r2.fuse, .bool r2.off], .int .i64 E]) ∧ RdLeft W w' vl vw vl' vw r2) := Lib.hid fun W hu => hrp.out W (((Upd.refl (fun _ => False) w3).drewN kk).then hu (fun _ e => e.elim))
    clear hrp H3 hc hcx
    obtain ⟨w3', hw3'⟩ : ∃ w3', w3.drewN kk = w3' := ⟨_, rfl⟩
    rw [hw3'] at HD hrp' ⊢
    clear hw3' HB
    rename World => w3
    have hrp := hrp'
    have H3 := HD
    clear hrp' HD hn1 hn2 HJ
    have hc := H3.out.2.cells6
    have hcx := H3.out.1.blk.cells18
    go_upto_region 21 with fail
    go_cut [10, 11] (fun t10 t11 wx => ∃ (g2 : Nat) (vl' : Value), t10 = .pointer (some ⟨g2, 0, none⟩) ∧ t11 = .int .i64 E ∧ Spoilt10 w3 wx vl vw vl' r2 g2)
    case first =>
      refine wp_region_noPanic ?_
      refine wp_region_T (S := fun w' => Blk w' x 41 (row10 p kv vl vw r V vg f se ep n) ∧ Blk w' w.heap.size 46 (act9 3 t n_ a_ x_ kp)) (T := fun _ => false) (by kernel_rfl) ?_
      have hS0 := And.intro H3.out.1.blk.drew H3.out.2.drew
      have hU0 : Upd (fun _ => False) w3 w3.drew := (Upd.refl _ _).drew
      refine wpAnyT_take (i := 0) (v := ?_) rfl (by kernel_rfl) (by kernel_rfl) (by kernel_rfl) (by kernel_rfl) (fun _ _ _ h => h) (takes_yield rfl (Or.inl ⟨by rfl, ?_⟩)) (by assumption) (by kernel_rfl) ?_
      rotate_left 1
      · intro w' hSw; have hcw := hSw.1.cells18; have hca := hSw.2.cells6; go_split_ands; first | (go_simp; done) | (go_simp; rfl) | rfl
      simp only [Act.put, List.getElem_toArray, List.getElem_cons_zero, List.setIfInBounds_toArray, List.set_cons_zero, List.set_cons_succ]
      refine wpAnyT_take (i := 1) (v := ?_) rfl (by kernel_rfl) (by kernel_rfl) (by kernel_rfl) (by kernel_rfl) (fun _ _ _ h => h) (takes_yield rfl (Or.inl ⟨by rfl, ?_⟩)) (by assumption) (by kernel_rfl) ?_
      rotate_left 1
      · intro w' hSw; have hcw := hSw.1.cells18; have hca := hSw.2.cells6; go_split_ands; first | (go_simp; done) | (go_simp; rfl) | rfl
      simp only [Act.put, List.getElem_toArray, List.getElem_cons_zero, List.getElem_cons_succ, List.setIfInBounds_toArray, List.set_cons_zero, List.set_cons_succ]
      refine wpAnyT_take (i := 2) (v := ?_) rfl (by kernel_rfl) (by kernel_rfl) (by kernel_rfl) (by kernel_rfl) (fun _ _ _ h => h) (takes_yield rfl (Or.inl ⟨by rfl, ?_⟩)) (by assumption) (by kernel_rfl) ?_
      rotate_left 1
      · intro w' hSw; have hcw := hSw.1.cells18; have hca := hSw.2.cells6; go_split_ands; first | (go_simp; done) | (go_simp; rfl) | rfl
      simp only [Act.put, List.getElem_toArray, List.getElem_cons_zero, List.getElem_cons_succ, List.setIfInBounds_toArray, List.set_cons_zero, List.set_cons_succ]
      refine wpAnyT_take (i := 3) (v := ?_) rfl (by kernel_rfl) (by kernel_rfl) (by kernel_rfl) (by kernel_rfl) (fun _ _ _ h => h) (takes_yield rfl (Or.inl ⟨by rfl, ?_⟩)) (by assumption) (by kernel_rfl) ?_
      rotate_left 1
      · intro w' hSw; have hcw := hSw.1.cells18; have hca := hSw.2.cells6; go_split_ands; first | (go_simp; done) | (go_simp; rfl) | rfl
      simp only [Act.put, List.getElem_toArray, List.getElem_cons_zero, List.getElem_cons_succ, List.setIfInBounds_toArray, List.set_cons_zero, List.set_cons_succ]
      refine wpAnyT_take (i := 4) (v := ?_) rfl (by kernel_rfl) (by kernel_rfl) (by kernel_rfl) (by kernel_rfl) (fun _ _ _ h => h) (takes_yield rfl (Or.inl ⟨by rfl, ?_⟩)) (by assumption) (by kernel_rfl) ?_
      rotate_left 1
      · intro w' hSw; have hcw := hSw.1.cells18; have hca := hSw.2.cells6; go_split_ands; first | (go_simp; done) | (go_simp; rfl) | rfl
      simp only [Act.put, List.getElem_toArray, List.getElem_cons_zero, List.getElem_cons_succ, List.setIfInBounds_toArray, List.set_cons_zero, List.set_cons_succ]
      refine wpAnyT_take (i := 5) (v := ?_) rfl (by kernel_rfl) (by kernel_rfl) (by kernel_rfl) (by kernel_rfl) (fun _ _ _ h => h) (takes_yield rfl (Or.inl ⟨by rfl, ?_⟩)) (by assumption) (by kernel_rfl) ?_
      rotate_left 1
      · intro w' hSw; have hcw := hSw.1.cells18; have hca := hSw.2.cells6; go_split_ands; first | (go_simp; done) | (go_simp; rfl) | rfl
      simp only [Act.put, List.getElem_toArray, List.getElem_cons_zero, List.getElem_cons_succ, List.setIfInBounds_toArray, List.set_cons_zero, List.set_cons_succ]
      refine wpAnyT_take (i := 6) (v := ?_) rfl (by kernel_rfl) (by kernel_rfl) (by kernel_rfl) (by kernel_rfl) (fun _ _ _ h => h) (takes_yield rfl (Or.inl ⟨by rfl, ?_⟩)) (by assumption) (by kernel_rfl) ?_
      rotate_left 1
      · intro w' hSw; have hcw := hSw.1.cells18; have hca := hSw.2.cells6; go_split_ands; first | (go_simp; done) | (go_simp; rfl) | rfl
      simp only [Act.put, List.getElem_toArray, List.getElem_cons_zero, List.getElem_cons_succ, List.setIfInBounds_toArray, List.set_cons_zero, List.set_cons_succ]
      refine wpAnyT_take (i := 7) (v := ?_) rfl (by kernel_rfl) (by kernel_rfl) (by kernel_rfl) (by kernel_rfl) (fun _ _ _ h => h) (takes_yield rfl (Or.inl ⟨by rfl, ?_⟩)) (by assumption) (by kernel_rfl) ?_
      rotate_left 1
      · intro w' hSw; have hcw := hSw.1.cells18; have hca := hSw.2.cells6; go_split_ands; first | (go_simp; done) | (go_simp; rfl) | rfl
      simp only [Act.put, List.getElem_toArray, List.getElem_cons_zero, List.getElem_cons_succ, List.setIfInBounds_toArray, List.set_cons_zero, List.set_cons_succ]
      refine wpAnyT_take (i := 8) (v := ?_) rfl (by kernel_rfl) (by kernel_rfl) (by kernel_rfl) (by kernel_rfl) (fun _ _ _ h => h) (takes_yield rfl (Or.inl ⟨by rfl, ?_⟩)) (by assumption) (by kernel_rfl) ?_
      rotate_left 1
      · intro w' hSw; have hcw := hSw.1.cells18; have hca := hSw.2.cells6; go_split_ands; first | (go_simp; done) | (go_simp; rfl) | rfl
      simp only [Act.put, List.getElem_toArray, List.getElem_cons_zero, List.getElem_cons_succ, List.setIfInBounds_toArray, List.set_cons_zero, List.set_cons_succ]
      refine wpAnyT_two (i := 9) (j := 13) (by kernel_rfl) rfl rfl (fun K hK => ?_) (fun K hK => ?_)
      · skip
        go_simp
        refine (hrp.out _ hU0).mono ?_
        rintro e wc1 ⟨vl', rfl, hl1⟩
        have hs1 := And.intro (hS0.1.upd hl1.upd (fun e => e)) (hS0.2.upd hl1.upd (fun e => e))
        have hu1 := hU0.then hl1.upd (fun _ e => e.elim)
        refine hK.out _ _ hs1 ?_
        have hl1b := hl1.pre hU0
        clear hK
        refine wpAnyT_take (i := 10) (v := ?_) rfl (by kernel_rfl) (by kernel_rfl) (by kernel_rfl) (by kernel_rfl) (fun _ _ _ h => h) (takes_yield rfl (Or.inl ⟨by rfl, ?_⟩)) (by assumption) (by kernel_rfl) ?_
        rotate_left 1
        · intro w' hSw; go_split_ands; first | (go_simp; done) | (go_simp; rfl) | rfl
        simp only [Act.put, List.getElem_toArray, List.getElem_cons_zero, List.getElem_cons_succ, List.setIfInBounds_toArray, List.set_cons_zero, List.set_cons_succ]
        refine wpAnyT_take (i := 11) (v := ?_) rfl (by kernel_rfl) (by kernel_rfl) (by kernel_rfl) (by kernel_rfl) (fun _ _ _ h => h) (takes_yield rfl (Or.inl ⟨by rfl, ?_⟩)) (by assumption) (by kernel_rfl) ?_
        rotate_left 1
        · intro w' hSw; go_split_ands; first | (go_simp; done) | (go_simp; rfl) | rfl
        simp only [Act.put, List.getElem_toArray, List.getElem_cons_zero, List.getElem_cons_succ, List.setIfInBounds_toArray, List.set_cons_zero, List.set_cons_succ]
        refine wpAnyT_take (i := 12) (v := ?_) rfl (by kernel_rfl) (by kernel_rfl) (by kernel_rfl) (by kernel_rfl) (fun _ _ _ h => h) (takes_yield rfl (Or.inl ⟨by rfl, ?_⟩)) (by assumption) (by kernel_rfl) ?_
        rotate_left 1
        · intro w' hSw; go_split_ands; first | (go_simp; done) | (go_simp; rfl) | rfl
        simp only [Act.put, List.getElem_toArray, List.getElem_cons_zero, List.getElem_cons_succ, List.setIfInBounds_toArray, List.set_cons_zero, List.set_cons_succ]
        refine wpAnyT_one (i := 13) (by kernel_rfl) rfl (fun K hK => ?_)
        go_simp
        have hs2 := And.intro (hs1.1.alloc (.cells zeroRd 33)) (hs1.2.alloc (.cells zeroRd 33))
        have hu2 := hu1.alloc (.cells zeroRd 33)
        refine hK.out _ _ hs2 ?_
        have b12_2 := Blk.new (wc1) 33 zeroRd
        have n12_2 := hu1.size
        have hl2 := hl1b.post ((Upd.refl (fun _ => False) (wc1)).alloc (.cells zeroRd 33))
        clear hK
        refine wpAnyT_one (i := 14) (by kernel_rfl) rfl (fun K hK => ?_)
        refine step_store_all (by rfl) 33 _ _ (by rfl) (wc1).heap.size #[vl', vw, .int .i64 r2.fuse, .bool r2.off] (by rfl) (by rfl) _ _ b12_2 rfl (rdrow_one r2 hl2.at_) (by kernel_rfl) ?_
        intro y2 hB2 hU2 hz2
        have hg : w3.heap.size ≤ (wc1).heap.size := n12_2
        have hy2 := And.intro (hs2.1.upd hU2 (fun e => hs2.1.ne_ b12_2 (by decide) e)) (hs2.2.upd hU2 (fun e => hs2.2.ne_ b12_2 (by decide) e))
        refine hK.out _ _ hy2 ?_
        have hly := hl2.store hU2 (fun q hq e => hl2.at_.ne b12_2 (by decide) (by decide) (e ▸ hq)) hg
        have HZ := Lib.hid (show Spoilt10 w3 y2 vl vw vl' r2 (wc1).heap.size from ⟨hB2, hly⟩)
        clear hK hB2 hU2 hz2 hly
        refine wpAnyT_take (i := 15) (v := ?_) rfl (by kernel_rfl) (by kernel_rfl) (by kernel_rfl) (by kernel_rfl) (fun _ _ _ h => h) (takes_yield rfl (Or.inl ⟨by rfl, ?_⟩)) (by assumption) (by kernel_rfl) ?_
        rotate_left 1
        · intro w' hSw; go_split_ands; first | (go_simp; done) | (go_simp; rfl) | rfl
        simp only [Act.put, List.getElem_toArray, List.getElem_cons_zero, List.getElem_cons_succ, List.setIfInBounds_toArray, List.set_cons_zero, List.set_cons_succ]
        refine wpAnyT_done (by kernel_rfl) ?_ _
        refine NoPanic.normal ?_
        go_wp2_with fail
        go_meet
        exact ⟨_, vl', rfl, rfl, HZ.out⟩
      · skip
        go_simp
        have hs3 := And.intro (hS0.1.alloc (.cells zeroRd 33)) (hS0.2.alloc (.cells zeroRd 33))
        have hu3 := hU0.alloc (.cells zeroRd 33)
        refine hK.out _ _ hs3 ?_
        have b12_3 := Blk.new (w3.drew) 33 zeroRd
        have n12_3 := hU0.size
        clear hK
        refine wpAnyT_one (i := 9) (by kernel_rfl) rfl (fun K hK => ?_)
        go_simp
        refine (hrp.out _ hu3).mono ?_
        rintro e wc4 ⟨vl', rfl, hl4⟩
        have hs4 := And.intro (hs3.1.upd hl4.upd (fun e => e)) (hs3.2.upd hl4.upd (fun e => e))
        have hu4 := hu3.then hl4.upd (fun _ e => e.elim)
        refine hK.out _ _ hs4 ?_
        have b12_4 := b12_3.upd hl4.upd (fun e => e)
        have hl4b := hl4.pre hu3
        clear hK
        refine wpAnyT_take (i := 10) (v := ?_) rfl (by kernel_rfl) (by kernel_rfl) (by kernel_rfl) (by kernel_rfl) (fun _ _ _ h => h) (takes_yield rfl (Or.inl ⟨by rfl, ?_⟩)) (by assumption) (by kernel_rfl) ?_
        rotate_left 1
        · intro w' hSw; go_split_ands; first | (go_simp; done) | (go_simp; rfl) | rfl
        simp only [Act.put, List.getElem_toArray, List.getElem_cons_zero, List.getElem_cons_succ, List.setIfInBounds_toArray, List.set_cons_zero, List.set_cons_succ]
        refine wpAnyT_take (i := 11) (v := ?_) rfl (by kernel_rfl) (by kernel_rfl) (by kernel_rfl) (by kernel_rfl) (fun _ _ _ h => h) (takes_yield rfl (Or.inl ⟨by rfl, ?_⟩)) (by assumption) (by kernel_rfl) ?_
        rotate_left 1
        · intro w' hSw; go_split_ands; first | (go_simp; done) | (go_simp; rfl) | rfl
        simp only [Act.put, List.getElem_toArray, List.getElem_cons_zero, List.getElem_cons_succ, List.setIfInBounds_toArray, List.set_cons_zero, List.set_cons_succ]
        refine wpAnyT_take (i := 12) (v := ?_) rfl (by kernel_rfl) (by kernel_rfl) (by kernel_rfl) (by kernel_rfl) (fun _ _ _ h => h) (takes_yield rfl (Or.inl ⟨by rfl, ?_⟩)) (by assumption) (by kernel_rfl) ?_
        rotate_left 1
        · intro w' hSw; go_split_ands; first | (go_simp; done) | (go_simp; rfl) | rfl
        simp only [Act.put, List.getElem_toArray, List.getElem_cons_zero, List.getElem_cons_succ, List.setIfInBounds_toArray, List.set_cons_zero, List.set_cons_succ]
        refine wpAnyT_one (i := 14) (by kernel_rfl) rfl (fun K hK => ?_)
        refine step_store_all (by rfl) 33 _ _ (by rfl) (w3.drew).heap.size #[vl', vw, .int .i64 r2.fuse, .bool r2.off] (by rfl) (by rfl) _ _ b12_4 rfl (rdrow_one r2 hl4b.at_) (by kernel_rfl) ?_
        intro y2 hB2 hU2 hz2
        have hg : w3.heap.size ≤ (w3.drew).heap.size := n12_3
        have hy2 := And.intro (hs4.1.upd hU2 (fun e => hs4.1.ne_ b12_4 (by decide) e)) (hs4.2.upd hU2 (fun e => hs4.2.ne_ b12_4 (by decide) e))
        refine hK.out _ _ hy2 ?_
        have hly := hl4b.store hU2 (fun q hq e => hl4b.at_.ne b12_4 (by decide) (by decide) (e ▸ hq)) hg
        have HZ := Lib.hid (show Spoilt10 w3 y2 vl vw vl' r2 (w3.drew).heap.size from ⟨hB2, hly⟩)
        clear hK hB2 hU2 hz2 hly
        refine wpAnyT_take (i := 15) (v := ?_) rfl (by kernel_rfl) (by kernel_rfl) (by kernel_rfl) (by kernel_rfl) (fun _ _ _ h => h) (takes_yield rfl (Or.inl ⟨by rfl, ?_⟩)) (by assumption) (by kernel_rfl) ?_
        rotate_left 1
        · intro w' hSw; go_split_ands; first | (go_simp; done) | (go_simp; rfl) | rfl
        simp only [Act.put, List.getElem_toArray, List.getElem_cons_zero, List.getElem_cons_succ, List.setIfInBounds_toArray, List.set_cons_zero, List.set_cons_succ]
        refine wpAnyT_done (by kernel_rfl) ?_ _
        refine NoPanic.normal ?_
        go_wp2_with fail
        go_meet
        exact ⟨_, vl', rfl, rfl, HZ.out⟩
    case rest =>
      obtain ⟨g2, vl', rfl, rfl, hSp⟩ := hcut
      have HSp := Lib.hid hSp
      clear hSp hc hcx
      rename World => wx
      have hbx := H3.out.1.blk.upd HSp.out.left.upd (fun e => e)
      have hdx := H3.out.1.disks.refG HSp.out.left (fun q hq => H3.out.1.side.recs.lt hq)
      have hsx := H3.out.1.side.ref (d2 := d2) H3.out.1.disks.upd.size HSp.out.left HI.out.1
      have HX := Lib.hid (And.intro hbx (And.intro hdx (And.intro (H3.out.2.upd HSp.out.left.upd (fun e => e)) hsx)))
      have HL := Lib.hid H3.out.1.low
      clear hbx hdx hsx hrp H3
      go_upto_region 22 with fail
      go_upto_region 23 with (first
        | (refine wpList_load_all rfl _ _ rfl g2 rfl _ _ _ HSp.out.blk Tryz.underlying33 rfl rfl ?_)
        | (refine wpList_store_part rfl 33 _ _ rfl x 2 #[vl', vw, .int .i64 r2.fuse, .bool r2.off] rfl rfl _ _ (row10 p kv vl' vw r2 V vg f se ep n) HX.out.1 (by simp) rfl (rdrow_one r2 HSp.out.left.at_) (by kernel_rfl) ?_
           intro wy hBy hUy hsy))
      have hx0 := hBy.cell 0
      have hay := HX.out.2.2.1.upd hUy (fun e => HX.out.1.ne_ HX.out.2.2.1 (by decide) e.symm)
      have hdy := HX.out.2.1.off HX.out.1 (by decide) (by decide) HL.out hUy
      have hsy2 := HX.out.2.2.2.off HX.out.1 (by decide) (by decide) hUy
      have HY := Lib.hid (And.intro hBy (And.intro hay (And.intro hdy hsy2)))
      clear hx0 hay hdy hsy2 hBy hUy hsy HX HSp
      refine wp_region_noPanic ?_
      refine wp_region_T (S := fun w' => w'.cell? ⟨x, 0, none⟩ = some (.pointer (some ⟨p, 0, none⟩)) ∧ Blk w' w.heap.size 46 (act9 3 t n_ a_ x_ kp)) (T := fun _ => false) (by kernel_rfl) ?_
      have hS0 := And.intro (show wy.drew.cell? ⟨x, 0, none⟩ = some (.pointer (some ⟨p, 0, none⟩)) from HY.out.1.drew.cell 0) HY.out.2.1.drew
      refine wpAnyT_take (i := 0) (v := ?_) rfl (by kernel_rfl) (by kernel_rfl) (by kernel_rfl) (by kernel_rfl) (fun _ _ _ h => h) (takes_yield rfl (Or.inl ⟨by rfl, ?_⟩)) (by assumption) (by kernel_rfl) ?_
      rotate_left 1
      · intro w' hSw; have hca := hSw.2.cells6; have hcw := hSw.1; go_split_ands; first | (go_simp; done) | (go_simp; rfl) | rfl
      simp only [Act.put, List.getElem_toArray, List.getElem_cons_zero, List.setIfInBounds_toArray, List.set_cons_zero, List.set_cons_succ]
      refine wpAnyT_take (i := 1) (v := ?_) rfl (by kernel_rfl) (by kernel_rfl) (by kernel_rfl) (by kernel_rfl) (fun _ _ _ h => h) (takes_yield rfl (Or.inl ⟨by rfl, ?_⟩)) (by assumption) (by kernel_rfl) ?_
      rotate_left 1
      · intro w' hSw; have hca := hSw.2.cells6; have hcw := hSw.1; go_split_ands; first | (go_simp; done) | (go_simp; rfl) | rfl
      simp only [Act.put, List.getElem_toArray, List.getElem_cons_zero, List.getElem_cons_succ, List.setIfInBounds_toArray, List.set_cons_zero, List.set_cons_succ]
      refine wpAnyT_take (i := 2) (v := ?_) rfl (by kernel_rfl) (by kernel_rfl) (by kernel_rfl) (by kernel_rfl) (fun _ _ _ h => h) (takes_yield rfl (Or.inl ⟨by rfl, ?_⟩)) (by assumption) (by kernel_rfl) ?_
      rotate_left 1
      · intro w' hSw; have hca := hSw.2.cells6; have hcw := hSw.1; go_split_ands; first | (go_simp; done) | (go_simp; rfl) | rfl
      simp only [Act.put, List.getElem_toArray, List.getElem_cons_zero, List.getElem_cons_succ, List.setIfInBounds_toArray, List.set_cons_zero, List.set_cons_succ]
      refine wpAnyT_take (i := 3) (v := ?_) rfl (by kernel_rfl) (by kernel_rfl) (by kernel_rfl) (by kernel_rfl) (fun _ _ _ h => h) (takes_yield rfl (Or.inl ⟨by rfl, ?_⟩)) (by assumption) (by kernel_rfl) ?_
      rotate_left 1
      · intro w' hSw; have hca := hSw.2.cells6; have hcw := hSw.1; go_split_ands; first | (go_simp; done) | (go_simp; rfl) | rfl
      simp only [Act.put, List.getElem_toArray, List.getElem_cons_zero, List.getElem_cons_succ, List.setIfInBounds_toArray, List.set_cons_zero, List.set_cons_succ]
      refine wpAnyT_take (i := 4) (v := ?_) rfl (by kernel_rfl) (by kernel_rfl) (by kernel_rfl) (by kernel_rfl) (fun _ _ _ h => h) (takes_yield rfl (Or.inl ⟨by rfl, ?_⟩)) (by assumption) (by kernel_rfl) ?_
      rotate_left 1
      · intro w' hSw; have hca := hSw.2.cells6; have hcw := hSw.1; go_split_ands; first | (go_simp; done) | (go_simp; rfl) | rfl
      simp only [Act.put, List.getElem_toArray, List.getElem_cons_zero, List.getElem_cons_succ, List.setIfInBounds_toArray, List.set_cons_zero, List.set_cons_succ]
      refine wpAnyT_take (i := 5) (v := ?_) rfl (by kernel_rfl) (by kernel_rfl) (by kernel_rfl) (by kernel_rfl) (fun _ _ _ h => h) (takes_yield rfl (Or.inl ⟨by rfl, ?_⟩)) (by assumption) (by kernel_rfl) ?_
      rotate_left 1
      · intro w' hSw; have hca := hSw.2.cells6; have hcw := hSw.1; go_split_ands; first | (go_simp; done) | (go_simp; rfl) | rfl
      simp only [Act.put, List.getElem_toArray, List.getElem_cons_zero, List.getElem_cons_succ, List.setIfInBounds_toArray, List.set_cons_zero, List.set_cons_succ]
      refine wpAnyT_take (i := 6) (v := ?_) rfl (by kernel_rfl) (by kernel_rfl) (by kernel_rfl) (by kernel_rfl) (fun _ _ _ h => h) (takes_yield rfl (Or.inl ⟨by rfl, ?_⟩)) (by assumption) (by kernel_rfl) ?_
      rotate_left 1
      · intro w' hSw; have hca := hSw.2.cells6; have hcw := hSw.1; go_split_ands; first | (go_simp; done) | (go_simp; rfl) | rfl
      simp only [Act.put, List.getElem_toArray, List.getElem_cons_zero, List.getElem_cons_succ, List.setIfInBounds_toArray, List.set_cons_zero, List.set_cons_succ]
      refine wpAnyT_take (i := 7) (v := ?_) rfl (by kernel_rfl) (by kernel_rfl) (by kernel_rfl) (by kernel_rfl) (fun _ _ _ h => h) (takes_yield rfl (Or.inl ⟨by rfl, ?_⟩)) (by assumption) (by kernel_rfl) ?_
      rotate_left 1
      · intro w' hSw; have hca := hSw.2.cells6; have hcw := hSw.1; go_split_ands; first | (go_simp; done) | (go_simp; rfl) | rfl
      simp only [Act.put, List.getElem_toArray, List.getElem_cons_zero, List.getElem_cons_succ, List.setIfInBounds_toArray, List.set_cons_zero, List.set_cons_succ]
      refine wpAnyT_take (i := 8) (v := ?_) rfl (by kernel_rfl) (by kernel_rfl) (by kernel_rfl) (by kernel_rfl) (fun _ _ _ h => h) (takes_yield rfl (Or.inl ⟨by rfl, ?_⟩)) (by assumption) (by kernel_rfl) ?_
      rotate_left 1
      · intro w' hSw; have hca := hSw.2.cells6; have hcw := hSw.1; go_split_ands; first | (go_simp; done) | (go_simp; rfl) | rfl
      simp only [Act.put, List.getElem_toArray, List.getElem_cons_zero, List.getElem_cons_succ, List.setIfInBounds_toArray, List.set_cons_zero, List.set_cons_succ]
      refine wpAnyT_take (i := 10) (v := ?_) rfl (by kernel_rfl) (by kernel_rfl) (by kernel_rfl) (by kernel_rfl) (fun _ _ _ h => h) (takes_yield rfl (Or.inl ⟨by rfl, ?_⟩)) (by assumption) (by kernel_rfl) ?_
      rotate_left 1
      · intro w' hSw; have hca := hSw.2.cells6; have hcw := hSw.1; go_split_ands; first | (go_simp; done) | (go_simp; rfl) | rfl
      simp only [Act.put, List.getElem_toArray, List.getElem_cons_zero, List.getElem_cons_succ, List.setIfInBounds_toArray, List.set_cons_zero, List.set_cons_succ]
      refine wpAnyT_one (i := 9) (by kernel_rfl) rfl (fun K hK => ?_)
      go_simp
      refine (hsp.out _ _ (HY.out.2.2.1.still (Upd.refl _ wy).drew)).mono ?_
      rintro e w8 ⟨rfl, hDx, hBk, hXk⟩
      have hbx8 := hBk _ _ _ HY.out.1.drew (by decide) (by decide)
      have hS8 := And.intro (show w8.cell? ⟨x, 0, none⟩ = some (.pointer (some ⟨p, 0, none⟩)) from hbx8.cell 0) (hBk _ _ _ hS0.2 (by decide) (by decide))
      refine hK.out _ _ hS8 ?_
      have hW8 : W10b w0 w8 x p d2 vl' vw r2 kv V vg f se ep n := ⟨(HY.out.2.2.2.still (Upd.refl _ wy).drew).kept hXk, hbx8, HL.out, hDx⟩
      have HO := Lib.hid (open_10b hW8 (by rw [HI.out.2.2]; exact hm) hep)
      clear hK hS0 hDx hBk hXk hbx8 hW8 hsp
      refine wpAnyT_take (i := 11) (v := ?_) rfl (by kernel_rfl) (by kernel_rfl) (by kernel_rfl) (by kernel_rfl) (fun _ _ _ h => h) (takes_yield rfl (Or.inl ⟨by rfl, ?_⟩)) (by assumption) (by kernel_rfl) ?_
      rotate_left 1
      · intro w' hSw; go_split_ands; first | (go_simp; done) | (go_simp; rfl) | rfl
      simp only [Act.put, List.getElem_toArray, List.getElem_cons_zero, List.getElem_cons_succ, List.setIfInBounds_toArray, List.set_cons_zero, List.set_cons_succ]
      refine wpAnyT_take (i := 12) (v := ?_) rfl (by kernel_rfl) (by kernel_rfl) (by kernel_rfl) (by kernel_rfl) (fun _ _ _ h => h) (takes_yield rfl (Or.inl ⟨by rfl, ?_⟩)) (by assumption) (by kernel_rfl) ?_
      rotate_left 1
      · intro w' hSw; go_split_ands; first | (go_simp; done) | (go_simp; rfl) | rfl
      simp only [Act.put, List.getElem_toArray, List.getElem_cons_zero, List.getElem_cons_succ, List.setIfInBounds_toArray, List.set_cons_zero, List.set_cons_succ]
      refine wpAnyT_take (i := 13) (v := ?_) rfl (by kernel_rfl) (by kernel_rfl) (by kernel_rfl) (by kernel_rfl) (fun _ _ _ h => h) (takes_yield rfl (Or.inl ⟨by rfl, ?_⟩)) (by assumption) (by kernel_rfl) ?_
      rotate_left 1
      · intro w' hSw; go_split_ands; first | (go_simp; done) | (go_simp; rfl) | rfl
      simp only [Act.put, List.getElem_toArray, List.getElem_cons_zero, List.getElem_cons_succ, List.setIfInBounds_toArray, List.set_cons_zero, List.set_cons_succ]
      refine wpAnyT_one (i := 14) (by kernel_rfl) rfl (fun K hK => ?_)
      go_simp
      refine HO.out.mono ?_
      rintro e w9 ⟨rfl, kv', V', vg', hW9, hU9⟩
      have hS9 := And.intro (show w9.cell? ⟨x, 0, none⟩ = some (.pointer (some ⟨p, 0, none⟩)) from hW9.blk.cell 0) (hS8.2.upd hU9 (fun e => HAx.out e))
      refine hK.out _ _ hS9 ?_
      have H9 := Lib.hid hW9
      clear hK hS8 hW9 hU9
      refine wpAnyT_take (i := 15) (v := ?_) rfl (by kernel_rfl) (by kernel_rfl) (by kernel_rfl) (by kernel_rfl) (fun _ _ _ h => h) (takes_yield rfl (Or.inl ⟨by rfl, ?_⟩)) (by assumption) (by kernel_rfl) ?_
      rotate_left 1
      · intro w' hSw; go_split_ands; first | (go_simp; done) | (go_simp; rfl) | rfl
      simp only [Act.put, List.getElem_toArray, List.getElem_cons_zero, List.getElem_cons_succ, List.setIfInBounds_toArray, List.set_cons_zero, List.set_cons_succ]
      refine wpAnyT_take (i := 16) (v := ?_) rfl (by kernel_rfl) (by kernel_rfl) (by kernel_rfl) (by kernel_rfl) (fun _ _ _ h => h) (takes_yield rfl (Or.inl ⟨by rfl, ?_⟩)) (by assumption) (by kernel_rfl) ?_
      rotate_left 1
      · intro w' hSw; go_split_ands; first | (go_simp; done) | (go_simp; rfl) | rfl
      simp only [Act.put, List.getElem_toArray, List.getElem_cons_zero, List.getElem_cons_succ, List.setIfInBounds_toArray, List.set_cons_zero, List.set_cons_succ]
      refine wpAnyT_done (by kernel_rfl) ?_ _
      refine NoPanic.normal ?_
      go_wp2_with fail
      go_ret
      exact ⟨rfl, d2, vl', vw, r2, kv', V', vg', ep, _, H9.out, by have := HI.out.2.1; omega, HI.out.2.2, hep⟩
/-- Any act. -/
theorem does_10 (hW : W10 w0 w x p d vl vw r kv V vg f se ep n) (a : Act9) (ho : a.ok w0) (hf0 : 0 ≤ f) (hf1 : f ≤ 100) (hse0 : 1 ≤ se) (hse1 : se ≤ 100) (hm : d.lasts.length ≤ 60) (hp : d.pend + 40 < 1000000) (hep : ep < 18446744073709551616) :
    Calls Tryz.prog 14 #[.pointer (some ⟨x, 0, none⟩), .agg #[.int .i64 a.do_, .string a.text, .int .i64 a.n, .int .i64 a.at_, .string a.x, a.keep]] w fun e w' => e = .returned (.bool true) ∧ Done10 w0 x p d f se w' := by
  obtain ⟨do_, t, n_, a_, x_, kp, ks⟩ := a
  obtain ⟨o1, o2, o3, o4, o5, o6⟩ := ho
  simp only at o1 o2 o3 o4 o5 o6 ⊢
  by_cases h0 : do_ = 0
  · subst h0
    rcases hW.kept with ⟨h1, _, b, h3, _⟩ | ⟨h1, h2, _⟩
    · subst h1 h3
      exact d10_add hW t n_ a_ x_ kp hp hep
    · subst h2
      exact d10_no hW t n_ a_ x_ kp h1 hep
  · by_cases h1 : do_ = 1
    · subst h1; exact d10_fuse hW t n_ a_ x_ kp o3 hep
    · by_cases h2 : do_ = 2
      · subst h2; exact d10_crash hW t n_ a_ x_ kp ks o6 hm hep
      · by_cases h3 : do_ = 3
        · subst h3; exact d10_spoil hW t n_ a_ x_ kp o3 o4 o5 hf0 hf1 hse0 hse1 hm hep
        · by_cases h4 : do_ = 4
          · subst h4; exact d10_open hW t n_ a_ x_ kp hm hep
          · by_cases h5 : do_ = 5
            · subst h5; exact d10_epoch hW t n_ a_ x_ kp hm
            · exact d10_none hW t n_ a_ x_ kp do_ (by omega) hep
end
end Go.Proofs.YtpfbgmfkeofefaaGreat

/-
  A law's world of chapter 10: what a log tells is the document's.
-/
namespace Go.Proofs.YtpfbgmfkeofefaaGreat
open Go Go.RowKit

section
variable {w0 w w' : World} {x p : Nat} {d : Dk} {vl vw kv vg : Value} {r : Rd} {V : Lg} {f se : Int} {ep : Nat} {n : Int}
set_option maxRecDepth 100000 in
set_option maxHeartbeats 3200000 in
theorem stands_10 (hW : W10 w0 w x p d vl vw r kv V vg f se ep n) :
    Calls Tryz.prog 13 #[.pointer (some ⟨x, 0, none⟩)] w fun e w' => e = .returned (.bool true) ∧ Upd (fun _ => False) w w' := by
  have hc := hW.blk.cells18
  rcases hW.kept with ⟨rfl, hVf, b, rfl, hS⟩ | ⟨h1, rfl, -⟩
  · obtain ⟨f1, f2, f3, f4, f5, f6, f7⟩ := hVf
    have hRe0 := records_c hS.log (by omega)
    have hRo0 : ∀ W, Upd (fun _ => False) w W → Calls Tryz.prog 37 #[.pointer (some ⟨b, 0, none⟩)] W fun e w' => e = .returned (.int .i64 ((V.sectors - V.used : Nat) : Int)) ∧ Upd (fun _ => False) W w' := fun W hu => by
      refine (room_c (hS.log.still hu) f1 (by omega)).mono ?_
      rintro e w' ⟨rfl, rfl⟩
      exact ⟨rfl, (Upd.refl _ _).drew⟩
    have HRe := Lib.hid hRe0
    have HRo := Lib.hid hRo0
    have H := Lib.hid hW
    have hsub : Hid (((V.sectors - V.used : Nat) : Int) = (V.sectors : Int) - (V.used : Int)) := by show _ = _; omega
    have hwr : IntKind.i64.wrap ((V.sectors : Int) - (V.used : Int)) = (V.sectors : Int) - (V.used : Int) := IntWalk.i64_in _ (by omega)
    have hlen : V.l.length ≤ 60 := by omega
    clear hRe0 hRo0 hS hW
    go_enter Tryz.func13, Tryz.ntmps13
    go_wp2_with fail
    refine HRe.out.mono ?_
    rintro e w1 ⟨v, rfl, hO, hU, hv⟩
    obtain ⟨Av, cv, rfl, -, -⟩ := hO.shape
    have H1 := Lib.hid (And.intro (H.out.still hU) (And.intro hO (And.intro hU hv)))
    have hc1 := (H.out.blk.upd hU (fun e => e)).cells18
    have hSame : Hid (∀ W, Upd (fun _ => False) w1 W → Calls Tryz.prog 35 #[.slice Av V.l.length cv, vg] W fun e w' => e = .returned (.bool true) ∧ Upd (fun _ => False) W w') := Lib.hid fun W hu => by
      have := sameG_c W (Row.of_own (H1.out.2.1.upd hu (fun _ _ e => e)) (by omega)) (Row.of_own (H1.out.1.side.recs.upd hu (fun _ _ e => e)) (by omega))
      simpa using this
    clear hO hU hv hc
    go_upto_region 4 with fail
    go_cut [4] (fun t4 wx => t4 = .bool true ∧ Upd (fun _ => False) w1 wx)
    case first =>
      refine wp_region_noPanic ?_
      refine wp_region_T (S := fun w' => Upd (fun _ => False) w1 w') (T := fun _ => false) (by kernel_rfl) ?_
      have hS0 : Upd (fun _ => False) w1 w1.drew := (Upd.refl _ w1).drew
      refine wpAnyT_take (i := 0) (v := ?_) rfl (by kernel_rfl) (by kernel_rfl) (by kernel_rfl) (by kernel_rfl) (fun _ _ _ h => h) (takes_yield rfl (Or.inl ⟨by rfl, ?_⟩)) (by assumption) (by kernel_rfl) ?_
      rotate_left 1
      · intro w' hSw; have hcw := (H1.out.1.blk.upd hSw (fun e => e)).cells18; go_split_ands; first | (go_simp; done) | (go_simp; rfl) | rfl
      simp only [Act.put, List.getElem_toArray, List.getElem_cons_zero, List.setIfInBounds_toArray, List.set_cons_zero, List.set_cons_succ]
      refine wpAnyT_take (i := 1) (v := ?_) rfl (by kernel_rfl) (by kernel_rfl) (by kernel_rfl) (by kernel_rfl) (fun _ _ _ h => h) (takes_yield rfl (Or.inl ⟨by rfl, ?_⟩)) (by assumption) (by kernel_rfl) ?_
      rotate_left 1
      · intro w' hSw; have hcw := (H1.out.1.blk.upd hSw (fun e => e)).cells18; go_split_ands; first | (go_simp; done) | (go_simp; rfl) | rfl
      simp only [Act.put, List.getElem_toArray, List.getElem_cons_zero, List.getElem_cons_succ, List.setIfInBounds_toArray, List.set_cons_zero, List.set_cons_succ]
      refine wpAnyT_take (i := 2) (v := ?_) rfl (by kernel_rfl) (by kernel_rfl) (by kernel_rfl) (by kernel_rfl) (fun _ _ _ h => h) (takes_yield rfl (Or.inl ⟨by rfl, ?_⟩)) (by assumption) (by kernel_rfl) ?_
      rotate_left 1
      · intro w' hSw; have hcw := (H1.out.1.blk.upd hSw (fun e => e)).cells18; go_split_ands; first | (go_simp; done) | (go_simp; rfl) | rfl
      simp only [Act.put, List.getElem_toArray, List.getElem_cons_zero, List.getElem_cons_succ, List.setIfInBounds_toArray, List.set_cons_zero, List.set_cons_succ]
      refine wpAnyT_take (i := 3) (v := ?_) rfl (by kernel_rfl) (by kernel_rfl) (by kernel_rfl) (by kernel_rfl) (fun _ _ _ h => h) (takes_yield rfl (Or.inl ⟨by rfl, ?_⟩)) (by assumption) (by kernel_rfl) ?_
      rotate_left 1
      · intro w' hSw; have hcw := (H1.out.1.blk.upd hSw (fun e => e)).cells18; go_split_ands; first | (go_simp; done) | (go_simp; rfl) | rfl
      simp only [Act.put, List.getElem_toArray, List.getElem_cons_zero, List.getElem_cons_succ, List.setIfInBounds_toArray, List.set_cons_zero, List.set_cons_succ]
      refine wpAnyT_take (i := 4) (v := ?_) rfl (by kernel_rfl) (by kernel_rfl) (by kernel_rfl) (by kernel_rfl) (fun _ _ _ h => h) (takes_yield rfl (Or.inl ⟨by rfl, ?_⟩)) (by assumption) (by kernel_rfl) ?_
      rotate_left 1
      · intro w' hSw; have hcw := (H1.out.1.blk.upd hSw (fun e => e)).cells18; go_split_ands; first | (go_simp; done) | (go_simp; rfl) | rfl
      simp only [Act.put, List.getElem_toArray, List.getElem_cons_zero, List.getElem_cons_succ, List.setIfInBounds_toArray, List.set_cons_zero, List.set_cons_succ]
      refine wpAnyT_take (i := 5) (v := ?_) rfl (by kernel_rfl) (by kernel_rfl) (by kernel_rfl) (by kernel_rfl) (fun _ _ _ h => h) (takes_yield rfl (Or.inl ⟨by rfl, ?_⟩)) (by assumption) (by kernel_rfl) ?_
      rotate_left 1
      · intro w' hSw; have hcw := (H1.out.1.blk.upd hSw (fun e => e)).cells18; go_split_ands; first | (go_simp; done) | (go_simp; rfl) | rfl
      simp only [Act.put, List.getElem_toArray, List.getElem_cons_zero, List.getElem_cons_succ, List.setIfInBounds_toArray, List.set_cons_zero, List.set_cons_succ]
      refine wpAnyT_one (i := 6) (by kernel_rfl) rfl (fun K hK => ?_)
      go_simp
      refine (hSame.out _ hS0).mono ?_
      rintro e w2 ⟨rfl, hU2⟩
      have hS2 := hS0.then hU2 (fun _ e => e.elim)
      refine hK.out _ _ hS2 ?_
      clear hK hS0 hU2
      refine wpAnyT_take (i := 7) (v := ?_) rfl (by kernel_rfl) (by kernel_rfl) (by kernel_rfl) (by kernel_rfl) (fun _ _ _ h => h) (takes_yield rfl (Or.inl ⟨by rfl, ?_⟩)) (by assumption) (by kernel_rfl) ?_
      rotate_left 1
      · intro w' hSw; have hcw := (H1.out.1.blk.upd hSw (fun e => e)).cells18; go_split_ands; first | (go_simp; done) | (go_simp; rfl) | rfl
      simp only [Act.put, List.getElem_toArray, List.getElem_cons_zero, List.getElem_cons_succ, List.setIfInBounds_toArray, List.set_cons_zero, List.set_cons_succ]
      refine wpAnyT_take (i := 8) (v := ?_) rfl (by kernel_rfl) (by kernel_rfl) (by kernel_rfl) (by kernel_rfl) (fun _ _ _ h => h) (takes_yield rfl (Or.inl ⟨by rfl, ?_⟩)) (by assumption) (by kernel_rfl) ?_
      rotate_left 1
      · intro w' hSw; have hcw := (H1.out.1.blk.upd hSw (fun e => e)).cells18; go_split_ands; first | (go_simp; done) | (go_simp; rfl) | rfl
      simp only [Act.put, List.getElem_toArray, List.getElem_cons_zero, List.getElem_cons_succ, List.setIfInBounds_toArray, List.set_cons_zero, List.set_cons_succ]
      refine wpAnyT_take (i := 9) (v := ?_) rfl (by kernel_rfl) (by kernel_rfl) (by kernel_rfl) (by kernel_rfl) (fun _ _ _ h => h) (takes_yield rfl (Or.inl ⟨by rfl, ?_⟩)) (by assumption) (by kernel_rfl) ?_
      rotate_left 1
      · intro w' hSw; have hcw := (H1.out.1.blk.upd hSw (fun e => e)).cells18; go_split_ands; first | (go_simp; done) | (go_simp; rfl) | rfl
      simp only [Act.put, List.getElem_toArray, List.getElem_cons_zero, List.getElem_cons_succ, List.setIfInBounds_toArray, List.set_cons_zero, List.set_cons_succ]
      refine wpAnyT_take (i := 10) (v := ?_) rfl (by kernel_rfl) (by kernel_rfl) (by kernel_rfl) (by kernel_rfl) (fun _ _ _ h => h) (takes_yield rfl (Or.inl ⟨by rfl, ?_⟩)) (by assumption) (by kernel_rfl) ?_
      rotate_left 1
      · intro w' hSw; have hcw := (H1.out.1.blk.upd hSw (fun e => e)).cells18; go_split_ands; first | (go_simp; done) | (go_simp; rfl) | rfl
      simp only [Act.put, List.getElem_toArray, List.getElem_cons_zero, List.getElem_cons_succ, List.setIfInBounds_toArray, List.set_cons_zero, List.set_cons_succ]
      refine wpAnyT_take (i := 11) (v := ?_) rfl (by kernel_rfl) (by kernel_rfl) (by kernel_rfl) (by kernel_rfl) (fun _ _ _ h => h) (takes_yield rfl (Or.inl ⟨by rfl, ?_⟩)) (by assumption) (by kernel_rfl) ?_
      rotate_left 1
      · intro w' hSw; have hcw := (H1.out.1.blk.upd hSw (fun e => e)).cells18; go_split_ands; first | (go_simp; done) | (go_simp; rfl) | rfl
      simp only [Act.put, List.getElem_toArray, List.getElem_cons_zero, List.getElem_cons_succ, List.setIfInBounds_toArray, List.set_cons_zero, List.set_cons_succ]
      refine wpAnyT_take (i := 13) (v := ?_) rfl (by kernel_rfl) (by kernel_rfl) (by kernel_rfl) (by kernel_rfl) (fun _ _ _ h => h) (takes_yield rfl (Or.inl ⟨by rfl, ?_⟩)) (by assumption) (by kernel_rfl) ?_
      rotate_left 1
      · intro w' hSw; have hcw := (H1.out.1.blk.upd hSw (fun e => e)).cells18; go_split_ands; first | (go_simp; done) | (go_simp; rfl) | rfl
      simp only [Act.put, List.getElem_toArray, List.getElem_cons_zero, List.getElem_cons_succ, List.setIfInBounds_toArray, List.set_cons_zero, List.set_cons_succ]
      refine wpAnyT_take (i := 14) (v := ?_) rfl (by kernel_rfl) (by kernel_rfl) (by kernel_rfl) (by kernel_rfl) (fun _ _ _ h => h) (takes_yield rfl (Or.inl ⟨by rfl, ?_⟩)) (by assumption) (by kernel_rfl) ?_
      rotate_left 1
      · intro w' hSw; have hcw := (H1.out.1.blk.upd hSw (fun e => e)).cells18; go_split_ands; first | (go_simp; done) | (go_simp; rfl) | rfl
      simp only [Act.put, List.getElem_toArray, List.getElem_cons_zero, List.getElem_cons_succ, List.setIfInBounds_toArray, List.set_cons_zero, List.set_cons_succ]
      refine wpAnyT_take (i := 15) (v := ?_) rfl (by kernel_rfl) (by kernel_rfl) (by kernel_rfl) (by kernel_rfl) (fun _ _ _ h => h) (takes_yield rfl (Or.inl ⟨by rfl, ?_⟩)) (by assumption) (by kernel_rfl) ?_
      rotate_left 1
      · intro w' hSw; have hcw := (H1.out.1.blk.upd hSw (fun e => e)).cells18; go_split_ands; first | (go_simp; done) | (go_simp; rfl) | rfl
      simp only [Act.put, List.getElem_toArray, List.getElem_cons_zero, List.getElem_cons_succ, List.setIfInBounds_toArray, List.set_cons_zero, List.set_cons_succ]
      refine wpAnyT_take (i := 16) (v := ?_) rfl (by kernel_rfl) (by kernel_rfl) (by kernel_rfl) (by kernel_rfl) (fun _ _ _ h => h) (takes_yield rfl (Or.inl ⟨by rfl, ?_⟩)) (by assumption) (by kernel_rfl) ?_
      rotate_left 1
      · intro w' hSw; have hcw := (H1.out.1.blk.upd hSw (fun e => e)).cells18; go_split_ands; first | (go_simp; done) | (go_simp; rfl) | rfl
      simp only [Act.put, List.getElem_toArray, List.getElem_cons_zero, List.getElem_cons_succ, List.setIfInBounds_toArray, List.set_cons_zero, List.set_cons_succ]
      refine wpAnyT_take (i := 17) (v := ?_) rfl (by kernel_rfl) (by kernel_rfl) (by kernel_rfl) (by kernel_rfl) (fun _ _ _ h => h) (takes_yield rfl (Or.inl ⟨by rfl, ?_⟩)) (by assumption) (by kernel_rfl) ?_
      rotate_left 1
      · intro w' hSw; have hcw := (H1.out.1.blk.upd hSw (fun e => e)).cells18; go_split_ands; first | (go_simp; done) | (go_simp; rfl) | rfl
      simp only [Act.put, List.getElem_toArray, List.getElem_cons_zero, List.getElem_cons_succ, List.setIfInBounds_toArray, List.set_cons_zero, List.set_cons_succ]
      refine wpAnyT_take (i := 18) (v := ?_) rfl (by kernel_rfl) (by kernel_rfl) (by kernel_rfl) (by kernel_rfl) (fun _ _ _ h => h) (takes_yield rfl (Or.inl ⟨by rfl, ?_⟩)) (by assumption) (by kernel_rfl) ?_
      rotate_left 1
      · intro w' hSw; have hcw := (H1.out.1.blk.upd hSw (fun e => e)).cells18; go_split_ands; first | (go_simp; done) | (go_simp; rfl) | rfl
      simp only [Act.put, List.getElem_toArray, List.getElem_cons_zero, List.getElem_cons_succ, List.setIfInBounds_toArray, List.set_cons_zero, List.set_cons_succ]
      refine wpAnyT_take (i := 19) (v := ?_) rfl (by kernel_rfl) (by kernel_rfl) (by kernel_rfl) (by kernel_rfl) (fun _ _ _ h => h) (takes_yield rfl (Or.inl ⟨by rfl, ?_⟩)) (by assumption) (by kernel_rfl) ?_
      rotate_left 1
      · intro w' hSw; have hcw := (H1.out.1.blk.upd hSw (fun e => e)).cells18; go_split_ands; first | (go_simp; done) | (go_simp; rfl) | rfl
      simp only [Act.put, List.getElem_toArray, List.getElem_cons_zero, List.getElem_cons_succ, List.setIfInBounds_toArray, List.set_cons_zero, List.set_cons_succ]
      refine wpAnyT_take (i := 20) (v := ?_) rfl (by kernel_rfl) (by kernel_rfl) (by kernel_rfl) (by kernel_rfl) (fun _ _ _ h => h) (takes_yield rfl (Or.inl ⟨by rfl, ?_⟩)) (by assumption) (by kernel_rfl) ?_
      rotate_left 1
      · intro w' hSw; have hcw := (H1.out.1.blk.upd hSw (fun e => e)).cells18; go_split_ands; first | (go_simp; done) | (go_simp; rfl) | rfl
      simp only [Act.put, List.getElem_toArray, List.getElem_cons_zero, List.getElem_cons_succ, List.setIfInBounds_toArray, List.set_cons_zero, List.set_cons_succ]
      refine wpAnyT_take (i := 21) (v := ?_) rfl (by kernel_rfl) (by kernel_rfl) (by kernel_rfl) (by kernel_rfl) (fun _ _ _ h => h) (takes_yield rfl (Or.inl ⟨by rfl, ?_⟩)) (by assumption) (by kernel_rfl) ?_
      rotate_left 1
      · intro w' hSw; have hcw := (H1.out.1.blk.upd hSw (fun e => e)).cells18; go_split_ands; first | (go_simp; done) | (go_simp; rfl) | rfl
      simp only [Act.put, List.getElem_toArray, List.getElem_cons_zero, List.getElem_cons_succ, List.setIfInBounds_toArray, List.set_cons_zero, List.set_cons_succ]
      refine wpAnyT_take (i := 22) (v := ?_) rfl (by kernel_rfl) (by kernel_rfl) (by kernel_rfl) (by kernel_rfl) (fun _ _ _ h => h) (takes_yield rfl (Or.inl ⟨by rfl, ?_⟩)) (by assumption) (by kernel_rfl) ?_
      rotate_left 1
      · intro w' hSw; have hcw := (H1.out.1.blk.upd hSw (fun e => e)).cells18; go_split_ands; first | (go_simp; done) | (go_simp; rfl) | rfl
      simp only [Act.put, List.getElem_toArray, List.getElem_cons_zero, List.getElem_cons_succ, List.setIfInBounds_toArray, List.set_cons_zero, List.set_cons_succ]
      refine wpAnyT_take (i := 23) (v := ?_) rfl (by kernel_rfl) (by kernel_rfl) (by kernel_rfl) (by kernel_rfl) (fun _ _ _ h => h) (takes_yield rfl (Or.inl ⟨by rfl, ?_⟩)) (by assumption) (by kernel_rfl) ?_
      rotate_left 1
      · intro w' hSw; have hcw := (H1.out.1.blk.upd hSw (fun e => e)).cells18; go_split_ands; first | (go_simp; done) | (go_simp; rfl) | rfl
      simp only [Act.put, List.getElem_toArray, List.getElem_cons_zero, List.getElem_cons_succ, List.setIfInBounds_toArray, List.set_cons_zero, List.set_cons_succ]
      refine wpAnyT_one (i := 12) (by kernel_rfl) rfl (fun K hK => ?_)
      go_simp
      refine (HRo.out _ (H1.out.2.2.1.then hS2 (fun _ e => e.elim))).mono ?_
      rintro e w3 ⟨rfl, hU3⟩
      have hS3 := hS2.then hU3 (fun _ e => e.elim)
      refine hK.out _ _ hS3 ?_
      clear hK hS2 hU3
      rw [hsub.out]
      refine wpAnyT_take (i := 24) (v := ?_) rfl (by kernel_rfl) (by kernel_rfl) (by kernel_rfl) (by kernel_rfl) (fun _ _ _ h => h) (takes_yield rfl (Or.inl ⟨by rfl, ?_⟩)) (by assumption) (by kernel_rfl) ?_
      rotate_left 1
      · intro w' hSw; go_split_ands; first | (go_simp; done) | (go_simp; rfl) | rfl
      simp only [Act.put, List.getElem_toArray, List.getElem_cons_zero, List.getElem_cons_succ, List.setIfInBounds_toArray, List.set_cons_zero, List.set_cons_succ]
      refine wpAnyT_take (i := 25) (v := ?_) rfl (by kernel_rfl) (by kernel_rfl) (by kernel_rfl) (by kernel_rfl) (fun _ _ _ h => h) (takes_yield rfl (Or.inl ⟨by rfl, ?_⟩)) (by assumption) (by kernel_rfl) ?_
      rotate_left 1
      · intro w' hSw; go_split_ands; first | (go_simp; done) | (go_simp; rfl) | rfl
      simp only [Act.put, List.getElem_toArray, List.getElem_cons_zero, List.getElem_cons_succ, List.setIfInBounds_toArray, List.set_cons_zero, List.set_cons_succ]
      refine wpAnyT_take (i := 26) (v := ?_) rfl (by kernel_rfl) (by kernel_rfl) (by kernel_rfl) (by kernel_rfl) (fun _ _ _ h => h) (takes_yield rfl (Or.inl ⟨by rfl, ?_⟩)) (by assumption) (by kernel_rfl) ?_
      rotate_left 1
      · intro w' hSw; go_split_ands; first | (go_simp; done) | (go_simp; rfl) | rfl
      simp only [Act.put, List.getElem_toArray, List.getElem_cons_zero, List.getElem_cons_succ, List.setIfInBounds_toArray, List.set_cons_zero, List.set_cons_succ]
      refine wpAnyT_done (by kernel_rfl) ?_ _
      refine NoPanic.normal ?_
      go_wp2_with fail
      go_meet
      exact ⟨rfl, hS3⟩
    case rest =>
      obtain ⟨rfl, hU4⟩ := hcut
      rename World => w4
      have H4 := Lib.hid (And.intro (H1.out.2.1.upd hU4 (fun _ _ e => e)) (And.intro (H1.out.2.2.1.then hU4 (fun _ e => e.elim)) H1.out.2.2.2))
      clear hU4 hc1 hSame HRo HRe H1
      go_wp2_with fail
      go_loopw [5] (fun i wr => ∃ (k : Nat) (xs : List Value), k ≤ V.l.length ∧ i = .int .i64 (k : Int) ∧ Own wr 9 1 (.slice Av V.l.length cv) V.l.length xs ∧ Upd (fun _ => False) w wr) (fun i _ => V.l.length - (intOf i).toNat)
      case atStart => exact ⟨0, _, by omega, rfl, H4.out.1, H4.out.2.1⟩
      case round =>
        obtain ⟨k, xs, hk, rfl, hOw, hUw⟩ := hrel
        have HW := Lib.hid (And.intro hOw hUw)
        by_cases hlt : k < V.l.length
        · obtain ⟨g, cap, hg, -, -⟩ := hOw.head (by omega)
          injection hg with e1 e2 e3
          subst e1 e3
          have hxl := hOw.len
          have hcell := hOw.cellAt k (by omega)
          rw [List.getElem?_eq_getElem (by omega)] at hcell
          obtain ⟨u, hu⟩ : ∃ u, wr.cell? ⟨g, k, none⟩ = some u := ⟨_, hcell⟩
          clear hcell
          have hfr := hOw.frozenAt k (by omega)
          have hst := hOw.stored k (.string ⟨#[116, 117, 114, 110, 101, 100]⟩)
          have hge := H4.out.2.2 g (by simp [Value.ownBlock])
          have hUn : Upd (fun _ => False) w (wr.setCell ⟨g, k, none⟩ (.string ⟨#[116, 117, 114, 110, 101, 100]⟩)) := hUw.setCell (p := ⟨g, k, none⟩) (.inr hge) _
          have HN := Lib.hid (And.intro hst hUn)
          clear hOw hUw hst hUn hxl
          go_wp2_with fail
          go_roundw
          case rel => exact ⟨k + 1, _, by omega, by go_num, HN.out.1, HN.out.2⟩
          case measure => simp [intOf]; omega
        · clear hOw hUw
          go_wp2_with fail
          go_ret
          exact ⟨rfl, HW.out.2⟩
  · have hne : (n != 0) = true := bne_iff_ne.2 h1
    have H := Lib.hid hW
    clear hW h1
    go_enter Tryz.func13, Tryz.ntmps13
    go_wp2_with fail
    refine (records_nil _).mono ?_
    rintro e w1 ⟨rfl, rfl⟩
    go_wp2_with fail
    refine (room_nil _).mono ?_
    rintro e w2 ⟨rfl, rfl⟩
    go_wp2_with fail
    go_ret
    exact ⟨rfl, Upd.refl _ _⟩
end
end Go.Proofs.YtpfbgmfkeofefaaGreat
