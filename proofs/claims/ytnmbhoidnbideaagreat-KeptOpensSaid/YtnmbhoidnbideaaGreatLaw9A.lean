/-
  A law's world of chapter 09: both are opened again.
-/
import Derived.Test.YtnmbhoidnbideaaGreatPlay9
namespace Go.Proofs.YtnmbhoidnbideaaGreat
open Go Go.RowKit

/-- No record. -/
abbrev kz : Kp := ⟨0, [], 0, 0, 0, false⟩
/-- The law's own row. -/
abbrev row9 (p : Nat) (kv vl vw : Value) (r : Rd) (V : Kp) (n : Int) : Array Value :=
  #[.pointer (some ⟨p, 0, none⟩), kv, vl, vw, .int .i64 r.fuse, .bool r.off, .int .i64 (V.from_ : Int), .string (str V.text), .int .u64 (V.gen : Int), .int .i64 (V.at_ : Int), .int .u64 (V.seen : Int), .bool V.broken, .int .i64 n]
/-- What is kept, and the document's row of it. -/
def Keeps9 (w0 w : World) (p : Nat) (kv : Value) (V : Kp) (n : Int) : Prop :=
  (n = 0 ∧ V.fits ∧ ∃ b, kv = .pointer (some ⟨b, 0, none⟩) ∧ KpS w0 w p b V) ∨ (n ≠ 0 ∧ kv = .pointer none ∧ V = kz)
theorem Keeps9.one {w0 w : World} {p : Nat} {kv : Value} {V : Kp} {n : Int} (h : Keeps9 w0 w p kv V n) : kv.oneCell' = true := by
  rcases h with ⟨_, _, b, rfl, _⟩ | ⟨_, rfl, _⟩ <;> rfl
theorem Keeps9.kept {w0 w w' : World} {p : Nat} {kv : Value} {V : Kp} {n : Int} (h : Keeps9 w0 w p kv V n) (hk : ∀ b cs, Blk w b 110 cs → Blk w' b 110 cs) : Keeps9 w0 w' p kv V n := by
  rcases h with ⟨h1, h2, b, h3, h4⟩ | h
  · exact .inl ⟨h1, h2, b, h3, ⟨hk _ _ h4.blk, h4.new⟩⟩
  · exact .inr h
/-- A law's world. -/
structure W9 (w0 w : World) (x p : Nat) (d : Dk) (vl vw : Value) (r : Rd) (kv : Value) (V : Kp) (n : Int) : Prop where
  play : PlayAt w0 w p d vl vw r
  blk : Blk w x 41 (row9 p kv vl vw r V n)
  low : w0.heap.size ≤ x
  kept : Keeps9 w0 w p kv V n
theorem Blk.cells13 {w : World} {g : Nat} {t : TypeId} {a b c d e f h i j k l m n : Value} (z : Blk w g t #[a, b, c, d, e, f, h, i, j, k, l, m, n]) : w.cell? ⟨g, 0, none⟩ = some a ∧ w.cell? ⟨g, 1, none⟩ = some b ∧ w.cell? ⟨g, 2, none⟩ = some c ∧ w.cell? ⟨g, 3, none⟩ = some d ∧ w.cell? ⟨g, 4, none⟩ = some e ∧ w.cell? ⟨g, 5, none⟩ = some f ∧
    w.cell? ⟨g, 6, none⟩ = some h ∧ w.cell? ⟨g, 7, none⟩ = some i ∧ w.cell? ⟨g, 8, none⟩ = some j ∧ w.cell? ⟨g, 9, none⟩ = some k ∧ w.cell? ⟨g, 10, none⟩ = some l ∧ w.cell? ⟨g, 11, none⟩ = some m ∧ w.cell? ⟨g, 12, none⟩ = some n :=
  ⟨z.cell 0, z.cell 1, z.cell 2, z.cell 3, z.cell 4, z.cell 5, z.cell 6, z.cell 7, z.cell 8, z.cell 9, z.cell 10, z.cell 11, z.cell 12⟩
/-- A block of the law's own is written: what stands beside it. -/
theorem PlayAt.own {w0 w w' : World} {p g : Nat} {d : Dk} {vl vw : Value} {r : Rd} {t : TypeId} {cs : Array Value} (h : PlayAt w0 w p d vl vw r) (hB : Blk w g t cs) (h1 : t ≠ 104) (h2 : t ≠ 9) (h3 : t ≠ 126) (hg : w0.heap.size ≤ g) (hu : Upd (· = g) w w') : PlayAt w0 w' p d vl vw r :=
  ⟨h.disks.off hB h1 h2 hg hu, ⟨h.rd.lasts.upd hu (fun _ hq e => h.rd.ne hB (Ne.symm h2) (Ne.symm h3) (.inl (by rw [← show _ = g from e]; exact hq))), h.rd.ws.upd hu (fun _ hq e => h.rd.ne hB (Ne.symm h2) (Ne.symm h3) (.inr (by rw [← show _ = g from e]; exact hq)))⟩, h.is⟩
section
variable {w0 w w' : World} {x p : Nat} {d : Dk} {vl vw kv : Value} {r : Rd} {V : Kp} {n : Int}
theorem W9.still (h : W9 w0 w x p d vl vw r kv V n) (hu : Upd (fun _ => False) w w') : W9 w0 w' x p d vl vw r kv V n :=
  ⟨h.play.still hu, h.blk.upd hu (fun e => e), h.low, h.kept.kept fun _ _ hB => hB.upd hu (fun e => e)⟩
theorem W9.own {g : Nat} {t : TypeId} {cs : Array Value} (h : W9 w0 w x p d vl vw r kv V n) (hB : Blk w g t cs) (h1 : t ≠ 104) (h2 : t ≠ 9) (h3 : t ≠ 126) (h4 : t ≠ 41) (h5 : t ≠ 110) (hg : w0.heap.size ≤ g) (hu : Upd (· = g) w w') : W9 w0 w' x p d vl vw r kv V n :=
  ⟨h.play.own hB h1 h2 h3 hg hu, h.blk.upd hu (fun e => hB.ne_ h.blk h4 e.symm), h.low, h.kept.kept fun _ _ hb => hb.upd hu (fun e => hB.ne_ hb h5 e.symm)⟩
/-- A law's world, whatever is kept. -/
structure W9b (w0 w : World) (x p : Nat) (d : Dk) (vl vw : Value) (r : Rd) (kv : Value) (V : Kp) (n : Int) : Prop where
  play : PlayAt w0 w p d vl vw r
  blk : Blk w x 41 (row9 p kv vl vw r V n)
  low : w0.heap.size ≤ x
theorem W9.b (h : W9 w0 w x p d vl vw r kv V n) : W9b w0 w x p d vl vw r kv V n := ⟨h.play, h.blk, h.low⟩
theorem W9b.still (h : W9b w0 w x p d vl vw r kv V n) (hu : Upd (fun _ => False) w w') : W9b w0 w' x p d vl vw r kv V n := ⟨h.play.still hu, h.blk.upd hu (fun e => e), h.low⟩
theorem W9b.own {g : Nat} {t : TypeId} {cs : Array Value} (h : W9b w0 w x p d vl vw r kv V n) (hB : Blk w g t cs) (h1 : t ≠ 104) (h2 : t ≠ 9) (h3 : t ≠ 126) (h4 : t ≠ 41) (_h5 : t ≠ 110) (hg : w0.heap.size ≤ g) (hu : Upd (· = g) w w') : W9b w0 w' x p d vl vw r kv V n :=
  ⟨h.play.own hB h1 h2 h3 hg hu, h.blk.upd hu (fun e => hB.ne_ h.blk h4 e.symm), h.low⟩
/-- The law's own row is written. -/
theorem W9.wrote {kv' : Value} {V' : Kp} {n' : Int} (h : PlayAt w0 w p d vl vw r) (hB : Blk w x 41 (row9 p kv vl vw r V n)) (hl : w0.heap.size ≤ x) (hK : Keeps9 w0 w p kv' V' n') (hu : Upd (· = x) w w') (hB' : Blk w' x 41 (row9 p kv' vl vw r V' n')) : W9 w0 w' x p d vl vw r kv' V' n' :=
  ⟨h.own hB (by decide) (by decide) (by decide) hl hu, hB', hl, hK.kept fun _ _ hb => hb.upd hu (fun e => hB.ne_ hb (by decide) e.symm)⟩
set_option maxRecDepth 100000 in
set_option maxHeartbeats 3200000 in
theorem open_9b (hW : W9b w0 w x p d vl vw r kv V n) (f : Int) :
    Calls Tryz.prog 13 #[.pointer (some ⟨x, 0, none⟩), .int .i64 f] w fun e w' => e = .returned (.bool true) ∧ ∃ kv' V', W9 w0 w' x p d vl vw r kv' V' (openP d f).2 ∧ Upd (· = x) w w' := by
  have hD := hW.play.disks.one 0 rfl
  have hm := hD.wf.most
  obtain ⟨V', hV'⟩ : ∃ V' : Kp, openKp (openP d f).1 = V'.row ∧ (∀ k, (openP d f).1 = some k → V' = k) ∧ ((openP d f).1 = none → V' = kz) := by
    cases (openP d f).1 with
    | none => exact ⟨kz, rfl, fun k e => (by cases e), fun _ => rfl⟩
    | some k => exact ⟨k, rfl, fun k' e => by cases e; rfl, fun e => by cases e⟩
  have hO0 : Calls Tryz.prog 29 #[.pointer (some ⟨p, 0, none⟩), .int .i64 f] w fun e w' => ∃ kv', e = .returned (.tuple #[kv', .int .i64 (openP d f).2]) ∧ Keeps9 w0 w' p kv' V' (openP d f).2 ∧ Upd (fun _ => False) w w' := by
    refine (open_p hD f).mono ?_
    rintro e w' ⟨v, rfl, hS⟩
    refine ⟨v, rfl, ?_, hS.upd⟩
    rcases openP_err d f with ⟨h1, k, h2⟩ | ⟨h1, h2⟩
    · obtain ⟨b, hb, hk, _⟩ := hS.ok k h2
      obtain rfl := hV'.2.1 k h2
      exact .inl ⟨h1, openP_fits hm h2, b, hb, hk⟩
    · exact .inr ⟨h1, hS.bad h2, hV'.2.2 h2⟩
  have hR0 : ∀ W, Upd (fun _ => False) w W → Calls Tryz.prog 30 #[.agg #[vl, vw, .int .i64 r.fuse, .bool r.off], .int .i64 f] W fun e w' => e = .returned (.tuple #[.agg V'.row, .int .i64 (openP d f).2]) ∧ Upd (fun _ => False) W w' := fun W hu => by
    rw [← hV'.1]
    exact ropen_p (hW.play.rd.upd hu) hW.play.is hD.wf f
  obtain ⟨E, hE⟩ : ∃ E, (openP d f).2 = E := ⟨_, rfl⟩
  rw [hE] at hO0 hR0 ⊢
  have HO := Lib.hid hO0
  have HR := Lib.hid hR0
  have H := Lib.hid hW
  have hc := hW.blk.cells13
  clear hO0 hR0 hE hV' hD hm hW
  go_enter Tryz.func13, Tryz.ntmps13
  go_wp2_with fail
  refine HO.out.mono ?_
  rintro e w1 ⟨kv', rfl, hK, hU⟩
  have H1 := Lib.hid (And.intro (H.out.still hU) hK)
  have HU1 := Lib.hid hU
  have hc1 := (H.out.blk.upd hU (fun e => e)).cells13
  clear hK hU hc
  go_upto_region 2 with fail
  go_upto_region 3 with (first
    | (refine wpList_load_part rfl _ _ rfl x 2 rfl _ _ [vl, vw, .int .i64 r.fuse, .bool r.off] _ H1.out.1.blk (fun j v e => (by match j, e with | 0, e => exact e | 1, e => exact e | 2, e => exact e | 3, e => exact e)) Tryz.underlying32 rfl rfl ?_)
    | (go_at_call 30; refine (HR.out _ HU1.out).mono ?_; rintro e w2 ⟨rfl, hU2⟩
       have H2 := Lib.hid (And.intro (H1.out.1.still hU2) (H1.out.2.kept fun _ _ hB => hB.upd hU2 (fun e => e)))
       have HU2 := Lib.hid (HU1.out.then hU2 (fun _ e => e.elim))
       clear hU2)
    | (refine wpList_store_all rfl 39 _ _ rfl w2.heap.size V'.row rfl rfl _ _ (Blk.new w2 _ _) rfl (Kp.row_one _) (by kernel_rfl) ?_
       intro w3 hB3 hU3 hs3))
  have hlow2 : w0.heap.size ≤ w2.heap.size := H2.out.1.play.disks.upd.size
  have hne : x ≠ w2.heap.size := by have := H2.out.1.blk.lt; omega
  have H3 : Hid (W9b w0 w3 x p d vl vw r kv V n ∧ Keeps9 w0 w3 p kv' V' E) := by
    have hal := (Upd.refl (fun _ => False) w2).alloc (.cells zeroKp 39)
    exact Lib.hid ⟨(H2.out.1.still hal).own (Blk.new w2 _ _) (by decide) (by decide) (by decide) (by decide) (by decide) hlow2 hU3, H2.out.2.kept fun _ _ hB => (hB.upd hal (fun e => e)).upd hU3 (fun e => by have := hB.lt; omega)⟩
  have HU3 : Hid (Upd (fun _ => False) w w3) := Lib.hid ((HU2.out.alloc (.cells zeroKp 39)).then hU3 (fun q e => .inr (by have := HU2.out.size; omega)))
  have HB3 := Lib.hid hB3
  have Hne := Lib.hid hne
  have hone := Lib.hid H2.out.2.one
  clear hB3 hU3 hs3 hne hlow2
  refine wp_region_noPanic ?_
  refine wp_region_T (S := fun w' => Blk w' w2.heap.size 39 V'.row) (T := fun _ => false) (by kernel_rfl) ?_
  have hS0 := HB3.out.drew
  refine wpAnyT_take (i := 0) (v := ?_) rfl (by kernel_rfl) (by kernel_rfl) (by kernel_rfl) (by kernel_rfl) (fun _ _ _ h => h) (takes_yield rfl (Or.inl ⟨by rfl, ?_⟩)) (by assumption) (by kernel_rfl) ?_
  rotate_left 1
  · intro w' hSw; have hcw := hSw.cells6; go_split_ands; first | (go_simp; done) | (go_simp; rfl) | rfl
  simp only [Act.put, List.getElem_toArray, List.getElem_cons_zero, List.setIfInBounds_toArray, List.set_cons_zero, List.set_cons_succ]
  refine wpAnyT_take (i := 1) (v := ?_) rfl (by kernel_rfl) (by kernel_rfl) (by kernel_rfl) (by kernel_rfl) (fun _ _ _ h => h) (takes_yield rfl (Or.inl ⟨by rfl, ?_⟩)) (by assumption) (by kernel_rfl) ?_
  rotate_left 1
  · intro w' hSw; have hcw := hSw.cells6; go_split_ands; first | (go_simp; done) | (go_simp; rfl) | rfl
  simp only [Act.put, List.getElem_toArray, List.getElem_cons_zero, List.getElem_cons_succ, List.setIfInBounds_toArray, List.set_cons_zero, List.set_cons_succ]
  refine wpAnyT_take (i := 2) (v := ?_) rfl (by kernel_rfl) (by kernel_rfl) (by kernel_rfl) (by kernel_rfl) (fun _ _ _ h => h) (takes_yield rfl (Or.inl ⟨by rfl, ?_⟩)) (by assumption) (by kernel_rfl) ?_
  rotate_left 1
  · intro w' hSw; have hcw := hSw.cells6; go_split_ands; first | (go_simp; done) | (go_simp; rfl) | rfl
  simp only [Act.put, List.getElem_toArray, List.getElem_cons_zero, List.getElem_cons_succ, List.setIfInBounds_toArray, List.set_cons_zero, List.set_cons_succ]
  refine wpAnyT_take (i := 3) (v := ?_) rfl (by kernel_rfl) (by kernel_rfl) (by kernel_rfl) (by kernel_rfl) (fun _ _ _ h => h) (takes_yield rfl (Or.inl ⟨by rfl, ?_⟩)) (by assumption) (by kernel_rfl) ?_
  rotate_left 1
  · intro w' hSw; have hcw := hSw.cells6; go_split_ands; first | (go_simp; done) | (go_simp; rfl) | rfl
  simp only [Act.put, List.getElem_toArray, List.getElem_cons_zero, List.getElem_cons_succ, List.setIfInBounds_toArray, List.set_cons_zero, List.set_cons_succ]
  refine wpAnyT_take (i := 4) (v := ?_) rfl (by kernel_rfl) (by kernel_rfl) (by kernel_rfl) (by kernel_rfl) (fun _ _ _ h => h) (takes_yield rfl (Or.inl ⟨by rfl, ?_⟩)) (by assumption) (by kernel_rfl) ?_
  rotate_left 1
  · intro w' hSw; have hcw := hSw.cells6; go_split_ands; first | (go_simp; done) | (go_simp; rfl) | rfl
  simp only [Act.put, List.getElem_toArray, List.getElem_cons_zero, List.getElem_cons_succ, List.setIfInBounds_toArray, List.set_cons_zero, List.set_cons_succ]
  refine wpAnyT_take (i := 5) (v := ?_) rfl (by kernel_rfl) (by kernel_rfl) (by kernel_rfl) (by kernel_rfl) (fun _ _ _ h => h) (takes_yield rfl (Or.inl ⟨by rfl, ?_⟩)) (by assumption) (by kernel_rfl) ?_
  rotate_left 1
  · intro w' hSw; have hcw := hSw.cells6; go_split_ands; first | (go_simp; done) | (go_simp; rfl) | rfl
  simp only [Act.put, List.getElem_toArray, List.getElem_cons_zero, List.getElem_cons_succ, List.setIfInBounds_toArray, List.set_cons_zero, List.set_cons_succ]
  refine wpAnyT_take (i := 6) (v := ?_) rfl (by kernel_rfl) (by kernel_rfl) (by kernel_rfl) (by kernel_rfl) (fun _ _ _ h => h) (takes_yield rfl (Or.inl ⟨by rfl, ?_⟩)) (by assumption) (by kernel_rfl) ?_
  rotate_left 1
  · intro w' hSw; have hcw := hSw.cells6; go_split_ands; first | (go_simp; done) | (go_simp; rfl) | rfl
  simp only [Act.put, List.getElem_toArray, List.getElem_cons_zero, List.getElem_cons_succ, List.setIfInBounds_toArray, List.set_cons_zero, List.set_cons_succ]
  refine wpAnyT_take (i := 7) (v := ?_) rfl (by kernel_rfl) (by kernel_rfl) (by kernel_rfl) (by kernel_rfl) (fun _ _ _ h => h) (takes_yield rfl (Or.inl ⟨by rfl, ?_⟩)) (by assumption) (by kernel_rfl) ?_
  rotate_left 1
  · intro w' hSw; have hcw := hSw.cells6; go_split_ands; first | (go_simp; done) | (go_simp; rfl) | rfl
  simp only [Act.put, List.getElem_toArray, List.getElem_cons_zero, List.getElem_cons_succ, List.setIfInBounds_toArray, List.set_cons_zero, List.set_cons_succ]
  refine wpAnyT_one (i := 8) (by kernel_rfl) rfl (fun K hK => ?_)
  refine step_store_one (by rfl) 36 _ _ (by rfl) x 1 kv' (by rfl) (by rfl) _ _ (row9 p kv' vl vw r V n) H3.out.1.blk.drew (by simp) rfl hone.out (by kernel_rfl) ?_
  intro w4 hB4 hU4 hs4
  have hS4 := hS0.upd hU4 (Ne.symm Hne.out)
  refine hK.out _ _ hS4 ?_
  clear hK hS0
  refine wpAnyT_take (i := 9) (v := ?_) rfl (by kernel_rfl) (by kernel_rfl) (by kernel_rfl) (by kernel_rfl) (fun _ _ _ h => h) (takes_yield rfl (Or.inl ⟨by rfl, ?_⟩)) (by assumption) (by kernel_rfl) ?_
  rotate_left 1
  · intro w' hSw; go_split_ands; first | (go_simp; done) | (go_simp; rfl) | rfl
  simp only [Act.put, List.getElem_toArray, List.getElem_cons_zero, List.getElem_cons_succ, List.setIfInBounds_toArray, List.set_cons_zero, List.set_cons_succ]
  refine wpAnyT_take (i := 10) (v := ?_) rfl (by kernel_rfl) (by kernel_rfl) (by kernel_rfl) (by kernel_rfl) (fun _ _ _ h => h) (takes_yield rfl (Or.inl ⟨by rfl, ?_⟩)) (by assumption) (by kernel_rfl) ?_
  rotate_left 1
  · intro w' hSw; go_split_ands; first | (go_simp; done) | (go_simp; rfl) | rfl
  simp only [Act.put, List.getElem_toArray, List.getElem_cons_zero, List.getElem_cons_succ, List.setIfInBounds_toArray, List.set_cons_zero, List.set_cons_succ]
  refine wpAnyT_one (i := 11) (by kernel_rfl) rfl (fun K hK => ?_)
  refine step_store_part (by rfl) 39 _ _ (by rfl) x 6 V'.row (by rfl) (by rfl) _ _ (row9 p kv' vl vw r V' n) hB4 (by simp) rfl V'.row_one (by kernel_rfl) ?_
  intro w5 hB5 hU5 hs5
  have hS5 := hS4.upd hU5 (Ne.symm Hne.out)
  refine hK.out _ _ hS5 ?_
  clear hK hS4
  refine wpAnyT_take (i := 12) (v := ?_) rfl (by kernel_rfl) (by kernel_rfl) (by kernel_rfl) (by kernel_rfl) (fun _ _ _ h => h) (takes_yield rfl (Or.inl ⟨by rfl, ?_⟩)) (by assumption) (by kernel_rfl) ?_
  rotate_left 1
  · intro w' hSw; go_split_ands; first | (go_simp; done) | (go_simp; rfl) | rfl
  simp only [Act.put, List.getElem_toArray, List.getElem_cons_zero, List.getElem_cons_succ, List.setIfInBounds_toArray, List.set_cons_zero, List.set_cons_succ]
  refine wpAnyT_take (i := 13) (v := ?_) rfl (by kernel_rfl) (by kernel_rfl) (by kernel_rfl) (by kernel_rfl) (fun _ _ _ h => h) (takes_yield rfl (Or.inl ⟨by rfl, ?_⟩)) (by assumption) (by kernel_rfl) ?_
  rotate_left 1
  · intro w' hSw; go_split_ands; first | (go_simp; done) | (go_simp; rfl) | rfl
  simp only [Act.put, List.getElem_toArray, List.getElem_cons_zero, List.getElem_cons_succ, List.setIfInBounds_toArray, List.set_cons_zero, List.set_cons_succ]
  refine wpAnyT_one (i := 14) (by kernel_rfl) rfl (fun K hK => ?_)
  refine step_store_one (by rfl) 3 _ _ (by rfl) x 12 (.int .i64 E) (by rfl) (by rfl) _ _ (row9 p kv' vl vw r V' E) hB5 (by simp) rfl rfl (by kernel_rfl) ?_
  intro w6 hB6 hU6 hs6
  have hS6 := hS5.upd hU6 (Ne.symm Hne.out)
  refine hK.out _ _ hS6 ?_
  have hUx : Upd (· = x) w3.drew w6 := (hU4.then hU5 (fun _ e => .inl e)).then hU6 (fun _ e => .inl e)
  have hWn := W9.wrote (n' := E) (H3.out.1.still (Upd.refl _ w3).drew).play H3.out.1.blk.drew H3.out.1.low (H3.out.2.kept fun _ _ hB => hB.drew) hUx hB6
  have HUf : Hid (Upd (· = x) w w6) := Lib.hid ((HU3.out.mono (fun _ e => e.elim)).then ((Upd.refl (· = x) w3).drew.then hUx (fun _ e => .inl e)) (fun _ e => .inl e))
  have HE := Lib.hid hWn
  clear hK hS5 hS6 hB4 hU4 hs4 hB5 hU5 hs5 hB6 hU6 hs6 hUx hWn
  refine wpAnyT_done (by kernel_rfl) ?_ _
  refine NoPanic.normal ?_
  have hke := HE.out.kept
  rcases hke with ⟨h1, -, b, h2, -⟩ | ⟨h1, h2, -⟩
  · subst h1
    subst h2
    go_wp2_with fail
    go_ret
    exact ⟨rfl, _, _, HE.out, HUf.out⟩
  · have hE1 : (E != 0) = true := bne_iff_ne.2 h1
    subst h2
    clear h1
    go_wp2_with fail
    go_ret
    exact ⟨rfl, _, _, HE.out, HUf.out⟩
theorem open_9u (hW : W9 w0 w x p d vl vw r kv V n) (f : Int) :
    Calls Tryz.prog 13 #[.pointer (some ⟨x, 0, none⟩), .int .i64 f] w fun e w' => e = .returned (.bool true) ∧ ∃ kv' V', W9 w0 w' x p d vl vw r kv' V' (openP d f).2 ∧ Upd (· = x) w w' := open_9b hW.b f
theorem open_9 (hW : W9 w0 w x p d vl vw r kv V n) (f : Int) :
    Calls Tryz.prog 13 #[.pointer (some ⟨x, 0, none⟩), .int .i64 f] w fun e w' => e = .returned (.bool true) ∧ ∃ kv' V', W9 w0 w' x p d vl vw r kv' V' (openP d f).2 :=
  (open_9u hW f).mono fun _ _ ⟨h1, kv', V', h2, _⟩ => ⟨h1, kv', V', h2⟩
end
end Go.Proofs.YtnmbhoidnbideaaGreat
