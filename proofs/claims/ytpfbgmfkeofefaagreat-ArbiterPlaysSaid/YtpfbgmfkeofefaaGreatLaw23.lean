/-
  A law's world of chapter 23: both are opened again. (Printed by mk_law23a.py.)
-/
import Derived.Test.YtpfbgmfkeofefaaGreatArb23
import Derived.Test.YtpfbgmfkeofefaaGreatMore
import Derived.Test.YtpfbgmfkeofefaaGreatPlayE
import Derived.Test.YtpfbgmfkeofefaaGreatActs23
namespace Go.Proofs.YtpfbgmfkeofefaaGreat
open Go Go.RowKit

/-- No record. -/
abbrev kz : Kp := ⟨0, [], 0, 0, 0, false⟩
/-- The law's own row. -/
abbrev row23 (p : Nat) (kv vl vw : Value) (r : Rd) (V : Kp) (N : Nat) (hh : Int) (n : Int) : Array Value :=
  #[.pointer (some ⟨p, 0, none⟩), kv, vl, vw, .int .i64 r.fuse, .bool r.off, .int .i64 (V.from_ : Int), .string (str V.text), .int .u64 (V.gen : Int), .int .i64 (V.at_ : Int), .int .u64 (V.seen : Int), .bool V.broken, .int .i64 (N : Int), .int .i64 hh, .int .i64 n]
/-- What is kept, and the document's row of it. -/
def Keeps23 (w0 w : World) (p : Nat) (kv : Value) (V : Kp) (N : Nat) (hh : Int) (n : Int) : Prop :=
  (n = 0 ∧ V.fits ∧ N ≤ 9223372036854775807 ∧ ∃ a b, kv = .pointer (some ⟨a, 0, none⟩) ∧ ArbS w0 w a b N hh ∧ KpS w0 w p b V) ∨ (n ≠ 0 ∧ kv = .pointer none ∧ V = kz ∧ N = 0 ∧ hh = 0)
theorem Keeps23.one {w0 w : World} {p : Nat} {kv : Value} {V : Kp} {N : Nat} {hh n : Int} (h : Keeps23 w0 w p kv V N hh n) : kv.oneCell' = true := by
  rcases h with ⟨_, _, _, a, b, rfl, _⟩ | ⟨_, rfl, _⟩ <;> rfl
theorem Keeps23.kept {w0 w w' : World} {p : Nat} {kv : Value} {V : Kp} {N : Nat} {hh n : Int} (h : Keeps23 w0 w p kv V N hh n) (hk : ∀ b t cs, t = 122 ∨ t = 143 → Blk w b t cs → Blk w' b t cs) : Keeps23 w0 w' p kv V N hh n := by
  rcases h with ⟨h1, h2, h3, a, b, h4, h5, h6⟩ | h
  · exact .inl ⟨h1, h2, h3, a, b, h4, ⟨hk _ _ _ (.inr rfl) h5.blk, h5.new⟩, ⟨hk _ _ _ (.inl rfl) h6.blk, h6.new⟩⟩
  · exact .inr h
theorem Keeps23.still {w0 w w' : World} {p : Nat} {kv : Value} {V : Kp} {N : Nat} {hh n : Int} (h : Keeps23 w0 w p kv V N hh n) (hu : Upd (fun _ => False) w w') : Keeps23 w0 w' p kv V N hh n := h.kept fun _ _ _ _ hB => hB.upd hu (fun e => e)
theorem Keeps23.own {w0 w w' : World} {p g : Nat} {kv : Value} {V : Kp} {N : Nat} {hh n : Int} {t : TypeId} {cs : Array Value} (h : Keeps23 w0 w p kv V N hh n) (hB : Blk w g t cs) (h1 : t ≠ 122) (h2 : t ≠ 143) (hu : Upd (· = g) w w') : Keeps23 w0 w' p kv V N hh n :=
  h.kept fun _ _ _ ht hb => hb.upd hu (fun e => hB.ne_ hb (by rcases ht with rfl | rfl <;> assumption) e.symm)
/-- A law's world. -/
structure W23 (w0 w : World) (x p : Nat) (d : Dk) (vl vw : Value) (r : Rd) (kv : Value) (V : Kp) (N : Nat) (hh : Int) (n : Int) : Prop where
  play : PlayAt w0 w p d vl vw r
  blk : Blk w x 71 (row23 p kv vl vw r V N hh n)
  low : w0.heap.size ≤ x
  kept : Keeps23 w0 w p kv V N hh n
theorem Blk.cells15 {w : World} {g : Nat} {t : TypeId} {a b c d e f h i j k l m n o q : Value} (z : Blk w g t #[a, b, c, d, e, f, h, i, j, k, l, m, n, o, q]) : w.cell? ⟨g, 0, none⟩ = some a ∧ w.cell? ⟨g, 1, none⟩ = some b ∧ w.cell? ⟨g, 2, none⟩ = some c ∧ w.cell? ⟨g, 3, none⟩ = some d ∧ w.cell? ⟨g, 4, none⟩ = some e ∧ w.cell? ⟨g, 5, none⟩ = some f ∧ w.cell? ⟨g, 6, none⟩ = some h ∧ w.cell? ⟨g, 7, none⟩ = some i ∧ w.cell? ⟨g, 8, none⟩ = some j ∧ w.cell? ⟨g, 9, none⟩ = some k ∧ w.cell? ⟨g, 10, none⟩ = some l ∧ w.cell? ⟨g, 11, none⟩ = some m ∧ w.cell? ⟨g, 12, none⟩ = some n ∧ w.cell? ⟨g, 13, none⟩ = some o ∧ w.cell? ⟨g, 14, none⟩ = some q :=
  ⟨z.cell 0, z.cell 1, z.cell 2, z.cell 3, z.cell 4, z.cell 5, z.cell 6, z.cell 7, z.cell 8, z.cell 9, z.cell 10, z.cell 11, z.cell 12, z.cell 13, z.cell 14⟩
/-- A block of the law's own is written: what stands beside it. -/
theorem PlayAt.own23 {w0 w w' : World} {p g : Nat} {d : Dk} {vl vw : Value} {r : Rd} {t : TypeId} {cs : Array Value} (h : PlayAt w0 w p d vl vw r) (hB : Blk w g t cs) (h1 : t ≠ 93) (h2 : t ≠ 9) (h3 : t ≠ 117) (hg : w0.heap.size ≤ g) (hu : Upd (· = g) w w') : PlayAt w0 w' p d vl vw r :=
  ⟨h.disks.off hB h1 h2 hg hu, ⟨h.rd.lasts.upd hu (fun _ hq e => h.rd.ne hB (Ne.symm h2) (Ne.symm h3) (.inl (by rw [← show _ = g from e]; exact hq))), h.rd.ws.upd hu (fun _ hq e => h.rd.ne hB (Ne.symm h2) (Ne.symm h3) (.inr (by rw [← show _ = g from e]; exact hq)))⟩, h.is⟩
section
variable {w0 w w' : World} {x p : Nat} {d : Dk} {vl vw kv : Value} {r : Rd} {V : Kp} {N : Nat} {hh : Int} {n : Int}
theorem W23.still (h : W23 w0 w x p d vl vw r kv V N hh n) (hu : Upd (fun _ => False) w w') : W23 w0 w' x p d vl vw r kv V N hh n :=
  ⟨h.play.still hu, h.blk.upd hu (fun e => e), h.low, h.kept.still hu⟩
theorem W23.own {g : Nat} {t : TypeId} {cs : Array Value} (h : W23 w0 w x p d vl vw r kv V N hh n) (hB : Blk w g t cs) (h1 : t ≠ 93) (h2 : t ≠ 9) (h3 : t ≠ 117) (h4 : t ≠ 71) (h5 : t ≠ 122) (h6 : t ≠ 143) (hg : w0.heap.size ≤ g) (hu : Upd (· = g) w w') : W23 w0 w' x p d vl vw r kv V N hh n :=
  ⟨h.play.own23 hB h1 h2 h3 hg hu, h.blk.upd hu (fun e => hB.ne_ h.blk h4 e.symm), h.low, h.kept.own hB h5 h6 hu⟩
/-- A law's world, whatever is kept. -/
structure W23b (w0 w : World) (x p : Nat) (d : Dk) (vl vw : Value) (r : Rd) (kv : Value) (V : Kp) (N : Nat) (hh : Int) (n : Int) : Prop where
  play : PlayAt w0 w p d vl vw r
  blk : Blk w x 71 (row23 p kv vl vw r V N hh n)
  low : w0.heap.size ≤ x
theorem W23.b (h : W23 w0 w x p d vl vw r kv V N hh n) : W23b w0 w x p d vl vw r kv V N hh n := ⟨h.play, h.blk, h.low⟩
theorem W23b.still (h : W23b w0 w x p d vl vw r kv V N hh n) (hu : Upd (fun _ => False) w w') : W23b w0 w' x p d vl vw r kv V N hh n := ⟨h.play.still hu, h.blk.upd hu (fun e => e), h.low⟩
theorem W23b.own {g : Nat} {t : TypeId} {cs : Array Value} (h : W23b w0 w x p d vl vw r kv V N hh n) (hB : Blk w g t cs) (h1 : t ≠ 93) (h2 : t ≠ 9) (h3 : t ≠ 117) (h4 : t ≠ 71) (_h5 : t ≠ 122) (hg : w0.heap.size ≤ g) (hu : Upd (· = g) w w') : W23b w0 w' x p d vl vw r kv V N hh n :=
  ⟨h.play.own23 hB h1 h2 h3 hg hu, h.blk.upd hu (fun e => hB.ne_ h.blk h4 e.symm), h.low⟩
/-- The law's own row is written. -/
theorem W23.wrote {kv' : Value} {V' : Kp} {N' : Nat} {hh' : Int} {n' : Int} (h : PlayAt w0 w p d vl vw r) (hB : Blk w x 71 (row23 p kv vl vw r V N hh n)) (hl : w0.heap.size ≤ x) (hK : Keeps23 w0 w p kv' V' N' hh' n') (hu : Upd (· = x) w w') (hB' : Blk w' x 71 (row23 p kv' vl vw r V' N' hh' n')) : W23 w0 w' x p d vl vw r kv' V' N' hh' n' :=
  ⟨h.own23 hB (by decide) (by decide) (by decide) hl hu, hB', hl, hK.own hB (by decide) (by decide) hu⟩
set_option maxRecDepth 100000 in
set_option maxHeartbeats 3200000 in
theorem open_23b (hW : W23b w0 w x p d vl vw r kv V N hh n) :
    Calls Tryz.prog 24 #[.pointer (some ⟨x, 0, none⟩)] w fun e w' => e = .returned (.bool true) ∧ ∃ kv' V' N' hh', W23 w0 w' x p d vl vw r kv' V' N' hh' (openAP d).2 ∧ Upd (· = x) w w' := by
  have hD := hW.play.disks.one 0 rfl
  have hm := hD.wf.most
  obtain ⟨V', N', hh', hV'⟩ : ∃ (V' : Kp) (N' : Nat) (hh' : Int), openAr (openAP d).1 = rowA V' N' hh' ∧ (∀ k n h, (openAP d).1 = some (k, n, h) → V' = k ∧ N' = n ∧ hh' = h) ∧ ((openAP d).1 = none → V' = kz ∧ N' = 0 ∧ hh' = 0) := by
    cases (openAP d).1 with
    | none => exact ⟨kz, 0, 0, rfl, fun k n h e => (by cases e), fun _ => ⟨rfl, rfl, rfl⟩⟩
    | some k =>
      obtain ⟨k, n, h⟩ := k
      refine ⟨k, n, h, rfl, fun k' n' h' e => ?_, fun e => by cases e⟩
      simp only [Option.some.injEq, Prod.mk.injEq] at e
      exact e
  have hO0 : Calls Tryz.prog 29 #[.pointer (some ⟨p, 0, none⟩)] w fun e w' => ∃ kv', e = .returned (.tuple #[kv', .int .i64 (openAP d).2]) ∧ Keeps23 w0 w' p kv' V' N' hh' (openAP d).2 ∧ Upd (fun _ => False) w w' := by
    refine (aopen_p hD).mono ?_
    rintro e w' ⟨v, rfl, hS⟩
    refine ⟨v, rfl, ?_, hS.upd⟩
    rcases openAP_err d with ⟨h1, k, n1, h1', h2⟩ | ⟨h1, h2⟩
    · obtain ⟨a, b, hb, ha, hk, _⟩ := hS.ok k n1 h1' h2
      obtain ⟨rfl, rfl, rfl⟩ := hV'.2.1 k n1 h1' h2
      obtain ⟨f1, f2⟩ := openAP_fits hm h2
      exact .inl ⟨h1, f1, f2, a, b, hb, ha, hk⟩
    · exact .inr ⟨h1, hS.bad h2, hV'.2.2 h2⟩
  have hR0 : ∀ W, Upd (fun _ => False) w W → Calls Tryz.prog 65 #[.agg #[vl, vw, .int .i64 r.fuse, .bool r.off]] W fun e w' => e = .returned (.tuple #[.agg (rowA V' N' hh'), .int .i64 (openAP d).2]) ∧ Upd (fun _ => False) W w' := fun W hu => by
    rw [← hV'.1]
    exact raopen_p (hW.play.rd.upd hu) hW.play.is hD.wf
  obtain ⟨E, hE⟩ : ∃ E, (openAP d).2 = E := ⟨_, rfl⟩
  rw [hE] at hO0 hR0 ⊢
  have HO := Lib.hid hO0
  have HR := Lib.hid hR0
  have H := Lib.hid hW
  have hc := hW.blk.cells15
  clear hO0 hR0 hE hV' hD hm hW
  go_enter Tryz.func24, Tryz.ntmps24
  go_wp2_with fail
  refine HO.out.mono ?_
  rintro e w1 ⟨kv', rfl, hK, hU⟩
  have H1 := Lib.hid (And.intro (H.out.still hU) hK)
  have HU1 := Lib.hid hU
  have hc1 := (H.out.blk.upd hU (fun e => e)).cells15
  clear hK hU hc
  go_upto_region 2 with fail
  go_upto_region 3 with (first
    | (refine wpList_load_part rfl _ _ rfl x 2 rfl _ _ [vl, vw, .int .i64 r.fuse, .bool r.off] _ H1.out.1.blk (fun j v e => (by match j, e with | 0, e => exact e | 1, e => exact e | 2, e => exact e | 3, e => exact e)) Tryz.underlying33 rfl rfl ?_)
    | (go_at_call 65; refine (HR.out _ HU1.out).mono ?_; rintro e w2 ⟨rfl, hU2⟩
       have H2 := Lib.hid (And.intro (H1.out.1.still hU2) (H1.out.2.still hU2))
       have HU2 := Lib.hid (HU1.out.then hU2 (fun _ e => e.elim))
       clear hU2)
    | (refine wpList_store_all rfl 69 _ _ rfl w2.heap.size (rowA V' N' hh') rfl rfl _ _ (Blk.new w2 _ _) rfl (rowA_one _ _ _) (by kernel_rfl) ?_
       intro w3 hB3 hU3 hs3))
  have hlow2 : w0.heap.size ≤ w2.heap.size := H2.out.1.play.disks.upd.size
  have hne : x ≠ w2.heap.size := by have := H2.out.1.blk.lt; omega
  have H3 : Hid (W23b w0 w3 x p d vl vw r kv V N hh n ∧ Keeps23 w0 w3 p kv' V' N' hh' E) := by
    have hal := (Upd.refl (fun _ => False) w2).alloc (.cells zeroAr 69)
    exact Lib.hid ⟨(H2.out.1.still hal).own (Blk.new w2 _ _) (by decide) (by decide) (by decide) (by decide) (by decide) hlow2 hU3, (H2.out.2.still hal).own (Blk.new w2 _ _) (by decide) (by decide) hU3⟩
  have HU3 : Hid (Upd (fun _ => False) w w3) := Lib.hid ((HU2.out.alloc (.cells zeroAr 69)).then hU3 (fun q e => .inr (by have := HU2.out.size; omega)))
  have HB3 := Lib.hid hB3
  have Hne := Lib.hid hne
  have hone := Lib.hid H2.out.2.one
  clear hB3 hU3 hs3 hne hlow2
  refine wp_region_noPanic ?_
  refine wp_region_T (S := fun w' => Blk w' w2.heap.size 69 (rowA V' N' hh')) (T := fun _ => false) (by kernel_rfl) ?_
  have hS0 := HB3.out.drew
  refine wpAnyT_take (i := 0) (v := ?_) rfl (by kernel_rfl) (by kernel_rfl) (by kernel_rfl) (by kernel_rfl) (fun _ _ _ h => h) (takes_yield rfl (Or.inl ⟨by rfl, ?_⟩)) (by assumption) (by kernel_rfl) ?_
  rotate_left 1
  · intro w' hSw; have hcw := hSw.cells8; go_split_ands; first | (go_simp; done) | (go_simp; rfl) | rfl
  simp only [Act.put, List.getElem_toArray, List.getElem_cons_zero, List.setIfInBounds_toArray, List.set_cons_zero, List.set_cons_succ]
  refine wpAnyT_take (i := 1) (v := ?_) rfl (by kernel_rfl) (by kernel_rfl) (by kernel_rfl) (by kernel_rfl) (fun _ _ _ h => h) (takes_yield rfl (Or.inl ⟨by rfl, ?_⟩)) (by assumption) (by kernel_rfl) ?_
  rotate_left 1
  · intro w' hSw; have hcw := hSw.cells8; go_split_ands; first | (go_simp; done) | (go_simp; rfl) | rfl
  simp only [Act.put, List.getElem_toArray, List.getElem_cons_zero, List.getElem_cons_succ, List.setIfInBounds_toArray, List.set_cons_zero, List.set_cons_succ]
  refine wpAnyT_take (i := 2) (v := ?_) rfl (by kernel_rfl) (by kernel_rfl) (by kernel_rfl) (by kernel_rfl) (fun _ _ _ h => h) (takes_yield rfl (Or.inl ⟨by rfl, ?_⟩)) (by assumption) (by kernel_rfl) ?_
  rotate_left 1
  · intro w' hSw; have hcw := hSw.cells8; go_split_ands; first | (go_simp; done) | (go_simp; rfl) | rfl
  simp only [Act.put, List.getElem_toArray, List.getElem_cons_zero, List.getElem_cons_succ, List.setIfInBounds_toArray, List.set_cons_zero, List.set_cons_succ]
  refine wpAnyT_take (i := 3) (v := ?_) rfl (by kernel_rfl) (by kernel_rfl) (by kernel_rfl) (by kernel_rfl) (fun _ _ _ h => h) (takes_yield rfl (Or.inl ⟨by rfl, ?_⟩)) (by assumption) (by kernel_rfl) ?_
  rotate_left 1
  · intro w' hSw; have hcw := hSw.cells8; go_split_ands; first | (go_simp; done) | (go_simp; rfl) | rfl
  simp only [Act.put, List.getElem_toArray, List.getElem_cons_zero, List.getElem_cons_succ, List.setIfInBounds_toArray, List.set_cons_zero, List.set_cons_succ]
  refine wpAnyT_take (i := 4) (v := ?_) rfl (by kernel_rfl) (by kernel_rfl) (by kernel_rfl) (by kernel_rfl) (fun _ _ _ h => h) (takes_yield rfl (Or.inl ⟨by rfl, ?_⟩)) (by assumption) (by kernel_rfl) ?_
  rotate_left 1
  · intro w' hSw; have hcw := hSw.cells8; go_split_ands; first | (go_simp; done) | (go_simp; rfl) | rfl
  simp only [Act.put, List.getElem_toArray, List.getElem_cons_zero, List.getElem_cons_succ, List.setIfInBounds_toArray, List.set_cons_zero, List.set_cons_succ]
  refine wpAnyT_take (i := 5) (v := ?_) rfl (by kernel_rfl) (by kernel_rfl) (by kernel_rfl) (by kernel_rfl) (fun _ _ _ h => h) (takes_yield rfl (Or.inl ⟨by rfl, ?_⟩)) (by assumption) (by kernel_rfl) ?_
  rotate_left 1
  · intro w' hSw; have hcw := hSw.cells8; go_split_ands; first | (go_simp; done) | (go_simp; rfl) | rfl
  simp only [Act.put, List.getElem_toArray, List.getElem_cons_zero, List.getElem_cons_succ, List.setIfInBounds_toArray, List.set_cons_zero, List.set_cons_succ]
  refine wpAnyT_take (i := 6) (v := ?_) rfl (by kernel_rfl) (by kernel_rfl) (by kernel_rfl) (by kernel_rfl) (fun _ _ _ h => h) (takes_yield rfl (Or.inl ⟨by rfl, ?_⟩)) (by assumption) (by kernel_rfl) ?_
  rotate_left 1
  · intro w' hSw; have hcw := hSw.cells8; go_split_ands; first | (go_simp; done) | (go_simp; rfl) | rfl
  simp only [Act.put, List.getElem_toArray, List.getElem_cons_zero, List.getElem_cons_succ, List.setIfInBounds_toArray, List.set_cons_zero, List.set_cons_succ]
  refine wpAnyT_take (i := 7) (v := ?_) rfl (by kernel_rfl) (by kernel_rfl) (by kernel_rfl) (by kernel_rfl) (fun _ _ _ h => h) (takes_yield rfl (Or.inl ⟨by rfl, ?_⟩)) (by assumption) (by kernel_rfl) ?_
  rotate_left 1
  · intro w' hSw; have hcw := hSw.cells8; go_split_ands; first | (go_simp; done) | (go_simp; rfl) | rfl
  simp only [Act.put, List.getElem_toArray, List.getElem_cons_zero, List.getElem_cons_succ, List.setIfInBounds_toArray, List.set_cons_zero, List.set_cons_succ]
  refine wpAnyT_one (i := 8) (by kernel_rfl) rfl (fun K hK => ?_)
  refine step_store_one (by rfl) 67 _ _ (by rfl) x 1 kv' (by rfl) (by rfl) _ _ (row23 p kv' vl vw r V N hh n) H3.out.1.blk.drew (by simp) rfl hone.out (by kernel_rfl) ?_
  intro w4 hB4 hU4 hs4
  have hS4 := hS0.upd hU4 (Ne.symm Hne.out)
  refine hK.out _ _ hS4 ?_
  clear hK hS0
  refine wpAnyT_take (i := 9) (v := ?_) rfl (by kernel_rfl) (by kernel_rfl) (by kernel_rfl) (by kernel_rfl) (fun _ _ _ h => h) (takes_yield rfl (Or.inl ⟨by rfl, ?_⟩)) (by assumption) (by kernel_rfl) ?_
  rotate_left 1
  · intro w' hSw; go_split_ands; first | (go_simp; done) | (go_simp; rfl) | rfl
  simp only [Act.put, List.getElem_toArray, List.getElem_cons_zero, List.getElem_cons_succ, List.setIfInBounds_toArray, List.set_cons_zero, List.set_cons_succ]
  refine wpAnyT_take (i := 10) (v := ?_) rfl (by kernel_rfl) (by kernel_rfl) (by kernel_rfl) (by kernel_rfl) (fun _ _ _ h => h) (takes_yield rfl (Or.inl ⟨by rfl, ?_⟩)) (by assumption) (by kernel_rfl) ?_
  rotate_left 1
  · intro w' hSw; go_split_ands; first | (go_simp; done) | (go_simp; rfl) | rfl
  simp only [Act.put, List.getElem_toArray, List.getElem_cons_zero, List.getElem_cons_succ, List.setIfInBounds_toArray, List.set_cons_zero, List.set_cons_succ]
  refine wpAnyT_one (i := 11) (by kernel_rfl) rfl (fun K hK => ?_)
  refine step_store_part (by rfl) 69 _ _ (by rfl) x 6 (rowA V' N' hh') (by rfl) (by rfl) _ _ (row23 p kv' vl vw r V' N' hh' n) hB4 (by simp) rfl (rowA_one V' N' hh') (by kernel_rfl) ?_
  intro w5 hB5 hU5 hs5
  have hS5 := hS4.upd hU5 (Ne.symm Hne.out)
  refine hK.out _ _ hS5 ?_
  clear hK hS4
  refine wpAnyT_take (i := 12) (v := ?_) rfl (by kernel_rfl) (by kernel_rfl) (by kernel_rfl) (by kernel_rfl) (fun _ _ _ h => h) (takes_yield rfl (Or.inl ⟨by rfl, ?_⟩)) (by assumption) (by kernel_rfl) ?_
  rotate_left 1
  · intro w' hSw; go_split_ands; first | (go_simp; done) | (go_simp; rfl) | rfl
  simp only [Act.put, List.getElem_toArray, List.getElem_cons_zero, List.getElem_cons_succ, List.setIfInBounds_toArray, List.set_cons_zero, List.set_cons_succ]
  refine wpAnyT_take (i := 13) (v := ?_) rfl (by kernel_rfl) (by kernel_rfl) (by kernel_rfl) (by kernel_rfl) (fun _ _ _ h => h) (takes_yield rfl (Or.inl ⟨by rfl, ?_⟩)) (by assumption) (by kernel_rfl) ?_
  rotate_left 1
  · intro w' hSw; go_split_ands; first | (go_simp; done) | (go_simp; rfl) | rfl
  simp only [Act.put, List.getElem_toArray, List.getElem_cons_zero, List.getElem_cons_succ, List.setIfInBounds_toArray, List.set_cons_zero, List.set_cons_succ]
  refine wpAnyT_one (i := 14) (by kernel_rfl) rfl (fun K hK => ?_)
  refine step_store_one (by rfl) 3 _ _ (by rfl) x 14 (.int .i64 E) (by rfl) (by rfl) _ _ (row23 p kv' vl vw r V' N' hh' E) hB5 (by simp) rfl rfl (by kernel_rfl) ?_
  intro w6 hB6 hU6 hs6
  have hS6 := hS5.upd hU6 (Ne.symm Hne.out)
  refine hK.out _ _ hS6 ?_
  have hUx : Upd (· = x) w3.drew w6 := (hU4.then hU5 (fun _ e => .inl e)).then hU6 (fun _ e => .inl e)
  have hWn := W23.wrote (n' := E) (H3.out.1.still (Upd.refl _ w3).drew).play H3.out.1.blk.drew H3.out.1.low (H3.out.2.still (Upd.refl _ w3).drew) hUx hB6
  have HUf : Hid (Upd (· = x) w w6) := Lib.hid ((HU3.out.mono (fun _ e => e.elim)).then ((Upd.refl (· = x) w3).drew.then hUx (fun _ e => .inl e)) (fun _ e => .inl e))
  have HE := Lib.hid hWn
  clear hK hS5 hS6 hB4 hU4 hs4 hB5 hU5 hs5 hB6 hU6 hs6 hUx hWn
  refine wpAnyT_done (by kernel_rfl) ?_ _
  refine NoPanic.normal ?_
  have hke := HE.out.kept
  rcases hke with ⟨h1, -, -, a, b, h2, -⟩ | ⟨h1, h2, -⟩
  · subst h1
    subst h2
    go_wp2_with fail
    go_ret
    exact ⟨rfl, _, _, _, _, HE.out, HUf.out⟩
  · have hE1 : (E != 0) = true := bne_iff_ne.2 h1
    subst h2
    clear h1
    go_wp2_with fail
    go_ret
    exact ⟨rfl, _, _, _, _, HE.out, HUf.out⟩
theorem open_23 (hW : W23 w0 w x p d vl vw r kv V N hh n) :
    Calls Tryz.prog 24 #[.pointer (some ⟨x, 0, none⟩)] w fun e w' => e = .returned (.bool true) ∧ ∃ kv' V' N' hh', W23 w0 w' x p d vl vw r kv' V' N' hh' (openAP d).2 :=
  (open_23b hW.b).mono fun _ _ ⟨h1, kv', V', N', hh', h2, _⟩ => ⟨h1, kv', V', N', hh', h2⟩
end
end Go.Proofs.YtpfbgmfkeofefaaGreat

/-
  A law's world of chapter 23: an act: a grant. (Printed by mk_law23b.py.)
-/
namespace Go.Proofs.YtpfbgmfkeofefaaGreat
open Go Go.RowKit

abbrev act4 (do_ c n : Int) (kp : Value) : Array Value := #[.int .i64 do_, .int .i64 c, .int .i64 n, kp]
/-- What the document's Grant leaves in boxes. -/
structure Boxed23 (wa wx : World) (vl vw vl' vw' : Value) (r : Rd) (K : Kp) (N : Nat) (hh : Int) (g8 g9 : Nat) : Prop where
  b8 : Blk wx g8 69 (rowA K N hh)
  b9 : Blk wx g9 33 #[vl', vw', .int .i64 r.fuse, .bool r.off]
  left : RdLeft wa wx vl vw vl' vw' r
  n8 : wa.heap.size ≤ g8
  n9 : wa.heap.size ≤ g9
  ne : g8 ≠ g9
section
variable {w0 w w' : World} {x p : Nat} {d : Dk} {vl vw kv : Value} {r : Rd} {V : Kp} {N : Nat} {hh : Int} {n : Int}
/-- What an act leaves. -/
def Done23 (w0 : World) (x p : Nat) (d : Dk) (w' : World) : Prop := ∃ d' vl' vw' r' kv' V' N' hh' n', W23 w0 w' x p d' vl' vw' r' kv' V' N' hh' n' ∧ d'.pend ≤ d.pend + 20 ∧ d'.lasts.length = d.lasts.length
set_option maxRecDepth 100000 in
set_option maxHeartbeats 3200000 in
theorem d23_no (hW : W23 w0 w x p d vl vw r (.pointer none) V N hh n) (hn : n ≠ 0) (c n_ : Int) (kp : Value) :
    Calls Tryz.prog 25 #[.pointer (some ⟨x, 0, none⟩), .agg (act4 0 c n_ kp)] w fun e w' => e = .returned (.bool true) ∧ Done23 w0 x p d w' := by
  have hne : (n != 0) = true := bne_iff_ne.2 hn
  obtain ⟨w3, hw3⟩ : ∃ w3, w.alloc (.cells (act4 0 c n_ kp) 74) = w3 := ⟨_, rfl⟩
  have hU3 : Upd (fun _ => False) w w3 := by rw [← hw3]; exact (Upd.refl _ w).alloc _
  have hB3 : Blk w3 w.heap.size 74 (act4 0 c n_ kp) := by rw [← hw3]; exact Blk.new w _ _
  have H3 := Lib.hid (And.intro (hW.still hU3) hB3)
  have Hw := Lib.hid hw3
  have hc := hB3.cells4
  have hcx := H3.out.1.blk.cells15
  have Hd : Hid (d.pend ≤ d.pend + 20 ∧ d.lasts.length = d.lasts.length) := ⟨by omega, rfl⟩
  clear hn hU3 hB3 hw3 hW
  go_enter Tryz.func25, Tryz.ntmps25
  go_upto_region 1 with fail
  rw [Hw.out]
  clear Hw
  go_upto_region 3 with fail
  refine wp_region_noPanic ?_
  refine wp_region_T (S := fun w' => Upd (fun _ => False) w3 w') (T := fun _ => false) (by kernel_rfl) ?_
  have hS0 : Upd (fun _ => False) w3 w3.drew := (Upd.refl _ _).drew
  refine wpAnyT_take (i := 0) (v := ?_) rfl (by kernel_rfl) (by kernel_rfl) (by kernel_rfl) (by kernel_rfl) (fun _ _ _ h => h) (takes_yield rfl (Or.inl ⟨by rfl, ?_⟩)) (by assumption) (by kernel_rfl) ?_
  rotate_left 1
  · intro w' hSw; have hcw := (H3.out.1.blk.upd hSw (fun e => e)).cells15; have hca := (H3.out.2.upd hSw (fun e => e)).cells4; go_split_ands; first | (go_simp; done) | (go_simp; rfl) | rfl
  simp only [Act.put, List.getElem_toArray, List.getElem_cons_zero, List.setIfInBounds_toArray, List.set_cons_zero, List.set_cons_succ]
  refine wpAnyT_take (i := 1) (v := ?_) rfl (by kernel_rfl) (by kernel_rfl) (by kernel_rfl) (by kernel_rfl) (fun _ _ _ h => h) (takes_yield rfl (Or.inl ⟨by rfl, ?_⟩)) (by assumption) (by kernel_rfl) ?_
  rotate_left 1
  · intro w' hSw; have hcw := (H3.out.1.blk.upd hSw (fun e => e)).cells15; have hca := (H3.out.2.upd hSw (fun e => e)).cells4; go_split_ands; first | (go_simp; done) | (go_simp; rfl) | rfl
  simp only [Act.put, List.getElem_toArray, List.getElem_cons_zero, List.getElem_cons_succ, List.setIfInBounds_toArray, List.set_cons_zero, List.set_cons_succ]
  refine wpAnyT_take (i := 2) (v := ?_) rfl (by kernel_rfl) (by kernel_rfl) (by kernel_rfl) (by kernel_rfl) (fun _ _ _ h => h) (takes_yield rfl (Or.inl ⟨by rfl, ?_⟩)) (by assumption) (by kernel_rfl) ?_
  rotate_left 1
  · intro w' hSw; have hcw := (H3.out.1.blk.upd hSw (fun e => e)).cells15; have hca := (H3.out.2.upd hSw (fun e => e)).cells4; go_split_ands; first | (go_simp; done) | (go_simp; rfl) | rfl
  simp only [Act.put, List.getElem_toArray, List.getElem_cons_zero, List.getElem_cons_succ, List.setIfInBounds_toArray, List.set_cons_zero, List.set_cons_succ]
  refine wpAnyT_take (i := 3) (v := ?_) rfl (by kernel_rfl) (by kernel_rfl) (by kernel_rfl) (by kernel_rfl) (fun _ _ _ h => h) (takes_yield rfl (Or.inl ⟨by rfl, ?_⟩)) (by assumption) (by kernel_rfl) ?_
  rotate_left 1
  · intro w' hSw; have hcw := (H3.out.1.blk.upd hSw (fun e => e)).cells15; have hca := (H3.out.2.upd hSw (fun e => e)).cells4; go_split_ands; first | (go_simp; done) | (go_simp; rfl) | rfl
  simp only [Act.put, List.getElem_toArray, List.getElem_cons_zero, List.getElem_cons_succ, List.setIfInBounds_toArray, List.set_cons_zero, List.set_cons_succ]
  refine wpAnyT_take (i := 4) (v := ?_) rfl (by kernel_rfl) (by kernel_rfl) (by kernel_rfl) (by kernel_rfl) (fun _ _ _ h => h) (takes_yield rfl (Or.inl ⟨by rfl, ?_⟩)) (by assumption) (by kernel_rfl) ?_
  rotate_left 1
  · intro w' hSw; have hcw := (H3.out.1.blk.upd hSw (fun e => e)).cells15; have hca := (H3.out.2.upd hSw (fun e => e)).cells4; go_split_ands; first | (go_simp; done) | (go_simp; rfl) | rfl
  simp only [Act.put, List.getElem_toArray, List.getElem_cons_zero, List.getElem_cons_succ, List.setIfInBounds_toArray, List.set_cons_zero, List.set_cons_succ]
  refine wpAnyT_take (i := 5) (v := ?_) rfl (by kernel_rfl) (by kernel_rfl) (by kernel_rfl) (by kernel_rfl) (fun _ _ _ h => h) (takes_yield rfl (Or.inl ⟨by rfl, ?_⟩)) (by assumption) (by kernel_rfl) ?_
  rotate_left 1
  · intro w' hSw; have hcw := (H3.out.1.blk.upd hSw (fun e => e)).cells15; have hca := (H3.out.2.upd hSw (fun e => e)).cells4; go_split_ands; first | (go_simp; done) | (go_simp; rfl) | rfl
  simp only [Act.put, List.getElem_toArray, List.getElem_cons_zero, List.getElem_cons_succ, List.setIfInBounds_toArray, List.set_cons_zero, List.set_cons_succ]
  refine wpAnyT_one (i := 6) (by kernel_rfl) rfl (fun K hK => ?_)
  go_simp
  refine (grant_nil c _).mono ?_
  rintro e w4 ⟨rfl, rfl⟩
  refine hK.out _ _ hS0 ?_
  clear hK
  refine wpAnyT_take (i := 7) (v := ?_) rfl (by kernel_rfl) (by kernel_rfl) (by kernel_rfl) (by kernel_rfl) (fun _ _ _ h => h) (takes_yield rfl (Or.inl ⟨by rfl, ?_⟩)) (by assumption) (by kernel_rfl) ?_
  rotate_left 1
  · intro w' hSw; go_split_ands; first | (go_simp; done) | (go_simp; rfl) | rfl
  simp only [Act.put, List.getElem_toArray, List.getElem_cons_zero, List.getElem_cons_succ, List.setIfInBounds_toArray, List.set_cons_zero, List.set_cons_succ]
  refine wpAnyT_take (i := 8) (v := ?_) rfl (by kernel_rfl) (by kernel_rfl) (by kernel_rfl) (by kernel_rfl) (fun _ _ _ h => h) (takes_yield rfl (Or.inl ⟨by rfl, ?_⟩)) (by assumption) (by kernel_rfl) ?_
  rotate_left 1
  · intro w' hSw; go_split_ands; first | (go_simp; done) | (go_simp; rfl) | rfl
  simp only [Act.put, List.getElem_toArray, List.getElem_cons_zero, List.getElem_cons_succ, List.setIfInBounds_toArray, List.set_cons_zero, List.set_cons_succ]
  refine wpAnyT_take (i := 9) (v := ?_) rfl (by kernel_rfl) (by kernel_rfl) (by kernel_rfl) (by kernel_rfl) (fun _ _ _ h => h) (takes_yield rfl (Or.inl ⟨by rfl, ?_⟩)) (by assumption) (by kernel_rfl) ?_
  rotate_left 1
  · intro w' hSw; go_split_ands; first | (go_simp; done) | (go_simp; rfl) | rfl
  simp only [Act.put, List.getElem_toArray, List.getElem_cons_zero, List.getElem_cons_succ, List.setIfInBounds_toArray, List.set_cons_zero, List.set_cons_succ]
  refine wpAnyT_take (i := 10) (v := ?_) rfl (by kernel_rfl) (by kernel_rfl) (by kernel_rfl) (by kernel_rfl) (fun _ _ _ h => h) (takes_yield rfl (Or.inl ⟨by rfl, ?_⟩)) (by assumption) (by kernel_rfl) ?_
  rotate_left 1
  · intro w' hSw; go_split_ands; first | (go_simp; done) | (go_simp; rfl) | rfl
  simp only [Act.put, List.getElem_toArray, List.getElem_cons_zero, List.getElem_cons_succ, List.setIfInBounds_toArray, List.set_cons_zero, List.set_cons_succ]
  refine wpAnyT_take (i := 11) (v := ?_) rfl (by kernel_rfl) (by kernel_rfl) (by kernel_rfl) (by kernel_rfl) (fun _ _ _ h => h) (takes_yield rfl (Or.inl ⟨by rfl, ?_⟩)) (by assumption) (by kernel_rfl) ?_
  rotate_left 1
  · intro w' hSw; go_split_ands; first | (go_simp; done) | (go_simp; rfl) | rfl
  simp only [Act.put, List.getElem_toArray, List.getElem_cons_zero, List.getElem_cons_succ, List.setIfInBounds_toArray, List.set_cons_zero, List.set_cons_succ]
  refine wpAnyT_done (by kernel_rfl) ?_ _
  refine NoPanic.normal ?_
  have H4 := Lib.hid (H3.out.1.still (Upd.refl _ w3).drew)
  have hc4 := H4.out.blk.cells15
  clear hS0 hc hcx
  go_wp2_with fail
  go_ret
  exact ⟨rfl, d, vl, vw, r, _, V, N, hh, n, H4.out, Hd.out.1, rfl⟩
set_option maxRecDepth 100000 in
set_option maxHeartbeats 6400000 in
theorem d23_grant {a : Nat} (hW : W23 w0 w x p d vl vw r (.pointer (some ⟨a, 0, none⟩)) V N hh 0) (hp : d.pend + 20 < 1000000) (c n_ : Int) (kp : Value) :
    Calls Tryz.prog 25 #[.pointer (some ⟨x, 0, none⟩), .agg (act4 0 c n_ kp)] w fun e w' => e = .returned (.bool true) ∧ Done23 w0 x p d w' := by
  have hwf := (hW.play.disks.one 0 rfl).wf
  obtain ⟨b, hVf, hN, hka, hkp⟩ : ∃ b, V.fits ∧ N ≤ 9223372036854775807 ∧ ArbS w0 w a b N hh ∧ KpS w0 w p b V := by
    rcases hW.kept with ⟨_, h2, h3, a', b', h4, h5, h6⟩ | ⟨h1, _⟩
    · simp only [Value.pointer.injEq, Option.some.injEq, Addr.mk.injEq, and_true] at h4
      subst h4
      exact ⟨b', h2, h3, h5, h6⟩
    · exact absurd rfl h1
  obtain ⟨hq1, hq2, hq3, hq4⟩ := grantAP_fits (h := hh) (c := c) hVf hN hwf.len
  have hI0 := hW.play.is
  obtain ⟨⟨⟨D, K1, N', H'⟩, E, F⟩, hG⟩ : ∃ q, grantAP d V N hh c = q := ⟨_, rfl⟩
  rw [hG] at hq1 hq2 hq3 hq4
  simp only at hq1 hq2 hq3 hq4
  obtain ⟨w3, hw3⟩ : ∃ w3, w.alloc (.cells (act4 0 c n_ kp) 74) = w3 := ⟨_, rfl⟩
  have hU3 : Upd (fun _ => False) w w3 := by rw [← hw3]; exact (Upd.refl _ w).alloc _
  have hB3 : Blk w3 w.heap.size 74 (act4 0 c n_ kp) := by rw [← hw3]; exact Blk.new w _ _
  have H3 := Lib.hid (And.intro (hW.still hU3) hB3)
  have hput0 : ∀ W, Upd (fun _ => False) w3 W → Calls Tryz.prog 30 #[.pointer (some ⟨a, 0, none⟩), .int .i64 c] W fun e w' => e = .returned (.tuple #[.int .i64 E, .int .i64 F]) ∧ GrantV w0 W w' p a b (RdX vl vw) (D, K1, N', H') := fun W hu => by
    have h1 := (hW.play.still hU3).still hu
    have h2 := (hkp.still hU3).still hu
    have h3 := (hka.still hU3).still hu
    have := grant_v h1.disks h2 h3 (h1.rd.ne h2.blk (by decide) (by decide)) (h1.rd.ne h3.blk (by decide) (by decide)) c hN hVf hp
    rw [hG] at this
    exact this
  have hHr0 : ∀ W, RdAt W vl vw r → Calls Tryz.prog 66 #[.agg (rowA V N hh), .agg #[vl, vw, .int .i64 r.fuse, .bool r.off], .int .i64 c] W fun e w' =>
      ∃ vl' vw' r', e = .returned (.tuple #[.agg (rowA K1 N' H'), .agg #[vl', vw', .int .i64 r'.fuse, .bool r'.off], .int .i64 E, .int .i64 F]) ∧ RdLeft W w' vl vw vl' vw' r' ∧ RdIs D r' := fun W h => by
    have := rgrant_p (n := N) (h := hh) h hI0 hwf hVf hN hp c
    rw [hG] at this
    exact this
  have hput := Lib.hid hput0
  have hHr := Lib.hid hHr0
  have HQ := Lib.hid (And.intro hq1 (And.intro hq2 (And.intro hq3 hq4)))
  have Hw := Lib.hid hw3
  have hc := hB3.cells4
  have hcx := H3.out.1.blk.cells15
  clear hU3 hB3 hw3 hW hwf hkp hka hVf hN hI0 hG hq1 hq2 hq3 hq4 hput0 hHr0 hp
  go_enter Tryz.func25, Tryz.ntmps25
  go_upto_region 1 with fail
  rw [Hw.out]
  clear Hw
  go_upto_region 3 with fail
  refine wp_region_noPanic ?_
  refine wp_region_T (S := fun w' => Blk w' x 71 (row23 p (.pointer (some ⟨a, 0, none⟩)) vl vw r V N hh 0) ∧ Blk w' w.heap.size 74 (act4 0 c n_ kp)) (T := fun _ => false) (by kernel_rfl) ?_
  have hS0 := And.intro H3.out.1.blk.drew H3.out.2.drew
  refine wpAnyT_take (i := 0) (v := ?_) rfl (by kernel_rfl) (by kernel_rfl) (by kernel_rfl) (by kernel_rfl) (fun _ _ _ h => h) (takes_yield rfl (Or.inl ⟨by rfl, ?_⟩)) (by assumption) (by kernel_rfl) ?_
  rotate_left 1
  · intro w' hSw; have hcw := hSw.1.cells15; have hca := hSw.2.cells4; go_split_ands; first | (go_simp; done) | (go_simp; rfl) | rfl
  simp only [Act.put, List.getElem_toArray, List.getElem_cons_zero, List.setIfInBounds_toArray, List.set_cons_zero, List.set_cons_succ]
  refine wpAnyT_take (i := 1) (v := ?_) rfl (by kernel_rfl) (by kernel_rfl) (by kernel_rfl) (by kernel_rfl) (fun _ _ _ h => h) (takes_yield rfl (Or.inl ⟨by rfl, ?_⟩)) (by assumption) (by kernel_rfl) ?_
  rotate_left 1
  · intro w' hSw; have hcw := hSw.1.cells15; have hca := hSw.2.cells4; go_split_ands; first | (go_simp; done) | (go_simp; rfl) | rfl
  simp only [Act.put, List.getElem_toArray, List.getElem_cons_zero, List.getElem_cons_succ, List.setIfInBounds_toArray, List.set_cons_zero, List.set_cons_succ]
  refine wpAnyT_take (i := 2) (v := ?_) rfl (by kernel_rfl) (by kernel_rfl) (by kernel_rfl) (by kernel_rfl) (fun _ _ _ h => h) (takes_yield rfl (Or.inl ⟨by rfl, ?_⟩)) (by assumption) (by kernel_rfl) ?_
  rotate_left 1
  · intro w' hSw; have hcw := hSw.1.cells15; have hca := hSw.2.cells4; go_split_ands; first | (go_simp; done) | (go_simp; rfl) | rfl
  simp only [Act.put, List.getElem_toArray, List.getElem_cons_zero, List.getElem_cons_succ, List.setIfInBounds_toArray, List.set_cons_zero, List.set_cons_succ]
  refine wpAnyT_take (i := 3) (v := ?_) rfl (by kernel_rfl) (by kernel_rfl) (by kernel_rfl) (by kernel_rfl) (fun _ _ _ h => h) (takes_yield rfl (Or.inl ⟨by rfl, ?_⟩)) (by assumption) (by kernel_rfl) ?_
  rotate_left 1
  · intro w' hSw; have hcw := hSw.1.cells15; have hca := hSw.2.cells4; go_split_ands; first | (go_simp; done) | (go_simp; rfl) | rfl
  simp only [Act.put, List.getElem_toArray, List.getElem_cons_zero, List.getElem_cons_succ, List.setIfInBounds_toArray, List.set_cons_zero, List.set_cons_succ]
  refine wpAnyT_take (i := 4) (v := ?_) rfl (by kernel_rfl) (by kernel_rfl) (by kernel_rfl) (by kernel_rfl) (fun _ _ _ h => h) (takes_yield rfl (Or.inl ⟨by rfl, ?_⟩)) (by assumption) (by kernel_rfl) ?_
  rotate_left 1
  · intro w' hSw; have hcw := hSw.1.cells15; have hca := hSw.2.cells4; go_split_ands; first | (go_simp; done) | (go_simp; rfl) | rfl
  simp only [Act.put, List.getElem_toArray, List.getElem_cons_zero, List.getElem_cons_succ, List.setIfInBounds_toArray, List.set_cons_zero, List.set_cons_succ]
  refine wpAnyT_take (i := 5) (v := ?_) rfl (by kernel_rfl) (by kernel_rfl) (by kernel_rfl) (by kernel_rfl) (fun _ _ _ h => h) (takes_yield rfl (Or.inl ⟨by rfl, ?_⟩)) (by assumption) (by kernel_rfl) ?_
  rotate_left 1
  · intro w' hSw; have hcw := hSw.1.cells15; have hca := hSw.2.cells4; go_split_ands; first | (go_simp; done) | (go_simp; rfl) | rfl
  simp only [Act.put, List.getElem_toArray, List.getElem_cons_zero, List.getElem_cons_succ, List.setIfInBounds_toArray, List.set_cons_zero, List.set_cons_succ]
  refine wpAnyT_one (i := 6) (by kernel_rfl) rfl (fun K hK => ?_)
  go_simp
  refine (hput.out _ (Upd.refl _ _).drew).mono ?_
  rintro e w4 ⟨rfl, ⟨hDx, hKp, hAr, hBk, hXk⟩⟩
  have hS4 := And.intro (hBk _ _ _ hS0.1 (by decide) (by decide) (by decide) (by decide)) (hBk _ _ _ hS0.2 (by decide) (by decide) (by decide) (by decide))
  refine hK.out _ _ hS4 ?_
  have hrd4 : RdAt w4 vl vw r := (H3.out.1.play.rd.upd (Upd.refl _ w3).drew).kept hXk
  have H4 := Lib.hid (And.intro hS4 (And.intro hDx (And.intro hKp (And.intro hrd4 (And.intro H3.out.1.low hAr)))))
  clear hK hS0 hDx hKp hAr hBk hXk hrd4 hc hcx
  refine wpAnyT_take (i := 7) (v := ?_) rfl (by kernel_rfl) (by kernel_rfl) (by kernel_rfl) (by kernel_rfl) (fun _ _ _ h => h) (takes_yield rfl (Or.inl ⟨by rfl, ?_⟩)) (by assumption) (by kernel_rfl) ?_
  rotate_left 1
  · intro w' hSw; go_split_ands; first | (go_simp; done) | (go_simp; rfl) | rfl
  simp only [Act.put, List.getElem_toArray, List.getElem_cons_zero, List.getElem_cons_succ, List.setIfInBounds_toArray, List.set_cons_zero, List.set_cons_succ]
  refine wpAnyT_take (i := 8) (v := ?_) rfl (by kernel_rfl) (by kernel_rfl) (by kernel_rfl) (by kernel_rfl) (fun _ _ _ h => h) (takes_yield rfl (Or.inl ⟨by rfl, ?_⟩)) (by assumption) (by kernel_rfl) ?_
  rotate_left 1
  · intro w' hSw; go_split_ands; first | (go_simp; done) | (go_simp; rfl) | rfl
  simp only [Act.put, List.getElem_toArray, List.getElem_cons_zero, List.getElem_cons_succ, List.setIfInBounds_toArray, List.set_cons_zero, List.set_cons_succ]
  refine wpAnyT_take (i := 9) (v := ?_) rfl (by kernel_rfl) (by kernel_rfl) (by kernel_rfl) (by kernel_rfl) (fun _ _ _ h => h) (takes_yield rfl (Or.inl ⟨by rfl, ?_⟩)) (by assumption) (by kernel_rfl) ?_
  rotate_left 1
  · intro w' hSw; go_split_ands; first | (go_simp; done) | (go_simp; rfl) | rfl
  simp only [Act.put, List.getElem_toArray, List.getElem_cons_zero, List.getElem_cons_succ, List.setIfInBounds_toArray, List.set_cons_zero, List.set_cons_succ]
  refine wpAnyT_take (i := 10) (v := ?_) rfl (by kernel_rfl) (by kernel_rfl) (by kernel_rfl) (by kernel_rfl) (fun _ _ _ h => h) (takes_yield rfl (Or.inl ⟨by rfl, ?_⟩)) (by assumption) (by kernel_rfl) ?_
  rotate_left 1
  · intro w' hSw; go_split_ands; first | (go_simp; done) | (go_simp; rfl) | rfl
  simp only [Act.put, List.getElem_toArray, List.getElem_cons_zero, List.getElem_cons_succ, List.setIfInBounds_toArray, List.set_cons_zero, List.set_cons_succ]
  refine wpAnyT_take (i := 11) (v := ?_) rfl (by kernel_rfl) (by kernel_rfl) (by kernel_rfl) (by kernel_rfl) (fun _ _ _ h => h) (takes_yield rfl (Or.inl ⟨by rfl, ?_⟩)) (by assumption) (by kernel_rfl) ?_
  rotate_left 1
  · intro w' hSw; go_split_ands; first | (go_simp; done) | (go_simp; rfl) | rfl
  simp only [Act.put, List.getElem_toArray, List.getElem_cons_zero, List.getElem_cons_succ, List.setIfInBounds_toArray, List.set_cons_zero, List.set_cons_succ]
  refine wpAnyT_done (by kernel_rfl) ?_ _
  refine NoPanic.normal ?_
  have hc4 := H4.out.1.1.cells15
  have hca4 := H4.out.1.2.cells4
  clear hS4 H3
  go_upto_region 6 with fail
  rename World => w3
  have hrp : Hid (∀ W, Upd (fun _ => False) w3 W → Calls Tryz.prog 66 #[.agg (rowA V N hh), .agg #[vl, vw, .int .i64 r.fuse, .bool r.off], .int .i64 c] W fun e w' =>
      ∃ vl' vw' r', e = .returned (.tuple #[.agg (rowA K1 N' H'), .agg #[vl', vw', .int .i64 r'.fuse, .bool r'.off], .int .i64 E, .int .i64 F]) ∧ RdLeft W w' vl vw vl' vw' r' ∧ RdIs D r') := Lib.hid fun W hu => hHr.out W (H4.out.2.2.2.1.upd hu)
  clear hc4 hca4
  go_cut [7, 8, 9, 10] (fun t7 t8 t9 t10 wx => ∃ (g8 g9 : Nat) (vl' vw' : Value) (r' : Rd), t7 = .pointer (some ⟨g8, 0, none⟩) ∧ t8 = .pointer (some ⟨g9, 0, none⟩) ∧ t9 = .int .i64 E ∧ t10 = .int .i64 F ∧ Boxed23 w3 wx vl vw vl' vw' r' K1 N' H' g8 g9 ∧ RdIs D r')
  case first =>
    refine wp_region_noPanic ?_
    refine wp_region_T (S := fun w' => Blk w' x 71 (row23 p (.pointer (some ⟨a, 0, none⟩)) vl vw r V N hh 0) ∧ Blk w' w.heap.size 74 (act4 0 c n_ kp)) (T := fun _ => false) (by kernel_rfl) ?_
    have hS0 := And.intro H4.out.1.1.drew H4.out.1.2.drew
    have hU0 : Upd (fun _ => False) w3 w3.drew := (Upd.refl _ _).drew
    refine wpAnyT_take (i := 0) (v := ?_) rfl (by kernel_rfl) (by kernel_rfl) (by kernel_rfl) (by kernel_rfl) (fun _ _ _ h => h) (takes_yield rfl (Or.inl ⟨by rfl, ?_⟩)) (by assumption) (by kernel_rfl) ?_
    rotate_left 1
    · intro w' hSw; have hcw := hSw.1.cells15; have hca := hSw.2.cells4; go_split_ands; first | (go_simp; done) | (go_simp; rfl) | rfl
    simp only [Act.put, List.getElem_toArray, List.getElem_cons_zero, List.setIfInBounds_toArray, List.set_cons_zero, List.set_cons_succ]
    refine wpAnyT_take (i := 1) (v := ?_) rfl (by kernel_rfl) (by kernel_rfl) (by kernel_rfl) (by kernel_rfl) (fun _ _ _ h => h) (takes_yield rfl (Or.inl ⟨by rfl, ?_⟩)) (by assumption) (by kernel_rfl) ?_
    rotate_left 1
    · intro w' hSw; have hcw := hSw.1.cells15; have hca := hSw.2.cells4; go_split_ands; first | (go_simp; done) | (go_simp; rfl) | rfl
    simp only [Act.put, List.getElem_toArray, List.getElem_cons_zero, List.getElem_cons_succ, List.setIfInBounds_toArray, List.set_cons_zero, List.set_cons_succ]
    refine wpAnyT_take (i := 2) (v := ?_) rfl (by kernel_rfl) (by kernel_rfl) (by kernel_rfl) (by kernel_rfl) (fun _ _ _ h => h) (takes_yield rfl (Or.inl ⟨by rfl, ?_⟩)) (by assumption) (by kernel_rfl) ?_
    rotate_left 1
    · intro w' hSw; have hcw := hSw.1.cells15; have hca := hSw.2.cells4; go_split_ands; first | (go_simp; done) | (go_simp; rfl) | rfl
    simp only [Act.put, List.getElem_toArray, List.getElem_cons_zero, List.getElem_cons_succ, List.setIfInBounds_toArray, List.set_cons_zero, List.set_cons_succ]
    refine wpAnyT_take (i := 3) (v := ?_) rfl (by kernel_rfl) (by kernel_rfl) (by kernel_rfl) (by kernel_rfl) (fun _ _ _ h => h) (takes_yield rfl (Or.inl ⟨by rfl, ?_⟩)) (by assumption) (by kernel_rfl) ?_
    rotate_left 1
    · intro w' hSw; have hcw := hSw.1.cells15; have hca := hSw.2.cells4; go_split_ands; first | (go_simp; done) | (go_simp; rfl) | rfl
    simp only [Act.put, List.getElem_toArray, List.getElem_cons_zero, List.getElem_cons_succ, List.setIfInBounds_toArray, List.set_cons_zero, List.set_cons_succ]
    refine wpAnyT_take (i := 4) (v := ?_) rfl (by kernel_rfl) (by kernel_rfl) (by kernel_rfl) (by kernel_rfl) (fun _ _ _ h => h) (takes_yield rfl (Or.inl ⟨by rfl, ?_⟩)) (by assumption) (by kernel_rfl) ?_
    rotate_left 1
    · intro w' hSw; have hcw := hSw.1.cells15; have hca := hSw.2.cells4; go_split_ands; first | (go_simp; done) | (go_simp; rfl) | rfl
    simp only [Act.put, List.getElem_toArray, List.getElem_cons_zero, List.getElem_cons_succ, List.setIfInBounds_toArray, List.set_cons_zero, List.set_cons_succ]
    refine wpAnyT_take (i := 5) (v := ?_) rfl (by kernel_rfl) (by kernel_rfl) (by kernel_rfl) (by kernel_rfl) (fun _ _ _ h => h) (takes_yield rfl (Or.inl ⟨by rfl, ?_⟩)) (by assumption) (by kernel_rfl) ?_
    rotate_left 1
    · intro w' hSw; have hcw := hSw.1.cells15; have hca := hSw.2.cells4; go_split_ands; first | (go_simp; done) | (go_simp; rfl) | rfl
    simp only [Act.put, List.getElem_toArray, List.getElem_cons_zero, List.getElem_cons_succ, List.setIfInBounds_toArray, List.set_cons_zero, List.set_cons_succ]
    refine wpAnyT_take (i := 6) (v := ?_) rfl (by kernel_rfl) (by kernel_rfl) (by kernel_rfl) (by kernel_rfl) (fun _ _ _ h => h) (takes_yield rfl (Or.inl ⟨by rfl, ?_⟩)) (by assumption) (by kernel_rfl) ?_
    rotate_left 1
    · intro w' hSw; have hcw := hSw.1.cells15; have hca := hSw.2.cells4; go_split_ands; first | (go_simp; done) | (go_simp; rfl) | rfl
    simp only [Act.put, List.getElem_toArray, List.getElem_cons_zero, List.getElem_cons_succ, List.setIfInBounds_toArray, List.set_cons_zero, List.set_cons_succ]
    refine wpAnyT_take (i := 7) (v := ?_) rfl (by kernel_rfl) (by kernel_rfl) (by kernel_rfl) (by kernel_rfl) (fun _ _ _ h => h) (takes_yield rfl (Or.inl ⟨by rfl, ?_⟩)) (by assumption) (by kernel_rfl) ?_
    rotate_left 1
    · intro w' hSw; have hcw := hSw.1.cells15; have hca := hSw.2.cells4; go_split_ands; first | (go_simp; done) | (go_simp; rfl) | rfl
    simp only [Act.put, List.getElem_toArray, List.getElem_cons_zero, List.getElem_cons_succ, List.setIfInBounds_toArray, List.set_cons_zero, List.set_cons_succ]
    refine wpAnyT_take (i := 8) (v := ?_) rfl (by kernel_rfl) (by kernel_rfl) (by kernel_rfl) (by kernel_rfl) (fun _ _ _ h => h) (takes_yield rfl (Or.inl ⟨by rfl, ?_⟩)) (by assumption) (by kernel_rfl) ?_
    rotate_left 1
    · intro w' hSw; have hcw := hSw.1.cells15; have hca := hSw.2.cells4; go_split_ands; first | (go_simp; done) | (go_simp; rfl) | rfl
    simp only [Act.put, List.getElem_toArray, List.getElem_cons_zero, List.getElem_cons_succ, List.setIfInBounds_toArray, List.set_cons_zero, List.set_cons_succ]
    refine wpAnyT_take (i := 9) (v := ?_) rfl (by kernel_rfl) (by kernel_rfl) (by kernel_rfl) (by kernel_rfl) (fun _ _ _ h => h) (takes_yield rfl (Or.inl ⟨by rfl, ?_⟩)) (by assumption) (by kernel_rfl) ?_
    rotate_left 1
    · intro w' hSw; have hcw := hSw.1.cells15; have hca := hSw.2.cells4; go_split_ands; first | (go_simp; done) | (go_simp; rfl) | rfl
    simp only [Act.put, List.getElem_toArray, List.getElem_cons_zero, List.getElem_cons_succ, List.setIfInBounds_toArray, List.set_cons_zero, List.set_cons_succ]
    refine wpAnyT_three (i := 10) (j := 16) (k := 17) (by kernel_rfl) rfl rfl rfl (fun K hK => ?_) (fun K hK => ?_) (fun K hK => ?_)
    · skip
      go_simp
      refine (hrp.out _ hU0).mono ?_
      rintro e wc1 ⟨vl', vw', r', rfl, hl1, hRi⟩
      have hs1 := And.intro (hS0.1.upd hl1.upd (fun e => e)) (hS0.2.upd hl1.upd (fun e => e))
      have hu1 := hU0.then hl1.upd (fun _ e => e.elim)
      refine hK.out _ _ hs1 ?_
      have hl1b := hl1.pre hU0
      clear hK
      refine wpAnyT_take (i := 11) (v := ?_) rfl (by kernel_rfl) (by kernel_rfl) (by kernel_rfl) (by kernel_rfl) (fun _ _ _ h => h) (takes_yield rfl (Or.inl ⟨by rfl, ?_⟩)) (by assumption) (by kernel_rfl) ?_
      rotate_left 1
      · intro w' hSw; go_split_ands; first | (go_simp; done) | (go_simp; rfl) | rfl
      simp only [Act.put, List.getElem_toArray, List.getElem_cons_zero, List.getElem_cons_succ, List.setIfInBounds_toArray, List.set_cons_zero, List.set_cons_succ]
      refine wpAnyT_take (i := 12) (v := ?_) rfl (by kernel_rfl) (by kernel_rfl) (by kernel_rfl) (by kernel_rfl) (fun _ _ _ h => h) (takes_yield rfl (Or.inl ⟨by rfl, ?_⟩)) (by assumption) (by kernel_rfl) ?_
      rotate_left 1
      · intro w' hSw; go_split_ands; first | (go_simp; done) | (go_simp; rfl) | rfl
      simp only [Act.put, List.getElem_toArray, List.getElem_cons_zero, List.getElem_cons_succ, List.setIfInBounds_toArray, List.set_cons_zero, List.set_cons_succ]
      refine wpAnyT_take (i := 13) (v := ?_) rfl (by kernel_rfl) (by kernel_rfl) (by kernel_rfl) (by kernel_rfl) (fun _ _ _ h => h) (takes_yield rfl (Or.inl ⟨by rfl, ?_⟩)) (by assumption) (by kernel_rfl) ?_
      rotate_left 1
      · intro w' hSw; go_split_ands; first | (go_simp; done) | (go_simp; rfl) | rfl
      simp only [Act.put, List.getElem_toArray, List.getElem_cons_zero, List.getElem_cons_succ, List.setIfInBounds_toArray, List.set_cons_zero, List.set_cons_succ]
      refine wpAnyT_take (i := 14) (v := ?_) rfl (by kernel_rfl) (by kernel_rfl) (by kernel_rfl) (by kernel_rfl) (fun _ _ _ h => h) (takes_yield rfl (Or.inl ⟨by rfl, ?_⟩)) (by assumption) (by kernel_rfl) ?_
      rotate_left 1
      · intro w' hSw; go_split_ands; first | (go_simp; done) | (go_simp; rfl) | rfl
      simp only [Act.put, List.getElem_toArray, List.getElem_cons_zero, List.getElem_cons_succ, List.setIfInBounds_toArray, List.set_cons_zero, List.set_cons_succ]
      refine wpAnyT_take (i := 15) (v := ?_) rfl (by kernel_rfl) (by kernel_rfl) (by kernel_rfl) (by kernel_rfl) (fun _ _ _ h => h) (takes_yield rfl (Or.inl ⟨by rfl, ?_⟩)) (by assumption) (by kernel_rfl) ?_
      rotate_left 1
      · intro w' hSw; go_split_ands; first | (go_simp; done) | (go_simp; rfl) | rfl
      simp only [Act.put, List.getElem_toArray, List.getElem_cons_zero, List.getElem_cons_succ, List.setIfInBounds_toArray, List.set_cons_zero, List.set_cons_succ]
      refine wpAnyT_two (i := 16) (j := 17) (by kernel_rfl) rfl rfl (fun K hK => ?_) (fun K hK => ?_)
      · skip
        go_simp
        have hs2 := And.intro (hs1.1.alloc (.cells zeroAr 69)) (hs1.2.alloc (.cells zeroAr 69))
        have hu2 := hu1.alloc (.cells zeroAr 69)
        refine hK.out _ _ hs2 ?_
        have b8_2 := Blk.new (wc1) 69 zeroAr
        have n8_2 := hu1.size
        have hl2 := hl1b.post ((Upd.refl (fun _ => False) (wc1)).alloc (.cells zeroAr 69))
        clear hK
        refine wpAnyT_one (i := 17) (by kernel_rfl) rfl (fun K hK => ?_)
        go_simp
        have hs3 := And.intro (hs2.1.alloc (.cells zeroRd 33)) (hs2.2.alloc (.cells zeroRd 33))
        have hu3 := hu2.alloc (.cells zeroRd 33)
        refine hK.out _ _ hs3 ?_
        have b8_3 := b8_2.alloc (.cells zeroRd 33)
        have e9_3 : (wc1.alloc (.cells zeroAr 69)).heap.size = wc1.heap.size + 1 := by simp
        have b9_3 := Blk.new (wc1.alloc (.cells zeroAr 69)) 33 zeroRd
        have n9_3 := hu2.size
        rw [e9_3] at b9_3 n9_3
        clear e9_3
        have hl3 := hl2.post ((Upd.refl (fun _ => False) (wc1.alloc (.cells zeroAr 69))).alloc (.cells zeroRd 33))
        clear hK
        refine wpAnyT_one (i := 18) (by kernel_rfl) rfl (fun K hK => ?_)
        refine step_store_all (by rfl) 69 _ _ (by rfl) (wc1).heap.size (rowA K1 N' H') (by rfl) (by rfl) _ _ b8_3 rfl (rowA_one _ _ _) (by kernel_rfl) ?_
        intro y1 hB1 hU1 hz1
        have hg8 : w3.heap.size ≤ (wc1).heap.size := n8_2
        have hg9 : w3.heap.size ≤ (wc1.heap.size + 1) := n9_3
        have hg89 : (wc1.heap.size + 1) ≠ (wc1).heap.size := b9_3.ne_ b8_3 (by decide)
        have hy1 := And.intro (hs3.1.upd hU1 (fun e => hs3.1.ne_ b8_3 (by decide) e)) (hs3.2.upd hU1 (fun e => hs3.2.ne_ b8_3 (by decide) e))
        refine hK.out _ _ hy1 ?_
        clear hK
        refine wpAnyT_one (i := 19) (by kernel_rfl) rfl (fun K hK => ?_)
        refine step_store_all (by rfl) 33 _ _ (by rfl) (wc1.heap.size + 1) #[vl', vw', .int .i64 r'.fuse, .bool r'.off] (by rfl) (by rfl) _ _ (b9_3.upd hU1 hg89) rfl (rdrow_one r' hl3.at_) (by kernel_rfl) ?_
        intro y2 hB2 hU2 hz2
        have hy2 := And.intro (hy1.1.upd hU2 (fun e => hs3.1.ne_ b9_3 (by decide) e)) (hy1.2.upd hU2 (fun e => hs3.2.ne_ b9_3 (by decide) e))
        refine hK.out _ _ hy2 ?_
        have hly := (hl3.store hU1 (fun q hq e => hl3.at_.ne b8_3 (by decide) (by decide) (e ▸ hq)) hg8).store hU2 (fun q hq e => hl3.at_.ne b9_3 (by decide) (by decide) (e ▸ hq)) hg9
        have HZ := Lib.hid (show Boxed23 w3 y2 vl vw vl' vw' r' K1 N' H' (wc1).heap.size (wc1.heap.size + 1) from ⟨hB1.upd hU2 (Ne.symm hg89), hB2, hly, hg8, hg9, Ne.symm hg89⟩)
        clear hK hB1 hU1 hz1 hB2 hU2 hz2 hly hy1
        refine wpAnyT_take (i := 20) (v := ?_) rfl (by kernel_rfl) (by kernel_rfl) (by kernel_rfl) (by kernel_rfl) (fun _ _ _ h => h) (takes_yield rfl (Or.inl ⟨by rfl, ?_⟩)) (by assumption) (by kernel_rfl) ?_
        rotate_left 1
        · intro w' hSw; go_split_ands; first | (go_simp; done) | (go_simp; rfl) | rfl
        simp only [Act.put, List.getElem_toArray, List.getElem_cons_zero, List.getElem_cons_succ, List.setIfInBounds_toArray, List.set_cons_zero, List.set_cons_succ]
        refine wpAnyT_take (i := 21) (v := ?_) rfl (by kernel_rfl) (by kernel_rfl) (by kernel_rfl) (by kernel_rfl) (fun _ _ _ h => h) (takes_yield rfl (Or.inl ⟨by rfl, ?_⟩)) (by assumption) (by kernel_rfl) ?_
        rotate_left 1
        · intro w' hSw; go_split_ands; first | (go_simp; done) | (go_simp; rfl) | rfl
        simp only [Act.put, List.getElem_toArray, List.getElem_cons_zero, List.getElem_cons_succ, List.setIfInBounds_toArray, List.set_cons_zero, List.set_cons_succ]
        refine wpAnyT_done (by kernel_rfl) ?_ _
        refine NoPanic.normal ?_
        go_wp2_with fail
        go_meet
        exact ⟨_, _, vl', vw', r', rfl, rfl, rfl, rfl, HZ.out, hRi⟩
      · skip
        go_simp
        have hs4 := And.intro (hs1.1.alloc (.cells zeroRd 33)) (hs1.2.alloc (.cells zeroRd 33))
        have hu4 := hu1.alloc (.cells zeroRd 33)
        refine hK.out _ _ hs4 ?_
        have b9_4 := Blk.new (wc1) 33 zeroRd
        have n9_4 := hu1.size
        have hl4 := hl1b.post ((Upd.refl (fun _ => False) (wc1)).alloc (.cells zeroRd 33))
        clear hK
        refine wpAnyT_one (i := 16) (by kernel_rfl) rfl (fun K hK => ?_)
        go_simp
        have hs5 := And.intro (hs4.1.alloc (.cells zeroAr 69)) (hs4.2.alloc (.cells zeroAr 69))
        have hu5 := hu4.alloc (.cells zeroAr 69)
        refine hK.out _ _ hs5 ?_
        have b9_5 := b9_4.alloc (.cells zeroAr 69)
        have e8_5 : (wc1.alloc (.cells zeroRd 33)).heap.size = wc1.heap.size + 1 := by simp
        have b8_5 := Blk.new (wc1.alloc (.cells zeroRd 33)) 69 zeroAr
        have n8_5 := hu4.size
        rw [e8_5] at b8_5 n8_5
        clear e8_5
        have hl5 := hl4.post ((Upd.refl (fun _ => False) (wc1.alloc (.cells zeroRd 33))).alloc (.cells zeroAr 69))
        clear hK
        refine wpAnyT_one (i := 18) (by kernel_rfl) rfl (fun K hK => ?_)
        refine step_store_all (by rfl) 69 _ _ (by rfl) (wc1.heap.size + 1) (rowA K1 N' H') (by rfl) (by rfl) _ _ b8_5 rfl (rowA_one _ _ _) (by kernel_rfl) ?_
        intro y1 hB1 hU1 hz1
        have hg8 : w3.heap.size ≤ (wc1.heap.size + 1) := n8_5
        have hg9 : w3.heap.size ≤ (wc1).heap.size := n9_4
        have hg89 : (wc1).heap.size ≠ (wc1.heap.size + 1) := b9_5.ne_ b8_5 (by decide)
        have hy1 := And.intro (hs5.1.upd hU1 (fun e => hs5.1.ne_ b8_5 (by decide) e)) (hs5.2.upd hU1 (fun e => hs5.2.ne_ b8_5 (by decide) e))
        refine hK.out _ _ hy1 ?_
        clear hK
        refine wpAnyT_one (i := 19) (by kernel_rfl) rfl (fun K hK => ?_)
        refine step_store_all (by rfl) 33 _ _ (by rfl) (wc1).heap.size #[vl', vw', .int .i64 r'.fuse, .bool r'.off] (by rfl) (by rfl) _ _ (b9_5.upd hU1 hg89) rfl (rdrow_one r' hl5.at_) (by kernel_rfl) ?_
        intro y2 hB2 hU2 hz2
        have hy2 := And.intro (hy1.1.upd hU2 (fun e => hs5.1.ne_ b9_5 (by decide) e)) (hy1.2.upd hU2 (fun e => hs5.2.ne_ b9_5 (by decide) e))
        refine hK.out _ _ hy2 ?_
        have hly := (hl5.store hU1 (fun q hq e => hl5.at_.ne b8_5 (by decide) (by decide) (e ▸ hq)) hg8).store hU2 (fun q hq e => hl5.at_.ne b9_5 (by decide) (by decide) (e ▸ hq)) hg9
        have HZ := Lib.hid (show Boxed23 w3 y2 vl vw vl' vw' r' K1 N' H' (wc1.heap.size + 1) (wc1).heap.size from ⟨hB1.upd hU2 (Ne.symm hg89), hB2, hly, hg8, hg9, Ne.symm hg89⟩)
        clear hK hB1 hU1 hz1 hB2 hU2 hz2 hly hy1
        refine wpAnyT_take (i := 20) (v := ?_) rfl (by kernel_rfl) (by kernel_rfl) (by kernel_rfl) (by kernel_rfl) (fun _ _ _ h => h) (takes_yield rfl (Or.inl ⟨by rfl, ?_⟩)) (by assumption) (by kernel_rfl) ?_
        rotate_left 1
        · intro w' hSw; go_split_ands; first | (go_simp; done) | (go_simp; rfl) | rfl
        simp only [Act.put, List.getElem_toArray, List.getElem_cons_zero, List.getElem_cons_succ, List.setIfInBounds_toArray, List.set_cons_zero, List.set_cons_succ]
        refine wpAnyT_take (i := 21) (v := ?_) rfl (by kernel_rfl) (by kernel_rfl) (by kernel_rfl) (by kernel_rfl) (fun _ _ _ h => h) (takes_yield rfl (Or.inl ⟨by rfl, ?_⟩)) (by assumption) (by kernel_rfl) ?_
        rotate_left 1
        · intro w' hSw; go_split_ands; first | (go_simp; done) | (go_simp; rfl) | rfl
        simp only [Act.put, List.getElem_toArray, List.getElem_cons_zero, List.getElem_cons_succ, List.setIfInBounds_toArray, List.set_cons_zero, List.set_cons_succ]
        refine wpAnyT_done (by kernel_rfl) ?_ _
        refine NoPanic.normal ?_
        go_wp2_with fail
        go_meet
        exact ⟨_, _, vl', vw', r', rfl, rfl, rfl, rfl, HZ.out, hRi⟩
    · skip
      go_simp
      have hs6 := And.intro (hS0.1.alloc (.cells zeroAr 69)) (hS0.2.alloc (.cells zeroAr 69))
      have hu6 := hU0.alloc (.cells zeroAr 69)
      refine hK.out _ _ hs6 ?_
      have b8_6 := Blk.new (w3.drew) 69 zeroAr
      have n8_6 := hU0.size
      clear hK
      refine wpAnyT_two (i := 10) (j := 17) (by kernel_rfl) rfl rfl (fun K hK => ?_) (fun K hK => ?_)
      · skip
        go_simp
        refine (hrp.out _ hu6).mono ?_
        rintro e wc7 ⟨vl', vw', r', rfl, hl7, hRi⟩
        have hs7 := And.intro (hs6.1.upd hl7.upd (fun e => e)) (hs6.2.upd hl7.upd (fun e => e))
        have hu7 := hu6.then hl7.upd (fun _ e => e.elim)
        refine hK.out _ _ hs7 ?_
        have b8_7 := b8_6.upd hl7.upd (fun e => e)
        have hl7b := hl7.pre hu6
        clear hK
        refine wpAnyT_take (i := 11) (v := ?_) rfl (by kernel_rfl) (by kernel_rfl) (by kernel_rfl) (by kernel_rfl) (fun _ _ _ h => h) (takes_yield rfl (Or.inl ⟨by rfl, ?_⟩)) (by assumption) (by kernel_rfl) ?_
        rotate_left 1
        · intro w' hSw; go_split_ands; first | (go_simp; done) | (go_simp; rfl) | rfl
        simp only [Act.put, List.getElem_toArray, List.getElem_cons_zero, List.getElem_cons_succ, List.setIfInBounds_toArray, List.set_cons_zero, List.set_cons_succ]
        refine wpAnyT_take (i := 12) (v := ?_) rfl (by kernel_rfl) (by kernel_rfl) (by kernel_rfl) (by kernel_rfl) (fun _ _ _ h => h) (takes_yield rfl (Or.inl ⟨by rfl, ?_⟩)) (by assumption) (by kernel_rfl) ?_
        rotate_left 1
        · intro w' hSw; go_split_ands; first | (go_simp; done) | (go_simp; rfl) | rfl
        simp only [Act.put, List.getElem_toArray, List.getElem_cons_zero, List.getElem_cons_succ, List.setIfInBounds_toArray, List.set_cons_zero, List.set_cons_succ]
        refine wpAnyT_take (i := 13) (v := ?_) rfl (by kernel_rfl) (by kernel_rfl) (by kernel_rfl) (by kernel_rfl) (fun _ _ _ h => h) (takes_yield rfl (Or.inl ⟨by rfl, ?_⟩)) (by assumption) (by kernel_rfl) ?_
        rotate_left 1
        · intro w' hSw; go_split_ands; first | (go_simp; done) | (go_simp; rfl) | rfl
        simp only [Act.put, List.getElem_toArray, List.getElem_cons_zero, List.getElem_cons_succ, List.setIfInBounds_toArray, List.set_cons_zero, List.set_cons_succ]
        refine wpAnyT_take (i := 14) (v := ?_) rfl (by kernel_rfl) (by kernel_rfl) (by kernel_rfl) (by kernel_rfl) (fun _ _ _ h => h) (takes_yield rfl (Or.inl ⟨by rfl, ?_⟩)) (by assumption) (by kernel_rfl) ?_
        rotate_left 1
        · intro w' hSw; go_split_ands; first | (go_simp; done) | (go_simp; rfl) | rfl
        simp only [Act.put, List.getElem_toArray, List.getElem_cons_zero, List.getElem_cons_succ, List.setIfInBounds_toArray, List.set_cons_zero, List.set_cons_succ]
        refine wpAnyT_take (i := 15) (v := ?_) rfl (by kernel_rfl) (by kernel_rfl) (by kernel_rfl) (by kernel_rfl) (fun _ _ _ h => h) (takes_yield rfl (Or.inl ⟨by rfl, ?_⟩)) (by assumption) (by kernel_rfl) ?_
        rotate_left 1
        · intro w' hSw; go_split_ands; first | (go_simp; done) | (go_simp; rfl) | rfl
        simp only [Act.put, List.getElem_toArray, List.getElem_cons_zero, List.getElem_cons_succ, List.setIfInBounds_toArray, List.set_cons_zero, List.set_cons_succ]
        refine wpAnyT_one (i := 17) (by kernel_rfl) rfl (fun K hK => ?_)
        go_simp
        have hs8 := And.intro (hs7.1.alloc (.cells zeroRd 33)) (hs7.2.alloc (.cells zeroRd 33))
        have hu8 := hu7.alloc (.cells zeroRd 33)
        refine hK.out _ _ hs8 ?_
        have b8_8 := b8_7.alloc (.cells zeroRd 33)
        have b9_8 := Blk.new (wc7) 33 zeroRd
        have n9_8 := hu7.size
        have hl8 := hl7b.post ((Upd.refl (fun _ => False) (wc7)).alloc (.cells zeroRd 33))
        clear hK
        refine wpAnyT_one (i := 18) (by kernel_rfl) rfl (fun K hK => ?_)
        refine step_store_all (by rfl) 69 _ _ (by rfl) (w3.drew).heap.size (rowA K1 N' H') (by rfl) (by rfl) _ _ b8_8 rfl (rowA_one _ _ _) (by kernel_rfl) ?_
        intro y1 hB1 hU1 hz1
        have hg8 : w3.heap.size ≤ (w3.drew).heap.size := n8_6
        have hg9 : w3.heap.size ≤ (wc7).heap.size := n9_8
        have hg89 : (wc7).heap.size ≠ (w3.drew).heap.size := b9_8.ne_ b8_8 (by decide)
        have hy1 := And.intro (hs8.1.upd hU1 (fun e => hs8.1.ne_ b8_8 (by decide) e)) (hs8.2.upd hU1 (fun e => hs8.2.ne_ b8_8 (by decide) e))
        refine hK.out _ _ hy1 ?_
        clear hK
        refine wpAnyT_one (i := 19) (by kernel_rfl) rfl (fun K hK => ?_)
        refine step_store_all (by rfl) 33 _ _ (by rfl) (wc7).heap.size #[vl', vw', .int .i64 r'.fuse, .bool r'.off] (by rfl) (by rfl) _ _ (b9_8.upd hU1 hg89) rfl (rdrow_one r' hl8.at_) (by kernel_rfl) ?_
        intro y2 hB2 hU2 hz2
        have hy2 := And.intro (hy1.1.upd hU2 (fun e => hs8.1.ne_ b9_8 (by decide) e)) (hy1.2.upd hU2 (fun e => hs8.2.ne_ b9_8 (by decide) e))
        refine hK.out _ _ hy2 ?_
        have hly := (hl8.store hU1 (fun q hq e => hl8.at_.ne b8_8 (by decide) (by decide) (e ▸ hq)) hg8).store hU2 (fun q hq e => hl8.at_.ne b9_8 (by decide) (by decide) (e ▸ hq)) hg9
        have HZ := Lib.hid (show Boxed23 w3 y2 vl vw vl' vw' r' K1 N' H' (w3.drew).heap.size (wc7).heap.size from ⟨hB1.upd hU2 (Ne.symm hg89), hB2, hly, hg8, hg9, Ne.symm hg89⟩)
        clear hK hB1 hU1 hz1 hB2 hU2 hz2 hly hy1
        refine wpAnyT_take (i := 20) (v := ?_) rfl (by kernel_rfl) (by kernel_rfl) (by kernel_rfl) (by kernel_rfl) (fun _ _ _ h => h) (takes_yield rfl (Or.inl ⟨by rfl, ?_⟩)) (by assumption) (by kernel_rfl) ?_
        rotate_left 1
        · intro w' hSw; go_split_ands; first | (go_simp; done) | (go_simp; rfl) | rfl
        simp only [Act.put, List.getElem_toArray, List.getElem_cons_zero, List.getElem_cons_succ, List.setIfInBounds_toArray, List.set_cons_zero, List.set_cons_succ]
        refine wpAnyT_take (i := 21) (v := ?_) rfl (by kernel_rfl) (by kernel_rfl) (by kernel_rfl) (by kernel_rfl) (fun _ _ _ h => h) (takes_yield rfl (Or.inl ⟨by rfl, ?_⟩)) (by assumption) (by kernel_rfl) ?_
        rotate_left 1
        · intro w' hSw; go_split_ands; first | (go_simp; done) | (go_simp; rfl) | rfl
        simp only [Act.put, List.getElem_toArray, List.getElem_cons_zero, List.getElem_cons_succ, List.setIfInBounds_toArray, List.set_cons_zero, List.set_cons_succ]
        refine wpAnyT_done (by kernel_rfl) ?_ _
        refine NoPanic.normal ?_
        go_wp2_with fail
        go_meet
        exact ⟨_, _, vl', vw', r', rfl, rfl, rfl, rfl, HZ.out, hRi⟩
      · skip
        go_simp
        have hs9 := And.intro (hs6.1.alloc (.cells zeroRd 33)) (hs6.2.alloc (.cells zeroRd 33))
        have hu9 := hu6.alloc (.cells zeroRd 33)
        refine hK.out _ _ hs9 ?_
        have b8_9 := b8_6.alloc (.cells zeroRd 33)
        have e9_9 : (w3.drew.alloc (.cells zeroAr 69)).heap.size = w3.heap.size + 1 := by simp
        have b9_9 := Blk.new (w3.drew.alloc (.cells zeroAr 69)) 33 zeroRd
        have n9_9 := hu6.size
        rw [e9_9] at b9_9 n9_9
        clear e9_9
        clear hK
        refine wpAnyT_one (i := 10) (by kernel_rfl) rfl (fun K hK => ?_)
        go_simp
        refine (hrp.out _ hu9).mono ?_
        rintro e wc10 ⟨vl', vw', r', rfl, hl10, hRi⟩
        have hs10 := And.intro (hs9.1.upd hl10.upd (fun e => e)) (hs9.2.upd hl10.upd (fun e => e))
        have hu10 := hu9.then hl10.upd (fun _ e => e.elim)
        refine hK.out _ _ hs10 ?_
        have b8_10 := b8_9.upd hl10.upd (fun e => e)
        have b9_10 := b9_9.upd hl10.upd (fun e => e)
        have hl10b := hl10.pre hu9
        clear hK
        refine wpAnyT_take (i := 11) (v := ?_) rfl (by kernel_rfl) (by kernel_rfl) (by kernel_rfl) (by kernel_rfl) (fun _ _ _ h => h) (takes_yield rfl (Or.inl ⟨by rfl, ?_⟩)) (by assumption) (by kernel_rfl) ?_
        rotate_left 1
        · intro w' hSw; go_split_ands; first | (go_simp; done) | (go_simp; rfl) | rfl
        simp only [Act.put, List.getElem_toArray, List.getElem_cons_zero, List.getElem_cons_succ, List.setIfInBounds_toArray, List.set_cons_zero, List.set_cons_succ]
        refine wpAnyT_take (i := 12) (v := ?_) rfl (by kernel_rfl) (by kernel_rfl) (by kernel_rfl) (by kernel_rfl) (fun _ _ _ h => h) (takes_yield rfl (Or.inl ⟨by rfl, ?_⟩)) (by assumption) (by kernel_rfl) ?_
        rotate_left 1
        · intro w' hSw; go_split_ands; first | (go_simp; done) | (go_simp; rfl) | rfl
        simp only [Act.put, List.getElem_toArray, List.getElem_cons_zero, List.getElem_cons_succ, List.setIfInBounds_toArray, List.set_cons_zero, List.set_cons_succ]
        refine wpAnyT_take (i := 13) (v := ?_) rfl (by kernel_rfl) (by kernel_rfl) (by kernel_rfl) (by kernel_rfl) (fun _ _ _ h => h) (takes_yield rfl (Or.inl ⟨by rfl, ?_⟩)) (by assumption) (by kernel_rfl) ?_
        rotate_left 1
        · intro w' hSw; go_split_ands; first | (go_simp; done) | (go_simp; rfl) | rfl
        simp only [Act.put, List.getElem_toArray, List.getElem_cons_zero, List.getElem_cons_succ, List.setIfInBounds_toArray, List.set_cons_zero, List.set_cons_succ]
        refine wpAnyT_take (i := 14) (v := ?_) rfl (by kernel_rfl) (by kernel_rfl) (by kernel_rfl) (by kernel_rfl) (fun _ _ _ h => h) (takes_yield rfl (Or.inl ⟨by rfl, ?_⟩)) (by assumption) (by kernel_rfl) ?_
        rotate_left 1
        · intro w' hSw; go_split_ands; first | (go_simp; done) | (go_simp; rfl) | rfl
        simp only [Act.put, List.getElem_toArray, List.getElem_cons_zero, List.getElem_cons_succ, List.setIfInBounds_toArray, List.set_cons_zero, List.set_cons_succ]
        refine wpAnyT_take (i := 15) (v := ?_) rfl (by kernel_rfl) (by kernel_rfl) (by kernel_rfl) (by kernel_rfl) (fun _ _ _ h => h) (takes_yield rfl (Or.inl ⟨by rfl, ?_⟩)) (by assumption) (by kernel_rfl) ?_
        rotate_left 1
        · intro w' hSw; go_split_ands; first | (go_simp; done) | (go_simp; rfl) | rfl
        simp only [Act.put, List.getElem_toArray, List.getElem_cons_zero, List.getElem_cons_succ, List.setIfInBounds_toArray, List.set_cons_zero, List.set_cons_succ]
        refine wpAnyT_one (i := 18) (by kernel_rfl) rfl (fun K hK => ?_)
        refine step_store_all (by rfl) 69 _ _ (by rfl) (w3.drew).heap.size (rowA K1 N' H') (by rfl) (by rfl) _ _ b8_10 rfl (rowA_one _ _ _) (by kernel_rfl) ?_
        intro y1 hB1 hU1 hz1
        have hg8 : w3.heap.size ≤ (w3.drew).heap.size := n8_6
        have hg9 : w3.heap.size ≤ (w3.heap.size + 1) := n9_9
        have hg89 : (w3.heap.size + 1) ≠ (w3.drew).heap.size := b9_10.ne_ b8_10 (by decide)
        have hy1 := And.intro (hs10.1.upd hU1 (fun e => hs10.1.ne_ b8_10 (by decide) e)) (hs10.2.upd hU1 (fun e => hs10.2.ne_ b8_10 (by decide) e))
        refine hK.out _ _ hy1 ?_
        clear hK
        refine wpAnyT_one (i := 19) (by kernel_rfl) rfl (fun K hK => ?_)
        refine step_store_all (by rfl) 33 _ _ (by rfl) (w3.heap.size + 1) #[vl', vw', .int .i64 r'.fuse, .bool r'.off] (by rfl) (by rfl) _ _ (b9_10.upd hU1 hg89) rfl (rdrow_one r' hl10b.at_) (by kernel_rfl) ?_
        intro y2 hB2 hU2 hz2
        have hy2 := And.intro (hy1.1.upd hU2 (fun e => hs10.1.ne_ b9_10 (by decide) e)) (hy1.2.upd hU2 (fun e => hs10.2.ne_ b9_10 (by decide) e))
        refine hK.out _ _ hy2 ?_
        have hly := (hl10b.store hU1 (fun q hq e => hl10b.at_.ne b8_10 (by decide) (by decide) (e ▸ hq)) hg8).store hU2 (fun q hq e => hl10b.at_.ne b9_10 (by decide) (by decide) (e ▸ hq)) hg9
        have HZ := Lib.hid (show Boxed23 w3 y2 vl vw vl' vw' r' K1 N' H' (w3.drew).heap.size (w3.heap.size + 1) from ⟨hB1.upd hU2 (Ne.symm hg89), hB2, hly, hg8, hg9, Ne.symm hg89⟩)
        clear hK hB1 hU1 hz1 hB2 hU2 hz2 hly hy1
        refine wpAnyT_take (i := 20) (v := ?_) rfl (by kernel_rfl) (by kernel_rfl) (by kernel_rfl) (by kernel_rfl) (fun _ _ _ h => h) (takes_yield rfl (Or.inl ⟨by rfl, ?_⟩)) (by assumption) (by kernel_rfl) ?_
        rotate_left 1
        · intro w' hSw; go_split_ands; first | (go_simp; done) | (go_simp; rfl) | rfl
        simp only [Act.put, List.getElem_toArray, List.getElem_cons_zero, List.getElem_cons_succ, List.setIfInBounds_toArray, List.set_cons_zero, List.set_cons_succ]
        refine wpAnyT_take (i := 21) (v := ?_) rfl (by kernel_rfl) (by kernel_rfl) (by kernel_rfl) (by kernel_rfl) (fun _ _ _ h => h) (takes_yield rfl (Or.inl ⟨by rfl, ?_⟩)) (by assumption) (by kernel_rfl) ?_
        rotate_left 1
        · intro w' hSw; go_split_ands; first | (go_simp; done) | (go_simp; rfl) | rfl
        simp only [Act.put, List.getElem_toArray, List.getElem_cons_zero, List.getElem_cons_succ, List.setIfInBounds_toArray, List.set_cons_zero, List.set_cons_succ]
        refine wpAnyT_done (by kernel_rfl) ?_ _
        refine NoPanic.normal ?_
        go_wp2_with fail
        go_meet
        exact ⟨_, _, vl', vw', r', rfl, rfl, rfl, rfl, HZ.out, hRi⟩
    · skip
      go_simp
      have hs11 := And.intro (hS0.1.alloc (.cells zeroRd 33)) (hS0.2.alloc (.cells zeroRd 33))
      have hu11 := hU0.alloc (.cells zeroRd 33)
      refine hK.out _ _ hs11 ?_
      have b9_11 := Blk.new (w3.drew) 33 zeroRd
      have n9_11 := hU0.size
      clear hK
      refine wpAnyT_two (i := 10) (j := 16) (by kernel_rfl) rfl rfl (fun K hK => ?_) (fun K hK => ?_)
      · skip
        go_simp
        refine (hrp.out _ hu11).mono ?_
        rintro e wc12 ⟨vl', vw', r', rfl, hl12, hRi⟩
        have hs12 := And.intro (hs11.1.upd hl12.upd (fun e => e)) (hs11.2.upd hl12.upd (fun e => e))
        have hu12 := hu11.then hl12.upd (fun _ e => e.elim)
        refine hK.out _ _ hs12 ?_
        have b9_12 := b9_11.upd hl12.upd (fun e => e)
        have hl12b := hl12.pre hu11
        clear hK
        refine wpAnyT_take (i := 11) (v := ?_) rfl (by kernel_rfl) (by kernel_rfl) (by kernel_rfl) (by kernel_rfl) (fun _ _ _ h => h) (takes_yield rfl (Or.inl ⟨by rfl, ?_⟩)) (by assumption) (by kernel_rfl) ?_
        rotate_left 1
        · intro w' hSw; go_split_ands; first | (go_simp; done) | (go_simp; rfl) | rfl
        simp only [Act.put, List.getElem_toArray, List.getElem_cons_zero, List.getElem_cons_succ, List.setIfInBounds_toArray, List.set_cons_zero, List.set_cons_succ]
        refine wpAnyT_take (i := 12) (v := ?_) rfl (by kernel_rfl) (by kernel_rfl) (by kernel_rfl) (by kernel_rfl) (fun _ _ _ h => h) (takes_yield rfl (Or.inl ⟨by rfl, ?_⟩)) (by assumption) (by kernel_rfl) ?_
        rotate_left 1
        · intro w' hSw; go_split_ands; first | (go_simp; done) | (go_simp; rfl) | rfl
        simp only [Act.put, List.getElem_toArray, List.getElem_cons_zero, List.getElem_cons_succ, List.setIfInBounds_toArray, List.set_cons_zero, List.set_cons_succ]
        refine wpAnyT_take (i := 13) (v := ?_) rfl (by kernel_rfl) (by kernel_rfl) (by kernel_rfl) (by kernel_rfl) (fun _ _ _ h => h) (takes_yield rfl (Or.inl ⟨by rfl, ?_⟩)) (by assumption) (by kernel_rfl) ?_
        rotate_left 1
        · intro w' hSw; go_split_ands; first | (go_simp; done) | (go_simp; rfl) | rfl
        simp only [Act.put, List.getElem_toArray, List.getElem_cons_zero, List.getElem_cons_succ, List.setIfInBounds_toArray, List.set_cons_zero, List.set_cons_succ]
        refine wpAnyT_take (i := 14) (v := ?_) rfl (by kernel_rfl) (by kernel_rfl) (by kernel_rfl) (by kernel_rfl) (fun _ _ _ h => h) (takes_yield rfl (Or.inl ⟨by rfl, ?_⟩)) (by assumption) (by kernel_rfl) ?_
        rotate_left 1
        · intro w' hSw; go_split_ands; first | (go_simp; done) | (go_simp; rfl) | rfl
        simp only [Act.put, List.getElem_toArray, List.getElem_cons_zero, List.getElem_cons_succ, List.setIfInBounds_toArray, List.set_cons_zero, List.set_cons_succ]
        refine wpAnyT_take (i := 15) (v := ?_) rfl (by kernel_rfl) (by kernel_rfl) (by kernel_rfl) (by kernel_rfl) (fun _ _ _ h => h) (takes_yield rfl (Or.inl ⟨by rfl, ?_⟩)) (by assumption) (by kernel_rfl) ?_
        rotate_left 1
        · intro w' hSw; go_split_ands; first | (go_simp; done) | (go_simp; rfl) | rfl
        simp only [Act.put, List.getElem_toArray, List.getElem_cons_zero, List.getElem_cons_succ, List.setIfInBounds_toArray, List.set_cons_zero, List.set_cons_succ]
        refine wpAnyT_one (i := 16) (by kernel_rfl) rfl (fun K hK => ?_)
        go_simp
        have hs13 := And.intro (hs12.1.alloc (.cells zeroAr 69)) (hs12.2.alloc (.cells zeroAr 69))
        have hu13 := hu12.alloc (.cells zeroAr 69)
        refine hK.out _ _ hs13 ?_
        have b9_13 := b9_12.alloc (.cells zeroAr 69)
        have b8_13 := Blk.new (wc12) 69 zeroAr
        have n8_13 := hu12.size
        have hl13 := hl12b.post ((Upd.refl (fun _ => False) (wc12)).alloc (.cells zeroAr 69))
        clear hK
        refine wpAnyT_one (i := 18) (by kernel_rfl) rfl (fun K hK => ?_)
        refine step_store_all (by rfl) 69 _ _ (by rfl) (wc12).heap.size (rowA K1 N' H') (by rfl) (by rfl) _ _ b8_13 rfl (rowA_one _ _ _) (by kernel_rfl) ?_
        intro y1 hB1 hU1 hz1
        have hg8 : w3.heap.size ≤ (wc12).heap.size := n8_13
        have hg9 : w3.heap.size ≤ (w3.drew).heap.size := n9_11
        have hg89 : (w3.drew).heap.size ≠ (wc12).heap.size := b9_13.ne_ b8_13 (by decide)
        have hy1 := And.intro (hs13.1.upd hU1 (fun e => hs13.1.ne_ b8_13 (by decide) e)) (hs13.2.upd hU1 (fun e => hs13.2.ne_ b8_13 (by decide) e))
        refine hK.out _ _ hy1 ?_
        clear hK
        refine wpAnyT_one (i := 19) (by kernel_rfl) rfl (fun K hK => ?_)
        refine step_store_all (by rfl) 33 _ _ (by rfl) (w3.drew).heap.size #[vl', vw', .int .i64 r'.fuse, .bool r'.off] (by rfl) (by rfl) _ _ (b9_13.upd hU1 hg89) rfl (rdrow_one r' hl13.at_) (by kernel_rfl) ?_
        intro y2 hB2 hU2 hz2
        have hy2 := And.intro (hy1.1.upd hU2 (fun e => hs13.1.ne_ b9_13 (by decide) e)) (hy1.2.upd hU2 (fun e => hs13.2.ne_ b9_13 (by decide) e))
        refine hK.out _ _ hy2 ?_
        have hly := (hl13.store hU1 (fun q hq e => hl13.at_.ne b8_13 (by decide) (by decide) (e ▸ hq)) hg8).store hU2 (fun q hq e => hl13.at_.ne b9_13 (by decide) (by decide) (e ▸ hq)) hg9
        have HZ := Lib.hid (show Boxed23 w3 y2 vl vw vl' vw' r' K1 N' H' (wc12).heap.size (w3.drew).heap.size from ⟨hB1.upd hU2 (Ne.symm hg89), hB2, hly, hg8, hg9, Ne.symm hg89⟩)
        clear hK hB1 hU1 hz1 hB2 hU2 hz2 hly hy1
        refine wpAnyT_take (i := 20) (v := ?_) rfl (by kernel_rfl) (by kernel_rfl) (by kernel_rfl) (by kernel_rfl) (fun _ _ _ h => h) (takes_yield rfl (Or.inl ⟨by rfl, ?_⟩)) (by assumption) (by kernel_rfl) ?_
        rotate_left 1
        · intro w' hSw; go_split_ands; first | (go_simp; done) | (go_simp; rfl) | rfl
        simp only [Act.put, List.getElem_toArray, List.getElem_cons_zero, List.getElem_cons_succ, List.setIfInBounds_toArray, List.set_cons_zero, List.set_cons_succ]
        refine wpAnyT_take (i := 21) (v := ?_) rfl (by kernel_rfl) (by kernel_rfl) (by kernel_rfl) (by kernel_rfl) (fun _ _ _ h => h) (takes_yield rfl (Or.inl ⟨by rfl, ?_⟩)) (by assumption) (by kernel_rfl) ?_
        rotate_left 1
        · intro w' hSw; go_split_ands; first | (go_simp; done) | (go_simp; rfl) | rfl
        simp only [Act.put, List.getElem_toArray, List.getElem_cons_zero, List.getElem_cons_succ, List.setIfInBounds_toArray, List.set_cons_zero, List.set_cons_succ]
        refine wpAnyT_done (by kernel_rfl) ?_ _
        refine NoPanic.normal ?_
        go_wp2_with fail
        go_meet
        exact ⟨_, _, vl', vw', r', rfl, rfl, rfl, rfl, HZ.out, hRi⟩
      · skip
        go_simp
        have hs14 := And.intro (hs11.1.alloc (.cells zeroAr 69)) (hs11.2.alloc (.cells zeroAr 69))
        have hu14 := hu11.alloc (.cells zeroAr 69)
        refine hK.out _ _ hs14 ?_
        have b9_14 := b9_11.alloc (.cells zeroAr 69)
        have e8_14 : (w3.drew.alloc (.cells zeroRd 33)).heap.size = w3.heap.size + 1 := by simp
        have b8_14 := Blk.new (w3.drew.alloc (.cells zeroRd 33)) 69 zeroAr
        have n8_14 := hu11.size
        rw [e8_14] at b8_14 n8_14
        clear e8_14
        clear hK
        refine wpAnyT_one (i := 10) (by kernel_rfl) rfl (fun K hK => ?_)
        go_simp
        refine (hrp.out _ hu14).mono ?_
        rintro e wc15 ⟨vl', vw', r', rfl, hl15, hRi⟩
        have hs15 := And.intro (hs14.1.upd hl15.upd (fun e => e)) (hs14.2.upd hl15.upd (fun e => e))
        have hu15 := hu14.then hl15.upd (fun _ e => e.elim)
        refine hK.out _ _ hs15 ?_
        have b9_15 := b9_14.upd hl15.upd (fun e => e)
        have b8_15 := b8_14.upd hl15.upd (fun e => e)
        have hl15b := hl15.pre hu14
        clear hK
        refine wpAnyT_take (i := 11) (v := ?_) rfl (by kernel_rfl) (by kernel_rfl) (by kernel_rfl) (by kernel_rfl) (fun _ _ _ h => h) (takes_yield rfl (Or.inl ⟨by rfl, ?_⟩)) (by assumption) (by kernel_rfl) ?_
        rotate_left 1
        · intro w' hSw; go_split_ands; first | (go_simp; done) | (go_simp; rfl) | rfl
        simp only [Act.put, List.getElem_toArray, List.getElem_cons_zero, List.getElem_cons_succ, List.setIfInBounds_toArray, List.set_cons_zero, List.set_cons_succ]
        refine wpAnyT_take (i := 12) (v := ?_) rfl (by kernel_rfl) (by kernel_rfl) (by kernel_rfl) (by kernel_rfl) (fun _ _ _ h => h) (takes_yield rfl (Or.inl ⟨by rfl, ?_⟩)) (by assumption) (by kernel_rfl) ?_
        rotate_left 1
        · intro w' hSw; go_split_ands; first | (go_simp; done) | (go_simp; rfl) | rfl
        simp only [Act.put, List.getElem_toArray, List.getElem_cons_zero, List.getElem_cons_succ, List.setIfInBounds_toArray, List.set_cons_zero, List.set_cons_succ]
        refine wpAnyT_take (i := 13) (v := ?_) rfl (by kernel_rfl) (by kernel_rfl) (by kernel_rfl) (by kernel_rfl) (fun _ _ _ h => h) (takes_yield rfl (Or.inl ⟨by rfl, ?_⟩)) (by assumption) (by kernel_rfl) ?_
        rotate_left 1
        · intro w' hSw; go_split_ands; first | (go_simp; done) | (go_simp; rfl) | rfl
        simp only [Act.put, List.getElem_toArray, List.getElem_cons_zero, List.getElem_cons_succ, List.setIfInBounds_toArray, List.set_cons_zero, List.set_cons_succ]
        refine wpAnyT_take (i := 14) (v := ?_) rfl (by kernel_rfl) (by kernel_rfl) (by kernel_rfl) (by kernel_rfl) (fun _ _ _ h => h) (takes_yield rfl (Or.inl ⟨by rfl, ?_⟩)) (by assumption) (by kernel_rfl) ?_
        rotate_left 1
        · intro w' hSw; go_split_ands; first | (go_simp; done) | (go_simp; rfl) | rfl
        simp only [Act.put, List.getElem_toArray, List.getElem_cons_zero, List.getElem_cons_succ, List.setIfInBounds_toArray, List.set_cons_zero, List.set_cons_succ]
        refine wpAnyT_take (i := 15) (v := ?_) rfl (by kernel_rfl) (by kernel_rfl) (by kernel_rfl) (by kernel_rfl) (fun _ _ _ h => h) (takes_yield rfl (Or.inl ⟨by rfl, ?_⟩)) (by assumption) (by kernel_rfl) ?_
        rotate_left 1
        · intro w' hSw; go_split_ands; first | (go_simp; done) | (go_simp; rfl) | rfl
        simp only [Act.put, List.getElem_toArray, List.getElem_cons_zero, List.getElem_cons_succ, List.setIfInBounds_toArray, List.set_cons_zero, List.set_cons_succ]
        refine wpAnyT_one (i := 18) (by kernel_rfl) rfl (fun K hK => ?_)
        refine step_store_all (by rfl) 69 _ _ (by rfl) (w3.heap.size + 1) (rowA K1 N' H') (by rfl) (by rfl) _ _ b8_15 rfl (rowA_one _ _ _) (by kernel_rfl) ?_
        intro y1 hB1 hU1 hz1
        have hg8 : w3.heap.size ≤ (w3.heap.size + 1) := n8_14
        have hg9 : w3.heap.size ≤ (w3.drew).heap.size := n9_11
        have hg89 : (w3.drew).heap.size ≠ (w3.heap.size + 1) := b9_15.ne_ b8_15 (by decide)
        have hy1 := And.intro (hs15.1.upd hU1 (fun e => hs15.1.ne_ b8_15 (by decide) e)) (hs15.2.upd hU1 (fun e => hs15.2.ne_ b8_15 (by decide) e))
        refine hK.out _ _ hy1 ?_
        clear hK
        refine wpAnyT_one (i := 19) (by kernel_rfl) rfl (fun K hK => ?_)
        refine step_store_all (by rfl) 33 _ _ (by rfl) (w3.drew).heap.size #[vl', vw', .int .i64 r'.fuse, .bool r'.off] (by rfl) (by rfl) _ _ (b9_15.upd hU1 hg89) rfl (rdrow_one r' hl15b.at_) (by kernel_rfl) ?_
        intro y2 hB2 hU2 hz2
        have hy2 := And.intro (hy1.1.upd hU2 (fun e => hs15.1.ne_ b9_15 (by decide) e)) (hy1.2.upd hU2 (fun e => hs15.2.ne_ b9_15 (by decide) e))
        refine hK.out _ _ hy2 ?_
        have hly := (hl15b.store hU1 (fun q hq e => hl15b.at_.ne b8_15 (by decide) (by decide) (e ▸ hq)) hg8).store hU2 (fun q hq e => hl15b.at_.ne b9_15 (by decide) (by decide) (e ▸ hq)) hg9
        have HZ := Lib.hid (show Boxed23 w3 y2 vl vw vl' vw' r' K1 N' H' (w3.heap.size + 1) (w3.drew).heap.size from ⟨hB1.upd hU2 (Ne.symm hg89), hB2, hly, hg8, hg9, Ne.symm hg89⟩)
        clear hK hB1 hU1 hz1 hB2 hU2 hz2 hly hy1
        refine wpAnyT_take (i := 20) (v := ?_) rfl (by kernel_rfl) (by kernel_rfl) (by kernel_rfl) (by kernel_rfl) (fun _ _ _ h => h) (takes_yield rfl (Or.inl ⟨by rfl, ?_⟩)) (by assumption) (by kernel_rfl) ?_
        rotate_left 1
        · intro w' hSw; go_split_ands; first | (go_simp; done) | (go_simp; rfl) | rfl
        simp only [Act.put, List.getElem_toArray, List.getElem_cons_zero, List.getElem_cons_succ, List.setIfInBounds_toArray, List.set_cons_zero, List.set_cons_succ]
        refine wpAnyT_take (i := 21) (v := ?_) rfl (by kernel_rfl) (by kernel_rfl) (by kernel_rfl) (by kernel_rfl) (fun _ _ _ h => h) (takes_yield rfl (Or.inl ⟨by rfl, ?_⟩)) (by assumption) (by kernel_rfl) ?_
        rotate_left 1
        · intro w' hSw; go_split_ands; first | (go_simp; done) | (go_simp; rfl) | rfl
        simp only [Act.put, List.getElem_toArray, List.getElem_cons_zero, List.getElem_cons_succ, List.setIfInBounds_toArray, List.set_cons_zero, List.set_cons_succ]
        refine wpAnyT_done (by kernel_rfl) ?_ _
        refine NoPanic.normal ?_
        go_wp2_with fail
        go_meet
        exact ⟨_, _, vl', vw', r', rfl, rfl, rfl, rfl, HZ.out, hRi⟩
  case rest =>
    obtain ⟨g8, g9, vl', vw', R1, rfl, rfl, rfl, rfl, hBo, hRi⟩ := hcut
    have HBo := Lib.hid hBo
    clear hBo
    obtain ⟨hq1, hq2, hq3, hq4⟩ := HQ.out
    rename World => wx
    have hbx := H4.out.1.1.upd HBo.out.left.upd (fun e => e)
    have hP : PlayAt w0 wx p D vl' vw' R1 := ⟨H4.out.2.1.ref HBo.out.left, HBo.out.left.at_, hRi⟩
    have hKp : KpS w0 wx p b K1 := H4.out.2.2.1.still HBo.out.left.upd
    have hAr : ArbS w0 wx a b N' H' := H4.out.2.2.2.2.2.still HBo.out.left.upd
    have HX := Lib.hid (And.intro hbx (And.intro hP (And.intro hKp (And.intro hq1 (And.intro (And.intro hq3 hq4) (And.intro hAr hq2))))))
    have hlow := H4.out.2.2.2.2.1
    have HL := Lib.hid hlow
    clear hq1 hq2 hq3 hq4 hbx hP hKp hAr hlow hrp HQ H4 hput hHr hRi
    go_upto_region 7 with fail
    refine wp_region_noPanic ?_
    refine wp_region_T (S := fun w' => Blk w' g8 69 (rowA K1 N' H') ∧ Blk w' g9 33 #[vl', vw', .int .i64 R1.fuse, .bool R1.off]) (T := fun _ => false) (by kernel_rfl) ?_
    have hS0 := And.intro HBo.out.b8.drew HBo.out.b9.drew
    refine wpAnyT_take (i := 0) (v := ?_) rfl (by kernel_rfl) (by kernel_rfl) (by kernel_rfl) (by kernel_rfl) (fun _ _ _ h => h) (takes_yield rfl (Or.inl ⟨by rfl, ?_⟩)) (by assumption) (by kernel_rfl) ?_
    rotate_left 1
    · intro w' hSw; have hcw := hSw.1.cells8; have hca := hSw.2.cells4; go_split_ands; first | (go_simp; done) | (go_simp; rfl) | rfl
    simp only [Act.put, List.getElem_toArray, List.getElem_cons_zero, List.setIfInBounds_toArray, List.set_cons_zero, List.set_cons_succ]
    refine wpAnyT_take (i := 1) (v := ?_) rfl (by kernel_rfl) (by kernel_rfl) (by kernel_rfl) (by kernel_rfl) (fun _ _ _ h => h) (takes_yield rfl (Or.inl ⟨by rfl, ?_⟩)) (by assumption) (by kernel_rfl) ?_
    rotate_left 1
    · intro w' hSw; have hcw := hSw.1.cells8; have hca := hSw.2.cells4; go_split_ands; first | (go_simp; done) | (go_simp; rfl) | rfl
    simp only [Act.put, List.getElem_toArray, List.getElem_cons_zero, List.getElem_cons_succ, List.setIfInBounds_toArray, List.set_cons_zero, List.set_cons_succ]
    refine wpAnyT_take (i := 2) (v := ?_) rfl (by kernel_rfl) (by kernel_rfl) (by kernel_rfl) (by kernel_rfl) (fun _ _ _ h => h) (takes_yield rfl (Or.inl ⟨by rfl, ?_⟩)) (by assumption) (by kernel_rfl) ?_
    rotate_left 1
    · intro w' hSw; have hcw := hSw.1.cells8; have hca := hSw.2.cells4; go_split_ands; first | (go_simp; done) | (go_simp; rfl) | rfl
    simp only [Act.put, List.getElem_toArray, List.getElem_cons_zero, List.getElem_cons_succ, List.setIfInBounds_toArray, List.set_cons_zero, List.set_cons_succ]
    refine wpAnyT_take (i := 3) (v := ?_) rfl (by kernel_rfl) (by kernel_rfl) (by kernel_rfl) (by kernel_rfl) (fun _ _ _ h => h) (takes_yield rfl (Or.inl ⟨by rfl, ?_⟩)) (by assumption) (by kernel_rfl) ?_
    rotate_left 1
    · intro w' hSw; have hcw := hSw.1.cells8; have hca := hSw.2.cells4; go_split_ands; first | (go_simp; done) | (go_simp; rfl) | rfl
    simp only [Act.put, List.getElem_toArray, List.getElem_cons_zero, List.getElem_cons_succ, List.setIfInBounds_toArray, List.set_cons_zero, List.set_cons_succ]
    refine wpAnyT_take (i := 4) (v := ?_) rfl (by kernel_rfl) (by kernel_rfl) (by kernel_rfl) (by kernel_rfl) (fun _ _ _ h => h) (takes_yield rfl (Or.inl ⟨by rfl, ?_⟩)) (by assumption) (by kernel_rfl) ?_
    rotate_left 1
    · intro w' hSw; have hcw := hSw.1.cells8; have hca := hSw.2.cells4; go_split_ands; first | (go_simp; done) | (go_simp; rfl) | rfl
    simp only [Act.put, List.getElem_toArray, List.getElem_cons_zero, List.getElem_cons_succ, List.setIfInBounds_toArray, List.set_cons_zero, List.set_cons_succ]
    refine wpAnyT_take (i := 5) (v := ?_) rfl (by kernel_rfl) (by kernel_rfl) (by kernel_rfl) (by kernel_rfl) (fun _ _ _ h => h) (takes_yield rfl (Or.inl ⟨by rfl, ?_⟩)) (by assumption) (by kernel_rfl) ?_
    rotate_left 1
    · intro w' hSw; have hcw := hSw.1.cells8; have hca := hSw.2.cells4; go_split_ands; first | (go_simp; done) | (go_simp; rfl) | rfl
    simp only [Act.put, List.getElem_toArray, List.getElem_cons_zero, List.getElem_cons_succ, List.setIfInBounds_toArray, List.set_cons_zero, List.set_cons_succ]
    refine wpAnyT_one (i := 6) (by kernel_rfl) rfl (fun K hK => ?_)
    refine step_store_part (by rfl) 69 _ _ (by rfl) x 6 (rowA K1 N' H') (by rfl) (by rfl) _ _ (row23 p (.pointer (some ⟨a, 0, none⟩)) vl vw r K1 N' H' 0) HX.out.1.drew (by simp) rfl (rowA_one _ _ _) (by kernel_rfl) ?_
    intro y1 hB1 hU1 hz1
    have hS1 := And.intro (hS0.1.upd hU1 (fun e => HX.out.1.drew.ne_ hS0.1 (by decide) e.symm)) (hS0.2.upd hU1 (fun e => HX.out.1.drew.ne_ hS0.2 (by decide) e.symm))
    refine hK.out _ _ hS1 ?_
    clear hK
    refine wpAnyT_take (i := 7) (v := ?_) rfl (by kernel_rfl) (by kernel_rfl) (by kernel_rfl) (by kernel_rfl) (fun _ _ _ h => h) (takes_yield rfl (Or.inl ⟨by rfl, ?_⟩)) (by assumption) (by kernel_rfl) ?_
    rotate_left 1
    · intro w' hSw; go_split_ands; first | (go_simp; done) | (go_simp; rfl) | rfl
    simp only [Act.put, List.getElem_toArray, List.getElem_cons_zero, List.getElem_cons_succ, List.setIfInBounds_toArray, List.set_cons_zero, List.set_cons_succ]
    refine wpAnyT_take (i := 8) (v := ?_) rfl (by kernel_rfl) (by kernel_rfl) (by kernel_rfl) (by kernel_rfl) (fun _ _ _ h => h) (takes_yield rfl (Or.inl ⟨by rfl, ?_⟩)) (by assumption) (by kernel_rfl) ?_
    rotate_left 1
    · intro w' hSw; go_split_ands; first | (go_simp; done) | (go_simp; rfl) | rfl
    simp only [Act.put, List.getElem_toArray, List.getElem_cons_zero, List.getElem_cons_succ, List.setIfInBounds_toArray, List.set_cons_zero, List.set_cons_succ]
    refine wpAnyT_one (i := 9) (by kernel_rfl) rfl (fun K hK => ?_)
    refine step_store_part (by rfl) 33 _ _ (by rfl) x 2 #[vl', vw', .int .i64 R1.fuse, .bool R1.off] (by rfl) (by rfl) _ _ (row23 p (.pointer (some ⟨a, 0, none⟩)) vl' vw' R1 K1 N' H' 0) hB1 (by simp) rfl (rdrow_one R1 HX.out.2.1.rd) (by kernel_rfl) ?_
    intro y2 hB2 hU2 hz2
    have hS2 := And.intro (hS1.1.upd hU2 (fun e => HX.out.1.drew.ne_ hS0.1 (by decide) e.symm)) (hS1.2.upd hU2 (fun e => HX.out.1.drew.ne_ hS0.2 (by decide) e.symm))
    refine hK.out _ _ hS2 ?_
    have hUx : Upd (· = x) wx y2 := ((Upd.refl (· = x) wx).drew.then hU1 (fun _ e => .inl e)).then hU2 (fun _ e => .inl e)
    have hE : W23 w0 y2 x p D vl' vw' R1 (.pointer (some ⟨a, 0, none⟩)) K1 N' H' 0 :=
      ⟨HX.out.2.1.own23 HX.out.1 (by decide) (by decide) (by decide) HL.out hUx, hB2, HL.out, .inl ⟨rfl, HX.out.2.2.2.1, HX.out.2.2.2.2.2.2, a, b, rfl, ⟨HX.out.2.2.2.2.2.1.blk.upd hUx (fun e => HX.out.1.ne_ HX.out.2.2.2.2.2.1.blk (by decide) e.symm), HX.out.2.2.2.2.2.1.new⟩, ⟨HX.out.2.2.1.blk.upd hUx (fun e => HX.out.1.ne_ HX.out.2.2.1.blk (by decide) e.symm), HX.out.2.2.1.new⟩⟩⟩
    have HE := Lib.hid hE
    clear hK hS0 hS1 hS2 hB1 hU1 hz1 hB2 hU2 hz2 hUx hE
    refine wpAnyT_done (by kernel_rfl) ?_ _
    refine NoPanic.normal ?_
    go_wp2_with fail
    go_ret
    exact ⟨rfl, D, vl', vw', R1, _, K1, N', H', 0, HE.out, HX.out.2.2.2.2.1.1, HX.out.2.2.2.2.1.2⟩
end
end Go.Proofs.YtpfbgmfkeofefaaGreat

/-
  A law's world of chapter 23: the other acts. (Printed by mk_law23b.py.)
-/
namespace Go.Proofs.YtpfbgmfkeofefaaGreat
open Go Go.RowKit

section
variable {w0 w w' : World} {x p : Nat} {d : Dk} {vl vw kv : Value} {r : Rd} {V : Kp} {N : Nat} {hh : Int} {n : Int}
set_option maxRecDepth 100000 in
set_option maxHeartbeats 3200000 in
theorem d23_none (hW : W23 w0 w x p d vl vw r kv V N hh n) (c n_ : Int) (kp : Value) (do_ : Int) (hdo : do_ < 0 ∨ 3 < do_) :
    Calls Tryz.prog 25 #[.pointer (some ⟨x, 0, none⟩), .agg (act4 do_ c n_ kp)] w fun e w' => e = .returned (.bool true) ∧ Done23 w0 x p d w' := by
  have hwf := (hW.play.disks.one 0 rfl).wf
  obtain ⟨w3, hw3⟩ : ∃ w3, w.alloc (.cells (act4 do_ c n_ kp) 74) = w3 := ⟨_, rfl⟩
  have hU3 : Upd (fun _ => False) w w3 := by rw [← hw3]; exact (Upd.refl _ w).alloc _
  have hB3 : Blk w3 w.heap.size 74 (act4 do_ c n_ kp) := by rw [← hw3]; exact Blk.new w _ _
  have H3 := Lib.hid (And.intro (hW.still hU3) hB3)
  have Hw := Lib.hid hw3
  have Hwf := Lib.hid hwf
  have hc := hB3.cells4
  have hcx := H3.out.1.blk.cells15
  have hne0 : (do_ == 0) = false := by rw [beq_eq_false_iff_ne]; omega
  have hne1 : (do_ == 1) = false := by rw [beq_eq_false_iff_ne]; omega
  have hne2 : (do_ == 2) = false := by rw [beq_eq_false_iff_ne]; omega
  have hne3 : (do_ == 3) = false := by rw [beq_eq_false_iff_ne]; omega
  clear hU3 hB3 hw3 hW hwf hdo
  go_enter Tryz.func25, Tryz.ntmps25
  go_upto_region 1 with fail
  rw [Hw.out]
  clear Hw
  go_wp2_with fail
  go_ret
  exact ⟨rfl, d, vl, vw, r, kv, V, N, hh, n, H3.out.1, by omega, rfl⟩
set_option maxRecDepth 100000 in
set_option maxHeartbeats 3200000 in
theorem d23_open (hW : W23 w0 w x p d vl vw r kv V N hh n) (c n_ : Int) (kp : Value) :
    Calls Tryz.prog 25 #[.pointer (some ⟨x, 0, none⟩), .agg (act4 3 c n_ kp)] w fun e w' => e = .returned (.bool true) ∧ Done23 w0 x p d w' := by
  have hwf := (hW.play.disks.one 0 rfl).wf
  obtain ⟨w3, hw3⟩ : ∃ w3, w.alloc (.cells (act4 3 c n_ kp) 74) = w3 := ⟨_, rfl⟩
  have hU3 : Upd (fun _ => False) w w3 := by rw [← hw3]; exact (Upd.refl _ w).alloc _
  have hB3 : Blk w3 w.heap.size 74 (act4 3 c n_ kp) := by rw [← hw3]; exact Blk.new w _ _
  have H3 := Lib.hid (And.intro (hW.still hU3) hB3)
  have Hw := Lib.hid hw3
  have Hwf := Lib.hid hwf
  have hc := hB3.cells4
  have hcx := H3.out.1.blk.cells15
  have HO := Lib.hid (open_23 H3.out.1)
  clear hU3 hB3 hw3 hW hwf hcx
  go_enter Tryz.func25, Tryz.ntmps25
  go_upto_region 1 with fail
  rw [Hw.out]
  clear Hw
  go_wp2_with fail
  refine HO.out.mono ?_
  rintro e w4 ⟨rfl, kv', V', N4, h4, hW4⟩
  have H4 := Lib.hid hW4
  clear hW4 hc
  go_wp2_with fail
  go_ret
  exact ⟨rfl, d, vl, vw, r, kv', V', _, _, _, H4.out, by omega, rfl⟩
set_option maxRecDepth 100000 in
set_option maxHeartbeats 3200000 in
theorem d23_fuse (hW : W23 w0 w x p d vl vw r kv V N hh n) (c n_ : Int) (kp : Value) (hn_ : i64ok n_) :
    Calls Tryz.prog 25 #[.pointer (some ⟨x, 0, none⟩), .agg (act4 1 c n_ kp)] w fun e w' => e = .returned (.bool true) ∧ Done23 w0 x p d w' := by
  have hwf := (hW.play.disks.one 0 rfl).wf
  obtain ⟨w3, hw3⟩ : ∃ w3, w.alloc (.cells (act4 1 c n_ kp) 74) = w3 := ⟨_, rfl⟩
  have hU3 : Upd (fun _ => False) w w3 := by rw [← hw3]; exact (Upd.refl _ w).alloc _
  have hB3 : Blk w3 w.heap.size 74 (act4 1 c n_ kp) := by rw [← hw3]; exact Blk.new w _ _
  have H3 := Lib.hid (And.intro (hW.still hU3) hB3)
  have Hw := Lib.hid hw3
  have Hwf := Lib.hid hwf
  have hc := hB3.cells4
  have hcx := H3.out.1.blk.cells15
  have hF0 : ∀ W, Upd (fun _ => False) w3 W → Calls Tryz.prog 31 #[.pointer (some ⟨p, 0, none⟩), .int .i64 n_] W fun e w' => e = .returned (.tuple #[]) ∧ DksX w0 w' [(p, d.setFuse n_)] (RdX vl vw) ∧ BlkKept W w' ∧ XKept (RdX vl vw) W w' := fun W hu =>
    fuse_v ((hW.play.still hU3).still hu).disks (i := 0) rfl n_ hn_.2
  have hF := Lib.hid hF0
  have HI := Lib.hid (hW.play.is.setFuse n_)
  clear hU3 hB3 hw3 hW hwf hF0 hn_
  go_enter Tryz.func25, Tryz.ntmps25
  go_upto_region 1 with fail
  rw [Hw.out]
  clear Hw
  go_upto_region 10 with fail
  refine wp_region_noPanic ?_
  refine wp_region_T (S := fun w' => Blk w' x 71 (row23 p kv vl vw r V N hh n) ∧ Blk w' w.heap.size 74 (act4 1 c n_ kp)) (T := fun _ => false) (by kernel_rfl) ?_
  have hS0 := And.intro H3.out.1.blk.drew H3.out.2.drew
  refine wpAnyT_take (i := 0) (v := ?_) rfl (by kernel_rfl) (by kernel_rfl) (by kernel_rfl) (by kernel_rfl) (fun _ _ _ h => h) (takes_yield rfl (Or.inl ⟨by rfl, ?_⟩)) (by assumption) (by kernel_rfl) ?_
  rotate_left 1
  · intro w' hSw; have hcw := hSw.1.cells15; have hca := hSw.2.cells4; go_split_ands; first | (go_simp; done) | (go_simp; rfl) | rfl
  simp only [Act.put, List.getElem_toArray, List.getElem_cons_zero, List.setIfInBounds_toArray, List.set_cons_zero, List.set_cons_succ]
  refine wpAnyT_take (i := 1) (v := ?_) rfl (by kernel_rfl) (by kernel_rfl) (by kernel_rfl) (by kernel_rfl) (fun _ _ _ h => h) (takes_yield rfl (Or.inl ⟨by rfl, ?_⟩)) (by assumption) (by kernel_rfl) ?_
  rotate_left 1
  · intro w' hSw; have hcw := hSw.1.cells15; have hca := hSw.2.cells4; go_split_ands; first | (go_simp; done) | (go_simp; rfl) | rfl
  simp only [Act.put, List.getElem_toArray, List.getElem_cons_zero, List.getElem_cons_succ, List.setIfInBounds_toArray, List.set_cons_zero, List.set_cons_succ]
  refine wpAnyT_take (i := 2) (v := ?_) rfl (by kernel_rfl) (by kernel_rfl) (by kernel_rfl) (by kernel_rfl) (fun _ _ _ h => h) (takes_yield rfl (Or.inl ⟨by rfl, ?_⟩)) (by assumption) (by kernel_rfl) ?_
  rotate_left 1
  · intro w' hSw; have hcw := hSw.1.cells15; have hca := hSw.2.cells4; go_split_ands; first | (go_simp; done) | (go_simp; rfl) | rfl
  simp only [Act.put, List.getElem_toArray, List.getElem_cons_zero, List.getElem_cons_succ, List.setIfInBounds_toArray, List.set_cons_zero, List.set_cons_succ]
  refine wpAnyT_take (i := 3) (v := ?_) rfl (by kernel_rfl) (by kernel_rfl) (by kernel_rfl) (by kernel_rfl) (fun _ _ _ h => h) (takes_yield rfl (Or.inl ⟨by rfl, ?_⟩)) (by assumption) (by kernel_rfl) ?_
  rotate_left 1
  · intro w' hSw; have hcw := hSw.1.cells15; have hca := hSw.2.cells4; go_split_ands; first | (go_simp; done) | (go_simp; rfl) | rfl
  simp only [Act.put, List.getElem_toArray, List.getElem_cons_zero, List.getElem_cons_succ, List.setIfInBounds_toArray, List.set_cons_zero, List.set_cons_succ]
  refine wpAnyT_take (i := 4) (v := ?_) rfl (by kernel_rfl) (by kernel_rfl) (by kernel_rfl) (by kernel_rfl) (fun _ _ _ h => h) (takes_yield rfl (Or.inl ⟨by rfl, ?_⟩)) (by assumption) (by kernel_rfl) ?_
  rotate_left 1
  · intro w' hSw; have hcw := hSw.1.cells15; have hca := hSw.2.cells4; go_split_ands; first | (go_simp; done) | (go_simp; rfl) | rfl
  simp only [Act.put, List.getElem_toArray, List.getElem_cons_zero, List.getElem_cons_succ, List.setIfInBounds_toArray, List.set_cons_zero, List.set_cons_succ]
  refine wpAnyT_take (i := 5) (v := ?_) rfl (by kernel_rfl) (by kernel_rfl) (by kernel_rfl) (by kernel_rfl) (fun _ _ _ h => h) (takes_yield rfl (Or.inl ⟨by rfl, ?_⟩)) (by assumption) (by kernel_rfl) ?_
  rotate_left 1
  · intro w' hSw; have hcw := hSw.1.cells15; have hca := hSw.2.cells4; go_split_ands; first | (go_simp; done) | (go_simp; rfl) | rfl
  simp only [Act.put, List.getElem_toArray, List.getElem_cons_zero, List.getElem_cons_succ, List.setIfInBounds_toArray, List.set_cons_zero, List.set_cons_succ]
  refine wpAnyT_one (i := 6) (by kernel_rfl) rfl (fun K hK => ?_)
  go_simp
  refine (hF.out _ (Upd.refl _ _).drew).mono ?_
  rintro e w4 ⟨rfl, hDx, hBk, hXk⟩
  have hS4 := And.intro (hBk _ _ _ hS0.1 (by decide) (by decide)) (hBk _ _ _ hS0.2 (by decide) (by decide))
  refine hK.out _ _ hS4 ?_
  have hrd4 : RdAt w4 vl vw r := (H3.out.1.play.rd.upd (Upd.refl _ w3).drew).kept hXk
  have hkp4 : Keeps23 w0 w4 p kv V N hh n := H3.out.1.kept.kept fun _ _ _ ht hB => hBk _ _ _ hB.drew (by rcases ht with rfl | rfl <;> decide) (by rcases ht with rfl | rfl <;> decide)
  have H4 := Lib.hid (And.intro hS4 (And.intro hDx (And.intro hkp4 (And.intro hrd4 H3.out.1.low))))
  clear hK hS0 hDx hBk hXk hrd4 hkp4 hc hcx
  refine wpAnyT_done (by kernel_rfl) ?_ _
  refine NoPanic.normal ?_
  have hc4 := H4.out.1.1.cells15
  have hca4 := H4.out.1.2.cells4
  have hf4 := H4.out.1.1.frozen 4
  clear hS4 H3
  obtain ⟨z, hz⟩ : ∃ z, max n_ (-1) = z := ⟨_, rfl⟩
  have hset := H4.out.1.1.set_ 4 (.int .i64 z)
  simp at hset
  have hUx : Upd (· = x) w4 (w4.setCell ⟨x, 4, none⟩ (.int .i64 z)) := (Upd.refl (· = x) w4).setCell (p := ⟨x, 4, none⟩) (.inl rfl) _
  have hP : PlayAt w0 w4 p (d.setFuse n_) vl vw (r.setFuse n_) := ⟨H4.out.2.1, ⟨H4.out.2.2.2.1.lasts, H4.out.2.2.2.1.ws⟩, HI.out⟩
  have hE : W23 w0 (w4.setCell ⟨x, 4, none⟩ (.int .i64 z)) x p (d.setFuse n_) vl vw (r.setFuse n_) kv V N hh n :=
    ⟨hP.own23 H4.out.1.1 (by decide) (by decide) (by decide) H4.out.2.2.2.2 hUx, by rw [← hz] at hset ⊢; exact hset, H4.out.2.2.2.2, H4.out.2.2.1.own H4.out.1.1 (by decide) (by decide) hUx⟩
  have HE := Lib.hid hE
  clear hset hUx hP hE
  go_wp2_with fail
  go_ret
  exact ⟨rfl, d.setFuse n_, vl, vw, r.setFuse n_, kv, V, N, hh, n, HE.out, by rw [setFuse_pend]; omega, rfl⟩
set_option maxRecDepth 100000 in
set_option maxHeartbeats 3200000 in
theorem d23_crash (hW : W23 w0 w x p d vl vw r kv V N hh n) (c n_ : Int) (kp : Value) (ks : List Int) (hA : IsInts w0 kp ks) :
    Calls Tryz.prog 25 #[.pointer (some ⟨x, 0, none⟩), .agg (act4 2 c n_ kp)] w fun e w' => e = .returned (.bool true) ∧ Done23 w0 x p d w' := by
  have hwf := (hW.play.disks.one 0 rfl).wf
  obtain ⟨w3, hw3⟩ : ∃ w3, w.alloc (.cells (act4 2 c n_ kp) 74) = w3 := ⟨_, rfl⟩
  have hU3 : Upd (fun _ => False) w w3 := by rw [← hw3]; exact (Upd.refl _ w).alloc _
  have hB3 : Blk w3 w.heap.size 74 (act4 2 c n_ kp) := by rw [← hw3]; exact Blk.new w _ _
  have H3 := Lib.hid (And.intro (hW.still hU3) hB3)
  have Hw := Lib.hid hw3
  have Hwf := Lib.hid hwf
  have hc := hB3.cells4
  have hcx := H3.out.1.blk.cells15
  have hF0 : ∀ W, Upd (fun _ => False) w3 W → Calls Tryz.prog 32 #[.pointer (some ⟨p, 0, none⟩), kp] W fun e w' => e = .returned (.tuple #[]) ∧ DksX w0 w' [(p, d.crash ks)] (RdX vl vw) ∧ BlkKept W w' ∧ XKept (RdX vl vw) W w' := fun W hu =>
    crash_v ((hW.play.still hU3).still hu).disks (i := 0) rfl hA
  have hF := Lib.hid hF0
  have HI := Lib.hid (hW.play.is.crash hwf ks)
  have HA := Lib.hid (And.intro hA.1 hA)
  have Hpe : Hid ((d.crash ks).pend ≤ d.pend + 20 ∧ (d.crash ks).lasts.length = d.lasts.length) := ⟨by rw [Dk.crash_pend hwf]; omega, Dk.crash_len' d ks⟩
  have Hfi := Lib.hid hW.play.fits
  clear hU3 hB3 hw3 hW hwf hF0 hA
  go_enter Tryz.func25, Tryz.ntmps25
  go_upto_region 1 with fail
  rw [Hw.out]
  clear Hw
  go_upto_region 13 with fail
  refine wp_region_noPanic ?_
  refine wp_region_T (S := fun w' => Blk w' x 71 (row23 p kv vl vw r V N hh n) ∧ Blk w' w.heap.size 74 (act4 2 c n_ kp)) (T := fun _ => false) (by kernel_rfl) ?_
  have hS0 := And.intro H3.out.1.blk.drew H3.out.2.drew
  refine wpAnyT_take (i := 0) (v := ?_) rfl (by kernel_rfl) (by kernel_rfl) (by kernel_rfl) (by kernel_rfl) (fun _ _ _ h => h) (takes_yield rfl (Or.inl ⟨by rfl, ?_⟩)) (by assumption) (by kernel_rfl) ?_
  rotate_left 1
  · intro w' hSw; have hcw := hSw.1.cells15; have hca := hSw.2.cells4; go_split_ands; first | (go_simp; done) | (go_simp; rfl) | rfl
  simp only [Act.put, List.getElem_toArray, List.getElem_cons_zero, List.setIfInBounds_toArray, List.set_cons_zero, List.set_cons_succ]
  refine wpAnyT_take (i := 1) (v := ?_) rfl (by kernel_rfl) (by kernel_rfl) (by kernel_rfl) (by kernel_rfl) (fun _ _ _ h => h) (takes_yield rfl (Or.inl ⟨by rfl, ?_⟩)) (by assumption) (by kernel_rfl) ?_
  rotate_left 1
  · intro w' hSw; have hcw := hSw.1.cells15; have hca := hSw.2.cells4; go_split_ands; first | (go_simp; done) | (go_simp; rfl) | rfl
  simp only [Act.put, List.getElem_toArray, List.getElem_cons_zero, List.getElem_cons_succ, List.setIfInBounds_toArray, List.set_cons_zero, List.set_cons_succ]
  refine wpAnyT_take (i := 2) (v := ?_) rfl (by kernel_rfl) (by kernel_rfl) (by kernel_rfl) (by kernel_rfl) (fun _ _ _ h => h) (takes_yield rfl (Or.inl ⟨by rfl, ?_⟩)) (by assumption) (by kernel_rfl) ?_
  rotate_left 1
  · intro w' hSw; have hcw := hSw.1.cells15; have hca := hSw.2.cells4; go_split_ands; first | (go_simp; done) | (go_simp; rfl) | rfl
  simp only [Act.put, List.getElem_toArray, List.getElem_cons_zero, List.getElem_cons_succ, List.setIfInBounds_toArray, List.set_cons_zero, List.set_cons_succ]
  refine wpAnyT_take (i := 3) (v := ?_) rfl (by kernel_rfl) (by kernel_rfl) (by kernel_rfl) (by kernel_rfl) (fun _ _ _ h => h) (takes_yield rfl (Or.inl ⟨by rfl, ?_⟩)) (by assumption) (by kernel_rfl) ?_
  rotate_left 1
  · intro w' hSw; have hcw := hSw.1.cells15; have hca := hSw.2.cells4; go_split_ands; first | (go_simp; done) | (go_simp; rfl) | rfl
  simp only [Act.put, List.getElem_toArray, List.getElem_cons_zero, List.getElem_cons_succ, List.setIfInBounds_toArray, List.set_cons_zero, List.set_cons_succ]
  refine wpAnyT_take (i := 4) (v := ?_) rfl (by kernel_rfl) (by kernel_rfl) (by kernel_rfl) (by kernel_rfl) (fun _ _ _ h => h) (takes_yield rfl (Or.inl ⟨by rfl, ?_⟩)) (by assumption) (by kernel_rfl) ?_
  rotate_left 1
  · intro w' hSw; have hcw := hSw.1.cells15; have hca := hSw.2.cells4; go_split_ands; first | (go_simp; done) | (go_simp; rfl) | rfl
  simp only [Act.put, List.getElem_toArray, List.getElem_cons_zero, List.getElem_cons_succ, List.setIfInBounds_toArray, List.set_cons_zero, List.set_cons_succ]
  refine wpAnyT_take (i := 5) (v := ?_) rfl (by kernel_rfl) (by kernel_rfl) (by kernel_rfl) (by kernel_rfl) (fun _ _ _ h => h) (takes_yield rfl (Or.inl ⟨by rfl, ?_⟩)) (by assumption) (by kernel_rfl) ?_
  rotate_left 1
  · intro w' hSw; have hcw := hSw.1.cells15; have hca := hSw.2.cells4; go_split_ands; first | (go_simp; done) | (go_simp; rfl) | rfl
  simp only [Act.put, List.getElem_toArray, List.getElem_cons_zero, List.getElem_cons_succ, List.setIfInBounds_toArray, List.set_cons_zero, List.set_cons_succ]
  refine wpAnyT_one (i := 6) (by kernel_rfl) rfl (fun K hK => ?_)
  go_simp
  refine (hF.out _ (Upd.refl _ _).drew).mono ?_
  rintro e w4 ⟨rfl, hDx, hBk, hXk⟩
  have hS4 := And.intro (hBk _ _ _ hS0.1 (by decide) (by decide)) (hBk _ _ _ hS0.2 (by decide) (by decide))
  refine hK.out _ _ hS4 ?_
  have hrd4 : RdAt w4 vl vw r := (H3.out.1.play.rd.upd (Upd.refl _ w3).drew).kept hXk
  have hkp4 : Keeps23 w0 w4 p kv V N hh n := H3.out.1.kept.kept fun _ _ _ ht hB => hBk _ _ _ hB.drew (by rcases ht with rfl | rfl <;> decide) (by rcases ht with rfl | rfl <;> decide)
  have H4 := Lib.hid (And.intro hS4 (And.intro hDx (And.intro hkp4 (And.intro hrd4 H3.out.1.low))))
  clear hK hS0 hDx hBk hXk hrd4 hkp4 hc hcx
  refine wpAnyT_done (by kernel_rfl) ?_ _
  refine NoPanic.normal ?_
  have hc4 := H4.out.1.1.cells15
  have hca4 := H4.out.1.2.cells4
  have hrc : Hid (∀ W, Upd (fun _ => False) w4 W → Calls Tryz.prog 45 #[.agg #[vl, vw, .int .i64 r.fuse, .bool r.off], kp] W fun e w' => ∃ vl' vw', e = .returned (.agg #[vl', vw', .int .i64 (-1), .bool false]) ∧ RdLeft W w' vl vw vl' vw' (r.crash ks)) := Lib.hid fun W hu => by
    have hu0 : Upd (fun _ => False) w0 W := H4.out.2.1.upd.then hu (fun _ e => e.elim)
    exact rcrash_c (H4.out.2.2.2.1.upd hu) Hfi.out ⟨HA.out.2.1.upd hu0, HA.out.2.2⟩
  clear hS4 H3
  go_upto_region 14 with fail
  refine wp_region_noPanic ?_
  refine wp_region_T (S := fun w' => Blk w' x 71 (row23 p kv vl vw r V N hh n) ∧ Blk w' w.heap.size 74 (act4 2 c n_ kp)) (T := fun k => k == 10) (by kernel_rfl) ?_
  have hS0 := And.intro H4.out.1.1.drew H4.out.1.2.drew
  refine wpAnyT_take (i := 0) (v := ?_) rfl (by kernel_rfl) (by kernel_rfl) (by kernel_rfl) (by kernel_rfl) (fun _ _ _ h => h) (takes_yield rfl (Or.inl ⟨by rfl, ?_⟩)) (by assumption) (by kernel_rfl) ?_
  rotate_left 1
  · intro w' hSw; have hcw := hSw.1.cells15; have hca := hSw.2.cells4; go_split_ands; first | (go_simp; done) | (go_simp; rfl) | rfl
  simp only [Act.put, List.getElem_toArray, List.getElem_cons_zero, List.setIfInBounds_toArray, List.set_cons_zero, List.set_cons_succ]
  refine wpAnyT_take (i := 1) (v := ?_) rfl (by kernel_rfl) (by kernel_rfl) (by kernel_rfl) (by kernel_rfl) (fun _ _ _ h => h) (takes_yield rfl (Or.inl ⟨by rfl, ?_⟩)) (by assumption) (by kernel_rfl) ?_
  rotate_left 1
  · intro w' hSw; have hcw := hSw.1.cells15; have hca := hSw.2.cells4; go_split_ands; first | (go_simp; done) | (go_simp; rfl) | rfl
  simp only [Act.put, List.getElem_toArray, List.getElem_cons_zero, List.getElem_cons_succ, List.setIfInBounds_toArray, List.set_cons_zero, List.set_cons_succ]
  refine wpAnyT_take (i := 2) (v := ?_) rfl (by kernel_rfl) (by kernel_rfl) (by kernel_rfl) (by kernel_rfl) (fun _ _ _ h => h) (takes_yield rfl (Or.inl ⟨by rfl, ?_⟩)) (by assumption) (by kernel_rfl) ?_
  rotate_left 1
  · intro w' hSw; have hcw := hSw.1.cells15; have hca := hSw.2.cells4; go_split_ands; first | (go_simp; done) | (go_simp; rfl) | rfl
  simp only [Act.put, List.getElem_toArray, List.getElem_cons_zero, List.getElem_cons_succ, List.setIfInBounds_toArray, List.set_cons_zero, List.set_cons_succ]
  refine wpAnyT_take (i := 3) (v := ?_) rfl (by kernel_rfl) (by kernel_rfl) (by kernel_rfl) (by kernel_rfl) (fun _ _ _ h => h) (takes_yield rfl (Or.inl ⟨by rfl, ?_⟩)) (by assumption) (by kernel_rfl) ?_
  rotate_left 1
  · intro w' hSw; have hcw := hSw.1.cells15; have hca := hSw.2.cells4; go_split_ands; first | (go_simp; done) | (go_simp; rfl) | rfl
  simp only [Act.put, List.getElem_toArray, List.getElem_cons_zero, List.getElem_cons_succ, List.setIfInBounds_toArray, List.set_cons_zero, List.set_cons_succ]
  refine wpAnyT_take (i := 4) (v := ?_) rfl (by kernel_rfl) (by kernel_rfl) (by kernel_rfl) (by kernel_rfl) (fun _ _ _ h => h) (takes_yield rfl (Or.inl ⟨by rfl, ?_⟩)) (by assumption) (by kernel_rfl) ?_
  rotate_left 1
  · intro w' hSw; have hcw := hSw.1.cells15; have hca := hSw.2.cells4; go_split_ands; first | (go_simp; done) | (go_simp; rfl) | rfl
  simp only [Act.put, List.getElem_toArray, List.getElem_cons_zero, List.getElem_cons_succ, List.setIfInBounds_toArray, List.set_cons_zero, List.set_cons_succ]
  refine wpAnyT_take (i := 5) (v := ?_) rfl (by kernel_rfl) (by kernel_rfl) (by kernel_rfl) (by kernel_rfl) (fun _ _ _ h => h) (takes_yield rfl (Or.inl ⟨by rfl, ?_⟩)) (by assumption) (by kernel_rfl) ?_
  rotate_left 1
  · intro w' hSw; have hcw := hSw.1.cells15; have hca := hSw.2.cells4; go_split_ands; first | (go_simp; done) | (go_simp; rfl) | rfl
  simp only [Act.put, List.getElem_toArray, List.getElem_cons_zero, List.getElem_cons_succ, List.setIfInBounds_toArray, List.set_cons_zero, List.set_cons_succ]
  refine wpAnyT_take (i := 6) (v := ?_) rfl (by kernel_rfl) (by kernel_rfl) (by kernel_rfl) (by kernel_rfl) (fun _ _ _ h => h) (takes_yield rfl (Or.inl ⟨by rfl, ?_⟩)) (by assumption) (by kernel_rfl) ?_
  rotate_left 1
  · intro w' hSw; have hcw := hSw.1.cells15; have hca := hSw.2.cells4; go_split_ands; first | (go_simp; done) | (go_simp; rfl) | rfl
  simp only [Act.put, List.getElem_toArray, List.getElem_cons_zero, List.getElem_cons_succ, List.setIfInBounds_toArray, List.set_cons_zero, List.set_cons_succ]
  refine wpAnyT_one (i := 7) (by kernel_rfl) rfl (fun K hK => ?_)
  go_simp
  refine (hrc.out _ (Upd.refl _ _).drew).mono ?_
  rintro e w5 ⟨vl', vw', rfl, hL⟩
  have hS5 := And.intro (hS0.1.upd hL.upd (fun e => e)) (hS0.2.upd hL.upd (fun e => e))
  refine hK.out _ _ hS5 ?_
  have hLp := hL.pre (Upd.refl _ w4).drew
  have hP : PlayAt w0 w5 p (d.crash ks) vl' vw' (r.crash ks) := ⟨H4.out.2.1.ref hLp, hL.at_, HI.out⟩
  have H5 := Lib.hid (And.intro hS5 (And.intro hP (H4.out.2.2.1.still hLp.upd)))
  clear hK hS0 hL hLp hP hc4 hca4
  refine wpAnyT_take (i := 8) (v := ?_) rfl (by kernel_rfl) (by kernel_rfl) (by kernel_rfl) (by kernel_rfl) (fun _ _ _ h => h) (takes_yield rfl (Or.inl ⟨by rfl, ?_⟩)) (by assumption) (by kernel_rfl) ?_
  rotate_left 1
  · intro w' hSw; go_split_ands; first | (go_simp; done) | (go_simp; rfl) | rfl
  simp only [Act.put, List.getElem_toArray, List.getElem_cons_zero, List.getElem_cons_succ, List.setIfInBounds_toArray, List.set_cons_zero, List.set_cons_succ]
  refine wpAnyT_take (i := 9) (v := ?_) rfl (by kernel_rfl) (by kernel_rfl) (by kernel_rfl) (by kernel_rfl) (fun _ _ _ h => h) (takes_yield rfl (Or.inl ⟨by rfl, ?_⟩)) (by assumption) (by kernel_rfl) ?_
  rotate_left 1
  · intro w' hSw; go_split_ands; first | (go_simp; done) | (go_simp; rfl) | rfl
  simp only [Act.put, List.getElem_toArray, List.getElem_cons_zero, List.getElem_cons_succ, List.setIfInBounds_toArray, List.set_cons_zero, List.set_cons_succ]
  refine wpAnyT_oneT (i := 10) (by kernel_rfl) rfl (by kernel_rfl) (fun K hK => ?_)
  refine step_store_part (by rfl) 33 _ _ (by rfl) x 2 #[vl', vw', .int .i64 (-1), .bool false] (by rfl) (by rfl) _ _ (row23 p kv vl' vw' (r.crash ks) V N hh n) H5.out.1.1 (by simp) rfl (row_one _ _ H5.out.2.1.rd.lasts.one H5.out.2.1.rd.ws.one _ _) (by kernel_rfl) ?_
  intro w6 hB6 hU6 hz6
  refine hK.out _ _ ?_
  have hE : W23 w0 w6 x p (d.crash ks) vl' vw' (r.crash ks) kv V N hh n :=
    ⟨H5.out.2.1.own23 H5.out.1.1 (by decide) (by decide) (by decide) H4.out.2.2.2.2 hU6, hB6, H4.out.2.2.2.2, H5.out.2.2.own H5.out.1.1 (by decide) (by decide) hU6⟩
  have HO := Lib.hid (open_23 hE)
  clear hK hS5 hB6 hU6 hz6 hE
  refine wpAnyT_done (by kernel_rfl) ?_ _
  refine NoPanic.normal ?_
  go_wp2_with fail
  refine HO.out.mono ?_
  rintro e w7 ⟨rfl, kv', V', N7, h7, hW7⟩
  have H7 := Lib.hid hW7
  clear hW7
  go_wp2_with fail
  go_ret
  exact ⟨rfl, d.crash ks, vl', vw', r.crash ks, kv', V', _, _, _, H7.out, Hpe.out.1, Hpe.out.2⟩
/-- Any act. -/
theorem does_23 (hW : W23 w0 w x p d vl vw r kv V N hh n) (a : Act23) (ho : a.ok w0) (hp : d.pend + 20 < 1000000) :
    Calls Tryz.prog 25 #[.pointer (some ⟨x, 0, none⟩), .agg #[.int .i64 a.do_, .int .i64 a.c, .int .i64 a.n, a.keep]] w fun e w' => e = .returned (.bool true) ∧ Done23 w0 x p d w' := by
  obtain ⟨do_, c, n_, kp, ks⟩ := a
  obtain ⟨o1, o2, o3, o4⟩ := ho
  simp only at o1 o2 o3 o4 ⊢
  by_cases h0 : do_ = 0
  · subst h0
    rcases hW.kept with ⟨h1, _, _, a, b, h3, _⟩ | ⟨h1, h2, _⟩
    · subst h1 h3
      exact d23_grant hW hp c n_ kp
    · subst h2
      exact d23_no hW h1 c n_ kp
  · by_cases h1 : do_ = 1
    · subst h1; exact d23_fuse hW c n_ kp o3
    · by_cases h2 : do_ = 2
      · subst h2; exact d23_crash hW c n_ kp ks o4
      · by_cases h3 : do_ = 3
        · subst h3; exact d23_open hW c n_ kp
        · exact d23_none hW c n_ kp do_ (by omega)
end
end Go.Proofs.YtpfbgmfkeofefaaGreat
