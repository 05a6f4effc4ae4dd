/-
  An operation of two that may come up, in a region that draws its order; what a call of the document's disk leaves, ahead and behind.
-/
import Derived.Test.YtafgohnpnaiomaaRefE
import Derived.Test.YtafgohnpnaiomaaTakeT
import Derived.Test.YtafgohnpnaiomaaMay
namespace Go.Proofs.Ytafgohnpnaiomaa
open Go Go.RowKit

section
variable {P : Program} {ops : Array Oper} {Q : Exit → Act → World → Prop} {md : Region.Mode} {S : World → Prop} {T : Nat → Bool}
theorem wpAnyT_two {i j : Nat} {oi oj : Oper} {fuel : Nat} {listed : Array Bool} {a : Act} {w : World} (hr : Region.ready md ops listed = [i, j]) (hi : ops[i]? = some oi) (hj : ops[j]? = some oj)
    (h1 : ∀ K' : Act → World → Prop, Shut (∀ a w, S w → wpAnyT P md ops Q S T fuel (listed.setIfInBounds i true) a w → K' a w) → if Region.wanted oi (yielded ops a.tmps) = true then Oper.wp P oi a w K' Q else K' (a.put oi.dst undef) w)
    (h2 : ∀ K' : Act → World → Prop, Shut (∀ a w, S w → wpAnyT P md ops Q S T fuel (listed.setIfInBounds j true) a w → K' a w) → if Region.wanted oj (yielded ops a.tmps) = true then Oper.wp P oj a w K' Q else K' (a.put oj.dst undef) w) :
    wpAnyT P md ops Q S T (fuel + 1) listed a w := by
  refine ⟨fun h0 => (by rw [hr] at h0; cases h0), fun k hk => ?_⟩
  rw [hr] at hk
  rcases (by simpa using hk : k = i ∨ k = j) with rfl | rfl
  · exact wpOp_step hi (fun K' hK => h1 K' (fun a w hS hW => hK a w ⟨fun _ => hS, hW⟩))
  · exact wpOp_step hj (fun K' hK => h2 K' (fun a w hS hW => hK a w ⟨fun _ => hS, hW⟩))
/-- A whole row stored, as one step of a region that draws. -/
theorem step_store_all {o : Oper} {a : Act} {w : World} {K : Act → World → Prop} {E : Prop} (hg : o.guard = none) (ty : TypeId) (x y : Operand) (ho : o.op = .store ty x y) (g : Nat) (new : Array Value) (hx : a.eval x = .pointer (some ⟨g, 0, none⟩)) (hy : a.eval y = .agg new)
    (t : TypeId) (cs : Array Value) (hB : Blk w g t cs) (hs : cs.size = new.size) (h1 : new.all (·.oneCell') = true) (hsz : (P.info? ty).map (·.size) = some new.size)
    (h : ∀ w', Blk w' g t new → Upd (· = g) w w' → w'.heap.size = w.heap.size → K (a.put o.dst undef) w') : if Region.wanted o (yielded ops a.tmps) = true then Oper.wp P o a w K Q else E := by
  have hw : Region.wanted o (yielded ops a.tmps) = true := by simp [Region.wanted, hg]
  rw [if_pos hw]
  exact wp_store_all ty x y ho g new hx hy t cs hB hs h1 hsz h
end
theorem RdLeft.pre {w W w' : World} {vl vw vl' vw' : Value} {r : Rd} (h : RdLeft W w' vl vw vl' vw' r) (hu : Upd (fun _ => False) w W) : RdLeft w w' vl vw vl' vw' r :=
  ⟨h.at_, hu.then h.upd (fun _ e => e.elim), fun q hq => (h.loc q hq).imp id (fun e => Nat.le_trans hu.size e)⟩
theorem RdLeft.post {w w' w2 : World} {vl vw vl' vw' : Value} {r : Rd} (h : RdLeft w w' vl vw vl' vw' r) (hu : Upd (fun _ => False) w' w2) : RdLeft w w2 vl vw vl' vw' r :=
  ⟨h.at_.upd hu, h.upd.then hu (fun _ e => e.elim), h.loc⟩
theorem RdLeft.refl {w : World} {vl vw : Value} {r : Rd} (h : RdAt w vl vw r) : RdLeft w w vl vw vl vw r := ⟨h, Upd.refl _ _, fun _ hq => .inl hq⟩
end Go.Proofs.Ytafgohnpnaiomaa

/-
  DiskPlays: an act of the disk beside the document's.
-/
namespace Go.Proofs.Ytafgohnpnaiomaa
open Go Go.RowKit

/-- The blocks of the document's disk. -/
abbrev RdX (vl vw : Value) : Nat → Prop := fun q => vl.ownBlock = some q ∨ vw.ownBlock = some q
/-- A disk beside the document's. -/
structure PlayAt (w0 w : World) (p : Nat) (d : Dk) (vl vw : Value) (r : Rd) : Prop where
  disks : DksX w0 w [(p, d)] (RdX vl vw)
  rd : RdAt w vl vw r
  is : RdIs d r
section
variable {w0 w w' : World} {p : Nat} {d d' : Dk} {vl vw vl' vw' : Value} {r r' : Rd}
theorem DksX.ref {L : List (Nat × Dk)} (h : DksX w0 w L (RdX vl vw)) (hL : RdLeft w w' vl vw vl' vw' r') : DksX w0 w' L (RdX vl' vw') :=
  h.turn (hL.upd.mono fun _ e => e.elim) fun q hq => by
    rcases hL.loc q hq with e | e
    · exact .inl e
    · refine .inr ⟨e, ?_⟩
      rcases hq with c | c
      · exact hL.at_.lasts.lt c
      · exact hL.at_.ws.lt c
theorem RdAt.kept (h : RdAt w vl vw r) (hk : XKept (RdX vl vw) w w') : RdAt w' vl vw r := ⟨h.lasts.eqb fun q hq => hk q (.inl hq), h.ws.eqb fun q hq => hk q (.inr hq)⟩
theorem PlayAt.still (h : PlayAt w0 w p d vl vw r) (hu : Upd (fun _ => False) w w') : PlayAt w0 w' p d vl vw r := ⟨h.disks.still hu, h.rd.upd hu, h.is⟩
theorem PlayAt.fits (h : PlayAt w0 w p d vl vw r) : r.fits := h.is.fits (h.disks.one 0 rfl).wf
end
section
variable {w W w' w2 w3 : World} {vl vw vl' vw' : Value} {r r' : Rd} {g : Nat}
/-- A block of the law's own is written. -/
theorem RdLeft.store (h : RdLeft w w' vl vw vl' vw' r) (hu : Upd (· = g) w' w2) (hg : ∀ q, RdX vl' vw' q → q ≠ g) (hw : w.heap.size ≤ g) : RdLeft w w2 vl vw vl' vw' r :=
  ⟨⟨h.at_.lasts.upd hu (fun _ hq e => hg _ (.inl hq) e), h.at_.ws.upd hu (fun _ hq e => hg _ (.inr hq) e)⟩, h.upd.then hu (fun _ e => .inr (by rw [e]; exact hw)), h.loc⟩
/-- Behind a new block: the disk's blocks are none of it. -/
theorem old_ne (h : RdAt w3 vl vw r) (hU : Upd (fun _ => False) w3 w) {o : Obj} (hL : RdLeft (w.alloc o) w' vl vw vl' vw' r') : ∀ q, RdX vl' vw' q → q ≠ w.heap.size := by
  intro q hq e
  have hs := hU.size
  rcases hL.loc q hq with c | c
  · rcases c with c | c
    · have := h.lasts.lt c; omega
    · have := h.ws.lt c; omega
  · have : w.heap.size + 1 ≤ q := by simpa using c
    omega
end
theorem three_new {w : World} {a b c : Array Value} {ta tb tc : TypeId} (w3 : World) (h : ((w.alloc (.cells a ta)).alloc (.cells b tb)).alloc (.cells c tc) = w3) :
    Upd (fun _ => False) w w3 ∧ Blk w3 w.heap.size ta a ∧ Blk w3 (w.heap.size + 1) tb b ∧ Blk w3 (w.heap.size + 1 + 1) tc c ∧ w3.heap.size = w.heap.size + 3 := by
  subst h
  refine ⟨(((Upd.refl _ w).alloc _).alloc _).alloc _, ((Blk.new w _ _).alloc _).alloc _, ?_, ?_, by simp⟩
  · have := (Blk.new (w.alloc (.cells a ta)) tb b).alloc (.cells c tc)
    simpa using this
  · have := Blk.new ((w.alloc (.cells a ta)).alloc (.cells b tb)) tc c
    simpa using this
section
variable {w0 w w' : World} {p : Nat} {d : Dk} {l : List (Nat × Dk)} {vl vw : Value} {r : Rd} {g : Nat} {t : TypeId} {cs : Array Value} {X : Nat → Prop}
theorem RdAt.ne (h : RdAt w vl vw r) (hB : Blk w g t cs) (h1 : 9 ≠ t) (h2 : 186 ≠ t) : ¬ RdX vl vw g := fun e => by
  rcases e with e | e
  · exact h.lasts.ne_blk hB h1 e
  · exact h.ws.ne_blk hB h2 e
/-- A block that is neither the disks' nor one of X is written. -/
theorem DksX.off (h : DksX w0 w l X) (hB : Blk w g t cs) (h1 : t ≠ 87) (h2 : t ≠ 9) (hg : w0.heap.size ≤ g) (hu : Upd (· = g) w w') : DksX w0 w' l X := by
  obtain ⟨G, a1, a2⟩ := h.ex
  exact ⟨⟨G, fun i hi => ⟨(a1 i hi).1.upd hu (fun q hq e => (a1 i hi).1.not_mem hB h1 h2 (by rw [← show q = g from e]; exact hq)), (a1 i hi).2⟩, a2⟩, fun q hq => ⟨(h.low q hq).1, Nat.lt_of_lt_of_le (h.low q hq).2 hu.size⟩, h.upd.then hu (fun q e => .inr (by rw [show q = g from e]; exact hg))⟩
/-- A row of the law's own is written. -/
theorem PlayAt.store (h : PlayAt w0 w p d vl vw r) (hB : Blk w g 79 cs) (hg : w0.heap.size ≤ g) (hu : Upd (· = g) w w') : PlayAt w0 w' p d vl vw r :=
  ⟨h.disks.off hB (by decide) (by decide) hg hu, ⟨h.rd.lasts.upd hu (fun _ hq e => h.rd.ne hB (by decide) (by decide) (.inl (by rw [← show _ = g from e]; exact hq))), h.rd.ws.upd hu (fun _ hq e => h.rd.ne hB (by decide) (by decide) (.inr (by rw [← show _ = g from e]; exact hq)))⟩, h.is⟩
end
section
variable {w W w' wz : World} {g : Nat}
theorem BlkKept.pre (hK : BlkKept W w') (hU : Upd (fun _ => False) w W) : BlkKept w w' := fun _ _ _ hB h1 h2 => hK _ _ _ (hB.upd hU (fun e => e)) h1 h2
theorem BlkKept.post (hK : BlkKept w w') (hU : Upd (fun _ => False) w' wz) : BlkKept w wz := fun _ _ _ hB h1 h2 => (hK _ _ _ hB h1 h2).upd hU (fun e => e)
theorem BlkKept.still (hU : Upd (fun _ => False) w w') : BlkKept w w' := fun _ _ _ hB _ _ => hB.upd hU (fun e => e)
/-- A block that is new since is written. -/
theorem BlkKept.ends (hK : BlkKept w w') (hU : Upd (· = g) w' wz) (hg : w.heap.size ≤ g) : BlkKept w wz := fun _ _ _ hB h1 h2 => (hK _ _ _ hB h1 h2).upd hU (fun e => by have := hB.lt; omega)
end
end Go.Proofs.Ytafgohnpnaiomaa

/-
  DiskPlays: acts of the disk beside the document's: a sync. (Printed by mk_play.py.)
-/
namespace Go.Proofs.Ytafgohnpnaiomaa
open Go Go.RowKit


set_option maxRecDepth 100000 in
set_option maxHeartbeats 3200000 in
theorem does_sync {w0 w : World} {p : Nat} {d : Dk} {vl vw : Value} {r : Rd} (hP : PlayAt w0 w p d vl vw r) (i_ n_ : Int) (b_ x_ : ByteArray) (y_ : Nat) (kp : Value) :
    Calls Try.prog 57 #[.pointer (some ⟨p, 0, none⟩), .agg #[vl, vw, .int .i64 r.fuse, .bool r.off], .agg #[.int .i64 1, .int .i64 i_, .int .i64 n_, .string b_, .string x_, .int .u8 (y_ : Int), kp]] w fun e w' =>
      ∃ vl' vw' r', e = .returned (.tuple #[.agg #[vl', vw', .int .i64 r'.fuse, .bool r'.off], .bool true]) ∧ PlayAt w0 w' p (d.sync.1) vl' vw' r' ∧ BlkKept w w' := by
  have ho1 := Lib.hid hP.rd.lasts.one
  have ho2 := Lib.hid hP.rd.ws.one
  have hw0 := Lib.hid hP.disks.upd.size
  obtain ⟨w3, hw3⟩ : ∃ w3, ((w.alloc (.cells #[vl, vw, .int .i64 r.fuse, .bool r.off] 79)).alloc (.cells #[.int .i64 1, .int .i64 i_, .int .i64 n_, .string b_, .string x_, .int .u8 (y_ : Int), kp] 66)).alloc (.cells zeroRd 79) = w3 := ⟨_, rfl⟩
  obtain ⟨hU3, hB4, hB5, hB6, hsz0⟩ := three_new w3 hw3
  have hsz : Hid (w3.heap.size = w.heap.size + 3) := hsz0
  have HB := Lib.hid (And.intro hB4 (And.intro hB5 hB6))
  have HU3 := Lib.hid hU3
  have hP3 := Lib.hid (hP.still hU3)
  have hc5 := hB5.cells7
  have Hw3 := Lib.hid hw3
  have hsy := Lib.hid (rsync_c hP3.out.rd hP3.out.fits)
  have hsame := Lib.hid hP3.out.is.sync
  clear hP hB4 hB5 hB6 hU3 hw3 hsz0
  go_enter Try.func57, Try.ntmps57
  go_upto_region 1 with fail
  rw [Hw3.out]
  clear Hw3
  go_upto_region 7 with (first
    | (refine wpList_load_all rfl _ _ rfl w.heap.size rfl _ _ _ HB.out.1 Try.underlying79 rfl rfl ?_)
    | (go_at_call 100; refine hsy.out.mono ?_; rintro e w4 ⟨vl', vw', rfl, hL⟩
       have HL := Lib.hid hL
       clear hL)
    | (refine wpList_store_all rfl 79 _ _ rfl w4.heap.size #[vl', vw', .int .i64 r.sync.1.fuse, .bool r.sync.1.off] rfl rfl _ _ (Blk.new w4 _ _) rfl (row_one _ _ HL.out.at_.lasts.one HL.out.at_.ws.one _ _) (by kernel_rfl) ?_
       intro w5 hB5 hU5 hs5))
  clear hc5
  have hg : Hid (w3.heap.size ≤ w4.heap.size) := HL.out.upd.size
  have hL : RdLeft w3 w5 vl vw vl' vw' r.sync.1 := (HL.out.post ((Upd.refl _ w4).alloc _)).store hU5 (fun q hq e => by rcases hq with h | h; exact absurd (HL.out.at_.lasts.lt h) (by omega); exact absurd (HL.out.at_.ws.lt h) (by omega)) hg.out
  have hDx := hP3.out.disks.ref hL
  have hb := hB5
  have H4 := Lib.hid (And.intro hL (HB.out.2.2.upd hL.upd (fun e => e)))
  have hwd : Hid (∀ W, Upd (fun _ => False) w5 W → Calls Try.prog 50 #[.pointer (some ⟨p, 0, none⟩)] W fun e w' => e = .returned (.int .i64 r.sync.2) ∧ DksX w0 w' [(p, d.sync.1)] (RdX vl' vw') ∧ BlkKept W w' ∧ XKept (RdX vl' vw') W w') := fun W hW => by
    rw [hsame.out.2]
    exact sync_v (hDx.still hW) (i := 0) rfl
  have hS0 : Blk w5.drew w4.heap.size 79 #[vl', vw', .int .i64 r.sync.1.fuse, .bool r.sync.1.off] := hb.drew
  have hlow : Hid (w0.heap.size ≤ w.heap.size + 1 + 1) := by have := hw0.out; show _ ≤ _; omega
  have hgne : Hid (w4.heap.size ≠ w.heap.size + 1 + 1) := by have := hsz.out; have := hg.out; show _ ≠ _; omega
  clear hDx hL hb hU5 hs5 hB5
  refine wp_region_noPanic ?_
  refine wp_region_T (S := fun w' => Blk w' w4.heap.size 79 #[vl', vw', .int .i64 r.sync.1.fuse, .bool r.sync.1.off]) (T := fun _ => false) (by kernel_rfl) ?_
  refine wpAnyT_take (i := 0) (v := .agg #[vl', vw', .int .i64 r.sync.1.fuse, .bool r.sync.1.off]) rfl (by kernel_rfl) (by kernel_rfl) (by kernel_rfl) (by kernel_rfl) (fun _ _ _ h => h) (takes_yield rfl (Or.inl ⟨by rfl, ?_⟩)) (by assumption) (by kernel_rfl) ?_
  · intro w' hSw; have hcw := hSw.cells4; go_split_ands; go_simp
  simp only [Act.put, List.getElem_toArray, List.getElem_cons_zero, List.setIfInBounds_toArray, List.set_cons_zero, List.set_cons_succ]
  refine wpAnyT_take (i := 1) (v := .pointer (some ⟨p, 0, none⟩)) rfl (by kernel_rfl) (by kernel_rfl) (by kernel_rfl) (by kernel_rfl) (fun _ _ _ h => h) (takes_yield rfl (Or.inl ⟨by rfl, ?_⟩)) (by assumption) (by kernel_rfl) ?_
  · intro w' hSw; go_simp
  simp only [Act.put, List.getElem_toArray, List.getElem_cons_zero, List.getElem_cons_succ, List.setIfInBounds_toArray, List.set_cons_zero, List.set_cons_succ]
  refine wpAnyT_take (i := 3) (v := .int .i64 r.sync.2) rfl (by kernel_rfl) (by kernel_rfl) (by kernel_rfl) (by kernel_rfl) (fun _ _ _ h => h) (takes_yield rfl (Or.inl ⟨by rfl, ?_⟩)) (by assumption) (by kernel_rfl) ?_
  · intro w' hSw; go_simp
  simp only [Act.put, List.getElem_toArray, List.getElem_cons_zero, List.getElem_cons_succ, List.setIfInBounds_toArray, List.set_cons_zero, List.set_cons_succ]
  refine wpAnyT_one (i := 2) (by kernel_rfl) rfl (fun K hK => ?_)
  go_simp
  refine (hwd.out _ (Upd.refl _ _).drew).mono ?_
  rintro e w6 ⟨rfl, hD6, hK6, hX6⟩
  have hS2 := hK6 _ _ _ hS0 (by decide) (by decide)
  refine hK.out _ _ hS2 ?_
  have hB6 := hK6 _ _ _ H4.out.2.drew (by decide) (by decide)
  have hP6 : PlayAt w0 w6 p d.sync.1 vl' vw' r.sync.1 := ⟨hD6, (H4.out.1.at_.upd (Upd.refl _ _).drew).kept hX6, hsame.out.1⟩
  have HK6 := Lib.hid (((hK6.pre (Upd.refl _ _).drew).pre H4.out.1.upd).pre HU3.out)
  have H6 := Lib.hid (And.intro hB6 hP6)
  clear hK hS0 hD6 hK6 hX6 hB6 hP6
  refine wpAnyT_take (i := 4) (v := .bool true) rfl (by kernel_rfl) (by kernel_rfl) (by kernel_rfl) (by kernel_rfl) (fun _ _ _ h => h) (takes_yield rfl (Or.inl ⟨by rfl, ?_⟩)) (by assumption) (by kernel_rfl) ?_
  · intro w' hSw; go_simp
  simp only [Act.put, List.getElem_toArray, List.getElem_cons_zero, List.getElem_cons_succ, List.setIfInBounds_toArray, List.set_cons_zero, List.set_cons_succ]
  refine wpAnyT_one (i := 5) (by kernel_rfl) rfl (fun K hK => ?_)
  refine step_store_all (by rfl) 79 _ _ (by rfl) (w.heap.size + 1 + 1) #[vl', vw', .int .i64 r.sync.1.fuse, .bool r.sync.1.off] (by rfl) (by rfl) _ _ H6.out.1 rfl (row_one _ _ H6.out.2.rd.lasts.one H6.out.2.rd.ws.one _ _) (by kernel_rfl) ?_
  intro wz hBz hUz hsz
  have hSz := hS2.upd hUz hgne.out
  refine hK.out _ _ hSz ?_
  have HKz := Lib.hid (HK6.out.ends hUz (by omega))
  have HZ := Lib.hid (And.intro hBz (H6.out.2.store H6.out.1 hlow.out hUz))
  clear hK hBz hUz hsz hS2
  refine wpAnyT_take (i := 6) (v := .bool true) rfl (by kernel_rfl) (by kernel_rfl) (by kernel_rfl) (by kernel_rfl) (fun _ _ _ h => h) (takes_yield rfl (Or.inl ⟨by rfl, ?_⟩)) (by assumption) (by kernel_rfl) ?_
  · intro w' hSw; go_simp
  simp only [Act.put, List.getElem_toArray, List.getElem_cons_zero, List.getElem_cons_succ, List.setIfInBounds_toArray, List.set_cons_zero, List.set_cons_succ]
  refine wpAnyT_done (by kernel_rfl) ?_ _
  refine NoPanic.normal ?_
  go_wp2_with fail
  refine bodyPost_ret (results_cell_slot rfl _ _ (w.heap.size + 1 + 1) _ _ _ _ rfl HZ.out.1 Try.underlying79 rfl rfl (.bool true) rfl) rfl ⟨vl', vw', r.sync.1, rfl, HZ.out.2, HKz.out⟩
end Go.Proofs.Ytafgohnpnaiomaa

/-
  DiskPlays: acts of the disk beside the document's: a fuse, a crash, a read, and what is none. (Printed by mk_play.py.)
-/
namespace Go.Proofs.Ytafgohnpnaiomaa
open Go Go.RowKit


set_option maxRecDepth 100000 in
set_option maxHeartbeats 3200000 in
theorem does_none {w0 w : World} {p : Nat} {d : Dk} {vl vw : Value} {r : Rd} (hP : PlayAt w0 w p d vl vw r) (i_ n_ : Int) (b_ x_ : ByteArray) (y_ : Nat) (kp : Value) (do_ : Int) (hdo : (do_ < 0 ∨ 5 < do_)) :
    Calls Try.prog 57 #[.pointer (some ⟨p, 0, none⟩), .agg #[vl, vw, .int .i64 r.fuse, .bool r.off], .agg #[.int .i64 do_, .int .i64 i_, .int .i64 n_, .string b_, .string x_, .int .u8 (y_ : Int), kp]] w fun e w' =>
      ∃ vl' vw' r', e = .returned (.tuple #[.agg #[vl', vw', .int .i64 r'.fuse, .bool r'.off], .bool true]) ∧ PlayAt w0 w' p (d) vl' vw' r' ∧ BlkKept w w' := by
  have ho1 := Lib.hid hP.rd.lasts.one
  have ho2 := Lib.hid hP.rd.ws.one
  have hw0 := Lib.hid hP.disks.upd.size
  obtain ⟨w3, hw3⟩ : ∃ w3, ((w.alloc (.cells #[vl, vw, .int .i64 r.fuse, .bool r.off] 79)).alloc (.cells #[.int .i64 do_, .int .i64 i_, .int .i64 n_, .string b_, .string x_, .int .u8 (y_ : Int), kp] 66)).alloc (.cells zeroRd 79) = w3 := ⟨_, rfl⟩
  obtain ⟨hU3, hB4, hB5, hB6, hsz0⟩ := three_new w3 hw3
  have hsz : Hid (w3.heap.size = w.heap.size + 3) := hsz0
  have HB := Lib.hid (And.intro hB4 (And.intro hB5 hB6))
  have HU3 := Lib.hid hU3
  have hP3 := Lib.hid (hP.still hU3)
  have hc5 := hB5.cells7
  have Hw3 := Lib.hid hw3
  have hne0 : (do_ == 0) = false := by rw [beq_eq_false_iff_ne]; omega
  have hne1 : (do_ == 1) = false := by rw [beq_eq_false_iff_ne]; omega
  have hne2 : (do_ == 2) = false := by rw [beq_eq_false_iff_ne]; omega
  have hne3 : (do_ == 3) = false := by rw [beq_eq_false_iff_ne]; omega
  have hne4 : (do_ == 4) = false := by rw [beq_eq_false_iff_ne]; omega
  have hne5 : (do_ == 5) = false := by rw [beq_eq_false_iff_ne]; omega
  have hlow : Hid (w0.heap.size ≤ w.heap.size + 1 + 1) := by have := hw0.out; show _ ≤ _; omega
  clear hP hB4 hB5 hB6 hU3 hw3 hsz0
  go_enter Try.func57, Try.ntmps57
  go_upto_region 1 with fail
  rw [Hw3.out]
  clear Hw3
  go_wp2_with (first
    | (refine wpList_load_all rfl _ _ rfl w.heap.size rfl _ _ _ HB.out.1 Try.underlying79 rfl rfl ?_)
    | (refine wpList_store_all rfl 79 _ _ rfl (w.heap.size + 1 + 1) #[vl, vw, .int .i64 r.fuse, .bool r.off] rfl rfl _ _ HB.out.2.2 rfl (row_one _ _ ho1.out ho2.out _ _) (by kernel_rfl) ?_
       intro wz hBz hUz hsz))
  refine bodyPost_ret (results_cell_slot rfl _ _ (w.heap.size + 1 + 1) _ _ _ _ rfl hBz Try.underlying79 rfl rfl (.bool true) rfl) rfl ⟨vl, vw, r, rfl, hP3.out.store HB.out.2.2 hlow.out hUz, (BlkKept.still HU3.out).ends hUz (by omega)⟩
set_option maxRecDepth 100000 in
set_option maxHeartbeats 3200000 in
theorem does_read {w0 w : World} {p : Nat} {d : Dk} {vl vw : Value} {r : Rd} (hP : PlayAt w0 w p d vl vw r) (i_ n_ : Int) (b_ x_ : ByteArray) (y_ : Nat) (kp : Value) :
    Calls Try.prog 57 #[.pointer (some ⟨p, 0, none⟩), .agg #[vl, vw, .int .i64 r.fuse, .bool r.off], .agg #[.int .i64 5, .int .i64 i_, .int .i64 n_, .string b_, .string x_, .int .u8 (y_ : Int), kp]] w fun e w' =>
      ∃ vl' vw' r', e = .returned (.tuple #[.agg #[vl', vw', .int .i64 r'.fuse, .bool r'.off], .bool true]) ∧ PlayAt w0 w' p (d) vl' vw' r' ∧ BlkKept w w' := by
  have ho1 := Lib.hid hP.rd.lasts.one
  have ho2 := Lib.hid hP.rd.ws.one
  have hw0 := Lib.hid hP.disks.upd.size
  obtain ⟨w3, hw3⟩ : ∃ w3, ((w.alloc (.cells #[vl, vw, .int .i64 r.fuse, .bool r.off] 79)).alloc (.cells #[.int .i64 5, .int .i64 i_, .int .i64 n_, .string b_, .string x_, .int .u8 (y_ : Int), kp] 66)).alloc (.cells zeroRd 79) = w3 := ⟨_, rfl⟩
  obtain ⟨hU3, hB4, hB5, hB6, hsz0⟩ := three_new w3 hw3
  have hsz : Hid (w3.heap.size = w.heap.size + 3) := hsz0
  have HB := Lib.hid (And.intro hB4 (And.intro hB5 hB6))
  have HU3 := Lib.hid hU3
  have hP3 := Lib.hid (hP.still hU3)
  have hc5 := hB5.cells7
  have Hw3 := Lib.hid hw3
  have hrd := Lib.hid (rread_c hP3.out.rd hP3.out.fits i_)
  have hrr := Lib.hid (hP3.out.is.read i_)
  have hlow : Hid (w0.heap.size ≤ w.heap.size + 1 + 1) := by have := hw0.out; show _ ≤ _; omega
  clear hP hB4 hB5 hB6 hU3 hw3 hsz0
  go_enter Try.func57, Try.ntmps57
  go_upto_region 1 with fail
  rw [Hw3.out]
  clear Hw3
  go_upto_region 19 with (first
    | (refine wpList_load_all rfl _ _ rfl w.heap.size rfl _ _ _ HB.out.1 Try.underlying79 rfl rfl ?_)
    | (go_at_call 103; refine hrd.out.mono ?_; rintro e w4 ⟨rfl, hU4⟩))
  have hP4 := Lib.hid (hP3.out.still hU4)
  have HK4 := Lib.hid ((BlkKept.still HU3.out).post hU4)
  have hB5 := HB.out.2.1.upd hU4 (fun e => e)
  clear hc5
  have hc5 := hB5.cells7
  have HB4 := Lib.hid (And.intro (HB.out.1.upd hU4 (fun e => e)) (HB.out.2.2.upd hU4 (fun e => e)))
  have hdr : Hid (Calls Try.prog 31 #[.pointer (some ⟨p, 0, none⟩), .int .i64 i_] w4 fun e w' => e = .returned (.tuple #[.string (r.read i_).1, .int .i64 (r.read i_).2]) ∧ w4 = w') := by
    rw [hrr.out]
    exact read_x hP4.out.disks.dks (i := 0) rfl i_
  clear hU4 hB5
  go_upto_region 20 with (first
    | (go_at_call 31; refine hdr.out.mono ?_; rintro e w5 ⟨rfl, rfl⟩))
  go_wp2_with (first
    | (refine wpList_load_all rfl _ _ rfl w.heap.size rfl _ _ _ HB4.out.1 Try.underlying79 rfl rfl ?_)
    | (refine wpList_store_all rfl 79 _ _ rfl (w.heap.size + 1 + 1) #[vl, vw, .int .i64 r.fuse, .bool r.off] rfl rfl _ _ HB4.out.2 rfl (row_one _ _ ho1.out ho2.out _ _) (by kernel_rfl) ?_
       intro wz hBz hUz hsz))
  refine bodyPost_ret (results_cell_slot rfl _ _ (w.heap.size + 1 + 1) _ _ _ _ rfl hBz Try.underlying79 rfl rfl (.bool true) rfl) rfl ⟨vl, vw, r, rfl, hP4.out.store HB4.out.2 hlow.out hUz, HK4.out.ends hUz (by omega)⟩
end Go.Proofs.Ytafgohnpnaiomaa

/-
  DiskPlays: acts of the disk beside the document's: a fuse, a crash. (Printed by mk_play.py.)
-/
namespace Go.Proofs.Ytafgohnpnaiomaa
open Go Go.RowKit


set_option maxRecDepth 100000 in
set_option maxHeartbeats 3200000 in
theorem does_crash {w0 w : World} {p : Nat} {d : Dk} {vl vw : Value} {r : Rd} (hP : PlayAt w0 w p d vl vw r) (i_ n_ : Int) (b_ x_ : ByteArray) (y_ : Nat) (kp : Value) (ks : List Int) (hA : IsInts w0 kp ks) :
    Calls Try.prog 57 #[.pointer (some ⟨p, 0, none⟩), .agg #[vl, vw, .int .i64 r.fuse, .bool r.off], .agg #[.int .i64 3, .int .i64 i_, .int .i64 n_, .string b_, .string x_, .int .u8 (y_ : Int), kp]] w fun e w' =>
      ∃ vl' vw' r', e = .returned (.tuple #[.agg #[vl', vw', .int .i64 r'.fuse, .bool r'.off], .bool true]) ∧ PlayAt w0 w' p (d.crash ks) vl' vw' r' ∧ BlkKept w w' := by
  have ho1 := Lib.hid hP.rd.lasts.one
  have ho2 := Lib.hid hP.rd.ws.one
  have hw0 := Lib.hid hP.disks.upd.size
  obtain ⟨w3, hw3⟩ : ∃ w3, ((w.alloc (.cells #[vl, vw, .int .i64 r.fuse, .bool r.off] 79)).alloc (.cells #[.int .i64 3, .int .i64 i_, .int .i64 n_, .string b_, .string x_, .int .u8 (y_ : Int), kp] 66)).alloc (.cells zeroRd 79) = w3 := ⟨_, rfl⟩
  obtain ⟨hU3, hB4, hB5, hB6, hsz0⟩ := three_new w3 hw3
  have hsz : Hid (w3.heap.size = w.heap.size + 3) := hsz0
  have HB := Lib.hid (And.intro hB4 (And.intro hB5 hB6))
  have HU3 := Lib.hid hU3
  have hP3 := Lib.hid (hP.still hU3)
  have hc5 := hB5.cells7
  have Hw3 := Lib.hid hw3
  have hcr := Lib.hid (crash_v hP3.out.disks (i := 0) rfl hA)
  have hsame := Lib.hid (hP3.out.is.crash (hP3.out.disks.one 0 rfl).wf ks)
  have hlow : Hid (w0.heap.size ≤ w.heap.size + 1 + 1) := by have := hw0.out; show _ ≤ _; omega
  have HA := Lib.hid hA
  clear hP hB4 hB5 hB6 hU3 hw3 hsz0 hA
  go_enter Try.func57, Try.ntmps57
  go_upto_region 1 with fail
  rw [Hw3.out]
  clear Hw3
  go_upto_region 13 with (first
    | (go_at_call 53; refine hcr.out.mono ?_; rintro e w4 ⟨rfl, hD4, hK4, hX4⟩))
  have hR4 := hP3.out.rd.kept hX4
  have hB5 := hK4 _ _ _ HB.out.2.1 (by decide) (by decide)
  clear hc5
  have hc5 := hB5.cells7
  have HB4 := Lib.hid (And.intro (hK4 _ _ _ HB.out.1 (by decide) (by decide)) (hK4 _ _ _ HB.out.2.2 (by decide) (by decide)))
  have hrc := Lib.hid (rcrash_c hR4 hP3.out.fits (show IsInts w4 kp ks from ⟨HA.out.1.upd hD4.upd, HA.out.2⟩))
  have HD4 := Lib.hid hD4
  have HK4 := Lib.hid (hK4.pre HU3.out)
  clear hD4 hK4 hX4 hR4 hB5
  go_wp2_with (first
    | (refine wpList_load_all rfl _ _ rfl w.heap.size rfl _ _ _ HB4.out.1 Try.underlying79 rfl rfl ?_)
    | (go_at_call 101; refine hrc.out.mono ?_; rintro e w5 ⟨vl', vw', rfl, hL⟩
       have HL := Lib.hid hL
       clear hL)
    | (refine wpList_store_all rfl 79 _ _ rfl (w.heap.size + 1 + 1) #[vl', vw', .int .i64 (-1), .bool false] rfl rfl _ _ (HB4.out.2.upd HL.out.upd (fun e => e)) rfl (row_one _ _ HL.out.at_.lasts.one HL.out.at_.ws.one _ _) (by kernel_rfl) ?_
       intro wz hBz hUz hsz))
  refine bodyPost_ret (results_cell_slot rfl _ _ (w.heap.size + 1 + 1) _ _ _ _ rfl hBz Try.underlying79 rfl rfl (.bool true) rfl) rfl ⟨vl', vw', r.crash ks, rfl, PlayAt.store ⟨HD4.out.ref HL.out, HL.out.at_, hsame.out⟩ (HB4.out.2.upd HL.out.upd (fun e => e)) hlow.out hUz, (HK4.out.post HL.out.upd).ends hUz (by omega)⟩
set_option maxRecDepth 100000 in
set_option maxHeartbeats 3200000 in
theorem does_fuse {w0 w : World} {p : Nat} {d : Dk} {vl vw : Value} {r : Rd} (hP : PlayAt w0 w p d vl vw r) (i_ n_ : Int) (b_ x_ : ByteArray) (y_ : Nat) (kp : Value) (hn : n_ ≤ 9223372036854775807) :
    Calls Try.prog 57 #[.pointer (some ⟨p, 0, none⟩), .agg #[vl, vw, .int .i64 r.fuse, .bool r.off], .agg #[.int .i64 2, .int .i64 i_, .int .i64 n_, .string b_, .string x_, .int .u8 (y_ : Int), kp]] w fun e w' =>
      ∃ vl' vw' r', e = .returned (.tuple #[.agg #[vl', vw', .int .i64 r'.fuse, .bool r'.off], .bool true]) ∧ PlayAt w0 w' p (d.setFuse n_) vl' vw' r' ∧ BlkKept w w' := by
  have ho1 := Lib.hid hP.rd.lasts.one
  have ho2 := Lib.hid hP.rd.ws.one
  have hw0 := Lib.hid hP.disks.upd.size
  obtain ⟨w3, hw3⟩ : ∃ w3, ((w.alloc (.cells #[vl, vw, .int .i64 r.fuse, .bool r.off] 79)).alloc (.cells #[.int .i64 2, .int .i64 i_, .int .i64 n_, .string b_, .string x_, .int .u8 (y_ : Int), kp] 66)).alloc (.cells zeroRd 79) = w3 := ⟨_, rfl⟩
  obtain ⟨hU3, hB4, hB5, hB6, hsz0⟩ := three_new w3 hw3
  have hsz : Hid (w3.heap.size = w.heap.size + 3) := hsz0
  have HB := Lib.hid (And.intro hB4 (And.intro hB5 hB6))
  have HU3 := Lib.hid hU3
  have hP3 := Lib.hid (hP.still hU3)
  have hc5 := hB5.cells7
  have Hw3 := Lib.hid hw3
  have hcr := Lib.hid (fuse_v hP3.out.disks (i := 0) rfl n_ hn)
  have hsame := Lib.hid (hP3.out.is.setFuse n_)
  have hlow : Hid (w0.heap.size ≤ w.heap.size + 1 + 1) := by have := hw0.out; show _ ≤ _; omega
  have hlow2 : Hid (w0.heap.size ≤ w.heap.size) := by have := hw0.out; show _ ≤ _; omega
  clear hP hB4 hB5 hB6 hU3 hw3 hsz0
  go_enter Try.func57, Try.ntmps57
  go_upto_region 1 with fail
  rw [Hw3.out]
  clear Hw3
  go_upto_region 10 with (first
    | (go_at_call 47; refine hcr.out.mono ?_; rintro e w4 ⟨rfl, hD4, hK4, hX4⟩))
  have hR4 := hP3.out.rd.kept hX4
  have hP4 : PlayAt w0 w4 p (d.setFuse n_) vl vw (r.setFuse n_) := ⟨hD4, ⟨hR4.lasts, hR4.ws⟩, hsame.out⟩
  have hB5 := hK4 _ _ _ HB.out.2.1 (by decide) (by decide)
  have hB4 := hK4 _ _ _ HB.out.1 (by decide) (by decide)
  have hB6 := hK4 _ _ _ HB.out.2.2 (by decide) (by decide)
  clear hc5
  have hc5 := hB5.cells7
  have hc4 := hB4.cells4
  have hfr4 := hB4.frozen 2
  have HX : Hid (∀ z, z = max n_ (-1) → Blk (w4.setCell ⟨w.heap.size, 2, none⟩ (.int .i64 z)) w.heap.size 79 #[vl, vw, .int .i64 z, .bool r.off] ∧ Blk (w4.setCell ⟨w.heap.size, 2, none⟩ (.int .i64 z)) (w.heap.size + 1 + 1) 79 zeroRd ∧ PlayAt w0 (w4.setCell ⟨w.heap.size, 2, none⟩ (.int .i64 z)) p (d.setFuse n_) vl vw (r.setFuse n_) ∧ BlkKept w (w4.setCell ⟨w.heap.size, 2, none⟩ (.int .i64 z))) := by
    intro z _
    refine ⟨?_, hB6.far (by show w.heap.size + 1 + 1 ≠ w.heap.size; omega) _, hP4.store hB4 hlow2.out ((Upd.refl (· = w.heap.size) w4).setCell (p := ⟨w.heap.size, 2, none⟩) (.inl rfl) _), (hK4.pre HU3.out).ends ((Upd.refl (· = w.heap.size) w4).setCell (p := ⟨w.heap.size, 2, none⟩) (.inl rfl) _) (Nat.le_refl _)⟩
    have h := hB4.set_ 2 (.int .i64 z)
    simpa using h
  clear hD4 hK4 hX4 hR4 hB5 hB4 hB6 hP4
  go_upto_region 21 with fail
  have HY := Lib.hid (HX.out _ rfl)
  clear HX hc4 hfr4 hc5
  go_wp2_with (first
    | (refine wpList_load_all rfl _ _ rfl w.heap.size rfl _ _ _ HY.out.1 Try.underlying79 rfl rfl ?_)
    | (refine wpList_store_all rfl 79 _ _ rfl (w.heap.size + 1 + 1) #[vl, vw, .int .i64 (max n_ (-1)), .bool r.off] rfl rfl _ _ HY.out.2.1 rfl (row_one _ _ ho1.out ho2.out _ _) (by kernel_rfl) ?_
       intro wz hBz hUz hsz))
  refine bodyPost_ret (results_cell_slot rfl _ _ (w.heap.size + 1 + 1) _ _ _ _ rfl hBz Try.underlying79 rfl rfl (.bool true) rfl) rfl ⟨vl, vw, r.setFuse n_, rfl, HY.out.2.2.1.store HY.out.2.1 hlow.out hUz, HY.out.2.2.2.ends hUz (by omega)⟩
end Go.Proofs.Ytafgohnpnaiomaa
