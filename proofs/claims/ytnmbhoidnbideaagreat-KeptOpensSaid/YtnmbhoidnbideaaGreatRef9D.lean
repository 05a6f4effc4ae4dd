/-
  The document's records of chapter 09: Put.
-/
import Derived.Test.YtnmbhoidnbideaaGreatRef9C
import Derived.Test.YtnmbhoidnbideaaGreatPlayD
namespace Go.Proofs.YtnmbhoidnbideaaGreat
open Go Go.RowKit

set_option maxRecDepth 100000 in
set_option maxHeartbeats 1600000 in
theorem refOpen_off {w : World} {vl vw : Value} {d : Dk} {r : Rd} (h : RdAt w vl vw r) (hf : r.fits) (hI : RdIs d r) (hoff : d.off = true) (f : Nat) (hr : f + 20 ≤ d.lasts.length) :
    Calls Tryz.prog 30 #[.agg #[vl, vw, .int .i64 r.fuse, .bool r.off], .int .i64 (f : Int)] w fun e w' => e = .returned (.tuple #[.agg zeroKp, .int .i64 14]) ∧ Upd (fun _ => False) w w' := by
  have hl1 := hf.lasts
  have hrl : r.lasts.length = d.lasts.length := by rw [hI.lasts]
  have hrd0 : ∀ W, Upd (fun _ => False) w W → Calls Tryz.prog 68 #[.agg #[vl, vw, .int .i64 r.fuse, .bool r.off], .int .i64 (f : Int)] W fun e w' => e = .returned (.tuple #[.string ByteArray.empty, .int .i64 14]) ∧ Upd (fun _ => False) W w' := by
    intro W hW
    have := rread_c (h.upd hW) hf (f : Int)
    rw [hI.read] at this
    unfold Dk.read at this
    rw [hoff, if_pos rfl] at this
    exact this
  have hrd := Lib.hid hrd0
  clear hrd0
  obtain ⟨A, cap, rfl, -, -⟩ := h.lasts.shape
  obtain ⟨A2, cap2, rfl, -, -⟩ := h.ws.shape
  obtain ⟨w3, hw3⟩ : ∃ w3, (w.alloc (.cells #[.slice A r.lasts.length cap, .slice A2 r.ws.length cap2, .int .i64 r.fuse, .bool r.off] 32)).alloc (.cells zeroKp 39) = w3 := ⟨_, rfl⟩
  obtain ⟨hU3, hB2, hB4, hsz⟩ := two_new w3 hw3
  have hc2 := hB2.cells4
  have HB := Lib.hid (And.intro hB2 hB4)
  have HU := Lib.hid (And.intro hU3 hsz)
  have Hw := Lib.hid hw3
  have hf1 : ¬ (r.lasts.length : Int) - 20 < (f : Int) := by omega
  have hf2 : f ≤ 5000 := by omega
  clear hB2 hB4 hU3 hw3 hsz h hf hI hoff hrl hr
  go_enter Tryz.func30, Tryz.ntmps30
  go_upto_region 1 with fail
  rw [Hw.out]
  clear Hw
  go_upto_region 4 with (first
    | (refine wpList_store_all rfl 39 _ _ rfl w3.heap.size (Kp.row ⟨f, [], 0, 1, 0, false⟩) rfl rfl _ _ (Blk.new w3 _ _) rfl (Kp.row_one _) (by kernel_rfl) ?_
       intro w4 hB4 hU4 hs4))
  have hU : Upd (fun q => q = w3.heap.size) w3 w4 := ((Upd.refl _ w3).alloc _).then hU4 (fun q e => .inl e)
  have hs3 := HU.out.2
  have H4 := Lib.hid (And.intro (HU.out.1.then hU (fun q e => .inr (by omega)) : Upd (fun _ => False) w w4) (And.intro (HB.out.1.upd hU (fun e => by omega)) (HB.out.2.upd hU (fun e => by omega))))
  clear hB4 hU4 hs4 hc2 hU hs3 HB
  go_wp2_with fail
  go_loopw [7, 8, 9, 10, 11, 12] (fun v i _ _ _ _ wr => v = .slice none 0 0 ∧ i = .int .i64 0 ∧ w4 = wr) (fun _ _ _ _ _ _ _ => 0)
  case atStart => exact ⟨rfl, rfl, rfl⟩
  case round =>
    obtain ⟨rfl, rfl, rfl⟩ := hrel
    have HR := Lib.hid (hrd.out w4 H4.out.1)
    go_upto_region 9 with (first
      | (refine wpList_load_all rfl _ _ rfl w.heap.size rfl _ _ _ H4.out.2.1 Tryz.underlying32 rfl rfl ?_)
      | (go_at_call 68; refine HR.out.mono ?_; rintro e w5 ⟨rfl, hU5⟩
         have H5 := Lib.hid (And.intro (H4.out.1.then hU5 (fun _ e => e.elim)) (H4.out.2.2.upd hU5 (fun e => e)))
         clear hU5))
    go_upto_region 10 with fail
    go_wp2_with (first
      | (refine wpList_store_all rfl 39 _ _ rfl (w.heap.size + 1) zeroKp rfl rfl _ _ H5.out.2 rfl zeroKp_one (by kernel_rfl) ?_
         intro w7 hB7 hU7 hs7))
    refine bodyPost_ret (results_cell_slot rfl _ _ (w.heap.size + 1) _ _ _ _ rfl hB7 Tryz.underlying39 rfl rfl (.int .i64 14) rfl) rfl ⟨rfl, ?_⟩
    exact H5.out.1.then hU7 (fun q e => .inr (by omega))
theorem results_cells2_slot {P : Program} {fn : Func} {p p2 q : Tmp} {ty ty2 : TypeId} (h : fn.results = #[.cell p ty, .cell p2 ty2, .tmp q]) (tmps : Array Value) (w : World) (g g2 : Nat) (t t2 : TypeId) (cs cs2 : Array Value) (fr fr2 : Nat × Nat) (d d2 : TypeDesc)
    (hp : tmps.getD p undef = .pointer (some ⟨g, 0, none⟩)) (hg : w.heap[g]? = some (.cells cs t fr)) (hp2 : tmps.getD p2 undef = .pointer (some ⟨g2, 0, none⟩)) (hg2 : w.heap[g2]? = some (.cells cs2 t2 fr2))
    (hu : P.underlying ty = some d) (hd : (match d with | .struct _ | .array _ _ => true | _ => false) = true) (hi : (P.info? ty).map (·.size) = some cs.size)
    (hu2 : P.underlying ty2 = some d2) (hd2 : (match d2 with | .struct _ | .array _ _ => true | _ => false) = true) (hi2 : (P.info? ty2).map (·.size) = some cs2.size) (v : Value) (hv : tmps.getD q undef = v) :
    (results fn tmps).run P w = .ok (.tuple #[.agg cs, .agg cs2, v]) w := by
  subst hv
  have hp' : tmps[p]?.getD undef = .pointer (some ⟨g, 0, none⟩) := by simpa using hp
  have hp2' : tmps[p2]?.getD undef = .pointer (some ⟨g2, 0, none⟩) := by simpa using hp2
  simp [results, h, hp', hp2', asAddr, run_loadVar_row w g t ty cs fr d hg hu hd hi, run_loadVar_row w g2 t2 ty2 cs2 fr2 d2 hg2 hu2 hd2 hi2]
theorem four_new {w : World} {a b c d : Array Value} {ta tb tc td : TypeId} (w3 : World) (h : (((w.alloc (.cells a ta)).alloc (.cells b tb)).alloc (.cells c tc)).alloc (.cells d td) = w3) :
    Upd (fun _ => False) w w3 ∧ Blk w3 w.heap.size ta a ∧ Blk w3 (w.heap.size + 1) tb b ∧ Blk w3 (w.heap.size + 1 + 1) tc c ∧ Blk w3 (w.heap.size + 1 + 1 + 1) td d ∧ w3.heap.size = w.heap.size + 4 := by
  subst h
  obtain ⟨h1, h2, h3, h4, h5⟩ := three_new _ (rfl : ((w.alloc (.cells a ta)).alloc (.cells b tb)).alloc (.cells c tc) = _)
  refine ⟨h1.alloc _, h2.alloc _, h3.alloc _, h4.alloc _, ?_, by simp⟩
  have := Blk.new (((w.alloc (.cells a ta)).alloc (.cells b tb)).alloc (.cells c tc)) td d
  rw [h5] at this
  exact this
theorem RdLeft.trans {w w1 w2 : World} {vl vw vl1 vw1 vl2 vw2 : Value} {r1 r2 : Rd} (h : RdLeft w w1 vl vw vl1 vw1 r1) (k : RdLeft w1 w2 vl1 vw1 vl2 vw2 r2) : RdLeft w w2 vl vw vl2 vw2 r2 :=
  ⟨k.at_, h.upd.then k.upd (fun _ e => e.elim), fun q hq => (k.loc q hq).elim (fun e => h.loc q e) (fun e => .inr (Nat.le_trans h.upd.size e))⟩
/-- What a Put of the document's has. -/
structure Puts9 (w wr : World) (vl vw vl' vw' : Value) (r' : Rd) (k' : Kp) : Prop where
  left : RdLeft w wr vl vw vl' vw' r'
  kept : Blk wr w.heap.size 39 k'.row
  disk : Blk wr (w.heap.size + 1) 32 #[vl', vw', .int .i64 r'.fuse, .bool r'.off]
  res1 : Blk wr (w.heap.size + 1 + 1) 39 zeroKp
  res2 : Blk wr (w.heap.size + 1 + 1 + 1) 32 zeroRd
theorem Puts9.still {w wr wx : World} {vl vw vl' vw' : Value} {r' : Rd} {k' : Kp} (h : Puts9 w wr vl vw vl' vw' r' k') (hu : Upd (fun _ => False) wr wx) : Puts9 w wx vl vw vl' vw' r' k' :=
  ⟨h.left.post hu, h.kept.upd hu (fun e => e), h.disk.upd hu (fun e => e), h.res1.upd hu (fun e => e), h.res2.upd hu (fun e => e)⟩
theorem rdrow_one (r : Rd) {vl vw : Value} {w : World} (h : RdAt w vl vw r) : (#[vl, vw, .int .i64 r.fuse, .bool r.off] : Array Value).all (·.oneCell') = true := row_one _ _ h.lasts.one h.ws.one _ _
/-- The answer of a Put: both results are stored, one behind the other. -/
theorem Puts9.ends {w wr w1 w2 : World} {vl vw vl' vw' : Value} {r' : Rd} {k' : Kp} (h : Puts9 w wr vl vw vl' vw' r' k') {c1 : Array Value} (_h1 : Blk w1 (w.heap.size + 1 + 1) 39 c1) (u1 : Upd (· = w.heap.size + 1 + 1) wr w1)
    (_h2 : Blk w2 (w.heap.size + 1 + 1 + 1) 32 #[vl', vw', .int .i64 r'.fuse, .bool r'.off]) (u2 : Upd (· = w.heap.size + 1 + 1 + 1) w1 w2) : RdLeft w w2 vl vw vl' vw' r' := by
  have e1 : ∀ q, RdX vl' vw' q → q ≠ w.heap.size + 1 + 1 := fun q hq e => h.left.at_.ne h.res1 (by decide) (by decide) (e ▸ hq)
  have l1 := h.left.store u1 e1 (by omega)
  exact l1.store u2 (fun q hq e => h.left.at_.ne h.res2 (by decide) (by decide) (e ▸ hq)) (by omega)
section
variable {w : World} {vl vw : Value} {r : Rd} {k : Kp}
set_option maxRecDepth 100000 in
set_option maxHeartbeats 3200000 in
theorem refPut_broken (h : RdAt w vl vw r) (f : Nat) (t : List UInt8) (g a se : Nat) (s : ByteArray) :
    Calls Tryz.prog 31 #[.agg #[.int .i64 (f : Int), .string (str t), .int .u64 (g : Int), .int .i64 (a : Int), .int .u64 (se : Int), .bool true], .agg #[vl, vw, .int .i64 r.fuse, .bool r.off], .string s] w fun e w' => e = .returned (.tuple #[.agg #[.int .i64 (f : Int), .string (str t), .int .u64 (g : Int), .int .i64 (a : Int), .int .u64 (se : Int), .bool true], .agg #[vl, vw, .int .i64 r.fuse, .bool r.off], .int .i64 11]) ∧ RdLeft w w' vl vw vl vw r := by
  obtain ⟨w3, hw3⟩ : ∃ w3, (((w.alloc (.cells #[.int .i64 (f : Int), .string (str t), .int .u64 (g : Int), .int .i64 (a : Int), .int .u64 (se : Int), .bool true] 39)).alloc (.cells #[vl, vw, .int .i64 r.fuse, .bool r.off] 32)).alloc (.cells zeroKp 39)).alloc (.cells zeroRd 32) = w3 := ⟨_, rfl⟩
  obtain ⟨hU3, b1, b2, b3, b4, hsz⟩ := four_new w3 hw3
  have HP : Hid (Puts9 w w3 vl vw vl vw r ⟨f, t, g, a, se, true⟩) := Lib.hid ⟨(RdLeft.refl h).post hU3, b1, b2, b3, b4⟩
  have hc3 := b1.cells6
  have Hw := Lib.hid hw3
  clear hU3 b1 b2 b3 b4 hsz hw3 h
  go_enter Tryz.func31, Tryz.ntmps31
  go_upto_region 1 with fail
  rw [Hw.out]
  clear Hw
  go_upto_region 2 with fail
  refine wp_region_noPanic ?_
  refine wp_region_T (S := fun w' => Blk w' w.heap.size 39 #[.int .i64 (f : Int), .string (str t), .int .u64 (g : Int), .int .i64 (a : Int), .int .u64 (se : Int), .bool true] ∧ Blk w' (w.heap.size + 1) 32 #[vl, vw, .int .i64 r.fuse, .bool r.off]) (T := fun _ => false) (by kernel_rfl) ?_
  have hS0 := And.intro HP.out.kept.drew HP.out.disk.drew
  refine wpAnyT_take (i := 0) (v := ?_) rfl (by kernel_rfl) (by kernel_rfl) (by kernel_rfl) (by kernel_rfl) (fun _ _ _ h => h) (takes_yield rfl (Or.inl ⟨by rfl, ?_⟩)) (by assumption) (by kernel_rfl) ?_
  rotate_left 1
  · intro w' hSw; have hcw := hSw.1.cells6; have hcd := hSw.2.cells4; go_split_ands; first | (go_simp; done) | (go_simp; rfl) | rfl
  simp only [Act.put, List.getElem_toArray, List.getElem_cons_zero, List.setIfInBounds_toArray, List.set_cons_zero, List.set_cons_succ]
  refine wpAnyT_take (i := 1) (v := ?_) rfl (by kernel_rfl) (by kernel_rfl) (by kernel_rfl) (by kernel_rfl) (fun _ _ _ h => h) (takes_yield rfl (Or.inl ⟨by rfl, ?_⟩)) (by assumption) (by kernel_rfl) ?_
  rotate_left 1
  · intro w' hSw; have hcw := hSw.1.cells6; have hcd := hSw.2.cells4; go_split_ands; first | (go_simp; done) | (go_simp; rfl) | rfl
  simp only [Act.put, List.getElem_toArray, List.getElem_cons_zero, List.getElem_cons_succ, List.setIfInBounds_toArray, List.set_cons_zero, List.set_cons_succ]
  refine wpAnyT_one (i := 2) (by kernel_rfl) rfl (fun K hK => ?_)
  refine step_store_all (by rfl) 39 _ _ (by rfl) (w.heap.size + 1 + 1) #[.int .i64 (f : Int), .string (str t), .int .u64 (g : Int), .int .i64 (a : Int), .int .u64 (se : Int), .bool true] (by rfl) (by rfl) _ _ HP.out.res1.drew rfl (by simp [Value.oneCell']) (by kernel_rfl) ?_
  intro w4 hB4 hU4 hs4
  have hS4 := And.intro (hS0.1.upd hU4 (by omega)) (hS0.2.upd hU4 (by omega))
  refine hK.out _ _ hS4 ?_
  clear hK
  refine wpAnyT_one (i := 3) (by kernel_rfl) rfl (fun K hK => ?_)
  refine step_store_all (by rfl) 32 _ _ (by rfl) (w.heap.size + 1 + 1 + 1) #[vl, vw, .int .i64 r.fuse, .bool r.off] (by rfl) (by rfl) _ _ (HP.out.res2.drew.upd hU4 (by omega)) rfl (rdrow_one r HP.out.left.at_) (by kernel_rfl) ?_
  intro w5 hB5 hU5 hs5
  have hS5 := And.intro (hS4.1.upd hU5 (by omega)) (hS4.2.upd hU5 (by omega))
  refine hK.out _ _ hS5 ?_
  have hl := (HP.out.still (Upd.refl _ w3).drew).ends hB4 hU4 hB5 hU5
  have HE := Lib.hid (And.intro (hB4.upd hU5 (by omega)) (And.intro hB5 hl))
  clear hK hS0 hS4 hl hB4 hU4 hs4 hB5 hU5 hs5
  refine wpAnyT_take (i := 4) (v := ?_) rfl (by kernel_rfl) (by kernel_rfl) (by kernel_rfl) (by kernel_rfl) (fun _ _ _ h => h) (takes_yield rfl (Or.inl ⟨by rfl, ?_⟩)) (by assumption) (by kernel_rfl) ?_
  rotate_left 1
  · intro w' hSw; go_split_ands; first | (go_simp; done) | (go_simp; rfl) | rfl
  simp only [Act.put, List.getElem_toArray, List.getElem_cons_zero, List.getElem_cons_succ, List.setIfInBounds_toArray, List.set_cons_zero, List.set_cons_succ]
  refine wpAnyT_done (by kernel_rfl) ?_ _
  refine NoPanic.normal ?_
  go_wp2_with fail
  refine bodyPost_ret (results_cells2_slot rfl _ _ (w.heap.size + 1 + 1) (w.heap.size + 1 + 1 + 1) _ _ _ _ _ _ _ _ rfl HE.out.1 rfl HE.out.2.1 Tryz.underlying39 rfl rfl Tryz.underlying32 rfl rfl (.int .i64 11) rfl) rfl ⟨rfl, HE.out.2.2⟩
set_option maxRecDepth 100000 in
set_option maxHeartbeats 3200000 in
theorem refPut_long (h : RdAt w vl vw r) (f : Nat) (t : List UInt8) (g a se : Nat) (s : ByteArray) (hl : 400 < s.size) :
    Calls Tryz.prog 31 #[.agg #[.int .i64 (f : Int), .string (str t), .int .u64 (g : Int), .int .i64 (a : Int), .int .u64 (se : Int), .bool false], .agg #[vl, vw, .int .i64 r.fuse, .bool r.off], .string s] w fun e w' => e = .returned (.tuple #[.agg #[.int .i64 (f : Int), .string (str t), .int .u64 (g : Int), .int .i64 (a : Int), .int .u64 (se : Int), .bool false], .agg #[vl, vw, .int .i64 r.fuse, .bool r.off], .int .i64 3]) ∧ RdLeft w w' vl vw vl vw r := by
  obtain ⟨w3, hw3⟩ : ∃ w3, (((w.alloc (.cells #[.int .i64 (f : Int), .string (str t), .int .u64 (g : Int), .int .i64 (a : Int), .int .u64 (se : Int), .bool false] 39)).alloc (.cells #[vl, vw, .int .i64 r.fuse, .bool r.off] 32)).alloc (.cells zeroKp 39)).alloc (.cells zeroRd 32) = w3 := ⟨_, rfl⟩
  obtain ⟨hU3, b1, b2, b3, b4, hsz⟩ := four_new w3 hw3
  have HP : Hid (Puts9 w w3 vl vw vl vw r ⟨f, t, g, a, se, false⟩) := Lib.hid ⟨(RdLeft.refl h).post hU3, b1, b2, b3, b4⟩
  have hc3 := b1.cells6
  have Hw := Lib.hid hw3
  clear hU3 b1 b2 b3 b4 hsz hw3 h
  go_enter Tryz.func31, Tryz.ntmps31
  go_upto_region 1 with fail
  rw [Hw.out]
  clear Hw
  go_upto_region 4 with fail
  refine wp_region_noPanic ?_
  refine wp_region_T (S := fun w' => Blk w' w.heap.size 39 #[.int .i64 (f : Int), .string (str t), .int .u64 (g : Int), .int .i64 (a : Int), .int .u64 (se : Int), .bool false] ∧ Blk w' (w.heap.size + 1) 32 #[vl, vw, .int .i64 r.fuse, .bool r.off]) (T := fun _ => false) (by kernel_rfl) ?_
  have hS0 := And.intro HP.out.kept.drew HP.out.disk.drew
  refine wpAnyT_take (i := 0) (v := ?_) rfl (by kernel_rfl) (by kernel_rfl) (by kernel_rfl) (by kernel_rfl) (fun _ _ _ h => h) (takes_yield rfl (Or.inl ⟨by rfl, ?_⟩)) (by assumption) (by kernel_rfl) ?_
  rotate_left 1
  · intro w' hSw; have hcw := hSw.1.cells6; have hcd := hSw.2.cells4; go_split_ands; first | (go_simp; done) | (go_simp; rfl) | rfl
  simp only [Act.put, List.getElem_toArray, List.getElem_cons_zero, List.setIfInBounds_toArray, List.set_cons_zero, List.set_cons_succ]
  refine wpAnyT_take (i := 1) (v := ?_) rfl (by kernel_rfl) (by kernel_rfl) (by kernel_rfl) (by kernel_rfl) (fun _ _ _ h => h) (takes_yield rfl (Or.inl ⟨by rfl, ?_⟩)) (by assumption) (by kernel_rfl) ?_
  rotate_left 1
  · intro w' hSw; have hcw := hSw.1.cells6; have hcd := hSw.2.cells4; go_split_ands; first | (go_simp; done) | (go_simp; rfl) | rfl
  simp only [Act.put, List.getElem_toArray, List.getElem_cons_zero, List.getElem_cons_succ, List.setIfInBounds_toArray, List.set_cons_zero, List.set_cons_succ]
  refine wpAnyT_one (i := 2) (by kernel_rfl) rfl (fun K hK => ?_)
  refine step_store_all (by rfl) 39 _ _ (by rfl) (w.heap.size + 1 + 1) #[.int .i64 (f : Int), .string (str t), .int .u64 (g : Int), .int .i64 (a : Int), .int .u64 (se : Int), .bool false] (by rfl) (by rfl) _ _ HP.out.res1.drew rfl (by simp [Value.oneCell']) (by kernel_rfl) ?_
  intro w4 hB4 hU4 hs4
  have hS4 := And.intro (hS0.1.upd hU4 (by omega)) (hS0.2.upd hU4 (by omega))
  refine hK.out _ _ hS4 ?_
  clear hK
  refine wpAnyT_one (i := 3) (by kernel_rfl) rfl (fun K hK => ?_)
  refine step_store_all (by rfl) 32 _ _ (by rfl) (w.heap.size + 1 + 1 + 1) #[vl, vw, .int .i64 r.fuse, .bool r.off] (by rfl) (by rfl) _ _ (HP.out.res2.drew.upd hU4 (by omega)) rfl (rdrow_one r HP.out.left.at_) (by kernel_rfl) ?_
  intro w5 hB5 hU5 hs5
  have hS5 := And.intro (hS4.1.upd hU5 (by omega)) (hS4.2.upd hU5 (by omega))
  refine hK.out _ _ hS5 ?_
  have hl := (HP.out.still (Upd.refl _ w3).drew).ends hB4 hU4 hB5 hU5
  have HE := Lib.hid (And.intro (hB4.upd hU5 (by omega)) (And.intro hB5 hl))
  clear hK hS0 hS4 hl hB4 hU4 hs4 hB5 hU5 hs5
  refine wpAnyT_take (i := 4) (v := ?_) rfl (by kernel_rfl) (by kernel_rfl) (by kernel_rfl) (by kernel_rfl) (fun _ _ _ h => h) (takes_yield rfl (Or.inl ⟨by rfl, ?_⟩)) (by assumption) (by kernel_rfl) ?_
  rotate_left 1
  · intro w' hSw; go_split_ands; first | (go_simp; done) | (go_simp; rfl) | rfl
  simp only [Act.put, List.getElem_toArray, List.getElem_cons_zero, List.getElem_cons_succ, List.setIfInBounds_toArray, List.set_cons_zero, List.set_cons_succ]
  refine wpAnyT_done (by kernel_rfl) ?_ _
  refine NoPanic.normal ?_
  go_wp2_with fail
  refine bodyPost_ret (results_cells2_slot rfl _ _ (w.heap.size + 1 + 1) (w.heap.size + 1 + 1 + 1) _ _ _ _ _ _ _ _ rfl HE.out.1 rfl HE.out.2.1 Tryz.underlying39 rfl rfl Tryz.underlying32 rfl rfl (.int .i64 3) rfl) rfl ⟨rfl, HE.out.2.2⟩
set_option maxRecDepth 100000 in
set_option maxHeartbeats 3200000 in
theorem refPut_full (h : RdAt w vl vw r) (f : Nat) (t : List UInt8) (g a : Nat) (s : ByteArray) (hl : s.size ≤ 400) :
    Calls Tryz.prog 31 #[.agg #[.int .i64 (f : Int), .string (str t), .int .u64 (g : Int), .int .i64 (a : Int), .int .u64 18446744073709551615, .bool false], .agg #[vl, vw, .int .i64 r.fuse, .bool r.off], .string s] w fun e w' => e = .returned (.tuple #[.agg #[.int .i64 (f : Int), .string (str t), .int .u64 (g : Int), .int .i64 (a : Int), .int .u64 18446744073709551615, .bool false], .agg #[vl, vw, .int .i64 r.fuse, .bool r.off], .int .i64 6]) ∧ RdLeft w w' vl vw vl vw r := by
  obtain ⟨w3, hw3⟩ : ∃ w3, (((w.alloc (.cells #[.int .i64 (f : Int), .string (str t), .int .u64 (g : Int), .int .i64 (a : Int), .int .u64 18446744073709551615, .bool false] 39)).alloc (.cells #[vl, vw, .int .i64 r.fuse, .bool r.off] 32)).alloc (.cells zeroKp 39)).alloc (.cells zeroRd 32) = w3 := ⟨_, rfl⟩
  obtain ⟨hU3, b1, b2, b3, b4, hsz⟩ := four_new w3 hw3
  have HP : Hid (Puts9 w w3 vl vw vl vw r ⟨f, t, g, a, 18446744073709551615, false⟩) := Lib.hid ⟨(RdLeft.refl h).post hU3, b1, b2, b3, b4⟩
  have hc3 := b1.cells6
  have Hw := Lib.hid hw3
  clear hU3 b1 b2 b3 b4 hsz hw3 h
  go_enter Tryz.func31, Tryz.ntmps31
  go_upto_region 1 with fail
  rw [Hw.out]
  clear Hw
  go_upto_region 6 with fail
  refine wp_region_noPanic ?_
  refine wp_region_T (S := fun w' => Blk w' w.heap.size 39 #[.int .i64 (f : Int), .string (str t), .int .u64 (g : Int), .int .i64 (a : Int), .int .u64 18446744073709551615, .bool false] ∧ Blk w' (w.heap.size + 1) 32 #[vl, vw, .int .i64 r.fuse, .bool r.off]) (T := fun _ => false) (by kernel_rfl) ?_
  have hS0 := And.intro HP.out.kept.drew HP.out.disk.drew
  refine wpAnyT_take (i := 0) (v := ?_) rfl (by kernel_rfl) (by kernel_rfl) (by kernel_rfl) (by kernel_rfl) (fun _ _ _ h => h) (takes_yield rfl (Or.inl ⟨by rfl, ?_⟩)) (by assumption) (by kernel_rfl) ?_
  rotate_left 1
  · intro w' hSw; have hcw := hSw.1.cells6; have hcd := hSw.2.cells4; go_split_ands; first | (go_simp; done) | (go_simp; rfl) | rfl
  simp only [Act.put, List.getElem_toArray, List.getElem_cons_zero, List.setIfInBounds_toArray, List.set_cons_zero, List.set_cons_succ]
  refine wpAnyT_take (i := 1) (v := ?_) rfl (by kernel_rfl) (by kernel_rfl) (by kernel_rfl) (by kernel_rfl) (fun _ _ _ h => h) (takes_yield rfl (Or.inl ⟨by rfl, ?_⟩)) (by assumption) (by kernel_rfl) ?_
  rotate_left 1
  · intro w' hSw; have hcw := hSw.1.cells6; have hcd := hSw.2.cells4; go_split_ands; first | (go_simp; done) | (go_simp; rfl) | rfl
  simp only [Act.put, List.getElem_toArray, List.getElem_cons_zero, List.getElem_cons_succ, List.setIfInBounds_toArray, List.set_cons_zero, List.set_cons_succ]
  refine wpAnyT_one (i := 2) (by kernel_rfl) rfl (fun K hK => ?_)
  refine step_store_all (by rfl) 39 _ _ (by rfl) (w.heap.size + 1 + 1) #[.int .i64 (f : Int), .string (str t), .int .u64 (g : Int), .int .i64 (a : Int), .int .u64 18446744073709551615, .bool false] (by rfl) (by rfl) _ _ HP.out.res1.drew rfl (by simp [Value.oneCell']) (by kernel_rfl) ?_
  intro w4 hB4 hU4 hs4
  have hS4 := And.intro (hS0.1.upd hU4 (by omega)) (hS0.2.upd hU4 (by omega))
  refine hK.out _ _ hS4 ?_
  clear hK
  refine wpAnyT_one (i := 3) (by kernel_rfl) rfl (fun K hK => ?_)
  refine step_store_all (by rfl) 32 _ _ (by rfl) (w.heap.size + 1 + 1 + 1) #[vl, vw, .int .i64 r.fuse, .bool r.off] (by rfl) (by rfl) _ _ (HP.out.res2.drew.upd hU4 (by omega)) rfl (rdrow_one r HP.out.left.at_) (by kernel_rfl) ?_
  intro w5 hB5 hU5 hs5
  have hS5 := And.intro (hS4.1.upd hU5 (by omega)) (hS4.2.upd hU5 (by omega))
  refine hK.out _ _ hS5 ?_
  have hl := (HP.out.still (Upd.refl _ w3).drew).ends hB4 hU4 hB5 hU5
  have HE := Lib.hid (And.intro (hB4.upd hU5 (by omega)) (And.intro hB5 hl))
  clear hK hS0 hS4 hl hB4 hU4 hs4 hB5 hU5 hs5
  refine wpAnyT_take (i := 4) (v := ?_) rfl (by kernel_rfl) (by kernel_rfl) (by kernel_rfl) (by kernel_rfl) (fun _ _ _ h => h) (takes_yield rfl (Or.inl ⟨by rfl, ?_⟩)) (by assumption) (by kernel_rfl) ?_
  rotate_left 1
  · intro w' hSw; go_split_ands; first | (go_simp; done) | (go_simp; rfl) | rfl
  simp only [Act.put, List.getElem_toArray, List.getElem_cons_zero, List.getElem_cons_succ, List.setIfInBounds_toArray, List.set_cons_zero, List.set_cons_succ]
  refine wpAnyT_done (by kernel_rfl) ?_ _
  refine NoPanic.normal ?_
  go_wp2_with fail
  refine bodyPost_ret (results_cells2_slot rfl _ _ (w.heap.size + 1 + 1) (w.heap.size + 1 + 1 + 1) _ _ _ _ _ _ _ _ rfl HE.out.1 rfl HE.out.2.1 Tryz.underlying39 rfl rfl Tryz.underlying32 rfl rfl (.int .i64 6) rfl) rfl ⟨rfl, HE.out.2.2⟩
end
end Go.Proofs.YtnmbhoidnbideaaGreat
