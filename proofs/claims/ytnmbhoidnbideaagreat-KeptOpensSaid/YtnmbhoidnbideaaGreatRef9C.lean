/-
  The document's records of chapter 09: Open.
-/
import Derived.Test.YtnmbhoidnbideaaGreatRef9B
import Derived.Test.YtnmbhoidnbideaaGreatOpen9
import Derived.Test.YtnmbhoidnbideaaGreatRefE
import Derived.Test.YtnmbhoidnbideaaGreatPart
namespace Go.Proofs.YtnmbhoidnbideaaGreat
open Go Go.RowKit

abbrev zeroKp : Array Value := #[.int .i64 0, .string ⟨#[]⟩, .int .u64 0, .int .i64 0, .int .u64 0, .bool false]
abbrev Kp.row (k : Kp) : Array Value := #[.int .i64 (k.from_ : Int), .string (str k.text), .int .u64 (k.gen : Int), .int .i64 (k.at_ : Int), .int .u64 (k.seen : Int), .bool k.broken]
theorem zeroKp_one : zeroKp.all (·.oneCell') = true := by simp [Value.oneCell']
theorem Kp.row_one (k : Kp) : k.row.all (·.oneCell') = true := by simp [Value.oneCell']
theorem two_new {w : World} {a b : Array Value} {ta tb : TypeId} (w3 : World) (h : (w.alloc (.cells a ta)).alloc (.cells b tb) = w3) :
    Upd (fun _ => False) w w3 ∧ Blk w3 w.heap.size ta a ∧ Blk w3 (w.heap.size + 1) tb b ∧ w3.heap.size = w.heap.size + 2 := by
  subst h
  refine ⟨((Upd.refl _ w).alloc _).alloc _, (Blk.new w _ _).alloc _, ?_, by simp⟩
  have := Blk.new (w.alloc (.cells a ta)) tb b
  simpa using this
set_option maxRecDepth 100000 in
set_option maxHeartbeats 1600000 in
theorem refOpen_bad {w : World} {vl vw : Value} {r : Rd} (h : RdAt w vl vw r) (hf : r.fits) (f : Int) (hb : f < 0 ∨ (r.lasts.length : Int) - 20 < f) :
    Calls Tryz.prog 30 #[.agg #[vl, vw, .int .i64 r.fuse, .bool r.off], .int .i64 f] w fun e w' => e = .returned (.tuple #[.agg zeroKp, .int .i64 1]) ∧ Upd (fun _ => False) w w' := by
  have hl1 := hf.lasts
  obtain ⟨A, cap, rfl, -, -⟩ := h.lasts.shape
  obtain ⟨A2, cap2, rfl, -, -⟩ := h.ws.shape
  obtain ⟨w3, hw3⟩ : ∃ w3, (w.alloc (.cells #[.slice A r.lasts.length cap, .slice A2 r.ws.length cap2, .int .i64 r.fuse, .bool r.off] 32)).alloc (.cells zeroKp 39) = w3 := ⟨_, rfl⟩
  obtain ⟨hU3, hB2, hB4, hsz⟩ := two_new w3 hw3
  have hc2 := hB2.cells4
  have HB := Lib.hid (And.intro hB2 hB4)
  have HU := Lib.hid hU3
  have Hw := Lib.hid hw3
  clear hB2 hB4 hU3 hw3 hsz h hf
  have hb' : f < 0 ∨ (0 ≤ f ∧ (r.lasts.length : Int) - 20 < f) := by omega
  clear hb
  rcases hb' with h0 | ⟨h0, h1⟩
  all_goals
    go_enter Tryz.func30, Tryz.ntmps30
    go_upto_region 1 with fail
    rw [Hw.out]
    clear Hw
    go_wp2_with (first
      | (refine wpList_store_all rfl 39 _ _ rfl (w.heap.size + 1) zeroKp rfl rfl _ _ HB.out.2 rfl zeroKp_one (by kernel_rfl) ?_
         intro w4 hB4 hU4 hs4))
    refine bodyPost_ret (results_cell_slot rfl _ _ (w.heap.size + 1) _ _ _ _ rfl hB4 Tryz.underlying39 rfl rfl (.int .i64 1) rfl) rfl ⟨rfl, ?_⟩
    exact HU.out.then hU4 (fun q e => .inr (by omega))
theorem gen_same (s : ByteArray) (w : World) (hs : 8 ≤ s.size) (hs2 : s.size ≤ 1000000) :
    Calls Tryz.prog 70 #[.string s] w fun e w' => e = .returned (.int .u64 (leN (s.data.toList.take 8) : Int)) ∧ w' = w :=
  (refGen_c s w hs hs2).mono fun _ _ ⟨h1, h2⟩ => ⟨h1, h2.symm⟩
/-- The sectors of a disk from one on, as texts. -/
def secsB (d : Dk) (f n : Nat) : List ByteArray := (List.range n).map fun i => d.now (f + i)
theorem secsB_len (d : Dk) (f n : Nat) : (secsB d f n).length = n := by simp [secsB]
theorem secsB_succ (d : Dk) (f n : Nat) : secsB d f (n + 1) = secsB d f n ++ [d.now (f + n)] := by
  unfold secsB
  rw [List.range_succ, List.map_append]
  rfl
theorem secsB_lists (d : Dk) (f n : Nat) : ((secsB d f n).map fun s => s.data.toList) = secsL d f n := by
  unfold secsB secsL
  rw [List.map_map]
  rfl
theorem Src.of_new_at {P : Program} {w : World} {xT t e : TypeId} {b : Nat} (ht : P.underlying xT = some (.slice t)) (x : Value) (hb : w.heap.size = b) : Src P (w.alloc (.cells #[x] e)) xT 1 (.slice (some ⟨b, 0, none⟩) 1 1) 1 [x] := by
  subst hb
  exact Src.of_new ht x
/-- What Open has behind some sectors. -/
structure Opens9 (w wr : World) (g : Nat) (v vl vw : Value) (d : Dk) (r : Rd) (f j : Nat) : Prop where
  list : Grows w wr v j (secsB d f j)
  kept : Blk wr g 39 (Kp.row ⟨f, [], 0, 1, (secsL d f j).foldl seeS 0, false⟩)
  box : Blk wr w.heap.size 32 #[vl, vw, .int .i64 r.fuse, .bool r.off]
  res : Blk wr (w.heap.size + 1) 39 zeroKp
  good : badL (secsL d f j) = false
theorem Opens9.still {w wr wx : World} {g : Nat} {v vl vw : Value} {d : Dk} {r : Rd} {f j : Nat} (h : Opens9 w wr g v vl vw d r f j) (hu : Upd (fun _ => False) wr wx) : Opens9 w wx g v vl vw d r f j :=
  ⟨h.list.still hu, h.kept.upd hu (fun e => e), h.box.upd hu (fun e => e), h.res.upd hu (fun e => e), h.good⟩
theorem Opens9.next {w wr wx : World} {g : Nat} {v v2 vl vw : Value} {d : Dk} {r : Rd} {f j m : Nat} {S : ByteArray} (h : Opens9 w wr g v vl vw d r f j) (hS : d.now (f + j) = S) (hl : (lookL S.data.toList).2 ≠ 2) (hm : seeS ((secsL d f j).foldl seeS 0) S.data.toList = m)
    (hG : Grows w wx v2 (j + 1) (secsB d f j ++ [S])) (hk : Blk wx g 39 (Kp.row ⟨f, [], 0, 1, m, false⟩)) (hb : Blk wx w.heap.size 32 #[vl, vw, .int .i64 r.fuse, .bool r.off]) (hr : Blk wx (w.heap.size + 1) 39 zeroKp) : Opens9 w wx g v2 vl vw d r f (j + 1) := by
  refine ⟨?_, ?_, hb, hr, ?_⟩
  · rw [secsB_succ, hS]
    exact hG
  · rw [secsL_succ, List.foldl_append, hS]
    show Blk wx g _ (Kp.row ⟨f, [], 0, 1, seeS ((secsL d f j).foldl seeS 0) S.data.toList, false⟩)
    rw [hm]
    exact hk
  · rw [secsL_succ, badL_app, h.good, hS]
    simp [badL, hl]
theorem seeS_one {m : Nat} {s B : List UInt8} (h : lookL s = (B, 1)) : seeS m s = max m (leN (B.take 8)) := by
  unfold seeS
  rw [h]
  exact if_pos rfl
theorem seeS_no {m : Nat} {s B : List UInt8} (h : lookL s = (B, 0)) : seeS m s = m := by
  unfold seeS
  rw [h]
  exact if_neg (by simp)
theorem bad_at {d : Dk} {f j : Nat} {S : ByteArray} (hj : j < 20) (hS : d.now (f + j) = S) (hl : (lookL S.data.toList).2 = 2) : openR d f = none := by
  unfold openR
  rw [if_pos]
  unfold badL
  rw [List.any_eq_true]
  refine ⟨S.data.toList, ?_, by simpa using hl⟩
  unfold secsL
  rw [List.mem_map]
  exact ⟨j, List.mem_range.2 hj, by rw [hS]⟩
/-- What Open answers. -/
def openKp (o : Option Kp) : Array Value := match o with | some k => k.row | none => zeroKp
set_option maxRecDepth 100000 in
set_option maxHeartbeats 3200000 in
theorem refOpen_on {w : World} {vl vw : Value} {d : Dk} {r : Rd} (h : RdAt w vl vw r) (hf : r.fits) (hI : RdIs d r) (hwf : d.wf) (hoff : d.off = false) (f : Nat) (hr : f + 20 ≤ d.lasts.length) :
    Calls Tryz.prog 30 #[.agg #[vl, vw, .int .i64 r.fuse, .bool r.off], .int .i64 (f : Int)] w fun e w' => e = .returned (.tuple #[.agg (openKp (openR d f)), .int .i64 (openErr (openR d f))]) ∧ Upd (fun _ => False) w w' := by
  have hl1 := hf.lasts
  have hrl : r.lasts.length = d.lasts.length := by rw [hI.lasts]
  obtain ⟨i0, hi0, hz0, hz1, hz2⟩ := info_parts infoStr
  have hrd0 : ∀ W, Upd (fun _ => False) w W → ∀ j : Nat, j < 20 → Calls Tryz.prog 68 #[.agg #[vl, vw, .int .i64 r.fuse, .bool r.off], .int .i64 ((f : Int) + (j : Int))] W fun e w' => e = .returned (.tuple #[.string (d.now (f + j)), .int .i64 0]) ∧ Upd (fun _ => False) W w' := by
    intro W hW j hj
    have := rread_c (h.upd hW) hf ((f : Int) + (j : Int))
    rw [hI.read, show ((f : Int) + (j : Int)) = ((f + j : Nat) : Int) by omega, Dk.read_there hoff (by omega)] at this
    exact this
  have hnow : Hid (∀ j, j < 20 → (d.now (f + j)).size = 64) := fun j hj => hwf.now_size (by omega)
  have hrd := Lib.hid hrd0
  clear hrd0
  obtain ⟨A, cap, rfl, -, -⟩ := h.lasts.shape
  obtain ⟨A2, cap2, rfl, -, -⟩ := h.ws.shape
  obtain ⟨w3, hw3⟩ : ∃ w3, (w.alloc (.cells #[.slice A r.lasts.length cap, .slice A2 r.ws.length cap2, .int .i64 r.fuse, .bool r.off] 32)).alloc (.cells zeroKp 39) = w3 := ⟨_, rfl⟩
  obtain ⟨hU3, hB2, hB4, hsz⟩ := two_new w3 hw3
  have hc2 := hB2.cells4
  have HB := Lib.hid (And.intro hB2 hB4)
  have HU := Lib.hid (And.intro hU3 hsz)
  have Hw := Lib.hid hw3
  have hf1 : ¬ (r.lasts.length : Int) - 20 < (f : Int) := by omega
  have hf2 : f ≤ 5000 := by omega
  clear hB2 hB4 hU3 hw3 hsz h hf hI hwf hoff hrl hr
  obtain ⟨O, hO⟩ : ∃ O, openR d f = O := ⟨_, rfl⟩
  rw [hO]
  have HO := Lib.hid hO
  clear hO
  go_enter Tryz.func30, Tryz.ntmps30
  go_upto_region 1 with fail
  rw [Hw.out]
  clear Hw
  go_upto_region 4 with (first
    | (refine wpList_store_all rfl 39 _ _ rfl w3.heap.size (Kp.row ⟨f, [], 0, 1, 0, false⟩) rfl rfl _ _ (Blk.new w3 _ _) rfl (Kp.row_one _) (by kernel_rfl) ?_
       intro w4 hB4 hU4 hs4))
  have hO4 : Opens9 w w4 w3.heap.size (.slice none 0 0) (.slice A r.lasts.length cap) (.slice A2 r.ws.length cap2) d r f 0 := by
    have hU : Upd (fun q => q = w3.heap.size) w3 w4 := ((Upd.refl _ w3).alloc _).then hU4 (fun q e => .inl e)
    have hs3 := HU.out.2
    refine ⟨⟨Own.nil _ _ _, HU.out.1.then hU (fun q e => .inr (by omega)), by simp [Value.ownBlock]⟩, hB4, HB.out.1.upd hU (fun e => by omega), HB.out.2.upd hU (fun e => by omega), rfl⟩
  have HO4 := Lib.hid hO4
  clear hO4 hB4 hU4 hs4 hc2
  obtain ⟨g, hg⟩ : ∃ g, w3.heap.size = g := ⟨_, rfl⟩
  rw [hg] at HO4 ⊢
  have Hg : Hid (g = w.heap.size + 2) := by show _ = _; rw [← hg]; exact HU.out.2
  clear hg
  go_wp2_with fail
  go_loopw [7, 8, 9, 10, 11, 12] (fun v i _ _ _ _ wr => ∃ j : Nat, j ≤ 20 ∧ i = .int .i64 (j : Int) ∧ Opens9 w wr g v (.slice A r.lasts.length cap) (.slice A2 r.ws.length cap2) d r f j) (fun _ i _ _ _ _ _ => 20 - (intOf i).toNat)
  case atStart => exact ⟨0, by omega, rfl, HO4.out⟩
  case round =>
    rename World => wa
    obtain ⟨j, hj, rfl, hOp⟩ := hrel
    have H := Lib.hid hOp
    clear hOp HO4 HB
    by_cases hlt : j < 20
    · obtain ⟨S, hS⟩ : ∃ S, d.now (f + j) = S := ⟨_, rfl⟩
      have hrj := hrd.out wa H.out.list.upd j hlt
      have hsz := hnow.out j hlt
      rw [hS] at hrj hsz
      have HR := Lib.hid hrj
      have hlo : ∀ W, _ := fun W => refLook_c S W (by omega)
      obtain ⟨⟨B, z⟩, hF⟩ : ∃ F, lookL S.data.toList = F := ⟨_, rfl⟩
      rw [hF] at hlo
      simp only at hlo
      have HLo := Lib.hid hlo
      have HF := Lib.hid (And.intro hS hF)
      have hwr : IntKind.i64.wrap ((f : Int) + (j : Int)) = (f : Int) + (j : Int) := IntWalk.i64_in _ (by omega)
      clear hS hrj hlo hF hsz
      have hz3 : z = 0 ∨ z = 1 ∨ z = 2 := by
        have := lookL_cases S.data.toList
        rw [HF.out.2] at this
        exact this
      go_upto_region 11 with (first
        | (refine wpList_load_all rfl _ _ rfl w.heap.size rfl _ _ _ H.out.box Tryz.underlying32 rfl rfl ?_)
        | (go_at_call 68; refine HR.out.mono ?_; rintro e w5 ⟨rfl, hU5⟩
           have H5 := Lib.hid (H.out.still hU5)
           clear hU5))
      go_wp2_with fail
      refine (HLo.out _).mono ?_
      rintro e w6 ⟨rfl, hU6⟩
      have H6 := Lib.hid (H5.out.still hU6)
      clear hU6 H5
      rcases hz3 with rfl | rfl | rfl
      · have hc6 := H6.out.kept.cells6
        go_wp2_with fail
        go_quiet (fail)
        have H7 := Lib.hid (H6.out.still ((Upd.refl _ w6).drewN nq))
        have hO7 := H7.out.list.own.alloc (.cells #[.string S] 9)
        go_wp2_with (at_builtin; refine wpList_append_src rfl _ _ _ _ rfl 9 i0 _ 1 16 Tryz.underlying29 hi0 hz0 hz1 hz2 rfl u7 j _ rfl hO7 _ 1 [_] rfl (Src.of_new Tryz.underlying29 _) (by simp [Value.oneCell']) (by unfold maxLen; omega) (by omega) ?_; intro v2 w8 hO8 hU8 hl8 hs8)
        have hal := Upd.refl (fun _ => False) (w6.drewN nq)
        have hG8 := (H7.out.list.still (hal.alloc (.cells #[.string S] 9))).app hO8 hU8 hl8
        have hno : ∀ q t cs, Blk (w6.drewN nq) q t cs → 9 ≠ t → Blk w8 q t cs := fun q t cs hB ht => (hB.alloc _).upd hU8 (H7.out.list.own.ne_blk hB ht)
        have hN := H7.out.next HF.out.1 (by rw [HF.out.2]; simp) (seeS_no HF.out.2) hG8 (hno _ _ _ H7.out.kept (by decide)) (hno _ _ _ H7.out.box (by decide)) (hno _ _ _ H7.out.res (by decide))
        go_roundw
        case rel => exact ⟨j + 1, by omega, by go_num, hN⟩
        case measure => simp only [intOf]; omega
      · obtain ⟨M, hM⟩ : ∃ M, (secsL d f j).foldl seeS 0 = M := ⟨_, rfl⟩
        have hB60 : B.length = 60 := by have := look_60 (s := S.data.toList) (by rw [HF.out.2]); rw [HF.out.2] at this; exact this
        obtain ⟨SB, hSB⟩ : ∃ SB, str B = SB := ⟨_, rfl⟩
        have hgen : ∀ W, _ := fun W => gen_same SB W (by rw [← hSB, str_size]; omega) (by rw [← hSB, str_size]; omega)
        rw [← hSB, str_list, hSB] at hgen
        obtain ⟨G, hG⟩ : ∃ G, leN (B.take 8) = G := ⟨_, rfl⟩
        rw [hG] at hgen
        rw [hSB]
        have HGen := Lib.hid hgen
        have hc6 := H6.out.kept.cells6
        have hf6 := H6.out.kept.frozen 4
        simp only [hM] at hc6
        have HM := Lib.hid (And.intro hM hG)
        clear hgen hSB hB60 hM hG
        by_cases hlt2 : M < G
        · have hd : decide (M < G) = true := decide_eq_true hlt2
          go_wp2_with fail
          go_quiet (first | (go_at_call 70; exact Calls.quiet_of_same (HGen.out _)))
          have H7 := Lib.hid (H6.out.still ((Upd.refl _ w6).drewN nq))
          have hne := H7.out.list.own.ne_blk H7.out.kept (by decide)
          have hO7 := (H7.out.list.own.far (p := ⟨g, 4, none⟩) hne (.int .u64 (G : Int))).alloc (.cells #[.string S] 9)
          go_wp2_with (first | (at_builtin; refine wpList_append_src rfl _ _ _ _ rfl 9 i0 _ 1 16 Tryz.underlying29 hi0 hz0 hz1 hz2 rfl u7 j _ rfl hO7 _ 1 [_] rfl (Src.of_new_at Tryz.underlying29 _ (by simp)) (by simp [Value.oneCell']) (by unfold maxLen; omega) (by omega) ?_; intro v2 w8 hO8 hU8 hl8 hs8) | (go_at_call 70; refine (HGen.out _).mono ?_; rintro e w9 ⟨rfl, rfl⟩))
          have hst : Upd (fun q => q = g) (w6.drewN nq) ((w6.drewN nq).setCell ⟨g, 4, none⟩ (.int .u64 (G : Int))) := (Upd.refl (· = g) (w6.drewN nq)).setCell (p := ⟨g, 4, none⟩) (.inl rfl) _
          have hG7 : Grows w ((w6.drewN nq).setCell ⟨g, 4, none⟩ (.int .u64 (G : Int))) u7 j (secsB d f j) := ⟨H7.out.list.own.far (p := ⟨g, 4, none⟩) hne _, H7.out.list.upd.then hst (fun q e => .inr (by have := Hg.out; omega)), H7.out.list.new⟩
          have hG8 := (hG7.still ((Upd.refl (fun _ => False) _).alloc (.cells #[.string S] 9))).app hO8 hU8 hl8
          have hno : ∀ q t cs, Blk ((w6.drewN nq).setCell ⟨g, 4, none⟩ (.int .u64 (G : Int))) q t cs → 9 ≠ t → Blk w8 q t cs := fun q t cs hB ht => (hB.alloc _).upd hU8 (hG7.own.ne_blk hB ht)
          have hk7 := H7.out.kept.set_ 4 (.int .u64 (G : Int))
          rw [HM.out.1] at hk7
          have hN := H7.out.next (m := G) HF.out.1 (by rw [HF.out.2]; simp) (by rw [seeS_one HF.out.2, HM.out.1, HM.out.2]; omega) hG8 (hno _ _ _ hk7 (by decide)) (hno _ _ _ (H7.out.box.upd hst (by have := Hg.out; omega)) (by decide)) (hno _ _ _ (H7.out.res.upd hst (by have := Hg.out; omega)) (by decide))
          go_roundw
          case rel => exact ⟨j + 1, by omega, by go_num, hN⟩
          case measure => simp only [intOf]; omega
        · have hd : decide (M < G) = false := decide_eq_false hlt2
          go_wp2_with fail
          go_quiet (first | (go_at_call 70; exact Calls.quiet_of_same (HGen.out _)))
          have H7 := Lib.hid (H6.out.still ((Upd.refl _ w6).drewN nq))
          have hO7 := H7.out.list.own.alloc (.cells #[.string S] 9)
          go_wp2_with (at_builtin; refine wpList_append_src rfl _ _ _ _ rfl 9 i0 _ 1 16 Tryz.underlying29 hi0 hz0 hz1 hz2 rfl u7 j _ rfl hO7 _ 1 [_] rfl (Src.of_new Tryz.underlying29 _) (by simp [Value.oneCell']) (by unfold maxLen; omega) (by omega) ?_; intro v2 w8 hO8 hU8 hl8 hs8)
          have hal := Upd.refl (fun _ => False) (w6.drewN nq)
          have hG8 := (H7.out.list.still (hal.alloc (.cells #[.string S] 9))).app hO8 hU8 hl8
          have hno : ∀ q t cs, Blk (w6.drewN nq) q t cs → 9 ≠ t → Blk w8 q t cs := fun q t cs hB ht => (hB.alloc _).upd hU8 (H7.out.list.own.ne_blk hB ht)
          have hN := H7.out.next HF.out.1 (by rw [HF.out.2]; simp) (by rw [seeS_one HF.out.2, HM.out.1, HM.out.2]; omega) hG8 (hno _ _ _ (HM.out.1 ▸ H7.out.kept) (by decide)) (hno _ _ _ H7.out.box (by decide)) (hno _ _ _ H7.out.res (by decide))
          go_roundw
          case rel => exact ⟨j + 1, by omega, by go_num, hN⟩
          case measure => simp only [intOf]; omega
      · go_wp2_with (first
          | (refine wpList_store_all rfl 39 _ _ rfl (w.heap.size + 1) zeroKp rfl rfl _ _ H6.out.res rfl zeroKp_one (by kernel_rfl) ?_
             intro w7 hB7 hU7 hs7))
        have hO := bad_at hlt HF.out.1 (by rw [HF.out.2])
        rw [HO.out] at hO
        subst hO
        refine bodyPost_ret (results_cell_slot rfl _ _ (w.heap.size + 1) _ _ _ _ rfl hB7 Tryz.underlying39 rfl rfl (.int .i64 9) rfl) rfl ⟨rfl, ?_⟩
        exact H6.out.list.upd.then hU7 (fun q e => .inr (by omega))
    · obtain rfl : j = 20 := by omega
      obtain ⟨gl, capl, rfl, hcl1, hcl2⟩ := H.out.list.own.head (by omega)
      have hlist := secsB_lists d f 20
      have hlen := secsB_len d f 20
      have hro : ∀ (W : World), Upd (fun _ => False) wa W → ∀ i (hi : i < 20), W.cell? ⟨gl, i, none⟩ = some (.string ((secsB d f 20)[i]'(by omega))) := by
        intro W hW i hi
        rw [(H.out.list.own.upd hW (fun _ _ e => e)).cellAt i (by omega), strs_get, List.getElem?_eq_getElem (by omega)]
        rfl
      have hsz : ∀ s ∈ secsB d f 20, s.size ≤ 64 := by
        intro s hs
        unfold secsB at hs
        rw [List.mem_map] at hs
        obtain ⟨i, hi, rfl⟩ := hs
        rw [hnow.out i (List.mem_range.1 hi)]
        omega
      have hlo0 : ∀ (W : World), Upd (fun _ => False) wa W → Calls Tryz.prog 71 #[.slice (some ⟨gl, 0, none⟩) 10 capl] W fun e w' => e = .returned (.tuple #[.string (str (holdsR ((secsL d f 20).take 10)).1), .int .u64 ((holdsR ((secsL d f 20).take 10)).2 : Int)]) ∧ Upd (fun _ => False) W w' := by
        intro W hW
        have hr : Row W (.slice (some ⟨gl, 0, none⟩) 10 capl) (((secsB d f 20).take 10).map Value.string) := by
          have := isRow_of (w := W) (a := ⟨gl, 0, none⟩) (cap := capl) (vs := ((secsB d f 20).take 10).map Value.string) (by simp [maxLen]; omega) (fun i hi => by
            simp at hi
            rw [show (⟨gl, 0, none⟩ : Addr).add i = ⟨gl, 0 + i, none⟩ from Addr.add_mid _ _ _, Nat.zero_add, hro W hW i (by omega), List.getElem_map, List.getElem_take])
          simpa [hlen] using this
        have := refHolds_c hr (by rw [List.length_take]; omega) (fun s hs => hsz s (List.mem_of_mem_take hs))
        rw [List.map_take, hlist] at this
        exact this
      have hhi0 : ∀ (W : World), Upd (fun _ => False) wa W → Calls Tryz.prog 71 #[.slice (some ⟨gl, 10, none⟩) 10 (capl - 10)] W fun e w' => e = .returned (.tuple #[.string (str (holdsR ((secsL d f 20).drop 10)).1), .int .u64 ((holdsR ((secsL d f 20).drop 10)).2 : Int)]) ∧ Upd (fun _ => False) W w' := by
        intro W hW
        have hr : Row W (.slice (some ⟨gl, 10, none⟩) 10 (capl - 10)) (((secsB d f 20).drop 10).map Value.string) := by
          have := isRow_of (w := W) (a := ⟨gl, 10, none⟩) (cap := capl - 10) (vs := ((secsB d f 20).drop 10).map Value.string) (by simp [maxLen]; omega) (fun i hi => by
            simp at hi
            rw [show (⟨gl, 10, none⟩ : Addr).add i = ⟨gl, 10 + i, none⟩ from Addr.add_mid _ _ _, hro W hW (10 + i) (by omega), List.getElem_map, List.getElem_drop])
          simpa [hlen] using this
        have := refHolds_c hr (by rw [List.length_drop]; omega) (fun s hs => hsz s (List.mem_of_mem_drop hs))
        rw [List.map_drop, hlist] at this
        exact this
      obtain ⟨⟨ta, ga⟩, hA⟩ : ∃ q, holdsR ((secsL d f 20).take 10) = q := ⟨_, rfl⟩
      obtain ⟨⟨tb, gb⟩, hB⟩ : ∃ q, holdsR ((secsL d f 20).drop 10) = q := ⟨_, rfl⟩
      rw [hA] at hlo0
      rw [hB] at hhi0
      simp only at hlo0 hhi0
      have hOp : openR d f = some (if 0 < ga ∧ gb ≤ ga then ⟨f, ta, ga, 0, (secsL d f 20).foldl seeS 0, false⟩ else if 0 < gb then ⟨f, tb, gb, 1, (secsL d f 20).foldl seeS 0, false⟩ else ⟨f, [], 0, 1, (secsL d f 20).foldl seeS 0, false⟩) := by
        unfold openR
        rw [H.out.good, if_neg (by simp)]
        unfold pickR
        rw [hA, hB]
      rw [HO.out] at hOp
      have HOp := Lib.hid hOp
      have HLo := Lib.hid hlo0
      have HHi := Lib.hid hhi0
      clear hlist hlen hro hsz hlo0 hhi0 hA hB hOp
      obtain ⟨M, hM⟩ : ∃ M, (secsL d f 20).foldl seeS 0 = M := ⟨_, rfl⟩
      rw [hM] at HOp
      have hk := H.out.kept
      rw [hM] at hk
      have HK := Lib.hid hk
      clear hM hk
      go_wp2_with fail
      refine (HLo.out _ (Upd.refl _ _)).mono ?_
      rintro e w5 ⟨rfl, hU5⟩
      have H5 := Lib.hid hU5
      clear hU5
      go_wp2_with fail
      refine (HHi.out _ H5.out).mono ?_
      rintro e w6 ⟨rfl, hU6⟩
      have H6 := Lib.hid (H5.out.then hU6 (fun _ e => e.elim))
      clear hU6 H5
      have hk6 : Blk w6 g 39 #[.int .i64 (f : Int), .string (str []), .int .u64 0, .int .i64 1, .int .u64 (M : Int), .bool false] := HK.out.upd H6.out (fun e => e)
      have hr6 := H.out.res.upd H6.out (fun e => e)
      have hc6 := hk6.cells6
      by_cases hA : 0 < ga ∧ gb ≤ ga
      · obtain rfl : O = some ⟨f, ta, ga, 0, M, false⟩ := by rw [HOp.out, if_pos hA]
        have hd1 : decide (0 < ga) = true := decide_eq_true hA.1
        have hd2 : decide (gb ≤ ga) = true := decide_eq_true hA.2
        clear hA
        have hrow : Blk (((w6.setCell ⟨g, 1, none⟩ (.string (str ta))).setCell ⟨g, 2, none⟩ (.int .u64 (ga : Int))).setCell ⟨g, 3, none⟩ (.int .i64 0)) g 39 #[.int .i64 (f : Int), .string (str ta), .int .u64 (ga : Int), .int .i64 0, .int .u64 (M : Int), .bool false] := by
          have := ((hk6.set_ 1 (.string (str ta))).set_ 2 (.int .u64 (ga : Int))).set_ 3 (.int .i64 0)
          simp at this
          exact this
        have hst : Upd (fun q => q = g) w6 (((w6.setCell ⟨g, 1, none⟩ (.string (str ta))).setCell ⟨g, 2, none⟩ (.int .u64 (ga : Int))).setCell ⟨g, 3, none⟩ (.int .i64 0)) :=
          (((Upd.refl (· = g) w6).setCell (p := ⟨g, 1, none⟩) (.inl rfl) _).setCell (p := ⟨g, 2, none⟩) (.inl rfl) _).setCell (p := ⟨g, 3, none⟩) (.inl rfl) _
        have hres := hr6.upd hst (by have := Hg.out; omega)
        have HR := Lib.hid (And.intro hrow (And.intro hst hres))
        have hf1 := hk6.frozen 1
        have hf2 := hk6.frozen 2
        have hf3 := hk6.frozen 3
        clear hrow hst hres hk6 hr6
        go_upto_region 23 with fail
        go_wp2_with (first
          | (refine wpList_load_all rfl _ _ rfl g rfl _ _ _ HR.out.1 Tryz.underlying39 rfl rfl ?_)
          | (refine wpList_store_all rfl 39 _ _ rfl (w.heap.size + 1) #[.int .i64 (f : Int), .string (str ta), .int .u64 (ga : Int), .int .i64 0, .int .u64 (M : Int), .bool false] rfl rfl _ _ HR.out.2.2 rfl (by simp [Value.oneCell']) (by kernel_rfl) ?_
             intro w7 hB7 hU7 hs7))
        refine bodyPost_ret (results_cell_slot rfl _ _ (w.heap.size + 1) _ _ _ _ rfl hB7 Tryz.underlying39 rfl rfl (.int .i64 0) rfl) rfl ⟨rfl, ?_⟩
        exact ((H.out.list.upd.then H6.out (fun _ e => e.elim)).then HR.out.2.1 (fun q e => .inr (by have := Hg.out; omega))).then hU7 (fun q e => .inr (by omega))
      · by_cases hB : 0 < gb
        · obtain rfl : O = some ⟨f, tb, gb, 1, M, false⟩ := by rw [HOp.out, if_neg hA, if_pos hB]
          have hd3 : decide (0 < gb) = true := decide_eq_true hB
          have hc : (decide (0 < ga) = true ∧ decide (gb ≤ ga) = false) ∨ decide (0 < ga) = false := by
            by_cases h1 : 0 < ga
            · left
              exact ⟨decide_eq_true h1, decide_eq_false fun h2 => hA ⟨h1, h2⟩⟩
            · exact .inr (decide_eq_false h1)
          clear hA hB
          rcases hc with ⟨hd1, hd2⟩ | hd1
          all_goals
            have hrow : Blk (((w6.setCell ⟨g, 1, none⟩ (.string (str tb))).setCell ⟨g, 2, none⟩ (.int .u64 (gb : Int))).setCell ⟨g, 3, none⟩ (.int .i64 1)) g 39 #[.int .i64 (f : Int), .string (str tb), .int .u64 (gb : Int), .int .i64 1, .int .u64 (M : Int), .bool false] := by
              have := ((hk6.set_ 1 (.string (str tb))).set_ 2 (.int .u64 (gb : Int))).set_ 3 (.int .i64 1)
              simp at this
              exact this
            have hst : Upd (fun q => q = g) w6 (((w6.setCell ⟨g, 1, none⟩ (.string (str tb))).setCell ⟨g, 2, none⟩ (.int .u64 (gb : Int))).setCell ⟨g, 3, none⟩ (.int .i64 1)) :=
              (((Upd.refl (· = g) w6).setCell (p := ⟨g, 1, none⟩) (.inl rfl) _).setCell (p := ⟨g, 2, none⟩) (.inl rfl) _).setCell (p := ⟨g, 3, none⟩) (.inl rfl) _
            have hres := hr6.upd hst (by have := Hg.out; omega)
            have HR := Lib.hid (And.intro hrow (And.intro hst hres))
            have hf1 := hk6.frozen 1
            have hf2 := hk6.frozen 2
            have hf3 := hk6.frozen 3
            clear hrow hst hres hk6 hr6
            go_upto_region 23 with fail
            go_wp2_with (first
              | (refine wpList_load_all rfl _ _ rfl g rfl _ _ _ HR.out.1 Tryz.underlying39 rfl rfl ?_)
              | (refine wpList_store_all rfl 39 _ _ rfl (w.heap.size + 1) #[.int .i64 (f : Int), .string (str tb), .int .u64 (gb : Int), .int .i64 1, .int .u64 (M : Int), .bool false] rfl rfl _ _ HR.out.2.2 rfl (by simp [Value.oneCell']) (by kernel_rfl) ?_
                 intro w7 hB7 hU7 hs7))
            refine bodyPost_ret (results_cell_slot rfl _ _ (w.heap.size + 1) _ _ _ _ rfl hB7 Tryz.underlying39 rfl rfl (.int .i64 0) rfl) rfl ⟨rfl, ?_⟩
            exact ((H.out.list.upd.then H6.out (fun _ e => e.elim)).then HR.out.2.1 (fun q e => .inr (by have := Hg.out; omega))).then hU7 (fun q e => .inr (by omega))
        · obtain rfl : O = some ⟨f, [], 0, 1, M, false⟩ := by rw [HOp.out, if_neg hA, if_neg hB]
          have hd3 : decide (0 < gb) = false := decide_eq_false hB
          have hd1 : decide (0 < ga) = false := decide_eq_false fun h => hA ⟨h, by omega⟩
          have HR := Lib.hid (And.intro hk6 hr6)
          clear hA hB hk6 hr6
          go_upto_region 23 with fail
          go_wp2_with (first
            | (refine wpList_load_all rfl _ _ rfl g rfl _ _ _ HR.out.1 Tryz.underlying39 rfl rfl ?_)
            | (refine wpList_store_all rfl 39 _ _ rfl (w.heap.size + 1) #[.int .i64 (f : Int), .string (str []), .int .u64 0, .int .i64 1, .int .u64 (M : Int), .bool false] rfl rfl _ _ HR.out.2 rfl (by simp [Value.oneCell']) (by kernel_rfl) ?_
               intro w7 hB7 hU7 hs7))
          refine bodyPost_ret (results_cell_slot rfl _ _ (w.heap.size + 1) _ _ _ _ rfl hB7 Tryz.underlying39 rfl rfl (.int .i64 0) rfl) rfl ⟨rfl, ?_⟩
          exact (H.out.list.upd.then H6.out (fun _ e => e.elim)).then hU7 (fun q e => .inr (by omega))
end Go.Proofs.YtnmbhoidnbideaaGreat
