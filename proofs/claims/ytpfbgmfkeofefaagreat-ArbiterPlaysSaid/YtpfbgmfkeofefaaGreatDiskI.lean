/-
  The disk's Crash: the walk.
-/
import Derived.Test.YtpfbgmfkeofefaaGreatDiskH
import Derived.Test.YtpfbgmfkeofefaaGreatKeptA
namespace Go.Proofs.YtpfbgmfkeofefaaGreat
open Go Go.RowKit

/-- The disk in the midst of a crash. -/
structure Crashing (w wr : World) (p bl cap bm : Nat) (d : Dk) (keep : List Int) (m : List (Int × Value)) (j : Nat) : Prop where
  blk : Blk wr p 93 #[.slice (some ⟨bl, 0, none⟩) d.lasts.length cap, .map (some bm), .int .i64 d.fuse, .bool d.off]
  lasts : Own wr 9 1 (.slice (some ⟨bl, 0, none⟩) d.lasts.length cap) d.lasts.length (strs (d.part keep j).lasts)
  map : MapB intKey wr bm (mPart m d.busy j)
  waits : WaitsAt wr (mPart m d.busy j) (d.part keep j).waits
  upd : Upd (fun b => b = bl ∨ b = bm) w wr
theorem WaitsAt.struck {w w' : World} {d : Dk} {keep : List Int} {m : List (Int × Value)} {j : Nat} (hj : j < d.busy.length) (h : WaitsAt w (mPart m d.busy j) (d.part keep j).waits)
    (hb : ∀ k ∈ (mPart m d.busy j).filterMap (·.2.ownBlock), w'.heap[k]? = w.heap[k]?) : WaitsAt w' (mPart m d.busy (j + 1)) (d.part keep (j + 1)).waits := by
  have hsub : ∀ q, q ∈ mPart m d.busy (j + 1) → q ∈ mPart m d.busy j ∧ q.1 ≠ (d.busy[j] : Int) := by
    intro q hq
    rw [← mPart_succ m d.busy j hj] at hq
    unfold delA at hq
    rw [List.mem_filter] at hq
    exact ⟨hq.1, by simpa using hq.2⟩
  refine ⟨fun q hq => ?_, fun i hi => ?_⟩
  · obtain ⟨h1, h2⟩ := hsub q hq
    obtain ⟨i, e, hi, h0, ho⟩ := h.each q h1
    have hne : i ≠ d.busy[j] := fun e2 => h2 (by rw [e, e2])
    have hat : (d.part keep (j + 1)).at_ i = (d.part keep j).at_ i := by
      rw [Dk.part_at, Dk.part_at]
      have : (i ∈ d.busy.take (j + 1)) ↔ (i ∈ d.busy.take j) := by
        rw [Dk.busy_take_succ d j i hj]
        exact ⟨fun h => h.elim id (fun h => absurd h hne), .inl⟩
      simp only [this]
    refine ⟨i, e, by simpa [Dk.part] using hi, ?_, ?_⟩
    · show (d.part keep (j + 1)).at_ i ≠ []
      rw [hat]; exact h0
    · show Own w' _ 1 q.2 ((d.part keep (j + 1)).at_ i).length (strs ((d.part keep (j + 1)).at_ i))
      rw [hat]
      exact ho.eqb fun k hk => hb k (List.mem_filterMap.2 ⟨q, h1, hk⟩)
  · have hi' : (d.part keep (j + 1)).at_ i ≠ [] := hi
    have h1 : (d.part keep j).at_ i ≠ [] ∧ i ≠ d.busy[j] := by
      rw [Dk.part_at] at hi'
      split at hi'
      · exact absurd rfl hi'
      · rename_i hn
        rw [Dk.busy_take_succ d j i hj, not_or] at hn
        rw [Dk.part_at, if_neg hn.1]
        exact ⟨hi', hn.2⟩
    obtain ⟨q, hq, e⟩ := List.mem_map.1 (h.all i h1.1)
    rw [← mPart_succ m d.busy j hj]
    refine List.mem_map.2 ⟨q, ?_, e⟩
    unfold delA
    rw [List.mem_filter]
    refine ⟨hq, ?_⟩
    have : q.1 ≠ (d.busy[j] : Int) := fun e2 => h1.2 (by have := e.symm.trans e2; omega)
    simpa using this

theorem mPart_sub {m : List (Int × Value)} {K : List Nat} {j : Nat} {k : Nat} (h : k ∈ (mPart m K j).filterMap (·.2.ownBlock)) : k ∈ m.filterMap (·.2.ownBlock) := by
  obtain ⟨q, hq, e⟩ := List.mem_filterMap.1 h
  unfold mPart at hq
  exact List.mem_filterMap.2 ⟨q, (List.mem_filter.1 hq).1, e⟩
theorem Crashing.step {w wr w1 w4 : World} {p bl cap bm j : Nat} {d : Dk} {keep : List Int} {m : List (Int × Value)} (h : Crashing w wr p bl cap bm d keep m j) (hj : j < d.busy.length) (hnd : (p :: bl :: bm :: m.filterMap (·.2.ownBlock)).Nodup)
    (hL1 : Own w1 9 1 (.slice (some ⟨bl, 0, none⟩) d.lasts.length cap) d.lasts.length (strs ((d.part keep j).lasts.set d.busy[j] (d.keptAt keep j d.busy[j])))) (hU1 : Upd (· = bl) wr w1)
    (hM4 : MapB intKey w4 bm (delA (mPart m d.busy j) (d.busy[j] : Int))) (hU4 : Upd (· = bm) w1 w4) : Crashing w w4 p bl cap bm d keep m (j + 1) := by
  simp only [List.nodup_cons, List.mem_cons, not_or] at hnd
  obtain ⟨⟨npl, npm, npf⟩, ⟨nlm, nlf⟩, nmf, nff⟩ := hnd
  have hU : Upd (fun b => b = bl ∨ b = bm) wr w4 := hU1.trans hU4 (fun b e => .inl e) (fun b e => .inl (.inr e))
  refine ⟨h.blk.upd hU (fun e => e.elim npl npm), ?_, by rw [← mPart_succ m d.busy j hj]; exact hM4, h.waits.struck hj (fun k hk => ?_), h.upd.then hU (fun b e => .inl e)⟩
  · rw [Dk.part_succ d keep j hj]
    exact hL1.upd hU4 (fun q hq e => nlm (by rw [← e]; simpa [Value.ownBlock] using hq))
  · have hk2 := mPart_sub hk
    have hlt : k < wr.heap.size := by
      obtain ⟨q, hq, e⟩ := List.mem_filterMap.1 hk
      obtain ⟨_, _, _, _, ho⟩ := h.waits.each q hq
      exact ho.lt e
    exact hU.block k hlt (fun e => by rcases e with rfl | rfl; exact nlf hk2; exact nmf hk2)
theorem Crashing.done {w wr : World} {p bl cap bm : Nat} {d : Dk} {keep : List Int} {m : List (Int × Value)} (h : Crashing w wr p bl cap bm d keep m d.busy.length) (h4 : ∀ q ∈ m, ∃ i : Nat, q.1 = (i : Int) ∧ i < d.waits.length ∧ d.at_ i ≠ []) (hwf : d.wf)
    (hnd : (p :: bl :: bm :: m.filterMap (·.2.ownBlock)).Nodup) : Left w ((wr.setCell ⟨p, 3, none⟩ (.bool false)).setCell ⟨p, 2, none⟩ (.int .i64 (-1))) p (d.crash keep) (p :: bl :: bm :: m.filterMap (·.2.ownBlock)) [p, bl, bm] := by
  have hm0 : mPart m d.busy d.busy.length = [] := by
    unfold mPart
    rw [List.filter_eq_nil_iff]
    intro q hq
    obtain ⟨i, e, hi, h0⟩ := h4 q hq
    simp only [List.take_length, decide_eq_true_eq, Classical.not_not]
    exact List.mem_map.2 ⟨i, Dk.busy_mem.2 ⟨by rw [← hwf.len]; exact hi, h0⟩, by rw [e]⟩
  have hM := h.map
  rw [hm0] at hM
  simp only [List.nodup_cons, List.mem_cons, not_or] at hnd
  obtain ⟨⟨npl, npm, npf⟩, ⟨nlm, nlf⟩, nmf, nff⟩ := hnd
  have hlen : (d.crash keep).lasts.length = d.lasts.length := Dk.part_len _ _ _
  refine ⟨⟨bl, cap, bm, [], ?_, ?_, ?_, ⟨fun q hq => by simp at hq, fun i hi => ?_⟩, Dk.crash_wf hwf keep, rfl, ?_⟩, ?_, fun k hk => .inl ?_⟩
  · rw [hlen]
    have := (h.blk.set_ 3 (.bool false)).set_ 2 (.int .i64 (-1))
    simpa [Dk.crash] using this
  · rw [hlen]
    exact (h.lasts.far (p := ⟨p, 3, none⟩) (by simpa [Value.ownBlock] using Ne.symm npl) _).far (p := ⟨p, 2, none⟩) (by simpa [Value.ownBlock] using Ne.symm npl) _
  · exact (hM.far (p := ⟨p, 3, none⟩) (Ne.symm npm) _).far (p := ⟨p, 2, none⟩) (Ne.symm npm) _
  · exact absurd (Dk.crash_now hwf.len keep i) hi
  · simp only [List.nodup_cons, List.mem_cons, List.not_mem_nil, or_false, not_or, not_false_eq_true, List.nodup_nil, and_true]
    exact ⟨⟨npl, npm⟩, nlm⟩
  · exact ((h.upd.mono (G := (· ∈ p :: bl :: bm :: m.filterMap (·.2.ownBlock))) (fun b e => .inl (by rcases e with rfl | rfl <;> simp))).setCell (p := ⟨p, 3, none⟩) (.inl (by simp)) _).setCell (p := ⟨p, 2, none⟩) (.inl (by simp)) _
  · simp only [List.mem_cons, List.not_mem_nil, or_false] at hk ⊢
    rcases hk with rfl | rfl | rfl <;> simp
theorem kept_none {d : Dk} {keep : List Int} {j i : Nat} (h : Dk.choice (d.at_ i) keep j = 0) (hin : i < d.lasts.length) (hni : i ∉ d.busy.take j) : (d.part keep j).lasts.set i (d.keptAt keep j i) = (d.part keep j).lasts := by
  have hk : d.keptAt keep j i = d.last i := by unfold Dk.keptAt; rw [if_neg (by omega)]
  rw [hk]
  apply List.ext_getElem?
  intro x
  rw [List.getElem?_set]
  split
  · rename_i e
    subst e
    rw [Dk.part_get d keep j i hin, if_neg hni, if_pos (by rw [Dk.part_len]; exact hin)]
  · rfl
theorem tmod_twice (z n : Int) (hn : 0 < n) : (z.tmod n + n).tmod n = z % n := by
  have h1 := Int.lt_tmod_of_pos z hn
  have h2 : (z.tmod n + n).tmod n = (z.tmod n + n) % n := Int.tmod_eq_emod_of_nonneg (by omega)
  rw [h2, Int.add_emod_right]
  have h3 := Int.tmod_add_mul_tdiv z n
  have h4 : z % n = (z.tmod n + n * z.tdiv n) % n := by rw [h3]
  rw [h4, Int.add_mul_emod_self_left]
/-- The choices of a crash, in memory that is none of the disk's. -/
structure KeepAt (w : World) (F : List Nat) (v : Value) (keep : List Int) : Prop where
  ex : ∃ A cap b off, v = .slice A keep.length cap ∧ keep.length ≤ 9223372036854775807 ∧ (0 < keep.length → A = some ⟨b, off, none⟩) ∧ ∀ w', Upd (· ∈ F) w w' → ∀ i (_ : i < keep.length), w'.cell? ⟨b, off + i, none⟩ = some (.int .i64 keep[i])
  ok : ∀ z ∈ keep, -9223372036854775808 ≤ z ∧ z ≤ 9223372036854775807
theorem KeepAt.of_ints {w0 w : World} {F : List Nat} {v : Value} {keep : List Int} (hF : ∀ q ∈ F, w0.heap.size ≤ q) (hA : IsInts w0 v keep) (hu : Upd (fun _ => False) w0 w) : KeepAt w F v keep := by
  obtain ⟨A, cap, b, off, h1, h2, h3, h4, h5⟩ := hA.open_
  exact ⟨⟨A, cap, b, off, h1, h2, h3, fun w' hU i hi => h4 w' (hu.then hU (fun q hq => .inr (hF q hq))) i hi⟩, h5⟩
theorem KeepAt.of_new {w : World} {p g : Nat} {d : Dk} {F : List Nat} {keep : List Int} (hD : DiskAt w p d F) (hB : Blk w g 3 (keep.map (Value.int .i64)).toArray) (hl : keep.length ≤ 5000) (hok : ∀ z ∈ keep, -9223372036854775808 ≤ z ∧ z ≤ 9223372036854775807) : KeepAt w F (.slice (some ⟨g, 0, none⟩) keep.length keep.length) keep := by
  refine ⟨⟨_, keep.length, g, 0, rfl, by omega, fun _ => rfl, fun w' hU i hi => ?_⟩, hok⟩
  have h := (hB.upd hU (hD.not_mem hB (by decide) (by decide))).cell i
  rw [Nat.zero_add, h]
  simp [hi]
set_option maxRecDepth 100000 in
set_option maxHeartbeats 1600000 in
theorem crash_c {w : World} {p : Nat} {d : Dk} {F : List Nat} {v : Value} {keep : List Int} (hD : DiskAt w p d F) (hA : KeepAt w F v keep) :
    Calls Tryz.prog 32 #[.pointer (some ⟨p, 0, none⟩), v] w fun e w' => e = .returned (.tuple #[]) ∧ ∃ F', Left w w' p (d.crash keep) F F' := by
  have HN := Lib.hid (none_c hD)
  have HD := Lib.hid hD
  obtain ⟨bl, cap, bm, m, g1, g2, g3, g4, g5, gF, g7⟩ := hD
  subst gF
  obtain ⟨kA, kcap, kb, koff, rfl, km, kA0, kcells⟩ := hA.ex
  have kok := hA.ok
  have hmost := g5.most
  have hroom := g5.room
  have hbl : d.busy.length ≤ 4096 := by
    have : d.busy.length ≤ (List.range d.lasts.length).length := List.length_filter_le _ _
    rw [List.length_range] at this
    omega
  have hks := keys_sorted g4 g5.len g3.nodup
  have hml : m.length = d.busy.length := by
    have h1 := congrArg List.length hks
    rw [List.length_map, (List.mergeSort_perm _ _).length_eq, List.length_map] at h1
    exact h1
  have hwfk : ∀ q ∈ m, (Lit.int .i64 q.1).wf = true := by
    intro q hq
    obtain ⟨i, e, hi, -, -⟩ := g4.each q hq
    rw [e]
    have := g5.len
    simp only [Lit.wf, Bool.and_eq_true, decide_eq_true_eq]
    have h1 : IntKind.i64.min = -9223372036854775808 := rfl
    have h2 : IntKind.i64.max = 9223372036854775807 := rfl
    omega
  have hso := sorted_c g3 hwfk (by omega)
  rw [hks] at hso
  have HS := Lib.hid hso
  have hc := g1.cells4
  have HK := Lib.hid (And.intro kcells kok)
  have HG := Lib.hid (And.intro g1 (And.intro g2 (And.intro g3 (And.intro g4 (And.intro g5 g7)))))
  have Hml := Lib.hid hml
  clear g1 g2 g3 g4 g5 g7 hso kcells kok hwfk hks hA hml
  go_enter Tryz.func32, Tryz.ntmps32
  go_wp2_with fail
  refine HN.out.mono ?_
  rintro e w' ⟨rfl, rfl⟩
  go_wp2_with fail
  refine (keys_c (some bm) _).mono ?_
  rintro e w' ⟨rfl, rfl⟩
  go_wp2_with fail
  refine HS.out.mono ?_
  rintro e w2 ⟨v, rfl, hrow, hU2⟩
  rw [Hml.out] at hrow
  obtain ⟨A, rcap, rg, rfl, hA0, hrg, hcells⟩ : ∃ A rcap rg, v = .slice A d.busy.length rcap ∧ (0 < d.busy.length → A = some ⟨rg, 0, none⟩) ∧ (0 < d.busy.length → w.heap.size ≤ rg ∧ rg < w2.heap.size) ∧
      ∀ W : World, W.heap[rg]? = w2.heap[rg]? → ∀ j (h : j < d.busy.length), W.cell? ⟨rg, j, none⟩ = some (.int .i64 (d.busy[j] : Int)) := by
    rcases hrow.2 with ⟨rfl, h0⟩ | ⟨g, c, cur, rfl, r1, r2, r3, r4, r5, r6⟩
    · exact ⟨none, 0, 0, by rw [h0], fun h => by omega, fun h => by omega, fun W _ j h => by omega⟩
    · refine ⟨_, c, g, rfl, fun _ => rfl, fun _ => ⟨by omega, (Array.getElem?_eq_some_iff.1 r2).1⟩, fun W hW j h => ?_⟩
      rw [cell_of_row W g j cur _ (0, 0) (hW.trans r2)]
      have h2 : (cur.toList.take (d.busy.length * 1))[j]? = some (.int .i64 (d.busy[j] : Int)) := by rw [r6]; simp [h]
      rw [List.getElem?_take_of_lt (by omega)] at h2
      simpa using h2
  have hst : Crashing w2 w2 p bl cap bm d keep m 0 := by
    obtain ⟨g1, g2, g3, g4, g5, g7⟩ := HG.out
    refine ⟨g1.upd hU2 (fun e => e), ?_, ?_, ?_, Upd.refl _ _⟩
    · rw [Dk.part_zero]; exact g2.upd hU2 (fun _ _ e => e)
    · rw [mPart_zero]; exact g3.upd hU2 (fun e => e)
    · rw [mPart_zero, Dk.part_zero]
      exact g4.upd fun k hk => hU2.block k (HD.out.lt k (by simp only [List.mem_cons]; exact .inr (.inr (.inr hk)))) (fun e => e)
  have H2 := Lib.hid (And.intro hst (And.intro hU2 (And.intro hrg hcells)))
  clear hst hU2 hrg hcells hrow hc HS HN
  go_wp2_with fail
  go_loopw [18, 4, 5, 6, 7, 8] (fun i _ _ _ _ _ wr => ∃ j : Nat, j ≤ d.busy.length ∧ i = .int .i64 j ∧ Crashing w2 wr p bl cap bm d keep m j) (fun i _ _ _ _ _ _ => d.busy.length - (intOf i).toNat)
  case atStart => exact ⟨0, by omega, rfl, H2.out.1⟩
  case round =>
    obtain ⟨j, hj, rfl, hC⟩ := hrel
    by_cases hlt : j < d.busy.length
    · obtain rfl := hA0 (by omega)
      obtain ⟨i, hi⟩ : ∃ i, d.busy[j] = i := ⟨_, rfl⟩
      have hni := d.busy_get_notin j hlt
      have hib := Dk.busy_mem.1 (List.getElem_mem hlt)
      rw [hi] at hib hni
      have hmF : ∀ k, k = p ∨ k = bl ∨ k = bm → k < w.heap.size := fun k hk => HD.out.lt k (by simp only [List.mem_cons]; rcases hk with h | h | h; exact .inl h; exact .inr (.inl h); exact .inr (.inr (.inl h)))
      have hrl := H2.out.2.2.1 (by omega)
      have hrc := H2.out.2.2.2 wr (hC.upd.block rg hrl.2 (fun e => by rcases e with e | e <;> · have := hmF rg (by simp [e]); omega)) j hlt
      rw [hi] at hrc
      obtain ⟨v, -, hrun, hown, -, hmem⟩ := look_at (d := d.part keep j) hC.map hC.waits i
      rw [Dk.part_at, if_neg hni] at hown hmem
      have hmem := hmem hib.2
      have hL0 : 0 < (d.at_ i).length := List.length_pos_iff.2 hib.2
      have hL1 := Dk.at_len (d := d) i
      obtain ⟨g, cap', rfl, hnc, hcm⟩ := hown.head hL0
      have hcw := hC.blk.cells4
      have HC := Lib.hid hC
      have HO := Lib.hid hown
      have HM := Lib.hid hmem
      have Hi := Lib.hid (And.intro hi (And.intro hib hni))
      have hin : i < d.lasts.length := hib.1
      clear hC hown hmem hi hib hni hnc hcm
      by_cases hk : j < keep.length
      · have hk' : (j : Int) < (keep.length : Int) := by omega
        obtain rfl := kA0 (by omega)
        obtain ⟨z, hz⟩ : ∃ z, keep[j] = z := ⟨_, rfl⟩
        have hkc : wr.cell? ⟨kb, koff + j, none⟩ = some (.int .i64 z) := by
          rw [← hz]
          refine HK.out.1 wr ((H2.out.2.1.mono (G := (· ∈ p :: bl :: bm :: m.filterMap (·.2.ownBlock))) (fun _ e => e.elim)).then HC.out.upd (fun b e => .inl ?_)) j hk
          rcases e with e | e <;> simp [e]
        have hzr := HK.out.2 z (hz ▸ List.getElem_mem hk)
        have Hz := Lib.hid hz
        clear hz
        have hch : Dk.choice (d.at_ i) keep j = (z % (((d.at_ i).length : Int) + 1)).toNat := by
          unfold Dk.choice
          rw [if_pos hk, List.getD_eq_getElem?_getD, List.getElem?_eq_getElem hk, Hz.out]
          rfl
        have hm1 := Int.emod_lt_of_pos z (show (0 : Int) < ((d.at_ i).length : Int) + 1 by omega)
        have hm2 := Int.emod_nonneg z (show ((d.at_ i).length : Int) + 1 ≠ 0 by omega)
        have htm := tmod_twice z (((d.at_ i).length : Int) + 1) (by omega)
        have ht1 := Int.lt_tmod_of_pos z (show (0 : Int) < ((d.at_ i).length : Int) + 1 by omega)
        have ht2 := Int.tmod_lt_of_pos z (show (0 : Int) < ((d.at_ i).length : Int) + 1 by omega)
        have hwr : IntKind.i64.wrap (z.tmod (((d.at_ i).length : Int) + 1) + (((d.at_ i).length : Int) + 1)) = z.tmod (((d.at_ i).length : Int) + 1) + (((d.at_ i).length : Int) + 1) := IntWalk.i64_in _ (by omega)
        by_cases hc : 0 < Dk.choice (d.at_ i) keep j
        · obtain ⟨c, hcc⟩ : ∃ c, Dk.choice (d.at_ i) keep j = c := ⟨_, rfl⟩
          have hcz : z % (((d.at_ i).length : Int) + 1) = (c : Int) := by omega
          rw [hcz] at htm
          have hcl : c ≤ (d.at_ i).length := by omega
          have hc0 : (0 : Int) < (c : Int) := by omega
          have hwc : IntKind.i64.wrap ((c : Int) - 1) = (c : Int) - 1 := IntWalk.i64_in _ (by omega)
          have hnew : wr.cell? ⟨g, c - 1, none⟩ = some (.string (d.keptAt keep j i)) := by
            rw [HO.out.cellAt _ (by omega), strs_get, Dk.keptAt, if_pos hc, hcc, List.getD_eq_getElem?_getD, List.getElem?_eq_getElem (by omega)]
            rfl
          have hold : wr.cell? ⟨bl, i, none⟩ = some (.string (d.last i)) := by
            rw [HC.out.lasts.cellAt _ (by omega), strs_get, Dk.part_get d keep j i hin, if_neg Hi.out.2.2]
            rfl
          have hfz := HC.out.lasts.frozenAt i (by omega)
          have Hcc := Lib.hid (And.intro hc (And.intro hcc hch))
          have hcL : (c : Int) - 1 < ((d.at_ i).length : Int) := by omega
          clear hc hcc hch hm1 hm2 ht1 ht2 hcz
          generalize (d.at_ i).length = L at hL0 hL1 hrun htm hwr hcl hcL ⊢
          go_wp2_with fail
          go_region
          have nlm : bl ≠ bm := by
            have := HG.out.2.2.2.2.2
            simp only [List.nodup_cons, List.mem_cons, not_or] at this
            exact this.2.1.1
          have npl : p ≠ bl := by
            have := HG.out.2.2.2.2.2
            simp only [List.nodup_cons, List.mem_cons, not_or] at this
            exact this.1.1
          have hL1 := (HC.out.lasts.stored i (.string (d.keptAt keep j i))).drew
          have hc1 := ((HC.out.blk.far (p := ⟨bl, i, none⟩) npl (.string (d.keptAt keep j i))).drew).cell 1
          have hU1 : Upd (· = bl) wr (wr.setCell ⟨bl, i, none⟩ (.string (d.keptAt keep j i))).drew := ((Upd.refl (· = bl) wr).setCell (p := ⟨bl, i, none⟩) (.inl rfl) _).drew
          obtain ⟨w4, hrun4, hM4, hU4, hs4⟩ := ((HC.out.map.far (p := ⟨bl, i, none⟩) (Ne.symm nlm) (.string (d.keptAt keep j i))).drew).run_delete (P := Tryz.prog) (ty := 0) keyI Tryz.underlying91 Tryz.underlying3 (i : Int)
          have HX := Lib.hid (And.intro hL1 (And.intro hU1 (And.intro hM4 hU4)))
          clear hL1 hU1 hM4 hU4 hs4 hcw nlm npl hold hnew hfz hrun
          go_wp2_with (refine wpList_delete_run rfl _ _ _ _ rfl rfl rfl hrun4 ?_; go_frame)
          have hnext : Crashing w2 w4 p bl cap bm d keep m (j + 1) := by
            refine HC.out.step hlt HG.out.2.2.2.2.2 (w1 := (wr.setCell ⟨bl, i, none⟩ (.string (d.keptAt keep j i))).drew) ?_ HX.out.2.1 ?_ HX.out.2.2.2
            · rw [Hi.out.1]
              have := HX.out.1
              simp only [strs, List.map_set] at this ⊢
              exact this
            · rw [Hi.out.1]
              exact HX.out.2.2.1
          go_roundw
          case rel => exact ⟨j + 1, by omega, by go_num, hnext⟩
          case measure => simp [intOf] <;> omega
        · have hcz : z % (((d.at_ i).length : Int) + 1) = 0 := by omega
          rw [hcz] at htm
          have Hcc := Lib.hid (And.intro hc hch)
          clear hc hch hm1 hm2 ht1 ht2 hcz
          generalize (d.at_ i).length = L at hL0 hL1 hrun htm hwr ⊢
          obtain ⟨w4, hrun4, hM4, hU4, hs4⟩ := HC.out.map.run_delete (P := Tryz.prog) (ty := 0) keyI Tryz.underlying91 Tryz.underlying3 (i : Int)
          have HX := Lib.hid (And.intro hM4 hU4)
          have Hch : Hid (Dk.choice (d.at_ i) keep j = 0) := by have := Hcc.out.1; show _ = _; omega
          clear hM4 hU4 hs4
          go_wp2_with (refine wpList_delete_run rfl _ _ _ _ rfl rfl rfl hrun4 ?_; go_frame)
          have hnext : Crashing w2 w4 p bl cap bm d keep m (j + 1) := by
            refine HC.out.step hlt HG.out.2.2.2.2.2 (w1 := wr) ?_ (Upd.refl _ _) (by rw [Hi.out.1]; exact HX.out.1) HX.out.2
            rw [Hi.out.1, kept_none Hch.out hin Hi.out.2.2]
            exact HC.out.lasts
          go_roundw
          case rel => exact ⟨j + 1, by omega, by go_num, hnext⟩
          case measure => simp [intOf] <;> omega
      · have hk' : ¬ (j : Int) < (keep.length : Int) := by omega
        obtain ⟨w4, hrun4, hM4, hU4, hs4⟩ := HC.out.map.run_delete (P := Tryz.prog) (ty := 0) keyI Tryz.underlying91 Tryz.underlying3 (i : Int)
        have HX := Lib.hid (And.intro hM4 hU4)
        have Hch : Hid (Dk.choice (d.at_ i) keep j = 0) := by show Dk.choice _ _ _ = _; unfold Dk.choice; rw [if_neg hk]
        clear hM4 hU4 hs4
        go_wp2_with (refine wpList_delete_run rfl _ _ _ _ rfl rfl rfl hrun4 ?_; go_frame)
        have hnext : Crashing w2 w4 p bl cap bm d keep m (j + 1) := by
          refine HC.out.step hlt HG.out.2.2.2.2.2 (w1 := wr) ?_ (Upd.refl _ _) (by rw [Hi.out.1]; exact HX.out.1) HX.out.2
          rw [Hi.out.1, kept_none Hch.out hin Hi.out.2.2]
          exact HC.out.lasts
        go_roundw
        case rel => exact ⟨j + 1, by omega, by go_num, hnext⟩
        case measure => simp [intOf] <;> omega
    · obtain rfl : j = d.busy.length := by omega
      have hcw := hC.blk.cells4
      have hz2 := hC.blk.frozen 2
      have hz3 := hC.blk.frozen 3
      have HC := Lib.hid hC
      clear hC
      go_wp2_with fail
      all_goals
        go_end0
        have hx := HC.out.done (fun q hq => by obtain ⟨i, e, hi, h0, -⟩ := HG.out.2.2.2.1.each q hq; exact ⟨i, e, hi, h0⟩) HG.out.2.2.2.2.1 HG.out.2.2.2.2.2
        have hl : Left w _ p (d.crash keep) (p :: bl :: bm :: m.filterMap (·.2.ownBlock)) [p, bl, bm] := ⟨hx.disk, (H2.out.2.1.mono (G := (· ∈ p :: bl :: bm :: m.filterMap (·.2.ownBlock))) (fun _ e => e.elim)).then hx.upd (fun _ e => .inl e), fun k hk => (hx.sub k hk).imp id (fun e => Nat.le_trans H2.out.2.1.size e)⟩
        first
        | exact ⟨rfl, _, hl⟩
        | exact ⟨rfl, _, hl.drew⟩
end Go.Proofs.YtpfbgmfkeofefaaGreat
