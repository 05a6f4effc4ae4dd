/-
  The disk's Sync.
-/
import Derived.Test.YtnmbhoidnbideaaDiskB
import Derived.Maps.RangeWalk
namespace Go.Proofs.Ytnmbhoidnbideaa
open Go Go.RowKit

/-- What lasts while the entries 'left' are still to be written. -/
def lastsOf (d : Dk) (left : List (Int × Value)) : List ByteArray := (List.range d.lasts.length).map fun (i : Nat) => if (i : Int) ∈ left.map (·.1) then d.last i else d.now i
theorem lastsOf_len (d : Dk) (left : List (Int × Value)) : (lastsOf d left).length = d.lasts.length := by simp [lastsOf]
theorem lastsOf_get (d : Dk) (left : List (Int × Value)) (i : Nat) (hi : i < d.lasts.length) : (lastsOf d left)[i]? = some (if (i : Int) ∈ left.map (·.1) then d.last i else d.now i) := by
  rw [lastsOf, List.getElem?_map, List.getElem?_range hi]
  rfl
theorem lastsOf_all {w : World} {d : Dk} {m : List (Int × Value)} (h : WaitsAt w m d.waits) : lastsOf d m = d.lasts := by
  apply List.ext_getElem?
  intro i
  by_cases hi : i < d.lasts.length
  · rw [lastsOf_get d m i hi]
    have hl : d.last i = d.lasts[i] := by simp [Dk.last, hi]
    rw [List.getElem?_eq_getElem hi]
    split
    · rw [hl]
    · rename_i hn
      have h0 : d.at_ i = [] := by
        rcases Classical.em (d.at_ i = []) with h0 | h0
        · exact h0
        · exact absurd (h.all i h0) hn
      simp [Dk.now, h0, hl]
  · rw [List.getElem?_eq_none (by rw [lastsOf_len]; omega), List.getElem?_eq_none (by omega)]
theorem lastsOf_nil (d : Dk) : lastsOf d [] = d.flush.lasts := by simp [lastsOf, Dk.flush]
theorem lastsOf_step (d : Dk) {l1 l2 : List (Int × Value)} {k : Nat} {v : Value} (hn : ((l1 ++ ((k : Int), v) :: l2).map (·.1)).Nodup) :
    (lastsOf d (l1 ++ ((k : Int), v) :: l2)).set k (d.now k) = lastsOf d (l1 ++ l2) := by
  apply List.ext_getElem?
  intro i
  by_cases hi : i < d.lasts.length
  · rw [List.getElem?_set, lastsOf_len]
    by_cases hik : k = i
    · subst hik
      rw [if_pos rfl, if_pos hi, lastsOf_get d _ k hi, if_neg]
      intro hmem
      simp only [List.map_append, List.map_cons, List.nodup_append, List.nodup_cons, List.mem_append, List.mem_cons] at hn hmem
      rcases hmem with h | h
      · exact hn.2.2 _ h _ (.inl rfl) rfl
      · exact hn.2.1.1 h
    · rw [if_neg hik, lastsOf_get d _ i hi, lastsOf_get d _ i hi]
      have : ((i : Int) ∈ (l1 ++ ((k : Int), v) :: l2).map (·.1)) ↔ ((i : Int) ∈ (l1 ++ l2).map (·.1)) := by
        simp only [List.map_append, List.map_cons, List.mem_append, List.mem_cons]
        constructor
        · rintro (h | h | h)
          · exact .inl h
          · omega
          · exact .inr h
        · rintro (h | h)
          · exact .inl h
          · exact .inr (.inr h)
      simp only [this]
  · rw [List.getElem?_eq_none (by rw [List.length_set, lastsOf_len]; omega), List.getElem?_eq_none (by rw [lastsOf_len]; omega)]
theorem delA_split {α : Type} [DecidableEq α] {l1 l2 : List (α × Value)} {k : α} {v : Value} (hn : ((l1 ++ (k, v) :: l2).map (·.1)).Nodup) : delA (l1 ++ (k, v) :: l2) k = l1 ++ l2 ∧ delA (l1 ++ l2) k = l1 ++ l2 := by
  simp only [List.map_append, List.map_cons, List.nodup_append, List.nodup_cons, List.mem_cons] at hn
  have f1 : l1.filter (fun p => decide (p.1 ≠ k)) = l1 := by
    rw [List.filter_eq_self]
    intro q hq
    have := hn.2.2 q.1 (List.mem_map.2 ⟨q, hq, rfl⟩) k (.inl rfl)
    simpa using this
  have f2 : l2.filter (fun p => decide (p.1 ≠ k)) = l2 := by
    rw [List.filter_eq_self]
    intro q hq
    have : q.1 ≠ k := fun e => hn.2.1.1 (List.mem_map.2 ⟨q, hq, e⟩)
    simpa using this
  unfold delA
  refine ⟨?_, ?_⟩
  · rw [List.filter_append, List.filter_cons, if_neg (by simp), f1, f2]
  · rw [List.filter_append, f1, f2]

/-- The disk in the midst of a Sync. -/
structure Syncing (w wr : World) (p bl cap bm r : Nat) (d : Dk) (m left : List (Int × Value)) : Prop where
  blk : Blk wr p 65 #[.slice (some ⟨bl, 0, none⟩) d.lasts.length cap, .map (some bm), .int .i64 d.fuse, .bool d.off]
  lasts : Own wr 9 1 (.slice (some ⟨bl, 0, none⟩) d.lasts.length cap) d.lasts.length (strs (lastsOf d left))
  rng : Rng intKey wr r bm left left
  waits : ∀ q ∈ left, ∃ i : Nat, q.1 = (i : Int) ∧ i < d.lasts.length ∧ d.at_ i ≠ [] ∧ Own wr 9 1 q.2 (d.at_ i).length (strs (d.at_ i)) ∧ q ∈ m
  upd : Upd (fun b => b = bl ∨ b = bm) w wr
  new : w.heap.size ≤ r

theorem Syncing.done {w wr : World} {p bl cap bm r : Nat} {d : Dk} {m : List (Int × Value)} (h : Syncing w wr p bl cap bm r d m []) (hwf : d.wf) (hnd : (p :: bl :: bm :: m.filterMap (·.2.ownBlock)).Nodup) :
    Left w wr p d.flush (p :: bl :: bm :: m.filterMap (·.2.ownBlock)) [p, bl, bm] := by
  have hlen : d.flush.lasts.length = d.lasts.length := by simp [Dk.flush]
  have hfw : d.flush.wf := by
    refine ⟨by simp [Dk.flush, hwf.len], by rw [hlen]; exact hwf.pos, by rw [hlen]; exact hwf.most, ?_, ?_, hwf.fuse, hwf.fuse', ?_⟩
    · intro b hb
      simp only [Dk.flush, List.mem_map, List.mem_range] at hb
      obtain ⟨i, hi, rfl⟩ := hb
      unfold Dk.now
      cases hg : (d.at_ i).getLast? with
      | none =>
        simp only [Option.getD_none]
        unfold Dk.last
        rw [List.getD_eq_getElem?_getD, List.getElem?_eq_getElem hi]
        exact hwf.lasts _ (List.getElem_mem _)
      | some b =>
        simp only [Option.getD_some]
        have hb : b ∈ d.at_ i := List.mem_of_getLast? hg
        unfold Dk.at_ at hb
        rw [List.getD_eq_getElem?_getD, List.getElem?_eq_getElem (by rw [hwf.len]; exact hi)] at hb
        exact hwf.waits _ (List.getElem_mem _) b hb
    · intro l hl b hb
      simp only [Dk.flush, List.mem_map] at hl
      obtain ⟨_, _, rfl⟩ := hl
      simp at hb
    · have : d.flush.pend = 0 := by
        unfold Dk.pend Dk.flush
        simp only [List.map_map]
        generalize d.waits = l
        induction l with
        | nil => rfl
        | cons x l ih => simpa using ih
      omega
  simp only [List.nodup_cons, List.mem_cons, not_or] at hnd
  refine ⟨⟨bl, cap, bm, [], ?_, ?_, h.rng.map, ⟨fun _ hq => by simp at hq, fun i hi => ?_⟩, hfw, rfl, ?_⟩, h.upd.mono (fun b hb => .inl ?_), fun k hk => .inl ?_⟩
  · rw [hlen]; exact h.blk
  · rw [hlen, ← lastsOf_nil]; exact h.lasts
  · exfalso
    apply hi
    simp only [Dk.flush, List.getD_eq_getElem?_getD, List.getElem?_map]
    cases d.waits[i]? <;> rfl
  · simp only [List.nodup_cons, List.mem_cons, List.not_mem_nil, or_false, not_or, not_false_eq_true, List.nodup_nil, and_true]
    exact ⟨⟨hnd.1.1, hnd.1.2.1⟩, hnd.2.1.1⟩
  · rcases hb with rfl | rfl <;> simp
  · simp only [List.mem_cons, List.not_mem_nil, or_false] at hk ⊢
    rcases hk with rfl | rfl | rfl <;> simp

set_option maxRecDepth 100000 in
set_option maxHeartbeats 800000 in
theorem sync_yes {w : World} {p : Nat} {d : Dk} {F : List Nat} (hD : DiskAt w p d F) (hoff : d.off = false) (hn : d.burn.2 = true) :
    Calls Try.prog 35 #[.pointer (some ⟨p, 0, none⟩)] w fun e w' => e = .returned (.int .i64 0) ∧ ∃ F', Left w w' p d.burn.1.flush F F' := by
  have Ho := Lib.hid (out_up hD hoff)
  have Hb := Lib.hid (burns_yes hD hn)
  generalize d.burn.1 = d1 at *
  clear hoff hD hn
  go_enter Try.func35, Try.ntmps35
  go_wp2_with (first
    | (go_at_call 53; refine Ho.out.mono ?_; rintro e w' ⟨rfl, rfl⟩)
    | (go_at_call 55
       refine Hb.out.mono ?_
       rintro e w1 ⟨rfl, hL⟩
       have HL := Lib.hid hL
       obtain ⟨bl, cap, bm, m, g1, g2, g3, g4, g5, gF, g7⟩ := hL.disk
       clear hL
       have hc := g1.cells4
       obtain ⟨w2, hr2, hR2, hU2, hs2⟩ := g3.run_range (P := Try.prog) Try.underlying62
       have H4 := Lib.hid (And.intro g1 (And.intro g2 (And.intro g3 (And.intro g4 (And.intro g5 (And.intro gF g7))))))
       have HX := Lib.hid (And.intro hR2 (And.intro hU2 hs2))
       clear g1 g2 g3 g4 g5 gF g7 Ho Hb hR2 hU2 hs2))
  obtain ⟨g1, g2, g3, g4, g5, gF, g7⟩ := H4.out
  have hpl : p ≠ bl := fun e => by rw [gF] at g7; subst e; simp at g7
  have hpm : p ≠ bm := fun e => by rw [gF] at g7; subst e; simp at g7
  have hlm : bl ≠ bm := fun e => by rw [gF] at g7; subst e; simp at g7
  have hfp : p ∉ m.filterMap (·.2.ownBlock) := by rw [gF] at g7; simp only [List.nodup_cons, List.mem_cons, not_or] at g7; exact g7.1.2.2
  have hfl : bl ∉ m.filterMap (·.2.ownBlock) := by rw [gF] at g7; simp only [List.nodup_cons, List.mem_cons, not_or] at g7; exact g7.2.1.2
  have hfm : bm ∉ m.filterMap (·.2.ownBlock) := by rw [gF] at g7; simp only [List.nodup_cons, List.mem_cons, not_or] at g7; exact g7.2.2.1
  have hmost := g5.most
  have hstart : Syncing w1 w2 p bl cap bm w1.heap.size d1 m m := by
    obtain ⟨x1, x2, _⟩ := HX.out
    refine ⟨g1.upd x2 (fun e => e), ?_, x1, fun q hq => ?_, x2.mono (fun _ e => e.elim), Nat.le_refl _⟩
    · rw [lastsOf_all g4]; exact g2.upd x2 (fun _ _ e => e)
    · obtain ⟨i, e, hi, h0, ho⟩ := g4.each q hq
      exact ⟨i, e, by rw [← g5.len]; exact hi, h0, ho.upd x2 (fun _ _ e => e), hq⟩
  clear g1 g2 g3 hc hr2 HX
  have HG := Lib.hid (And.intro g4 (And.intro g5 (And.intro gF g7)))
  have HN := Lib.hid (And.intro hpl (And.intro hpm (And.intro hlm (And.intro hfp (And.intro hfl hfm)))))
  clear g4 g5 gF g7 hpl hpm hlm hfp hfl hfm H4
  have hroom : d1.pend < 1000000 := HG.out.2.1.room
  go_loopw [5] (fun _ wr => ∃ left, Syncing w1 wr p bl cap bm w1.heap.size d1 m left) (fun _ wr => rngLeft wr w1.heap.size bm)
  case atStart => exact ⟨m, hstart⟩
  case round =>
    obtain ⟨left, hS⟩ := hrel
    clear hstart
    have HS := Lib.hid hS
    have hmu := Lib.hid (hS.rng.left_eq)
    rcases hS.rng.run_next (P := Try.prog) keyI.inj 0 with ⟨h0, hrun⟩ | ⟨k, v, l1, l2, w3, hleft, hmem, hrun, hR3, hen, hU3, hs3⟩
    · clear hS hmu
      subst h0
      go_wp2
      go_ret
      refine ⟨rfl, [p, bl, bm], HL.out.trans ?_⟩
      have hx := HS.out.done HG.out.2.1 (HG.out.2.2.1 ▸ HG.out.2.2.2)
      rw [HG.out.2.2.1]
      exact hx
    · obtain ⟨i, hki, hi, hne, hown, hqm⟩ := hS.waits (k, v) (by rw [hleft]; simp)
      simp only at hki hown
      subst hki
      have hlen0 : 0 < (d1.at_ i).length := List.length_pos_iff.2 hne
      have hlenm := Dk.at_len (d := d1) i
      obtain ⟨g, cap', rfl, hnc, hcm⟩ := hown.head hlen0
      have hgF : g ∈ m.filterMap (·.2.ownBlock) := List.mem_filterMap.2 ⟨_, hqm, by simp [Value.ownBlock]⟩
      have hgr : g ≠ w1.heap.size := by
        have h1 := (HL.out.disk.lt g (by rw [HG.out.2.2.1]; simp only [List.mem_cons]; exact .inr (.inr (.inr hgF))))
        omega
      have hpr : p ≠ w1.heap.size := by
        have h1 := (HL.out.disk.lt p (by rw [HG.out.2.2.1]; simp))
        omega
      have hlr : bl ≠ w1.heap.size := by
        have h1 := (HL.out.disk.lt bl (by rw [HG.out.2.2.1]; simp))
        omega
      have hB3 := hS.blk.upd hU3 hpr
      have hO3 := hS.lasts.upd hU3 (fun q hq e => hlr (by rw [← e]; simpa [Value.ownBlock] using hq))
      have hV3 := hown.upd hU3 (fun q hq e => hgr (by rw [← e]; simpa [Value.ownBlock] using hq))
      have hc := hB3.cells4
      have hlast : w3.cell? ⟨g, (d1.at_ i).length - 1, none⟩ = some (.string (d1.now i)) := by
        rw [hV3.cellAt _ (by omega), strs_get, Dk.now, List.getLast?_eq_getElem?, List.getElem?_eq_getElem (by omega)]
        rfl
      have hold : w3.cell? ⟨bl, i, none⟩ = some (.string (d1.last i)) := by
        rw [hO3.cellAt _ (by omega), strs_get, lastsOf_get d1 _ i hi, if_pos]
        · rfl
        · rw [hleft]; simp
      have hfz := hO3.frozenAt i (by omega)
      have HU := Lib.hid (And.intro hB3 (And.intro hO3 (And.intro hR3 (And.intro hU3 (And.intro hpr (And.intro hlr hgF))))))
      have Hleft := Lib.hid hleft
      clear hS hleft hown hqm hgF hgr hpr hlr hB3 hO3 hV3 hR3 hU3 hne hmem hnc hcm
      go_wp2_with fail
      go_region
      obtain ⟨hB3, hO3, hR3, hU3, hpr, hlr, hgF⟩ := HU.out
      obtain ⟨hpl, hpm, hlm, hfp, hfl, hfm⟩ := HN.out
      have hR4 := (hR3.far (p := ⟨bl, i, none⟩) (Ne.symm hlr) (Ne.symm hlm) (.string (d1.now i))).drew
      obtain ⟨w4, hrun4, hR5, hU5, hs5⟩ := hR4.run_delete (P := Try.prog) (ty := 0) keyI Try.underlying62 Try.underlying3 (i : Int)
      have HV := Lib.hid (And.intro hR5 hU5)
      have hc4 : (w3.setCell ⟨bl, i, none⟩ (.string (d1.now i))).cell? ⟨p, 1, none⟩ = some (.map (some bm)) := (hB3.far (p := ⟨bl, i, none⟩) hpl _).cell 1
      clear hc
      clear hB3 hO3 hR3 hU3 hpr hlr hgF hpl hpm hlm hfp hfl hfm hR4 hR5 hU5 hs5 hen hrun hlast hold hfz
      go_wp2_with (refine wpList_delete_run rfl _ _ _ _ rfl rfl rfl hrun4 ?_; go_frame)
      have hround : Syncing w1 w4 p bl cap bm w1.heap.size d1 m (l1 ++ l2) := by
        obtain ⟨hB3, hO3, hR3, hU3, hpr, hlr, hgF⟩ := HU.out
        obtain ⟨hpl, hpm, hlm, hfp, hfl, hfm⟩ := HN.out
        obtain ⟨hR5, hU5⟩ := HV.out
        have hS := HS.out
        have hnd := hS.rng.map.nodup
        rw [Hleft.out] at hnd
        have hd := delA_split hnd
        rw [Hleft.out, hd.1, hd.2] at hR5
        have hU4 : Upd (· = bl) w3 (w3.setCell ⟨bl, i, none⟩ (.string (d1.now i))).drew := ((Upd.refl (· = bl) w3).setCell (p := ⟨bl, i, none⟩) (.inl rfl) _).drew
        have hU34 : Upd (fun b => b = bl ∨ b = bm) w3 w4 := hU4.trans hU5 (fun b h => .inl h) (fun b h => .inl (.inr h))
        have hUr : Upd (fun b => b = bl ∨ b = bm ∨ b = w1.heap.size) wr w4 := hU3.trans hU34 (fun b h => .inr (.inr h)) (fun b h => .inl (h.elim .inl (fun h => .inr (.inl h))))
        refine ⟨hB3.upd hU34 (fun h => h.elim hpl hpm), ?_, hR5, fun q hq => ?_, hS.upd.then hUr (fun b h => ?_), Nat.le_refl _⟩
        · have hO4 := (hO3.stored i (.string (d1.now i))).drew.upd hU5 (fun q hq e => hlm (by rw [← e]; simpa [Value.ownBlock] using hq))
          have e1 : (strs (lastsOf d1 left)).set i (.string (d1.now i)) = strs (lastsOf d1 (l1 ++ l2)) := by
            rw [← lastsOf_step d1 hnd, Hleft.out]
            simp only [strs, List.map_set]
          rw [e1] at hO4
          exact hO4
        · obtain ⟨j, e, hj, h0, ho, hm⟩ := hS.waits q (by
            rw [Hleft.out]
            simp only [List.mem_append, List.mem_cons] at hq ⊢
            exact hq.elim .inl (fun h => .inr (.inr h)))
          refine ⟨j, e, hj, h0, ho.upd hUr (fun x hx e2 => ?_), hm⟩
          have hxF : x ∈ m.filterMap (·.2.ownBlock) := List.mem_filterMap.2 ⟨q, hm, hx⟩
          rcases e2 with rfl | rfl | e2
          · exact hfl hxF
          · exact hfm hxF
          · have h1 := (HL.out.disk.lt x (by rw [HG.out.2.2.1]; simp only [List.mem_cons]; exact .inr (.inr (.inr hxF))))
            omega
        · rcases h with h | h | h
          · exact .inl (.inl h)
          · exact .inl (.inr h)
          · exact .inr (by omega)
      go_roundw
      case rel => exact ⟨_, hround⟩
      case measure =>
        rw [hround.rng.left_eq, HS.out.rng.left_eq, Hleft.out]
        simp
end Go.Proofs.Ytnmbhoidnbideaa
