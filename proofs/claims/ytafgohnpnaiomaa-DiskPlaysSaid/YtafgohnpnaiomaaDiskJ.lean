/-
  The disk's Twin.
-/
import Derived.Test.YtafgohnpnaiomaaDiskE
import Derived.Test.YtafgohnpnaiomaaShelf
import Derived.WalkSpells
import Derived.Outline
import Derived.Deep.RegionHeld3
namespace Go.Proofs.Ytafgohnpnaiomaa
open Go Go.RowKit

theorem strs_some (A : Option Addr) (n c : Nat) (w : World) : (binOp .eql 22 (.slice A n c) (.slice none 0 0)).run Try.prog w = .ok (.bool A.isNone) w :=
  Lib.run_eql_slice_nil w 22 _ A n c 0 0 Try.underlying22
set_option maxRecDepth 100000 in
set_option maxHeartbeats 800000 in
theorem clone_s {w : World} {v : Value} {l : List ByteArray} (h : Own w 9 1 v l.length (strs l)) (hl : l.length ≤ 1000000) :
    Calls Try.prog 96 #[v] w fun e w' => ∃ v', e = .returned v' ∧ Own w' 9 1 v' l.length (strs l) ∧ Upd (fun _ => False) w w' ∧ (∀ q, v'.ownBlock = some q → w.heap.size ≤ q) := by
  obtain ⟨i0, hi0, hz0, hz1, hz2⟩ := info_parts infoStr
  have H := Lib.hid h
  obtain ⟨A, cap, e, h1, h2⟩ := h.shape
  subst e
  clear h
  cases A with
  | none =>
    have hnil := fun W => strs_some none l.length cap W
    simp only [Option.isNone_none] at hnil
    go_enter Try.func96, Try.ntmps96
    go_wp2_with fail
    go_ret
    refine ⟨_, rfl, ?_, Upd.refl _ _, by simp [Value.ownBlock]⟩
    rcases H.out.2 with ⟨e, h0⟩ | ⟨g, c, cur, fr, e, _⟩
    · have hl0 : l = [] := List.eq_nil_of_length_eq_zero h0
      subst hl0
      exact Own.nil _ _ _
    · simp at e
  | some a =>
    have hnil := fun W => strs_some (some a) l.length cap W
    simp only [Option.isNone_some] at hnil
    go_enter Try.func96, Try.ntmps96
    have hO0 : Own (w.alloc (.cells #[] 9)) 9 1 (.slice (some ⟨w.heap.size, 0, none⟩) 0 0) 0 [] := ⟨by simp, .inr ⟨w.heap.size, 0, #[], (0, 0), rfl, heap_alloc_new w _, .inl rfl, Nat.le_refl _, by simp, rfl, rfl⟩⟩
    have HO0 := Lib.hid hO0
    clear hO0
    go_wp2_with (at_builtin
                 refine wpList_append_src rfl _ _ _ _ rfl 9 i0 _ 1 16 Try.underlying22 hi0 hz0 hz1 hz2 rfl _ 0 _ rfl HO0.out _ l.length (strs l) rfl (Src.of_own Try.underlying22 (H.out.alloc _)) (strs_one l) (by unfold maxLen; omega) (by omega) ?_
                 intro v' w2 hO2 hU2 hl2 hs2
                 have H2 := Lib.hid (And.intro hO2 (And.intro hU2 hl2))
                 clear hO2 hU2 hl2 hs2)
    go_ret
    obtain ⟨hO2, hU2, hl2⟩ := H2.out
    refine ⟨v', rfl, by simpa using hO2, ((Upd.refl _ w).alloc _).then hU2 (fun b e => .inr (by have e2 := Option.some.inj (show some w.heap.size = some b from e); omega)), fun q hq => ?_⟩
    rcases hl2 with e | e
    · rw [e] at hq
      have := Option.some.inj (show some w.heap.size = some q from hq)
      omega
    · rw [e] at hq
      have := Option.some.inj hq
      simp at this
      omega

/-- A twin in the making: mt is what it has of what waits. -/
structure TwinAt (w0 w : World) (b tl tcap tm : Nat) (d : Dk) (mt : List (Int × Value)) : Prop where
  blk : Blk w b 87 #[.slice (some ⟨tl, 0, none⟩) d.lasts.length tcap, .map (some tm), .int .i64 d.fuse, .bool d.off]
  lasts : Own w 9 1 (.slice (some ⟨tl, 0, none⟩) d.lasts.length tcap) d.lasts.length (strs d.lasts)
  map : MapB intKey w tm mt
  each : ∀ q ∈ mt, ∃ i : Nat, q.1 = (i : Int) ∧ i < d.waits.length ∧ d.at_ i ≠ [] ∧ Own w 9 1 q.2 (d.at_ i).length (strs (d.at_ i))
  nodup : (b :: tl :: tm :: mt.filterMap (·.2.ownBlock)).Nodup
  new : ∀ k ∈ (b :: tl :: tm :: mt.filterMap (·.2.ownBlock)), w0.heap.size ≤ k
theorem TwinAt.lt {w0 w : World} {b tl tcap tm : Nat} {d : Dk} {mt : List (Int × Value)} (h : TwinAt w0 w b tl tcap tm d mt) : ∀ k ∈ (b :: tl :: tm :: mt.filterMap (·.2.ownBlock)), k < w.heap.size := by
  intro k hk
  simp only [List.mem_cons, List.mem_filterMap] at hk
  rcases hk with rfl | rfl | rfl | ⟨q, hq, hk⟩
  · exact h.blk.lt
  · exact h.lasts.lt (by simp [Value.ownBlock])
  · exact h.map.lt
  · obtain ⟨i, _, _, _, h8⟩ := h.each q hq
    exact h8.lt hk
theorem TwinAt.still {w0 w w' : World} {b tl tcap tm : Nat} {d : Dk} {mt : List (Int × Value)} (h : TwinAt w0 w b tl tcap tm d mt) {G : Nat → Prop} (hu : Upd G w w') (hG : ∀ k ∈ (b :: tl :: tm :: mt.filterMap (·.2.ownBlock)), ¬ G k) : TwinAt w0 w' b tl tcap tm d mt :=
  ⟨h.blk.upd hu (hG b (by simp)), h.lasts.upd hu (fun q hq => hG q (List.mem_cons.2 (.inr (List.mem_cons.2 (.inl (by simpa [Value.ownBlock] using hq.symm)))))), h.map.upd hu (hG tm (by simp)),
    fun q hq => by obtain ⟨i, e, hi, h0, ho⟩ := h.each q hq; exact ⟨i, e, hi, h0, ho.upd hu fun k hk => hG k (by simp only [List.mem_cons]; exact .inr (.inr (.inr (List.mem_filterMap.2 ⟨q, hq, hk⟩))))⟩, h.nodup, h.new⟩
theorem TwinAt.add {w0 w1 w2 : World} {b tl tcap tm i : Nat} {d : Dk} {mt : List (Int × Value)} {v : Value} {B : Nat} (h : TwinAt w0 w1 b tl tcap tm d mt) (hB : ∀ k ∈ (b :: tl :: tm :: mt.filterMap (·.2.ownBlock)), k < B) (hv : ∀ q, v.ownBlock = some q → B ≤ q) (h0 : w0.heap.size ≤ B)
    (hO : Own w1 9 1 v (d.at_ i).length (strs (d.at_ i))) (hi : i < d.waits.length) (hne : d.at_ i ≠ []) (hni : (i : Int) ∉ mt.map (·.1)) (hM : MapB intKey w2 tm (setA mt (i : Int) v)) (hU : Upd (· = tm) w1 w2) : TwinAt w0 w2 b tl tcap tm d (mt ++ [((i : Int), v)]) := by
  have hnd := h.nodup
  simp only [List.nodup_cons, List.mem_cons, not_or] at hnd
  obtain ⟨⟨n1, n2, n3⟩, ⟨n4, n5⟩, n6, n7⟩ := hnd
  have hset : setA mt (i : Int) v = mt ++ [((i : Int), v)] := by unfold setA; rw [if_neg hni]
  rw [hset] at hM
  have hvt : v.ownBlock ≠ some tm := fun e => by have := hv tm e; have := hB tm (by simp); omega
  refine ⟨h.blk.upd hU (fun e => n2 e), h.lasts.upd hU (fun q hq e => n4 (by rw [← e]; simpa [Value.ownBlock] using hq)), hM, fun q hq => ?_, ?_, fun k hk => ?_⟩
  · rcases List.mem_append.1 hq with e | e
    · obtain ⟨j, e1, hj, h1, ho⟩ := h.each q e
      exact ⟨j, e1, hj, h1, ho.upd hU fun k hk e2 => n6 (by rw [← e2]; exact List.mem_filterMap.2 ⟨q, e, hk⟩)⟩
    · rw [List.mem_singleton.1 e]
      exact ⟨i, rfl, hi, hne, hO.upd hU fun k hk e2 => hvt (by rw [← e2]; exact hk)⟩
  · rw [List.filterMap_append]
    have hold : ∀ k ∈ b :: tl :: tm :: mt.filterMap (·.2.ownBlock), v.ownBlock ≠ some k := fun k hk e => by have := hv k e; have := hB k hk; omega
    have : (b :: tl :: tm :: mt.filterMap (·.2.ownBlock) ++ [((i : Int), v)].filterMap (·.2.ownBlock)).Nodup := by
      refine List.nodup_append.2 ⟨h.nodup, ?_, fun x hx y hy e => ?_⟩
      · cases hvb : v.ownBlock <;> simp [hvb]
      · subst e
        obtain ⟨q, hq, hqk⟩ := List.mem_filterMap.1 hy
        rw [List.mem_singleton.1 hq] at hqk
        exact hold x hx hqk
    simpa using this
  · simp only [List.mem_cons, List.filterMap_append, List.mem_append] at hk
    rcases hk with rfl | rfl | rfl | hk | hk
    · exact h.new _ (by simp)
    · exact h.new _ (by simp)
    · exact h.new _ (by simp)
    · exact h.new k (by simp only [List.mem_cons]; exact .inr (.inr (.inr hk)))
    · obtain ⟨q, hq, hqk⟩ := List.mem_filterMap.1 hk
      rw [List.mem_singleton.1 hq] at hqk
      have := hv k hqk
      omega

theorem Rng.left_nodup {α : Type} {inj : α → Value} {w : World} {r b : Nat} {m left : List (α × Value)} (h : Rng inj w r b m left) : (left.map (·.1)).Nodup := by
  obtain ⟨es, clock, since, seen, c0, _, _, hs, _, _, _, _, hl⟩ := h
  have h3 := hs.2.2
  have h4 := keys_of hl
  have h5 : ((es.toList.filter fun e => !seen.contains e.born).map (·.key)).Nodup := List.Nodup.sublist (List.Sublist.map _ List.filter_sublist) h3
  rw [h4] at h5
  have h6 : ((left.map (·.1)).map inj).Nodup := by rw [List.map_map]; exact h5
  exact nodup_of_map h6
/-- The twin behind some entries; those of 'left' are still to come. -/
structure Twinning (w wr : World) (tb tl tcap tm bm r : Nat) (d : Dk) (m mt left : List (Int × Value)) : Prop where
  twin : TwinAt w wr tb tl tcap tm d mt
  rng : Rng intKey wr r bm m left
  sub : ∀ q ∈ left, q ∈ m
  apart : ∀ q ∈ mt, q.1 ∉ left.map (·.1)
  cover : ∀ q ∈ m, q.1 ∈ mt.map (·.1) ∨ q.1 ∈ left.map (·.1)
  upd : Upd (fun _ => False) w wr
  rnew : w.heap.size ≤ r ∧ ∀ k ∈ (tb :: tl :: tm :: mt.filterMap (·.2.ownBlock)), k ≠ r
set_option maxRecDepth 100000 in
set_option maxHeartbeats 1600000 in
theorem twin_c {w : World} {p : Nat} {d : Dk} {F : List Nat} (hD : DiskAt w p d F) :
    Calls Try.prog 55 #[.pointer (some ⟨p, 0, none⟩)] w fun e w' => ∃ b F', e = .returned (.pointer (some ⟨b, 0, none⟩)) ∧ DiskAt w' b d F' ∧ (∀ q ∈ F', w.heap.size ≤ q) ∧ Upd (fun _ => False) w w' := by
  have HN := Lib.hid (none_c hD)
  have HD := Lib.hid hD
  obtain ⟨bl, cap, bm, m, g1, g2, g3, g4, g5, gF, g7⟩ := hD
  subst gF
  have hmost := g5.most
  have hroom := g5.room
  have hpos := g5.pos
  have hc := g1.cells4
  have hmm := @run_makeMap Try.prog
  have HG := Lib.hid (And.intro g1 (And.intro g2 (And.intro g3 (And.intro g4 (And.intro g5 g7)))))
  clear g1 g2 g3 g4 g5 g7
  go_enter Try.func55, Try.ntmps55
  go_wp2_with fail
  refine HN.out.mono ?_
  rintro e w' ⟨rfl, rfl⟩
  go_wp2_with (first
    | (refine wpList_load_all rfl _ _ rfl p rfl _ _ _ HG.out.1 Try.underlying87 rfl rfl ?_)
    | (refine wpList_store_all rfl 87 _ _ rfl w.heap.size #[.slice (some ⟨bl, 0, none⟩) d.lasts.length cap, .map (some bm), .int .i64 d.fuse, .bool d.off] rfl rfl _ _ (Blk.new w 87 #[.slice none 0 0, .map none, .int .i64 0, .bool false]) rfl (by simp [Value.oneCell']) (by kernel_rfl) ?_
       intro w2 hB2 hU2 hs2
       have hU02 : Upd (fun _ => False) w w2 := ((Upd.refl _ w).alloc _).then hU2 (fun b e => .inr (by rw [e]; exact Nat.le_refl _))
       have hc2 := (HG.out.1.upd hU02 (fun e => e)).cells4
       have H2 := Lib.hid (And.intro hB2 hU02)
       have hsz : w.heap.size < w2.heap.size := by rw [hs2]; simp
       clear hB2 hU2 hs2 hU02 hc))
  refine (clone_s (HG.out.2.1.upd H2.out.2 (fun _ _ e => e)) (by omega)).mono ?_
  rintro e w3 ⟨v3, rfl, hO3, hU3, hn3⟩
  have hB3 := H2.out.1.upd hU3 (fun e => e)
  have hone := hO3.one
  have H3 := Lib.hid (And.intro hO3 (And.intro (H2.out.2.then hU3 (fun _ e => e.elim)) (And.intro hn3 hU3.size)))
  clear hO3 hU3 hn3 hc2
  go_wp2_with (first
    | (refine wpList_store_one rfl 22 _ _ rfl w.heap.size 0 v3 rfl rfl _ _ hB3 (by simp) hone (by kernel_rfl) ?_
       intro w4 hB4 hU4 hs4
       simp only [List.setIfInBounds_toArray, List.set_cons_zero] at hB4
       have H4 := Lib.hid (And.intro hB4 (And.intro hU4 hs4))
       clear hU4 hB3)
    | (refine wpList_store_one rfl 74 _ _ rfl w.heap.size 1 (.map (some w3.heap.size)) rfl rfl _ _ (hB4.alloc (.map #[] 0)) (by simp) rfl (by kernel_rfl) ?_
       intro w5 hB5 hU5 hs5
       simp only [List.setIfInBounds_toArray, List.set_cons_zero, List.set_cons_succ] at hB5
       have hw3 := H3.out.2.2.2
       have hU04 : Upd (fun _ => False) w w4 := H3.out.2.1.then H4.out.2.1 (fun b e => .inr (by rw [e]; exact Nat.le_refl _))
       have hU05 : Upd (fun _ => False) w w5 := (hU04.alloc (.map #[] 0)).then hU5 (fun b e => .inr (by rw [e]; exact Nat.le_refl _))
       have hc5 := (HG.out.1.upd hU05 (fun e => e)).cells4
       have hM5 : MapB intKey w5 w3.heap.size [] := by
         have h := MapB.new (inj := intKey) w4
         rw [hs4] at h
         exact h.upd hU5 (fun e => by omega)
       have hO5 : Own w5 9 1 v3 d.lasts.length (strs d.lasts) := ((H3.out.1.upd H4.out.2.1 (fun q hq e => by have := H3.out.2.2.1 q hq; omega)).alloc _).upd hU5 (fun q hq e => by have := H3.out.2.2.1 q hq; omega)
       obtain ⟨w6, hr6, hR6, hU6, hs6⟩ := (HG.out.2.2.1.upd hU05 (fun e => e)).run_range (P := Try.prog) Try.underlying74
       have hs56 : w5.heap.size = w3.heap.size + 1 := by rw [hs5]; simp [hs4]
       have H5 := Lib.hid (And.intro hB5 (And.intro hM5 (And.intro hO5 (And.intro hU05 (And.intro hR6 (And.intro hU6 (And.intro hs6 hs56)))))))
       clear hB4 hs4 hB5 hU5 hs5 hU04 hU05 hM5 hO5 hR6 hU6 hs6 hw3 hs56))
  obtain ⟨tl, tcap, rfl, hnc, hcm⟩ := H5.out.2.2.1.head (by omega)
  have hst : Twinning w w6 w.heap.size tl tcap w3.heap.size bm w5.heap.size d m [] m := by
    obtain ⟨hB5, hM5, hO5, hU05, hR6, hU6, hs6, hs56⟩ := H5.out
    have htl := H3.out.2.2.1 tl (by simp [Value.ownBlock])
    have htl3 := H3.out.1.lt (k := tl) (by simp [Value.ownBlock])
    have hw3 := H3.out.2.2.2
    refine ⟨⟨hB5.upd hU6 (fun e => e), hO5.upd hU6 (fun _ _ e => e), hM5.upd hU6 (fun e => e), by simp, ?_, fun k hk => ?_⟩, hR6, fun _ h => h, by simp, fun q hq => .inr (List.mem_map.2 ⟨q, hq, rfl⟩), hU05.then hU6 (fun _ e => e.elim), by omega, fun k hk => ?_⟩
    · simp only [List.filterMap_nil, List.nodup_cons, List.mem_cons, List.not_mem_nil, or_false, not_or, not_false_eq_true, List.nodup_nil, and_true]
      omega
    · simp only [List.filterMap_nil, List.mem_cons, List.not_mem_nil, or_false] at hk
      omega
    · simp only [List.filterMap_nil, List.mem_cons, List.not_mem_nil, or_false] at hk
      omega
  have HS := Lib.hid hst
  clear hst hnc hcm hc5 hr6 hmm
  generalize w5.heap.size = r at *
  generalize w3.heap.size = tm at *
  have htb : ∃ tb, w.heap.size = tb := ⟨_, rfl⟩
  obtain ⟨tb, htb⟩ := htb
  rw [htb] at HS ⊢
  clear H2 H3 H4 H5 HN hone hsz
  go_loopw [4, 5] (fun _ _ wr => ∃ mt left, Twinning w wr tb tl tcap tm bm r d m mt left) (fun _ _ wr => rngLeft wr r bm)
  case atStart => exact ⟨[], m, HS.out⟩
  case round =>
    obtain ⟨mt, left, hT⟩ := hrel
    clear HS
    have HT := Lib.hid hT
    rcases hT.rng.run_next (P := Try.prog) keyI.inj 0 with ⟨h0, hrun⟩ | ⟨k, v, l1, l2, w7, hleft, hmem, hrun, hR7, hen, hU7, hs7⟩
    · clear hT
      subst h0
      go_wp2_with fail
      go_ret
      refine ⟨tb, _, rfl, ⟨tl, tcap, tm, mt, HT.out.twin.blk, HT.out.twin.lasts, HT.out.twin.map, ⟨HT.out.twin.each, fun i hi => ?_⟩, HG.out.2.2.2.2.1, rfl, HT.out.twin.nodup⟩, HT.out.twin.new, HT.out.upd⟩
      obtain ⟨q, hq, e⟩ := List.mem_map.1 (HG.out.2.2.2.1.all i hi)
      rcases HT.out.cover q hq with h | h
      · rw [← e]; exact h
      · simp at h
    · obtain ⟨i, hki, hi, hne, hown⟩ := HG.out.2.2.2.1.each (k, v) (hT.sub _ (by rw [hleft]; simp))
      simp only at hki hown
      subst hki
      have hown : Own w 9 1 v (d.at_ i).length (strs (d.at_ i)) := hown
      have hown7 := (hown.upd hT.upd (fun _ _ e => e)).upd hU7 (fun q hq e => by have := hown.lt hq; have := hT.rnew.1; omega)
      have hT7 : TwinAt w w7 tb tl tcap tm d mt := hT.twin.still hU7 hT.rnew.2
      have hcl : ∀ W : World, W.heap = w7.heap → Calls Try.prog 96 #[v] W fun e w' => ∃ v', e = .returned v' ∧ Own w' 9 1 v' (d.at_ i).length (strs (d.at_ i)) ∧ Upd (fun _ => False) W w' ∧ (∀ q, v'.ownBlock = some q → W.heap.size ≤ q) :=
        fun W hW => clone_s (hown7.eqb fun k _ => by rw [hW]) (by have := Dk.at_len (d := d) i; omega)
      have H7 := Lib.hid (And.intro hT7 (And.intro hR7 (And.intro hU7 (And.intro hi (And.intro hne hleft)))))
      have hcell : w7.cell? ⟨tb, 1, none⟩ = some (.map (some tm)) := hT7.blk.cell 1
      have Hcl := Lib.hid hcl
      clear hT hown hown7 hT7 hR7 hU7 hi hne hleft hcl hs7
      go_wp2_with fail
      go_region_held3 (fun w' => w'.cell? ⟨tb, 1, none⟩ = some (.map (some tm))) (first | assumption | go_keep)
        ((go_at_call 96
          refine (Hcl.out w7.drew rfl).mono ?_
          rintro e w8 ⟨v8, rfl, hO8, hU8, hn8⟩
          have hU78 : Upd (fun _ => False) w7 w8 := ((Upd.refl _ w7).drew).then hU8 (fun _ e => e.elim)
          have hn78 : ∀ q, v8.ownBlock = some q → w7.heap.size ≤ q := hn8
          have hT8 := H7.out.1.still hU78 (fun _ _ e => e)
          have hc8 : w8.cell? ⟨tb, 1, none⟩ = some (.map (some tm)) := hT8.blk.cell 1
          obtain ⟨w9, hrun9, hM9, hU9, hs9⟩ := hT8.map.run_update (P := Try.prog) keyI Try.underlying74 Try.underlying3 (i : Int) v8
          have hrun10 : (Instr.mapUpdate 74 (.map (some tm)) (.int .i64 (i : Int)) v8).run Try.prog w8 = .ok () w9 := hrun9
          have hc9 : w9.cell? ⟨tb, 1, none⟩ = some (.map (some tm)) := (hT8.blk.upd hU9 (hT8.map.ne_blk hT8.blk ·.symm)).cell 1
          have H9 := Lib.hid (And.intro hT8 (And.intro hO8 (And.intro hU78 (And.intro hn78 (And.intro hM9 hU9)))))
          clear hO8 hU8 hn8 hU78 hn78 hT8 hM9 hU9 hs9 hrun9))
      have hnext : Twinning w w9 tb tl tcap tm bm r d m (mt ++ [((i : Int), v8)]) (l1 ++ l2) := by
        obtain ⟨hT7, hR7, hU7, hi, hne, hleft⟩ := H7.out
        obtain ⟨hT8, hO8, hU78, hn78, hM9, hU9⟩ := H9.out
        have hnd := HT.out.rng.left_nodup
        rw [hleft] at hnd
        simp only [List.map_append, List.map_cons, List.nodup_append, List.nodup_cons, List.mem_cons] at hnd
        have hin : (i : Int) ∈ left.map (·.1) := by rw [hleft]; simp
        have hni : (i : Int) ∉ mt.map (·.1) := by
          intro h
          obtain ⟨q, hq, e⟩ := List.mem_map.1 h
          exact HT.out.apart q hq (by rw [e]; exact hin)
        have h0 : w.heap.size ≤ w7.heap.size := Nat.le_trans HT.out.upd.size hU7.size
        have hbm : bm < w.heap.size := HG.out.2.2.1.lt
        have htm := HT.out.twin.new tm (by simp)
        have hrt := HT.out.rnew.2 tm (by simp)
        have hrlt := hR7.lt
        refine ⟨hT8.add (B := w7.heap.size) hT7.lt hn78 h0 hO8 hi hne hni hM9 hU9, ?_, fun q hq => ?_, fun q hq hq2 => ?_, fun q hq => ?_, ((HT.out.upd.then hU7 (fun b e => .inr (by rw [e]; exact HT.out.rnew.1))).then hU78 (fun _ e => e.elim)).then hU9 (fun b e => .inr (by rw [e]; exact htm)), HT.out.rnew.1, fun k hk => ?_⟩
        · refine hR7.eqb ?_ ?_
          · rw [hU9.block r (by have := hU78.size; omega) (fun e => hrt e.symm), hU78.block r hrlt (fun e => e)]
          · rw [hU9.block bm (by have := hU78.size; omega) (fun e => by omega), hU78.block bm (by omega) (fun e => e)]
        · refine HT.out.sub q ?_
          rw [hleft]
          simp only [List.mem_append, List.mem_cons] at hq ⊢
          exact hq.imp id .inr
        · rcases List.mem_append.1 hq with e | e
          · refine HT.out.apart q e ?_
            rw [hleft]
            simp only [List.map_append, List.mem_append, List.map_cons, List.mem_cons] at hq2 ⊢
            exact hq2.imp id .inr
          · rw [List.mem_singleton.1 e] at hq2
            simp only [List.map_append, List.mem_append] at hq2
            rcases hq2 with e2 | e2
            · exact hnd.2.2 _ e2 _ (.inl rfl) rfl
            · exact hnd.2.1.1 e2
        · rcases HT.out.cover q hq with e | e
          · exact .inl (by rw [List.map_append]; exact List.mem_append_left _ e)
          · rw [hleft] at e
            simp only [List.map_append, List.mem_append, List.map_cons, List.mem_cons, List.map_nil, List.not_mem_nil, or_false] at e ⊢
            rcases e with e | e | e
            · exact .inr (.inl e)
            · exact .inl (.inr e)
            · exact .inr (.inr e)
        · simp only [List.mem_cons, List.filterMap_append, List.mem_append] at hk
          have hold := HT.out.rnew.2
          rcases hk with hk | hk | hk | hk | hk
          · exact hold k (by simp [hk])
          · exact hold k (by simp [hk])
          · exact hold k (by simp [hk])
          · exact hold k (by simp only [List.mem_cons]; exact .inr (.inr (.inr hk)))
          · obtain ⟨q, hq, hqk⟩ := List.mem_filterMap.1 hk
            rw [List.mem_singleton.1 hq] at hqk
            have := hn78 k hqk
            omega
      have HN := Lib.hid hnext
      clear hnext
      go_wp2_with fail
      go_roundw
      case rel => exact ⟨_, _, HN.out⟩
      case measure =>
        rw [HN.out.rng.left_eq, HT.out.rng.left_eq, H7.out.2.2.2.2.2]
        simp
end Go.Proofs.Ytafgohnpnaiomaa
