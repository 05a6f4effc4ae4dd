/-
  The disk's Twin.
-/
import Derived.Test.YtpfbgmfkeofefaaGreatDiskE
import Derived.Test.YtpfbgmfkeofefaaGreatShelf
import Derived.WalkSpells
import Derived.Outline
import Derived.Deep.RegionHeld3
namespace Go.Proofs.YtpfbgmfkeofefaaGreat
open Go Go.RowKit

theorem strs_some (A : Option Addr) (n c : Nat) (w : World) : (binOp .eql 30 (.slice A n c) (.slice none 0 0)).run Tryz.prog w = .ok (.bool A.isNone) w :=
  Lib.run_eql_slice_nil w 30 _ A n c 0 0 Tryz.underlying30
set_option maxRecDepth 100000 in
set_option maxHeartbeats 800000 in
theorem clone_s {w : World} {v : Value} {l : List ByteArray} (h : Own w 9 1 v l.length (strs l)) (hl : l.length ≤ 1000000) :
    Calls Tryz.prog 85 #[v] w fun e w' => ∃ v', e = .returned v' ∧ Own w' 9 1 v' l.length (strs l) ∧ Upd (fun _ => False) w w' ∧ (∀ q, v'.ownBlock = some q → w.heap.size ≤ q) := by
  obtain ⟨i0, hi0, hz0, hz1, hz2⟩ := info_parts infoStr
  have H := Lib.hid h
  obtain ⟨A, cap, e, h1, h2⟩ := h.shape
  subst e
  clear h
  cases A with
  | none =>
    have hnil := fun W => strs_some none l.length cap W
    simp only [Option.isNone_none] at hnil
    go_enter Tryz.func85, Tryz.ntmps85
    go_wp2_with fail
    go_ret
    refine ⟨_, rfl, ?_, Upd.refl _ _, by simp [Value.ownBlock]⟩
    rcases H.out.2 with ⟨e, h0⟩ | ⟨g, c, cur, fr, e, _⟩
    · have hl0 : l = [] := List.eq_nil_of_length_eq_zero h0
      subst hl0
      exact Own.nil _ _ _
    · simp at e
  | some a =>
    have hnil := fun W => strs_some (some a) l.length cap W
    simp only [Option.isNone_some] at hnil
    go_enter Tryz.func85, Tryz.ntmps85
    have hO0 : Own (w.alloc (.cells #[] 9)) 9 1 (.slice (some ⟨w.heap.size, 0, none⟩) 0 0) 0 [] := ⟨by simp, .inr ⟨w.heap.size, 0, #[], (0, 0), rfl, heap_alloc_new w _, .inl rfl, Nat.le_refl _, by simp, rfl, rfl⟩⟩
    have HO0 := Lib.hid hO0
    clear hO0
    go_wp2_with (at_builtin
                 refine wpList_append_src rfl _ _ _ _ rfl 9 i0 _ 1 16 Tryz.underlying30 hi0 hz0 hz1 hz2 rfl _ 0 _ rfl HO0.out _ l.length (strs l) rfl (Src.of_own Tryz.underlying30 (H.out.alloc _)) (strs_one l) (by unfold maxLen; omega) (by omega) ?_
                 intro v' w2 hO2 hU2 hl2 hs2
                 have H2 := Lib.hid (And.intro hO2 (And.intro hU2 hl2))
                 clear hO2 hU2 hl2 hs2)
    go_ret
    obtain ⟨hO2, hU2, hl2⟩ := H2.out
    refine ⟨v', rfl, by simpa using hO2, ((Upd.refl _ w).alloc _).then hU2 (fun b e => .inr (by have e2 := Option.some.inj (show some w.heap.size = some b from e); omega)), fun q hq => ?_⟩
    rcases hl2 with e | e
    · rw [e] at hq
      have := Option.some.inj (show some w.heap.size = some q from hq)
      omega
    · rw [e] at hq
      have := Option.some.inj hq
      simp at this
      omega

/-- A twin in the making: mt is what it has of what waits. -/
structure TwinAt (w0 w : World) (b tl tcap tm : Nat) (d : Dk) (mt : List (Int × Value)) : Prop where
  blk : Blk w b 93 #[.slice (some ⟨tl, 0, none⟩) d.lasts.length tcap, .map (some tm), .int .i64 d.fuse, .bool d.off]
  lasts : Own w 9 1 (.slice (some ⟨tl, 0, none⟩) d.lasts.length tcap) d.lasts.length (strs d.lasts)
  map : MapB intKey w tm mt
  each : ∀ q ∈ mt, ∃ i : Nat, q.1 = (i : Int) ∧ i < d.waits.length ∧ d.at_ i ≠ [] ∧ Own w 9 1 q.2 (d.at_ i).length (strs (d.at_ i))
  nodup : (b :: tl :: tm :: mt.filterMap (·.2.ownBlock)).Nodup
  new : ∀ k ∈ (b :: tl :: tm :: mt.filterMap (·.2.ownBlock)), w0.heap.size ≤ k
theorem TwinAt.lt {w0 w : World} {b tl tcap tm : Nat} {d : Dk} {mt : List (Int × Value)} (h : TwinAt w0 w b tl tcap tm d mt) : ∀ k ∈ (b :: tl :: tm :: mt.filterMap (·.2.ownBlock)), k < w.heap.size := by
  intro k hk
  simp only [List.mem_cons, List.mem_filterMap] at hk
  rcases hk with rfl | rfl | rfl | ⟨q, hq, hk⟩
  · exact h.blk.lt
  · exact h.lasts.lt (by simp [Value.ownBlock])
  · exact h.map.lt
  · obtain ⟨i, _, _, _, h8⟩ := h.each q hq
    exact h8.lt hk
theorem TwinAt.still {w0 w w' : World} {b tl tcap tm : Nat} {d : Dk} {mt : List (Int × Value)} (h : TwinAt w0 w b tl tcap tm d mt) {G : Nat → Prop} (hu : Upd G w w') (hG : ∀ k ∈ (b :: tl :: tm :: mt.filterMap (·.2.ownBlock)), ¬ G k) : TwinAt w0 w' b tl tcap tm d mt :=
  ⟨h.blk.upd hu (hG b (by simp)), h.lasts.upd hu (fun q hq => hG q (List.mem_cons.2 (.inr (List.mem_cons.2 (.inl (by simpa [Value.ownBlock] using hq.symm)))))), h.map.upd hu (hG tm (by simp)),
    fun q hq => by obtain ⟨i, e, hi, h0, ho⟩ := h.each q hq; exact ⟨i, e, hi, h0, ho.upd hu fun k hk => hG k (by simp only [List.mem_cons]; exact .inr (.inr (.inr (List.mem_filterMap.2 ⟨q, hq, hk⟩))))⟩, h.nodup, h.new⟩
theorem TwinAt.add {w0 w1 w2 : World} {b tl tcap tm i : Nat} {d : Dk} {mt : List (Int × Value)} {v : Value} {B : Nat} (h : TwinAt w0 w1 b tl tcap tm d mt) (hB : ∀ k ∈ (b :: tl :: tm :: mt.filterMap (·.2.ownBlock)), k < B) (hv : ∀ q, v.ownBlock = some q → B ≤ q) (h0 : w0.heap.size ≤ B)
    (hO : Own w1 9 1 v (d.at_ i).length (strs (d.at_ i))) (hi : i < d.waits.length) (hne : d.at_ i ≠ []) (hni : (i : Int) ∉ mt.map (·.1)) (hM : MapB intKey w2 tm (setA mt (i : Int) v)) (hU : Upd (· = tm) w1 w2) : TwinAt w0 w2 b tl tcap tm d (mt ++ [((i : Int), v)]) := by
  have hnd := h.nodup
  simp only [List.nodup_cons, List.mem_cons, not_or] at hnd
  obtain ⟨⟨n1, n2, n3⟩, ⟨n4, n5⟩, n6, n7⟩ := hnd
  have hset : setA mt (i : Int) v = mt ++ [((i : Int), v)] := by unfold setA; rw [if_neg hni]
  rw [hset] at hM
  have hvt : v.ownBlock ≠ some tm := fun e => by have := hv tm e; have := hB tm (by simp); omega
  refine ⟨h.blk.upd hU (fun e => n2 e), h.lasts.upd hU (fun q hq e => n4 (by rw [← e]; simpa [Value.ownBlock] using hq)), hM, fun q hq => ?_, ?_, fun k hk => ?_⟩
  · rcases List.mem_append.1 hq with e | e
    · obtain ⟨j, e1, hj, h1, ho⟩ := h.each q e
      exact ⟨j, e1, hj, h1, ho.upd hU fun k hk e2 => n6 (by rw [← e2]; exact List.mem_filterMap.2 ⟨q, e, hk⟩)⟩
    · rw [List.mem_singleton.1 e]
      exact ⟨i, rfl, hi, hne, hO.upd hU fun k hk e2 => hvt (by rw [← e2]; exact hk)⟩
  · rw [List.filterMap_append]
    have hold : ∀ k ∈ b :: tl :: tm :: mt.filterMap (·.2.ownBlock), v.ownBlock ≠ some k := fun k hk e => by have := hv k e; have := hB k hk; omega
    have : (b :: tl :: tm :: mt.filterMap (·.2.ownBlock) ++ [((i : Int), v)].filterMap (·.2.ownBlock)).Nodup := by
      refine List.nodup_append.2 ⟨h.nodup, ?_, fun x hx y hy e => ?_⟩
      · cases hvb : v.ownBlock <;> simp [hvb]
      · subst e
        obtain ⟨q, hq, hqk⟩ := List.mem_filterMap.1 hy
        rw [List.mem_singleton.1 hq] at hqk
        exact hold x hx hqk
    simpa using this
  · simp only [List.mem_cons, List.filterMap_append, List.mem_append] at hk
    rcases hk with rfl | rfl | rfl | hk | hk
    · exact h.new _ (by simp)
    · exact h.new _ (by simp)
    · exact h.new _ (by simp)
    · exact h.new k (by simp only [List.mem_cons]; exact .inr (.inr (.inr hk)))
    · obtain ⟨q, hq, hqk⟩ := List.mem_filterMap.1 hk
      rw [List.mem_singleton.1 hq] at hqk
      have := hv k hqk
      omega

theorem Rng.left_nodup {α : Type} {inj : α → Value} {w : World} {r b : Nat} {m left : List (α × Value)} (h : Rng inj w r b m left) : (left.map (·.1)).Nodup := by
  obtain ⟨es, clock, since, seen, c0, _, _, hs, _, _, _, _, hl⟩ := h
  have h3 := hs.2.2
  have h4 := keys_of hl
  have h5 : ((es.toList.filter fun e => !seen.contains e.born).map (·.key)).Nodup := List.Nodup.sublist (List.Sublist.map _ List.filter_sublist) h3
  rw [h4] at h5
  have h6 : ((left.map (·.1)).map inj).Nodup := by rw [List.map_map]; exact h5
  exact nodup_of_map h6
/-- The twin behind some entries; those of 'left' are still to come. -/
structure Twinning (w wr : World) (tb tl tcap tm bm r : Nat) (d : Dk) (m mt left : List (Int × Value)) : Prop where
  twin : TwinAt w wr tb tl tcap tm d mt
  rng : Rng intKey wr r bm m left
  sub : ∀ q ∈ left, q ∈ m
  apart : ∀ q ∈ mt, q.1 ∉ left.map (·.1)
  cover : ∀ q ∈ m, q.1 ∈ mt.map (·.1) ∨ q.1 ∈ left.map (·.1)
  upd : Upd (fun _ => False) w wr
  rnew : w.heap.size ≤ r ∧ ∀ k ∈ (tb :: tl :: tm :: mt.filterMap (·.2.ownBlock)), k ≠ r
end Go.Proofs.YtpfbgmfkeofefaaGreat
