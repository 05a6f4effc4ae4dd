/-
  The document's disk: what its calls do, to its value in memory.
-/
import Derived.Test.YtnmbhoidnbideaaGreatRefD
import Derived.Test.YtnmbhoidnbideaaGreatKeptA
import Derived.Outline
namespace Go.Proofs.YtnmbhoidnbideaaGreat
open Go Go.RowKit

def wrs (ws : List (Int × ByteArray)) : List Value := ws.flatMap fun x => [.int .i64 x.1, .string x.2]
theorem wrs_len (ws : List (Int × ByteArray)) : (wrs ws).length = ws.length * 2 := by
  induction ws with
  | nil => rfl
  | cons x ws ih => simp only [wrs, List.flatMap_cons, List.length_append, List.length_cons, List.length_nil] at ih ⊢; omega
theorem wrs_one (ws : List (Int × ByteArray)) : ∀ u ∈ wrs ws, u.oneCell' = true := by
  intro u hu
  obtain ⟨x, _, hx⟩ := List.mem_flatMap.1 hu
  simp only [List.mem_cons, List.not_mem_nil, or_false] at hx
  rcases hx with rfl | rfl <;> rfl
theorem wrs_get (ws : List (Int × ByteArray)) (i : Nat) (hi : i < ws.length) : (wrs ws)[i * 2]? = some (.int .i64 ws[i].1) ∧ (wrs ws)[i * 2 + 1]? = some (.string ws[i].2) := by
  induction ws generalizing i with
  | nil => simp at hi
  | cons x ws ih =>
    cases i with
    | zero => simp [wrs]
    | succ i =>
      have h := ih i (by simpa using hi)
      have e : (i + 1) * 2 = i * 2 + 1 + 1 := by omega
      rw [e]
      simp only [wrs, List.flatMap_cons, List.cons_append, List.nil_append, List.getElem?_cons_succ, List.getElem_cons_succ]
      exact h
theorem infoWr : (Tryz.prog.info? 126).map (fun i => (i.zero, i.size, i.bytes)) = some (some (.agg #[.int .i64 0, .string ByteArray.empty]), 2, 24) := by kernel_rfl

/-- The document's disk, as a value. -/
structure RdAt (w : World) (vl vw : Value) (r : Rd) : Prop where
  lasts : Own w 9 1 vl r.lasts.length (strs r.lasts)
  ws : Own w 126 2 vw r.ws.length (wrs r.ws)
abbrev Rd.row (vl vw : Value) (r : Rd) : Array Value := #[vl, vw, .int .i64 r.fuse, .bool r.off]
/-- What bounds it. -/
structure Rd.fits (r : Rd) : Prop where
  pos : 1 ≤ r.lasts.length
  lasts : r.lasts.length ≤ 5000
  ws : r.ws.length ≤ 1000000
  fuse : -1 ≤ r.fuse ∧ r.fuse ≤ 9223372036854775807
  low : ∀ x ∈ r.ws, 0 ≤ x.1 ∧ x.1 < r.lasts.length
  size : ∀ b ∈ r.lasts, b.size = 64
theorem RdIs.fits {d : Dk} {r : Rd} (h : RdIs d r) (hd : d.wf) : r.fits :=
  ⟨by rw [h.lasts]; exact hd.pos, by rw [h.lasts]; have := hd.most; omega, by rw [h.pend]; have := hd.room; omega, by rw [h.fuse]; exact ⟨hd.fuse, hd.fuse'⟩, by rw [h.lasts]; exact h.low, by rw [h.lasts]; exact hd.lasts⟩
theorem RdAt.upd {w w' : World} {vl vw : Value} {r : Rd} (h : RdAt w vl vw r) (hu : Upd (fun _ => False) w w') : RdAt w' vl vw r := ⟨h.lasts.upd hu (fun _ _ e => e), h.ws.upd hu (fun _ _ e => e)⟩
/-- What a call leaves: the disk's value, in its old memory or in new. -/
structure RdLeft (w w' : World) (vl vw vl' vw' : Value) (r : Rd) : Prop where
  at_ : RdAt w' vl' vw' r
  upd : Upd (fun _ => False) w w'
  loc : ∀ q, (vl'.ownBlock = some q ∨ vw'.ownBlock = some q) → (vl.ownBlock = some q ∨ vw.ownBlock = some q) ∨ w.heap.size ≤ q
set_option maxRecDepth 100000 in
set_option maxHeartbeats 800000 in
theorem of_c {w : World} {vl vw : Value} {r : Rd} (h : RdAt w vl vw r) (hf : r.fits) (i : Int) :
    Calls Tryz.prog 90 #[.agg (r.row vl vw), .int .i64 i] w fun e w' => ∃ v, e = .returned v ∧ Own w' 9 1 v (r.of_ i).length (strs (r.of_ i)) ∧ Upd (fun _ => False) w w' ∧ (∀ q, v.ownBlock = some q → w.heap.size ≤ q) := by
  obtain ⟨i0, hi0, hz0, hz1, hz2⟩ := info_parts infoStr
  obtain ⟨fl, fo, hfl⟩ : ∃ fl fo, r.row vl vw = #[vl, vw, .int .i64 fl, .bool fo] := ⟨_, _, rfl⟩
  rw [hfl]
  clear hfl
  have hn := hf.ws
  have hof : ∀ k, (hk : k < r.ws.length) → ofL (r.ws.take (k + 1)) i = if r.ws[k].1 = i then ofL (r.ws.take k) i ++ [r.ws[k].2] else ofL (r.ws.take k) i := by
    intro k hk
    rw [List.take_succ_eq_append_getElem hk, ofL_snoc]
  have hle : ∀ k, (ofL (r.ws.take k) i).length ≤ k := by
    intro k
    unfold ofL
    rw [List.length_map]
    exact Nat.le_trans (List.length_filter_le _ _) (by rw [List.length_take]; omega)
  have hall : ofL (r.ws.take r.ws.length) i = r.of_ i := by rw [List.take_length]; rfl
  obtain ⟨A, cap, rfl, -, -⟩ := h.ws.shape
  have hcell : ∀ w', Upd (fun _ => False) w w' → ∀ k (hk : k < r.ws.length), ∃ g, A = some ⟨g, 0, none⟩ ∧ w'.cell? ⟨g, k * 2, none⟩ = some (.int .i64 r.ws[k].1) ∧ w'.cell? ⟨g, k * 2 + 1, none⟩ = some (.string r.ws[k].2) := by
    intro w' hu k hk
    obtain ⟨g, cap', e, -, -⟩ := h.ws.head (by omega)
    injection e with e1 e2 e3
    subst e1
    have hO := h.ws.upd hu (fun _ _ e => e)
    obtain ⟨c1, c2⟩ := wrs_get r.ws k hk
    exact ⟨g, rfl, by rw [hO.cellAt (k * 2) (by omega)]; exact c1, by rw [hO.cellAt (k * 2 + 1) (by omega)]; exact c2⟩
  have HC := Lib.hid hcell
  have HO := Lib.hid (And.intro hof (And.intro hle hall))
  clear h hf hof hle hall hcell
  go_enter Tryz.func90, Tryz.ntmps90
  go_wp2_with fail
  go_loopw [5, 6] (fun lv iv wr => ∃ k : Nat, k ≤ r.ws.length ∧ iv = .int .i64 (k : Int) ∧ Own wr 9 1 lv (ofL (r.ws.take k) i).length (strs (ofL (r.ws.take k) i)) ∧ Upd (fun _ => False) w wr ∧ (∀ q, lv.ownBlock = some q → w.heap.size + 1 ≤ q) ∧ Blk wr w.heap.size 32 #[vl, .slice A r.ws.length cap, .int .i64 fl, .bool fo]) (fun _ iv _ => r.ws.length - (intOf iv).toNat)
  case atStart => exact ⟨0, by omega, rfl, Own.nil _ _ _, (Upd.refl _ w).alloc _, by simp [Value.ownBlock], Blk.new w _ _⟩
  case round =>
    obtain ⟨k, hk, rfl, hO, hU, hN, hB⟩ := hrel
    have hcb := hB.cells4
    by_cases hlt : k < r.ws.length
    · obtain ⟨g, rfl, c0, c1⟩ := HC.out wr hU k hlt
      have hst := HO.out.1 k hlt
      have hlk := HO.out.2.1 k
      obtain ⟨x, hx⟩ : ∃ x, r.ws[k] = x := ⟨_, rfl⟩
      rw [hx] at c0 c1 hst
      obtain ⟨x1, x2⟩ := x
      simp only at c0 c1 hst
      have HS := Lib.hid (And.intro hO (And.intro hU (And.intro hN hB)))
      clear hx hO hU hN hB
      by_cases he : x1 = i
      · have he' : (x1 == i) = true := by rw [he, beq_self_eq_true]
        rw [if_pos he] at hst
        have HT := Lib.hid hst
        clear he hst
        go_wp2_with (at_builtin; refine wpList_append_src rfl _ _ _ _ rfl 9 i0 _ 1 16 Tryz.underlying29 hi0 hz0 hz1 hz2 rfl u5 (ofL (r.ws.take k) i).length _ rfl (HS.out.1.alloc _) _ 1 [_] rfl (Src.of_new Tryz.underlying29 _) (by simp [Value.oneCell']) (by unfold maxLen; omega) (by omega) ?_; intro v2 w2 hO2 hU2 hl2 hs2)
        have hbx : Blk w2 w.heap.size 32 #[vl, .slice (some ⟨g, 0, none⟩) r.ws.length cap, .int .i64 fl, .bool fo] := (HS.out.2.2.2.alloc _).upd hU2 (fun e => by have := HS.out.2.2.1 _ e; omega)
        have H2 := Lib.hid (And.intro hO2 (And.intro hU2 (And.intro hl2 hbx)))
        clear hO2 hU2 hl2 hs2 hbx
        go_roundw
        case rel =>
          have hs1 := HS.out.2.1.size
          have hlb := HS.out.2.2.2.lt
          refine ⟨k + 1, by omega, by go_num, ?_, (HS.out.2.1.alloc _).then H2.out.2.1 (fun q e => .inr (by have := HS.out.2.2.1 q e; omega)), fun q hq => ?_, H2.out.2.2.2⟩
          · rw [HT.out]
            simpa [strs] using H2.out.1
          · rcases H2.out.2.2.1 with e | e
            · exact HS.out.2.2.1 q (by rw [← e]; exact hq)
            · rw [e] at hq
              have h5 := Option.some.inj hq
              simp at h5
              omega
        case measure => simp [intOf] <;> omega
      · have he' : (x1 == i) = false := by rw [beq_eq_false_iff_ne]; exact he
        rw [if_neg he] at hst
        have HT := Lib.hid hst
        clear he hst
        go_wp2_with fail
        go_roundw
        case rel => exact ⟨k + 1, by omega, by go_num, by rw [HT.out]; exact HS.out.1, HS.out.2.1, HS.out.2.2.1, HS.out.2.2.2⟩
        case measure => simp [intOf] <;> omega
    · obtain rfl : k = r.ws.length := by omega
      have HS := Lib.hid (And.intro hO (And.intro hU hN))
      clear hO hU hN hB
      go_wp2_with fail
      go_ret
      refine ⟨_, rfl, ?_, HS.out.2.1, fun q hq => by have := HS.out.2.2 q hq; omega⟩
      rw [← HO.out.2.2]
      exact HS.out.1
set_option maxRecDepth 100000 in
set_option maxHeartbeats 800000 in
theorem rread_c {w : World} {vl vw : Value} {r : Rd} (h : RdAt w vl vw r) (hf : r.fits) (i : Int) :
    Calls Tryz.prog 68 #[.agg (r.row vl vw), .int .i64 i] w fun e w' => e = .returned (.tuple #[.string (r.read i).1, .int .i64 (r.read i).2]) ∧ Upd (fun _ => False) w w' := by
  have hU0 : Upd (fun _ => False) w (w.alloc (.cells (r.row vl vw) 32)) := (Upd.refl _ w).alloc _
  have HOf := Lib.hid (of_c (h.upd hU0) hf i)
  have HU0 := Lib.hid hU0
  have hl := hf.lasts
  obtain ⟨A, cap, rfl, -, -⟩ := h.lasts.shape
  have hcell : ∀ w', Upd (fun _ => False) w w' → ∀ k (_ : k < r.lasts.length), ∃ g, A = some ⟨g, 0, none⟩ ∧ w'.cell? ⟨g, k, none⟩ = some (.string (r.last k)) := by
    intro w' hu k hk
    obtain ⟨g, cap', e, -, -⟩ := h.lasts.head (by omega)
    injection e with e1 e2 e3
    subst e1
    have hO := h.lasts.upd hu (fun _ _ e => e)
    refine ⟨g, rfl, ?_⟩
    rw [hO.cellAt k (by omega), strs_get, Rd.last, List.getD_eq_getElem?_getD, List.getElem?_eq_getElem hk]
    rfl
  have HC := Lib.hid hcell
  have hrd : r.read i = if r.off then (ByteArray.empty, 14) else if r.out i then (ByteArray.empty, 1) else ((r.of_ i).getLast?.getD (r.last i.toNat), 0) := rfl
  have hB0 := Blk.new w 32 (r.row (.slice A r.lasts.length cap) vw)
  have hc0 := hB0.cells4
  have HB0 := Lib.hid hB0
  clear h hf hcell hU0 hB0
  simp only [Rd.row] at hc0 HOf HB0 HU0 ⊢
  cases ho : r.off
  · rw [ho] at hc0 HU0
    rw [ho, if_neg (by simp)] at hrd
    by_cases hout : r.out i = true
    · rw [if_pos hout] at hrd
      rw [hrd]
      unfold Rd.out at hout
      rw [decide_eq_true_eq] at hout
      clear hrd ho
      by_cases hi : i < 0
      · go_enter Tryz.func68, Tryz.ntmps68
        go_wp2_with fail
        go_ret2
        exact ⟨rfl, HU0.out⟩
      · have hi2 : (r.lasts.length : Int) ≤ i := by omega
        go_enter Tryz.func68, Tryz.ntmps68
        go_wp2_with fail
        go_ret2
        exact ⟨rfl, HU0.out⟩
    · rw [if_neg hout] at hrd
      have hi : 0 ≤ i ∧ i < r.lasts.length := by
        unfold Rd.out at hout
        rw [decide_eq_true_eq] at hout
        omega
      obtain ⟨k, rfl⟩ := Int.eq_ofNat_of_zero_le hi.1
      have hk : k < r.lasts.length := by omega
      have hk2 : ¬ (r.lasts.length : Int) ≤ (k : Int) := by omega
      rw [hrd]
      have hOf := HOf.out
      rw [ho] at hOf
      have hB0 := HB0.out
      rw [ho] at hB0
      have HB2 := Lib.hid hB0
      have HOf2 := Lib.hid hOf
      clear hrd hout hi hOf HOf hB0 HB0
      simp only [Int.toNat_natCast]
      generalize r.of_ (k : Int) = L at *
      generalize hy : L.getLast?.getD (r.last k) = y at *
      have HY := Lib.hid hy
      clear hy
      go_enter Tryz.func68, Tryz.ntmps68
      go_wp2_with fail
      refine HOf2.out.mono ?_
      rintro e w2 ⟨v2, rfl, hO2, hU2, -⟩
      have hU02 := HU0.out.then hU2 (fun _ e => e.elim)
      have hx := HC.out w2 hU02 k hk
      obtain ⟨g, rfl, hcl⟩ := hx
      have hc2 := (HB2.out.upd hU2 (fun e => e)).cells4
      have HU2 := Lib.hid hU02
      clear hU2 hU02 hc0
      by_cases h0 : L = []
      · subst h0
        obtain rfl : r.last k = y := HY.out
        obtain ⟨A2, cap2, rfl, -, -⟩ := hO2.shape
        have HO2 := Lib.hid hO2
        clear hO2
        simp only [List.length_nil] at HO2 ⊢
        go_wp2_with fail
        go_ret2
        exact ⟨rfl, HU2.out⟩
      · have hlen : 0 < L.length := List.length_pos_iff.2 h0
        obtain ⟨g2, cap2, rfl, hx1, hx2⟩ := hO2.head hlen
        have hlast : w2.cell? ⟨g2, L.length - 1, none⟩ = some (.string y) := by
          rw [← HY.out, hO2.cellAt _ (by omega), strs_get, List.getLast?_eq_getElem?, List.getElem?_eq_getElem (by omega)]
          rfl
        clear hO2 h0 HY
        unfold maxLen at hx2
        generalize L.length = m at *
        go_wp2_with fail
        go_ret2
        exact ⟨rfl, HU2.out⟩
  · rw [ho] at hc0 HU0
    rw [ho, if_pos rfl] at hrd
    rw [hrd]
    clear hrd ho
    go_enter Tryz.func68, Tryz.ntmps68
    go_wp2_with fail
    go_ret2
    exact ⟨rfl, HU0.out⟩
end Go.Proofs.YtnmbhoidnbideaaGreat
