/-
  How many writes wait; bytes that are turned.
-/
import Derived.Test.YtpfbgmfkeofefaaGreatDiskA
import Derived.Test.YtpfbgmfkeofefaaGreatTurn
namespace Go.Proofs.YtpfbgmfkeofefaaGreat
open Go Go.RowKit

/-- How many writes wait for the sectors of these entries. -/
def lenSum (d : Dk) (l : List (Int × Value)) : Nat := (l.map fun q => (d.at_ q.1.toNat).length).sum
theorem lenSum_split (d : Dk) (l1 l2 : List (Int × Value)) (q : Int × Value) : lenSum d (l1 ++ q :: l2) = (d.at_ q.1.toNat).length + lenSum d (l1 ++ l2) := by
  simp [lenSum]
  omega
theorem sum_map_range (f : Nat → Nat) (l : List Nat) (n : Nat) (hl : l.Nodup) (h1 : ∀ i ∈ l, i < n) (h2 : ∀ i, i < n → f i ≠ 0 → i ∈ l) : (l.map f).sum = ((List.range n).map f).sum := by
  induction n generalizing l with
  | zero =>
    have : l = [] := by
      cases l with
      | nil => rfl
      | cons x l => have := h1 x (by simp); omega
    subst this
    rfl
  | succ n ih =>
    rw [List.range_succ, List.map_append, List.sum_append]
    by_cases hn : n ∈ l
    · obtain ⟨a, b, rfl⟩ := List.append_of_mem hn
      have hnd : (a ++ b).Nodup ∧ n ∉ a ++ b := by
        simp only [List.nodup_append, List.nodup_cons, List.mem_cons, List.mem_append] at hl ⊢
        obtain ⟨q1, ⟨q2, q3⟩, q4⟩ := hl
        refine ⟨⟨q1, q3, fun x hx y hy => q4 x hx y (.inr hy)⟩, fun h => h.elim (fun h => q4 n h n (.inl rfl) rfl) q2⟩
      have e := ih (a ++ b) hnd.1 (fun i hi => by
        have h3 := h1 i (by simp only [List.mem_append, List.mem_cons] at hi ⊢; exact hi.imp id .inr)
        have : i ≠ n := fun e => hnd.2 (e ▸ hi)
        omega) (fun i hi h0 => by
        have h3 := h2 i (by omega) h0
        simp only [List.mem_append, List.mem_cons] at h3 ⊢
        rcases h3 with h | h | h
        · exact .inl h
        · omega
        · exact .inr h)
      rw [← e]
      simp
      omega
    · have h0 : f n = 0 := by
        apply Classical.byContradiction
        intro h
        exact hn (h2 n (by omega) h)
      rw [ih l hl (fun i hi => by
        have h3 := h1 i hi
        have : i ≠ n := fun e => hn (e ▸ hi)
        omega) (fun i hi h => h2 i (by omega) h)]
      simp [h0]
theorem pend_range (d : Dk) : d.pend = ((List.range d.waits.length).map fun i => (d.at_ i).length).sum := by
  unfold Dk.pend Dk.at_
  congr 1
  apply List.ext_getElem
  · simp
  · intro i h1 h2
    simp only [List.length_map, List.length_range] at h1 h2
    simp [List.getD_eq_getElem?_getD, h1]
theorem lenSum_pend {w : World} {d : Dk} {m : List (Int × Value)} (h : WaitsAt w m d.waits) (hn : (m.map (·.1)).Nodup) : lenSum d m = d.pend := by
  rw [pend_range]
  have e : lenSum d m = ((m.map (fun q => q.1.toNat)).map fun i => (d.at_ i).length).sum := by
    rw [lenSum, List.map_map]
    rfl
  rw [e]
  refine sum_map_range _ _ _ ?_ ?_ ?_
  · have hk : ∀ q ∈ m, 0 ≤ q.1 := fun q hq => by obtain ⟨i, e, _⟩ := h.each q hq; omega
    clear e h
    induction m with
    | nil => simp
    | cons x m ih =>
      simp only [List.map_cons, List.nodup_cons] at hn ⊢
      refine ⟨fun hx => hn.1 ?_, ih hn.2 (fun q hq => hk q (by simp [hq]))⟩
      obtain ⟨y, hy, e⟩ := List.mem_map.1 hx
      have h1 := hk x (by simp)
      have h2 := hk y (by simp [hy])
      exact List.mem_map.2 ⟨y, hy, by omega⟩
  · intro i hi
    obtain ⟨q, hq, rfl⟩ := List.mem_map.1 hi
    obtain ⟨j, e, hj, _⟩ := h.each q hq
    rw [e]
    simpa using hj
  · intro i hi h0
    have : d.waits.getD i [] ≠ [] := fun e => h0 (by show (d.waits.getD i []).length = 0; rw [e]; rfl)
    obtain ⟨q, hq, e⟩ := List.mem_map.1 (h.all i this)
    exact List.mem_map.2 ⟨q, hq, by omega⟩

end Go.Proofs.YtpfbgmfkeofefaaGreat

/-
  Bytes of what lasts are turned: Spoil.
-/
namespace Go.Proofs.YtpfbgmfkeofefaaGreat
open Go Go.RowKit

theorem left_last {w : World} {p bl cap bm : Nat} {d : Dk} {m : List (Int × Value)}
    (g1 : Blk w p 93 #[.slice (some ⟨bl, 0, none⟩) d.lasts.length cap, .map (some bm), .int .i64 d.fuse, .bool d.off])
    (g2 : Own w 9 1 (.slice (some ⟨bl, 0, none⟩) d.lasts.length cap) d.lasts.length (strs d.lasts))
    (g3 : MapB intKey w bm m) (g4 : WaitsAt w m d.waits) (g5 : d.wf) (g7 : (p :: bl :: bm :: m.filterMap (·.2.ownBlock)).Nodup) (i : Nat) (b : ByteArray) (hb : b.size = 64) :
    Left w (w.setCell ⟨bl, i, none⟩ (.string b)) p { d with lasts := d.lasts.set i b } (p :: bl :: bm :: m.filterMap (·.2.ownBlock)) (p :: bl :: bm :: m.filterMap (·.2.ownBlock)) := by
  have hpl : p ≠ bl := fun e => by subst e; simp at g7
  have hml : bm ≠ bl := fun e => by subst e; simp at g7
  have hln : bl ∉ m.filterMap (·.2.ownBlock) := by
    simp only [List.nodup_cons, List.mem_cons, not_or] at g7
    exact g7.2.1.2
  refine ⟨⟨bl, cap, bm, m, ?_, ?_, g3.far hml _, g4.upd (fun k hk => Below.heap_setCell _ _ _ _ (fun e => hln (by have e' : k = bl := e; rw [← e']; exact hk))), ?_, rfl, g7⟩, (Upd.refl _ _).setCell (.inl (by simp)) _, fun _ hk => .inl hk⟩
  · have h := g1.far (p := ⟨bl, i, none⟩) hpl (.string b)
    simpa using h
  · have h := g2.stored i (.string b)
    simpa [strs, List.map_set] using h
  · refine ⟨by simpa using g5.len, by simpa using g5.pos, by simpa using g5.most, fun x hx => ?_, g5.waits, g5.fuse, g5.fuse', g5.room⟩
    rcases List.mem_or_eq_of_mem_set hx with h | rfl
    · exact g5.lasts x h
    · exact hb
theorem u8_xor (a b : UInt8) : bits .xor .u8 (a.toNat : Int) (b.toNat : Int) = ((a ^^^ b).toNat : Int) := by
  have e : bits .xor .u8 (a.toNat : Int) (b.toNat : Int) = IntKind.u8.wrap ((BitVec.ofInt 8 (a.toNat : Int) ^^^ BitVec.ofInt 8 (b.toNat : Int)).toNat : Int) := rfl
  have ha := a.toNat_lt
  have hb := b.toNat_lt
  have h := Nat.xor_lt_two_pow (n := 8) ha hb
  have e8 : ∀ x : Nat, BitVec.ofInt 8 (x : Int) = BitVec.ofNat 8 x := fun x => by simp
  rw [e, e8, e8, BitVec.toNat_xor, BitVec.toNat_ofNat, BitVec.toNat_ofNat, Nat.mod_eq_of_lt ha, Nat.mod_eq_of_lt hb, UInt8.toNat_xor]
  generalize a.toNat ^^^ b.toNat = n at *
  simp only [IntKind.wrap, IntKind.bits, IntKind.signed]
  simp
  omega
theorem bytesV_set (l : List UInt8) (j : Nat) (y : UInt8) : (bytesV l).set j (.int .u8 (y.toNat : Int)) = bytesV (l.set j y) := by simp [bytesV, List.map_set]

set_option maxRecDepth 100000 in
set_option maxHeartbeats 800000 in
theorem spoil_bad {w : World} {p : Nat} {d : Dk} {F : List Nat} (hD : DiskAt w p d F) (i a : Int) (x : ByteArray) (ha1 : -9223372036854775808 ≤ a) (ha2 : a ≤ 9223372036854775807) (hxs : x.size ≤ 9223372036854775807)
    (h : (d.there i && decide (x.size ≤ 4 ∧ 0 ≤ a ∧ a ≤ 64 - x.size)) = false) :
    Calls Tryz.prog 47 #[.pointer (some ⟨p, 0, none⟩), .int .i64 i, .int .i64 a, .string x] w fun e w' => e = .returned (.int .i64 1) ∧ w = w' := by
  have Hn := Lib.hid (none_c hD)
  have Ht := Lib.hid (there_c hD i)
  clear hD
  cases ht : d.there i with
  | false =>
    rw [ht] at Ht
    clear h ht
    go_enter Tryz.func47, Tryz.ntmps47
    go_wp2_with (first
      | (go_at_call 72; refine Hn.out.mono ?_; rintro e w' ⟨rfl, rfl⟩)
      | (go_at_call 52; refine Ht.out.mono ?_; rintro e w' ⟨rfl, rfl⟩))
    go_ret
    exact ⟨rfl, rfl⟩
  | true =>
    rw [ht] at Ht h
    rw [Bool.true_and, decide_eq_false_iff_not] at h
    clear ht
    by_cases h4 : 4 < x.size
    · have h4' : (4 : Int) < (x.size : Int) := by omega
      clear h
      go_enter Tryz.func47, Tryz.ntmps47
      go_wp2_with (first
        | (go_at_call 72; refine Hn.out.mono ?_; rintro e w' ⟨rfl, rfl⟩)
        | (go_at_call 52; refine Ht.out.mono ?_; rintro e w' ⟨rfl, rfl⟩))
      go_ret
      exact ⟨rfl, rfl⟩
    · have h4' : ¬ (4 : Int) < (x.size : Int) := by omega
      by_cases h0 : a < 0
      · clear h
        go_enter Tryz.func47, Tryz.ntmps47
        go_wp2_with (first
          | (go_at_call 72; refine Hn.out.mono ?_; rintro e w' ⟨rfl, rfl⟩)
          | (go_at_call 52; refine Ht.out.mono ?_; rintro e w' ⟨rfl, rfl⟩))
        go_ret
        exact ⟨rfl, rfl⟩
      · have h6 : 64 - (x.size : Int) < a := by omega
        have hx : (x.size : Int) ≤ 4 := by omega
        clear h
        go_enter Tryz.func47, Tryz.ntmps47
        go_wp2_with (first
          | (go_at_call 72; refine Hn.out.mono ?_; rintro e w' ⟨rfl, rfl⟩)
          | (go_at_call 52; refine Ht.out.mono ?_; rintro e w' ⟨rfl, rfl⟩))
        go_ret
        exact ⟨rfl, rfl⟩
end Go.Proofs.YtpfbgmfkeofefaaGreat

/-
  Bytes of what lasts are turned: the walk of Spoil.
-/
namespace Go.Proofs.YtpfbgmfkeofefaaGreat
open Go Go.RowKit

set_option maxRecDepth 100000 in
set_option maxHeartbeats 800000 in
theorem spoil_good {w : World} {p : Nat} {d : Dk} {F : List Nat} (hD : DiskAt w p d F) (i a : Nat) (x : ByteArray) (hi : i < d.lasts.length) (hx : x.size ≤ 4) (ha : a + x.size ≤ 64) :
    Calls Tryz.prog 47 #[.pointer (some ⟨p, 0, none⟩), .int .i64 (i : Int), .int .i64 (a : Int), .string x] w fun e w' => e = .returned (.int .i64 0) ∧
      Left w w' p { d with lasts := d.lasts.set i (str (turnK (d.last i).data.toList a x.data.toList x.size)) } F F := by
  have ht : d.there (i : Int) = true := by simp [Dk.there]; omega
  have Hn := Lib.hid (none_c hD)
  have htc := there_c hD (i : Int)
  rw [ht] at htc
  have Ht := Lib.hid htc
  obtain ⟨bl, cap, bm, m, g1, g2, g3, g4, g5, rfl, g7⟩ := hD
  have hmost := g5.most
  have hl64 : (d.last i).size = 64 := by
    unfold Dk.last
    rw [List.getD_eq_getElem?_getD, List.getElem?_eq_getElem hi]
    exact g5.lasts _ (List.getElem_mem _)
  obtain ⟨v', w1, hrun, hO, hU1, hv, hs1⟩ := run_to_bytes w (d.last i) (by unfold maxLen; omega)
  rw [hl64] at hO
  obtain ⟨g, cap', rfl, hn1, hn2⟩ := hO.head (by omega)
  have hgw : w.heap.size ≤ g := by
    have : g = w.heap.size := by simpa [Value.ownBlock] using hv
    omega
  have hc := g1.cells4
  have hcell : w.cell? ⟨bl, i, none⟩ = some (.string (d.last i)) := by
    rw [g2.cellAt i (by omega), strs_get, List.getElem?_eq_getElem hi]
    unfold Dk.last
    rw [List.getD_eq_getElem?_getD, List.getElem?_eq_getElem hi]
    rfl
  have hx4 : ¬ (4 : Int) < (x.size : Int) := by omega
  have ha0 : ¬ (a : Int) < 0 := by omega
  have ha6 : ¬ 64 - (x.size : Int) < (a : Int) := by omega
  have HG := Lib.hid (And.intro g1 (And.intro g2 (And.intro g3 (And.intro g4 (And.intro g5 g7)))))
  have HO := Lib.hid (And.intro hO (And.intro hU1 hgw))
  have HL := Lib.hid hl64
  clear g1 g2 g3 g4 g5 g7 htc ht hO hU1 hgw hs1 hv hl64
  go_enter Tryz.func47, Tryz.ntmps47
  go_wp2_with (first
    | (go_at_call 72; refine Hn.out.mono ?_; rintro e w' ⟨rfl, rfl⟩)
    | (go_at_call 52; refine Ht.out.mono ?_; rintro e w' ⟨rfl, rfl⟩))
  clear hc hcell hrun
  go_loopw [45] (fun y wr => ∃ k : Nat, k ≤ x.size ∧ y = .int .i64 k ∧ Own wr 5 1 (.slice (some ⟨g, 0, none⟩) 64 cap') 64 (bytesV (turnK (d.last i).data.toList a x.data.toList k)) ∧ Upd (fun _ => False) w wr) (fun y _ => x.size - (intOf y).toNat)
  case atStart => exact ⟨0, by omega, rfl, HO.out.1, HO.out.2.1⟩
  case round =>
    obtain ⟨k, hk, rfl, hOr, hUr⟩ := hrel
    by_cases hlt : k < x.size
    · have hlen : (turnK (d.last i).data.toList a x.data.toList k).length = 64 := by rw [turnK_len]; simpa using HL.out
      have hst : turnK (d.last i).data.toList a x.data.toList (k + 1) = (turnK (d.last i).data.toList a x.data.toList k).set (a + k) ((turnK (d.last i).data.toList a x.data.toList k).getD (a + k) 0 ^^^ x[k]) := by
        have e : x.data.toList.getD k 0 = x[k] := by simp [List.getD, hlt, ByteArray.getElem_eq_getElem_data]
        rw [turnK, e]
      have hcl : wr.cell? ⟨g, a + k, none⟩ = some (.int .u8 (((turnK (d.last i).data.toList a x.data.toList k).getD (a + k) 0).toNat : Int)) := by
        rw [hOr.cellAt (a + k) (by omega)]
        simp [bytesV, List.getD_eq_getElem?_getD, List.getElem?_eq_getElem (show a + k < (turnK (d.last i).data.toList a x.data.toList k).length by omega)]
      have hfz := hOr.frozenAt (a + k) (by omega)
      have hxr := u8_xor ((turnK (d.last i).data.toList a x.data.toList k).getD (a + k) 0) x[k]
      have hs := hOr.stored (a + k) (.int .u8 ((((turnK (d.last i).data.toList a x.data.toList k).getD (a + k) 0 ^^^ x[k]).toNat : Nat) : Int))
      rw [bytesV_set, ← hst, UInt8.toNat_xor] at hs
      rw [UInt8.toNat_xor] at hxr
      have HS := Lib.hid (And.intro hs hUr)
      have hsum : IntKind.i64.wrap ((a : Int) + (k : Int)) = (a : Int) + (k : Int) := IntWalk.i64_in _ (by omega)
      have hnn : (0 : Int) ≤ (a : Int) + (k : Int) := by omega
      have hlt6 : (a : Int) + (k : Int) < 64 := by omega
      have htn : ((a : Int) + (k : Int)).toNat = a + k := by omega
      clear hst hs hOr hUr hlen
      generalize (turnK (d.last i).data.toList a x.data.toList k).getD (a + k) 0 = y at *
      go_wp2_with fail
      go_region
      all_goals
        go_wp2_with fail
        go_roundw
        case rel => exact ⟨k + 1, by omega, by go_num, HS.out.1.drew, ((HS.out.2.setCell (p := ⟨g, a + k, none⟩) (.inr HO.out.2.2) _)).drew⟩
        case measure => simp [intOf]; omega
    · obtain rfl : k = x.size := by omega
      have hlen : (turnK (d.last i).data.toList a x.data.toList x.size).length = 64 := by rw [turnK_len]; simpa using HL.out
      have hB := HG.out.1.upd hUr (fun e => e)
      have hOl := HG.out.2.1.upd hUr (fun _ _ e => e)
      have hc := hB.cells4
      have hfz := hOl.frozenAt i (by omega)
      have hold : wr.cell? ⟨bl, i, none⟩ = some (.string (d.last i)) := by
        rw [hOl.cellAt i (by omega), strs_get, List.getElem?_eq_getElem hi]
        unfold Dk.last
        rw [List.getD_eq_getElem?_getD, List.getElem?_eq_getElem hi]
        rfl
      have hrun1 := run_to_string hOr
      have hrun2 := run_to_string hOr.drew
      generalize hT : turnK (d.last i).data.toList a x.data.toList x.size = T at *
      have HU := Lib.hid (And.intro hUr hT)
      clear hOr hB hOl hUr hT
      go_wp2_with fail
      go_region
      all_goals
        go_wp2_with fail
        go_ret
        refine ⟨rfl, ?_⟩
        obtain ⟨g1, g2, g3, g4, g5, g7⟩ := HG.out
        obtain ⟨hUr, hT⟩ := HU.out
        rw [hT]
        have hW4 : WaitsAt wr m d.waits := g4.upd fun q hq => by
          obtain ⟨z, hz, fz⟩ := List.mem_filterMap.1 hq
          obtain ⟨j, _, _, _, ho⟩ := g4.each z hz
          exact hUr.block q (ho.lt fz) (fun e => e)
        have hl := left_last (g1.upd hUr (fun e => e)) (g2.upd hUr (fun _ _ e => e)) (g3.upd hUr (fun e => e)) hW4 g5 g7 i (str T) (by rw [str_size]; exact hlen)
        refine ⟨hl.drew.disk, (hUr.mono (fun _ e => e.elim)).trans hl.upd.drew (fun _ e => e) (fun _ e => .inl e), fun q hq => .inl hq⟩

theorem spoil_c {w : World} {p : Nat} {d : Dk} {F : List Nat} (hD : DiskAt w p d F) (i a : Int) (x : ByteArray) (ha1 : -9223372036854775808 ≤ a) (ha2 : a ≤ 9223372036854775807) (hxs : x.size ≤ 9223372036854775807) :
    Calls Tryz.prog 47 #[.pointer (some ⟨p, 0, none⟩), .int .i64 i, .int .i64 a, .string x] w fun e w' => e = .returned (.int .i64 (d.spoil i a x).2) ∧ Left w w' p (d.spoil i a x).1 F F := by
  cases h : (d.there i && decide (x.size ≤ 4 ∧ 0 ≤ a ∧ a ≤ 64 - x.size)) with
  | false =>
    refine (spoil_bad hD i a x ha1 ha2 hxs h).mono ?_
    rintro e w' ⟨rfl, rfl⟩
    unfold Dk.spoil
    rw [h]
    exact ⟨rfl, Left.refl hD⟩
  | true =>
    have h' := h
    simp only [Bool.and_eq_true, decide_eq_true_eq, Dk.there] at h'
    obtain ⟨⟨h1, h2⟩, h3, h4, h5⟩ := h'
    obtain ⟨i, rfl⟩ := Int.eq_ofNat_of_zero_le h1
    obtain ⟨a, rfl⟩ := Int.eq_ofNat_of_zero_le h4
    refine (spoil_good hD i a x (by omega) h3 (by omega)).mono ?_
    rintro e w' ⟨rfl, hL⟩
    unfold Dk.spoil
    rw [h]
    exact ⟨rfl, hL⟩
end Go.Proofs.YtpfbgmfkeofefaaGreat
