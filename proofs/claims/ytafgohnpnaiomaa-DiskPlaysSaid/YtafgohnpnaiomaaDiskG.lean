/-
  Bytes of what lasts are turned: the walk of Spoil.
-/
import Derived.Test.YtafgohnpnaiomaaDiskF
namespace Go.Proofs.Ytafgohnpnaiomaa
open Go Go.RowKit

set_option maxRecDepth 100000 in
set_option maxHeartbeats 800000 in
theorem spoil_good {w : World} {p : Nat} {d : Dk} {F : List Nat} (hD : DiskAt w p d F) (i a : Nat) (x : ByteArray) (hi : i < d.lasts.length) (hx : x.size ≤ 4) (ha : a + x.size ≤ 64) :
    Calls Try.prog 35 #[.pointer (some ⟨p, 0, none⟩), .int .i64 (i : Int), .int .i64 (a : Int), .string x] w fun e w' => e = .returned (.int .i64 0) ∧
      Left w w' p { d with lasts := d.lasts.set i (str (turnK (d.last i).data.toList a x.data.toList x.size)) } F F := by
  have ht : d.there (i : Int) = true := by simp [Dk.there]; omega
  have Hn := Lib.hid (none_c hD)
  have htc := there_c hD (i : Int)
  rw [ht] at htc
  have Ht := Lib.hid htc
  obtain ⟨bl, cap, bm, m, g1, g2, g3, g4, g5, rfl, g7⟩ := hD
  have hmost := g5.most
  have hl64 : (d.last i).size = 64 := by
    unfold Dk.last
    rw [List.getD_eq_getElem?_getD, List.getElem?_eq_getElem hi]
    exact g5.lasts _ (List.getElem_mem _)
  obtain ⟨v', w1, hrun, hO, hU1, hv, hs1⟩ := run_to_bytes w (d.last i) (by unfold maxLen; omega)
  rw [hl64] at hO
  obtain ⟨g, cap', rfl, hn1, hn2⟩ := hO.head (by omega)
  have hgw : w.heap.size ≤ g := by
    have : g = w.heap.size := by simpa [Value.ownBlock] using hv
    omega
  have hc := g1.cells4
  have hcell : w.cell? ⟨bl, i, none⟩ = some (.string (d.last i)) := by
    rw [g2.cellAt i (by omega), strs_get, List.getElem?_eq_getElem hi]
    unfold Dk.last
    rw [List.getD_eq_getElem?_getD, List.getElem?_eq_getElem hi]
    rfl
  have hx4 : ¬ (4 : Int) < (x.size : Int) := by omega
  have ha0 : ¬ (a : Int) < 0 := by omega
  have ha6 : ¬ 64 - (x.size : Int) < (a : Int) := by omega
  have HG := Lib.hid (And.intro g1 (And.intro g2 (And.intro g3 (And.intro g4 (And.intro g5 g7)))))
  have HO := Lib.hid (And.intro hO (And.intro hU1 hgw))
  have HL := Lib.hid hl64
  clear g1 g2 g3 g4 g5 g7 htc ht hO hU1 hgw hs1 hv hl64
  go_enter Try.func35, Try.ntmps35
  go_wp2_with (first
    | (go_at_call 84; refine Hn.out.mono ?_; rintro e w' ⟨rfl, rfl⟩)
    | (go_at_call 76; refine Ht.out.mono ?_; rintro e w' ⟨rfl, rfl⟩))
  clear hc hcell hrun
  go_loopw [45] (fun y wr => ∃ k : Nat, k ≤ x.size ∧ y = .int .i64 k ∧ Own wr 5 1 (.slice (some ⟨g, 0, none⟩) 64 cap') 64 (bytesV (turnK (d.last i).data.toList a x.data.toList k)) ∧ Upd (fun _ => False) w wr) (fun y _ => x.size - (intOf y).toNat)
  case atStart => exact ⟨0, by omega, rfl, HO.out.1, HO.out.2.1⟩
  case round =>
    obtain ⟨k, hk, rfl, hOr, hUr⟩ := hrel
    by_cases hlt : k < x.size
    · have hlen : (turnK (d.last i).data.toList a x.data.toList k).length = 64 := by rw [turnK_len]; simpa using HL.out
      have hst : turnK (d.last i).data.toList a x.data.toList (k + 1) = (turnK (d.last i).data.toList a x.data.toList k).set (a + k) ((turnK (d.last i).data.toList a x.data.toList k).getD (a + k) 0 ^^^ x[k]) := by
        have e : x.data.toList.getD k 0 = x[k] := by simp [List.getD, hlt, ByteArray.getElem_eq_getElem_data]
        rw [turnK, e]
      have hcl : wr.cell? ⟨g, a + k, none⟩ = some (.int .u8 (((turnK (d.last i).data.toList a x.data.toList k).getD (a + k) 0).toNat : Int)) := by
        rw [hOr.cellAt (a + k) (by omega)]
        simp [bytesV, List.getD_eq_getElem?_getD, List.getElem?_eq_getElem (show a + k < (turnK (d.last i).data.toList a x.data.toList k).length by omega)]
      have hfz := hOr.frozenAt (a + k) (by omega)
      have hxr := u8_xor ((turnK (d.last i).data.toList a x.data.toList k).getD (a + k) 0) x[k]
      have hs := hOr.stored (a + k) (.int .u8 ((((turnK (d.last i).data.toList a x.data.toList k).getD (a + k) 0 ^^^ x[k]).toNat : Nat) : Int))
      rw [bytesV_set, ← hst, UInt8.toNat_xor] at hs
      rw [UInt8.toNat_xor] at hxr
      have HS := Lib.hid (And.intro hs hUr)
      have hsum : IntKind.i64.wrap ((a : Int) + (k : Int)) = (a : Int) + (k : Int) := IntWalk.i64_in _ (by omega)
      have hnn : (0 : Int) ≤ (a : Int) + (k : Int) := by omega
      have hlt6 : (a : Int) + (k : Int) < 64 := by omega
      have htn : ((a : Int) + (k : Int)).toNat = a + k := by omega
      clear hst hs hOr hUr hlen
      generalize (turnK (d.last i).data.toList a x.data.toList k).getD (a + k) 0 = y at *
      go_wp2_with fail
      go_region
      all_goals
        go_wp2_with fail
        go_roundw
        case rel => exact ⟨k + 1, by omega, by go_num, HS.out.1.drew, ((HS.out.2.setCell (p := ⟨g, a + k, none⟩) (.inr HO.out.2.2) _)).drew⟩
        case measure => simp [intOf]; omega
    · obtain rfl : k = x.size := by omega
      have hlen : (turnK (d.last i).data.toList a x.data.toList x.size).length = 64 := by rw [turnK_len]; simpa using HL.out
      have hB := HG.out.1.upd hUr (fun e => e)
      have hOl := HG.out.2.1.upd hUr (fun _ _ e => e)
      have hc := hB.cells4
      have hfz := hOl.frozenAt i (by omega)
      have hold : wr.cell? ⟨bl, i, none⟩ = some (.string (d.last i)) := by
        rw [hOl.cellAt i (by omega), strs_get, List.getElem?_eq_getElem hi]
        unfold Dk.last
        rw [List.getD_eq_getElem?_getD, List.getElem?_eq_getElem hi]
        rfl
      have hrun1 := run_to_string hOr
      have hrun2 := run_to_string hOr.drew
      generalize hT : turnK (d.last i).data.toList a x.data.toList x.size = T at *
      have HU := Lib.hid (And.intro hUr hT)
      clear hOr hB hOl hUr hT
      go_wp2_with fail
      go_region
      all_goals
        go_wp2_with fail
        go_ret
        refine ⟨rfl, ?_⟩
        obtain ⟨g1, g2, g3, g4, g5, g7⟩ := HG.out
        obtain ⟨hUr, hT⟩ := HU.out
        rw [hT]
        have hW4 : WaitsAt wr m d.waits := g4.upd fun q hq => by
          obtain ⟨z, hz, fz⟩ := List.mem_filterMap.1 hq
          obtain ⟨j, _, _, _, ho⟩ := g4.each z hz
          exact hUr.block q (ho.lt fz) (fun e => e)
        have hl := left_last (g1.upd hUr (fun e => e)) (g2.upd hUr (fun _ _ e => e)) (g3.upd hUr (fun e => e)) hW4 g5 g7 i (str T) (by rw [str_size]; exact hlen)
        refine ⟨hl.drew.disk, (hUr.mono (fun _ e => e.elim)).trans hl.upd.drew (fun _ e => e) (fun _ e => .inl e), fun q hq => .inl hq⟩

theorem spoil_c {w : World} {p : Nat} {d : Dk} {F : List Nat} (hD : DiskAt w p d F) (i a : Int) (x : ByteArray) (ha1 : -9223372036854775808 ≤ a) (ha2 : a ≤ 9223372036854775807) (hxs : x.size ≤ 9223372036854775807) :
    Calls Try.prog 35 #[.pointer (some ⟨p, 0, none⟩), .int .i64 i, .int .i64 a, .string x] w fun e w' => e = .returned (.int .i64 (d.spoil i a x).2) ∧ Left w w' p (d.spoil i a x).1 F F := by
  cases h : (d.there i && decide (x.size ≤ 4 ∧ 0 ≤ a ∧ a ≤ 64 - x.size)) with
  | false =>
    refine (spoil_bad hD i a x ha1 ha2 hxs h).mono ?_
    rintro e w' ⟨rfl, rfl⟩
    unfold Dk.spoil
    rw [h]
    exact ⟨rfl, Left.refl hD⟩
  | true =>
    have h' := h
    simp only [Bool.and_eq_true, decide_eq_true_eq, Dk.there] at h'
    obtain ⟨⟨h1, h2⟩, h3, h4, h5⟩ := h'
    obtain ⟨i, rfl⟩ := Int.eq_ofNat_of_zero_le h1
    obtain ⟨a, rfl⟩ := Int.eq_ofNat_of_zero_le h4
    refine (spoil_good hD i a x (by omega) h3 (by omega)).mono ?_
    rintro e w' ⟨rfl, hL⟩
    unfold Dk.spoil
    rw [h]
    exact ⟨rfl, hL⟩
end Go.Proofs.Ytafgohnpnaiomaa
