/-
  A record cut into parts.
-/
import Derived.Test.YtnmbhoidnbideaaKeptA
namespace Go.Proofs.Ytnmbhoidnbideaa
open Go Go.RowKit

def allOf (n : Nat) : Nat := max ((n + 47) / 48) 1
/-- A record's parts. -/
def cutL (text : List UInt8) (gen : Nat) : List Pt := (List.range (allOf text.length)).map fun i => ⟨gen, i, allOf text.length, (text.drop (48 * i)).take 48⟩
def partsV (l : List Pt) : List Value := l.flatMap Pt.cells
theorem partsV_len (l : List Pt) : (partsV l).length = l.length * 4 := by
  induction l with
  | nil => rfl
  | cons p l ih => simp only [partsV, List.flatMap_cons, List.length_append, List.length_cons] at ih ⊢; rw [ih]; simp [Pt.cells]; omega
theorem partsV_one (l : List Pt) : ∀ u ∈ partsV l, u.oneCell' = true := by
  intro u hu
  obtain ⟨p, _, hp⟩ := List.mem_flatMap.1 hu
  simp only [Pt.cells, List.mem_cons, List.not_mem_nil, or_false] at hp
  rcases hp with rfl | rfl | rfl | rfl <;> rfl
theorem cutL_len (text : List UInt8) (gen : Nat) : (cutL text gen).length = allOf text.length := by simp [cutL]
theorem infoPart : (Try.prog.info? 81).map (fun i => (i.zero, i.size, i.bytes)) = some (some (.agg #[.int .u64 0, .int .i64 0, .int .i64 0, .string ByteArray.empty]), 4, 40) := by kernel_rfl

set_option maxRecDepth 100000 in
set_option maxHeartbeats 800000 in
theorem cut_c (s : ByteArray) (gen : Nat) (w : World) (hs : s.size ≤ 100000) :
    Calls Try.prog 32 #[.string s, .int .u64 (gen : Int)] w fun e w' => ∃ v, e = .returned v ∧ Own w' 81 4 v (allOf s.size) (partsV (cutL s.data.toList gen)) ∧ Below w.heap.size w w' ∧ (∀ q, v.ownBlock = some q → w.heap.size ≤ q) := by
  obtain ⟨i0, hi0, hz0, hz1, hz2⟩ := info_parts infoPart
  have HA : Hid (allOf s.size = max ((s.size + 47) / 48) 1) := rfl
  have hA1 : 1 ≤ allOf s.size := by rw [HA.out]; omega
  have hA2 : 48 * (allOf s.size - 1) ≤ s.size := by rw [HA.out]; omega
  have hA3 : s.size ≤ 48 * allOf s.size := by rw [HA.out]; omega
  have hmax : ((allOf s.size : Nat) : Int) = max (((s.size : Int) + 48 - 1) / 48) 1 := by rw [HA.out]; omega
  have HM := Lib.hid hmax
  clear hmax
  go_enter Try.func32, Try.ntmps32
  go_wp2_with fail
  rw [← HM.out]
  have HC : Hid (∀ k, k ≤ allOf s.size → (cutL s.data.toList gen).take k = (List.range k).map fun i => (⟨gen, i, allOf s.size, (s.data.toList.drop (48 * i)).take 48⟩ : Pt)) := by
    intro k hk
    have e : s.data.toList.length = s.size := by simp
    rw [cutL, e, ← List.map_take, List.take_range, Nat.min_eq_left hk]
  go_loopw [6, 15] (fun v i wr => ∃ k : Nat, k ≤ allOf s.size ∧ i = .int .i64 k ∧ Own wr 81 4 v k (partsV ((cutL s.data.toList gen).take k)) ∧ Below w.heap.size w wr ∧ (∀ q, v.ownBlock = some q → w.heap.size ≤ q)) (fun _ i _ => allOf s.size - (intOf i).toNat)
  case atStart => exact ⟨0, by omega, rfl, by simpa [partsV] using Own.nil _ _ _, Below.refl _ _, by simp [Value.ownBlock]⟩
  case round =>
    obtain ⟨k, hk, rfl, hO, hb, hl⟩ := hrel
    by_cases hlt : k < allOf s.size
    · have HX := Lib.hid (And.intro hb hl)
      have hk48 : 48 * k ≤ s.size := by omega
      clear hb hl
      have key : ∀ (wx : World) (v2 : Value) (w2 : World) (x : Value), Own w2 81 4 v2 (k + 1) (partsV ((cutL s.data.toList gen).take k) ++ Pt.cells ⟨gen, k, allOf s.size, (s.data.toList.drop (48 * k)).take 48⟩) → Upd (fun q => u6.ownBlock = some q) (wr.alloc (.cells x.cells 81)) w2 →
          (v2.ownBlock = u6.ownBlock ∨ v2.ownBlock = some (wr.alloc (.cells x.cells 81)).heap.size) →
          Own w2 81 4 v2 (k + 1) (partsV ((cutL s.data.toList gen).take (k + 1))) ∧ Below w.heap.size w w2 ∧ (∀ q, v2.ownBlock = some q → w.heap.size ≤ q) := by
        intro wx v2 w2 x h1 h2 h3
        obtain ⟨hb, hl⟩ := HX.out
        refine ⟨?_, (hb.alloc hb.size _).trans ⟨h2.os, h2.tape, h2.output, h2.size, fun q hq => h2.block q (by have := hb.size; simp; omega) (fun e => by have := hl q e; omega)⟩, fun q hq => ?_⟩
        · rw [HC.out (k + 1) (by omega), List.range_succ, List.map_append, ← HC.out k (by omega)]
          simpa [partsV] using h1
        · rcases h3 with h | h
          · exact hl q (by rw [← h]; exact hq)
          · rw [h] at hq
            have h5 := Option.some.inj hq
            have := hb.size
            simp at h5
            omega
      have Key := Lib.hid key
      have hcell : Hid (([.int .u64 (gen : Int), .int .i64 (k : Int), .int .i64 (allOf s.size : Int), .string (s.extract (k * 48) (min (((k : Int) + 1) * 48) (s.size : Int)).toNat)] : List Value) = Pt.cells ⟨gen, k, allOf s.size, (s.data.toList.drop (48 * k)).take 48⟩) := by
        show _ = _
        rw [Pt.cells, extract_str_from]
        have e : ((s.data.toList.drop (k * 48)).take ((min (((k : Int) + 1) * 48) (s.size : Int)).toNat - k * 48)) = (s.data.toList.drop (48 * k)).take 48 := by
          rw [Nat.mul_comm k 48]
          by_cases hin : 48 * k + 48 ≤ s.size
          · rw [show (min (((k : Int) + 1) * 48) (s.size : Int)).toNat - 48 * k = 48 by omega]
          · rw [show (min (((k : Int) + 1) * 48) (s.size : Int)).toNat - 48 * k = s.size - 48 * k by omega, List.take_of_length_le (by simp), List.take_of_length_le (by simp; omega)]
        rw [e]
      clear HA HM key
      go_wp2_with (at_builtin; refine wpList_append_src rfl _ _ _ _ rfl 81 i0 _ 4 40 Try.underlying75 hi0 hz0 hz1 hz2 rfl u6 k _ rfl (hO.alloc _) _ 1 [_, _, _, _] rfl (Src.of_news Try.underlying75 _ rfl) (by simp [Value.oneCell']) (by unfold maxLen; omega) (by omega) ?_; intro v2 w2 hO2 hU2 hl2 hs2)
      rw [hcell.out] at hO2
      obtain ⟨k1, k2, k3⟩ := Key.out wr v2 w2 (.agg #[.int .u64 (gen : Int), .int .i64 (k : Int), .int .i64 (allOf s.size : Int), .string (s.extract (k * 48) (min (((k : Int) + 1) * 48) (s.size : Int)).toNat)]) hO2 hU2 hl2
      go_roundw
      case rel => exact ⟨k + 1, by omega, by go_num, k1, k2, k3⟩
      case measure => simp [intOf]; omega
    · obtain rfl : k = allOf s.size := by omega
      have HX := Lib.hid (And.intro hO (And.intro hb hl))
      clear hO hb hl
      go_wp2
      go_ret
      obtain ⟨hO, hb, hl⟩ := HX.out
      rw [List.take_of_length_le (by rw [cutL_len]; simp)] at hO
      exact ⟨u6, rfl, hO, hb, hl⟩
end Go.Proofs.Ytnmbhoidnbideaa
