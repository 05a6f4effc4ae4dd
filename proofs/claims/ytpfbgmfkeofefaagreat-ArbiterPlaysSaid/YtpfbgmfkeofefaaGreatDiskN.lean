/-
  The disk's New.
-/
import Derived.Test.YtpfbgmfkeofefaaGreatDiskA
import Derived.Test.YtpfbgmfkeofefaaGreatClose
namespace Go.Proofs.YtpfbgmfkeofefaaGreat
open Go Go.RowKit

def zeros64 : ByteArray := str (List.replicate 64 0)
theorem zeros64_size : zeros64.size = 64 := by unfold zeros64; rw [str_size]; simp
namespace Dk
/-- A new disk of n sectors. -/
def fresh (n : Nat) : Dk := { lasts := List.replicate n zeros64, waits := List.replicate n [], fuse := -1, off := false }
theorem fresh_wf (n : Nat) (h1 : 1 ≤ n) (h2 : n ≤ 4096) : (fresh n).wf := by
  refine ⟨by simp [fresh], by simpa [fresh] using h1, by simpa [fresh] using h2, ?_, ?_, by simp [fresh], by simp [fresh], ?_⟩
  · intro b hb
    have := List.eq_of_mem_replicate hb
    rw [this]
    exact zeros64_size
  · intro l hl b hb
    have := List.eq_of_mem_replicate hl
    rw [this] at hb
    simp at hb
  · simp [fresh, pend]
end Dk

theorem repeat_zeros : (⟨(Lib.repeatL (⟨#[0]⟩ : ByteArray).data.toList 64).toArray⟩ : ByteArray) = zeros64 := by decide +kernel

set_option maxRecDepth 100000 in
theorem New_bad (n : Int) (w : World) (h : n < 1 ∨ 4096 < n) :
    Calls Tryz.prog 9 #[.int .i64 n] w fun e w' => e = .returned (.tuple #[.pointer none, .int .i64 1]) ∧ w = w' := by
  by_cases h1 : n < 1
  · go_enter Tryz.func9, Tryz.ntmps9
    go_wp2
    go_ret2
    exact ⟨rfl, rfl⟩
  · have h2 : 4096 < n := by omega
    clear h
    go_enter Tryz.func9, Tryz.ntmps9
    go_wp2
    go_ret2
    exact ⟨rfl, rfl⟩

set_option maxRecDepth 100000 in
set_option maxHeartbeats 400000 in
theorem New_c (n : Nat) (w : World) (h1 : 1 ≤ n) (h2 : n ≤ 4096) :
    Calls Tryz.prog 9 #[.int .i64 (n : Int)] w fun e w' => ∃ p F, e = .returned (.tuple #[.pointer (some ⟨p, 0, none⟩), .int .i64 0]) ∧ DiskAt w' p (Dk.fresh n) F ∧ Upd (fun _ => False) w w' ∧ (∀ k ∈ F, w.heap.size ≤ k) := by
  have hrep := fun W => Tryz.strings_Repeat ⟨#[0]⟩ 64 W (by omega) (by show 1 * 64 ≤ _; omega)
  rw [repeat_zeros] at hrep
  have Hr := Lib.hid hrep
  have hmm := @run_makeMap Tryz.prog
  obtain ⟨i0, hi0, hz0, hz1, hz2⟩ := info_parts infoStr
  clear hrep
  go_enter Tryz.func9, Tryz.ntmps9
  go_wp2_with fail
  refine (Hr.out _).mono ?_
  rintro e w1 ⟨rfl, hb1⟩
  have hB1 : Blk w1 (w.heap.size + 1) 93 #[.slice none 0 0, .map (some w.heap.size), .int .i64 (-1), .bool false] := (hb1.block (w.heap.size + 1) (by simp)).trans (by
    have := heap_alloc_new (w.alloc (.map #[] 0)) (.cells #[.slice none 0 0, .map (some w.heap.size), .int .i64 (-1), .bool false] 93)
    simpa using this)
  have hM1 : MapB intKey w1 w.heap.size [] := ((MapB.new w).alloc _).eqb (hb1.block w.heap.size (by simp; omega))
  have hU1 : Upd (fun _ => False) w w1 := (((Upd.refl _ w).alloc _).alloc _).then (Upd.of_below hb1 (fun _ => False)) (fun _ h => h.elim)
  have H1 := Lib.hid (And.intro hB1 (And.intro hM1 hU1))
  clear hB1 hM1 hU1 hb1 hmm Hr
  go_wp2_with fail
  go_loopw [17] (fun i wr => ∃ (k : Nat) (v : Value), k ≤ n ∧ i = .int .i64 k ∧ Blk wr (w.heap.size + 1) 93 #[v, .map (some w.heap.size), .int .i64 (-1), .bool false] ∧ Own wr 9 1 v k (strs (List.replicate k zeros64)) ∧ MapB intKey wr w.heap.size [] ∧ Upd (fun _ => False) w wr ∧ (∀ q, v.ownBlock = some q → w.heap.size ≤ q)) (fun i _ => n - (intOf i).toNat)
  case atStart => exact ⟨0, .slice none 0 0, by omega, rfl, H1.out.1, Own.nil _ _ _, H1.out.2.1, H1.out.2.2, by simp [Value.ownBlock]⟩
  case round =>
    obtain ⟨k, v, hk, rfl, hB, hO, hM, hU, hl⟩ := hrel
    clear H1
    by_cases hlt : k < n
    · have hc := hB.cells4
      have hsz := hU.size
      have hlB := hB.lt
      have HX := Lib.hid (And.intro hB (And.intro hM (And.intro hU hl)))
      have hvp := hO.ne_blk hB (by decide)
      have hvm := hO.ne_map hM
      have HV := Lib.hid (And.intro hvp hvm)
      clear hB hM hU hl hvp hvm
      go_wp2_with (first
        | (at_builtin
           refine wpList_append_src rfl _ _ _ _ rfl 9 i0 _ 1 16 Tryz.underlying30 hi0 hz0 hz1 hz2 rfl v k _ rfl (hO.alloc _) _ 1 [_] rfl (Src.of_new Tryz.underlying30 _) (by simp [Value.oneCell']) (by unfold maxLen; omega) (by omega) ?_
           intro v' w2 hO2 hU2 hl2 hs2
           have hB2 := (HX.out.1.alloc (.cells #[.string zeros64] 9)).upd hU2 HV.out.1
           have H2 := Lib.hid (And.intro hO2 (And.intro hU2 hl2))
           have hone := hO2.one
           clear hO2 hU2 hl2 hs2 hc)
        | (refine wpList_store_one rfl 30 _ _ rfl (w.heap.size + 1) 0 v' rfl rfl _ _ hB2 (by simp) hone (by kernel_rfl) ?_
           intro w3 hB3 hU3 hs3))
      obtain ⟨hO2, hU2, hl2⟩ := H2.out
      obtain ⟨hB, hM, hU, hl⟩ := HX.out
      have hO3 := hO2.upd hU3 (fun q hq e => hO2.ne_blk hB2 (by decide) (by rw [← e]; exact hq))
      have hM2 := (hM.alloc (.cells #[.string zeros64] 9)).upd hU2 HV.out.2
      have hM3 := hM2.upd hU3 (fun e => by have := hM2.ne_blk hB2; omega)
      have hU4 : Upd (fun _ => False) w w3 := (hU.alloc _).then (Upd.trans (H := fun q => v.ownBlock = some q ∨ q = w.heap.size + 1) hU2 hU3 (fun q h => .inl h) (fun q h => .inl (.inr h))) (fun q h => .inr (h.elim (fun h => hl q h) (fun h => by omega)))
      go_roundw
      case rel =>
        refine ⟨k + 1, v', by omega, by go_num, hB3, ?_, hM3, hU4, fun q hq => ?_⟩
        · rw [List.replicate_succ']
          simpa [strs] using hO3
        · rcases hl2 with h | h
          · exact hl q (by rw [← h]; exact hq)
          · rw [h] at hq
            have := Option.some.inj hq
            simp at this
            omega
      case measure => simp [intOf]; omega
    · obtain rfl : k = n := by omega
      obtain ⟨g, cap, rfl, hnc, hcm⟩ := hO.head (by omega)
      go_wp2
      go_ret2
      refine ⟨w.heap.size + 1, [w.heap.size + 1, g, w.heap.size], rfl, ⟨g, cap, w.heap.size, [], ?_, ?_, hM, ⟨fun q hq => by simp at hq, fun i hi => ?_⟩, Dk.fresh_wf k h1 h2, rfl, ?_⟩, hU, fun q hq => ?_⟩
      · simpa [Dk.fresh] using hB
      · simpa [Dk.fresh] using hO
      · exfalso
        apply hi
        simp only [Dk.fresh, List.getD_eq_getElem?_getD, List.getElem?_replicate]
        split <;> rfl
      · have h1 : g ≠ w.heap.size + 1 := fun e => hO.ne_blk hB (by decide) (by simp [Value.ownBlock, e])
        have h2 : g ≠ w.heap.size := fun e => hO.ne_map hM (by simp [Value.ownBlock, e])
        simp only [List.nodup_cons, List.mem_cons, List.not_mem_nil, or_false, not_or, not_false_eq_true, List.nodup_nil, and_true]
        exact ⟨⟨Ne.symm h1, by omega⟩, h2⟩
      · have := hl g (by simp [Value.ownBlock])
        simp only [List.mem_cons, List.not_mem_nil, or_false] at hq
        omega
end Go.Proofs.YtpfbgmfkeofefaaGreat
