/-
  Bytes and texts; sectors that are closed, and what a sector is.
-/
import Derived.Test.YtnmbhoidnbideaaLittle
import Derived.Test.YtnmbhoidnbideaaSum
import Derived.Test.YtnmbhoidnbideaaShelf
import Derived.Deep.RegionWith
namespace Go.Proofs.Ytnmbhoidnbideaa
open Go Go.RowKit

def str (l : List UInt8) : ByteArray := ⟨l.toArray⟩
theorem str_list (l : List UInt8) : (str l).data.toList = l := rfl
theorem str_size (l : List UInt8) : (str l).size = l.length := by simp [str, ByteArray.size]
theorem str_eta (s : ByteArray) : str s.data.toList = s := rfl
theorem str_inj {a b : List UInt8} (h : str a = str b) : a = b := by have := congrArg (fun s => s.data.toList) h; simpa [str] using this

section
variable {w : World}
theorem strOfNums_bytes (l : List UInt8) : strOfNums (l.map fun b => ((b.toNat : Nat) : Int)) = str l := by
  unfold strOfNums str
  congr 2
  simp [List.map_map, Function.comp_def]
/-- string(b), b owned. -/
theorem run_to_string {v : Value} {n : Nat} {l : List UInt8} (h : Own w 5 1 v n (bytesV l)) : (convert 48 9 v).run Try.prog w = .ok (.string (str l)) w := by
  have hn : l.length = n := by have := h.1; simp [bytesV] at this; omega
  rcases h.2 with ⟨rfl, rfl⟩ | ⟨g, cap, cur, fr, rfl, _⟩
  · have : l = [] := List.eq_nil_of_length_eq_zero hn
    subst this
    exact run_convert_bytes_nil w _ _ Try.underlying48 Try.underlying5 0 0 _ Try.underlying9
  · rw [← strOfNums_bytes]
    refine run_convert_bytes_arg w _ _ Try.underlying48 Try.underlying5 g 0 n cap _ (by simpa using hn) (fun i hi => ?_) _ Try.underlying9
    rw [Nat.zero_add, h.cellAt i (by omega)]
    simp [bytesV, show i < l.length by omega]
/-- []byte(s). -/
theorem run_to_bytes (w : World) (s : ByteArray) (hs : s.size ≤ maxLen) :
    ∃ v' w', (convert 9 48 (.string s)).run Try.prog w = .ok v' w' ∧ Own w' 5 1 v' s.size (bytesV s.data.toList) ∧ Upd (fun _ => False) w w' ∧ v'.ownBlock = some w.heap.size ∧ w'.heap.size = w.heap.size + 1 := by
  refine ⟨_, _, Lib.run_convert_string_bytes w _ _ _ s Try.underlying9 Try.underlying48 Try.underlying5, ?_, ?_, rfl, Lib.bytesWorld_size w _ s⟩
  · have hge := grownCap_ge w s.size 0 5
    refine ⟨by simp [bytesV], .inr ⟨w.heap.size, _, _, _, rfl, Lib.bytesWorld_at_new w _ s, .inr (Nat.le_refl _), hge, grownCap_le_maxLen w _ _ _ hs, ?_, ?_⟩⟩
    · simp [Lib.bytesCells]
      omega
    · have e : ∀ k, (bytesV s.data.toList ++ List.replicate k (Value.int .u8 0)).take (s.size * 1) = bytesV s.data.toList := by
        intro k
        rw [List.take_append_of_le_length (by simp [bytesV]), List.take_of_length_le (by simp [bytesV])]
      simp only [Lib.bytesCells, Array.toList_append, Array.toList_map, Array.toList_replicate]
      exact e _
  · refine ⟨rfl, rfl, rfl, ?_, fun k hk _ => Lib.bytesWorld_at_old w _ s k hk⟩
    rw [Lib.bytesWorld_size]
    omega
end

/-- A sector of these bytes. -/
def closeL (l : List UInt8) : List UInt8 := l ++ leB (sumN l) 4
/-- What a sector is. -/
def lookL (l : List UInt8) : List UInt8 × Int :=
  if l.length ≠ 64 then ([], 2) else if l = List.replicate 64 0 then ([], 0) else if leN (l.drop 60) ≠ sumN (l.take 60) then ([], 2) else (l.take 60, 1)

theorem count_zero (l : List UInt8) : Lib.countByte l 0 = l.length ↔ l = List.replicate l.length 0 := by
  unfold Lib.countByte
  rw [List.count_eq_length, List.eq_replicate_iff]
  simp [eq_comm]

theorem below_of_drew {w w' : World} (h : Below w.drew.heap.size w.drew w') : Below w.heap.size w w' := ⟨h.os, h.tape, h.output, h.size, h.block⟩
theorem look_test (s : ByteArray) (h : s.size = 64) : IntKind.u32.wrap (leN (List.take 4 (List.take (s.size - 60) (List.drop 60 s.data.toList))) : Int) = (leN (s.data.toList.drop 60) : Int) := by
  have hl : (s.data.toList.drop 60).length = 4 := by simp [h]
  rw [List.take_of_length_le (i := 4) (by simp; omega), List.take_of_length_le (by omega)]
  have := leN_lt (s.data.toList.drop 60)
  rw [hl] at this
  rw [IntKind.wrap_u32']
  omega
theorem extract_str (s : ByteArray) (n : Nat) : s.extract 0 n = str (s.data.toList.take n) := by
  have : (s.extract 0 n).data.toList = s.data.toList.take n := by simp
  rw [← this, str_eta]
theorem extract_str_from (s : ByteArray) (n m : Nat) : s.extract n m = str ((s.data.toList.drop n).take (m - n)) := by
  have : (s.extract n m).data.toList = (s.data.toList.drop n).take (m - n) := by simp [List.take_drop]
  rw [← this, str_eta]

set_option maxRecDepth 100000 in
theorem Close_bad (s : ByteArray) (w : World) (hs : s.size ≠ 60) :
    Calls Try.prog 57 #[.string s] w fun e w' => e = .returned (.tuple #[.string ByteArray.empty, .int .i64 1]) ∧ w = w' := by
  have hb : ((s.size : Int) != 60) = true := by rw [bne_iff_ne]; omega
  go_enter Try.func57, Try.ntmps57
  go_wp2
  go_ret2
  exact ⟨rfl, rfl⟩

set_option maxRecDepth 100000 in
set_option maxHeartbeats 400000 in
theorem Close_c (s : ByteArray) (w : World) (hs : s.size = 60) :
    Calls Try.prog 57 #[.string s] w fun e w' => e = .returned (.tuple #[.string (str (closeL s.data.toList)), .int .i64 0]) ∧ Below w.heap.size w w' := by
  have hb : ((s.size : Int) != 60) = false := by rw [hs]; rfl
  have hlt := sumN_lt s.data.toList
  have hs' : s.size ≤ 9223372036854775807 := by omega
  have HC : Hid (bytesV s.data.toList ++ bytesV (leB (sumN s.data.toList) 4) = bytesV (closeL s.data.toList)) := by unfold closeL; rw [bytesV_app]; rfl
  obtain ⟨v1, w1, hrun, hown, hU, hblk, hsz⟩ := run_to_bytes w s (by unfold maxLen; omega)
  have H1 := Lib.hid (And.intro hown (And.intro hU (And.intro hblk hsz)))
  clear hs hown hU hblk hsz
  go_enter Try.func57, Try.ntmps57
  go_wp2_with fail
  refine (Sum_c _ _ hs').mono ?_
  rintro e w2 ⟨rfl, hb2⟩
  go_wp2_with fail
  obtain ⟨hown, hU, hblk, hsz⟩ := H1.out
  have hown2 : Own w2 5 1 v1 s.size (bytesV s.data.toList) := hown.eqb (fun k hk => hb2.block k (hown.lt hk))
  refine (putLittle_disk v1 s.size _ (sumN s.data.toList) 4 w2 hown2 (by omega) (by simp at hb; omega)).mono ?_
  rintro e w3 ⟨v3, rfl, hown3, hU3, hl3⟩
  rw [HC.out] at hown3
  have hs2 := hb2.size
  have HB : Hid (Below w.heap.size w w3) := by
    refine ((hU.below (fun _ h => h.elim)).trans (hb2.mono (by omega))).trans ⟨hU3.os, hU3.tape, hU3.output, hU3.size, fun k hk => hU3.block k (by omega) (fun e => ?_)⟩
    rw [hblk] at e
    have := Option.some.inj e
    omega
  have hrun3 := run_to_string hown3
  clear hown hU hblk hsz hown2 hown3 hU3 hl3 hb2 hrun hlt hs2
  go_wp2
  go_ret2
  exact ⟨rfl, HB.out⟩

set_option maxRecDepth 100000 in
set_option maxHeartbeats 800000 in
theorem Look_c (s : ByteArray) (w : World) (hs : s.size ≤ 9223372036854775807) :
    Calls Try.prog 51 #[.string s] w fun e w' => e = .returned (.tuple #[.string (str (lookL s.data.toList).1), .int .i64 (lookL s.data.toList).2]) ∧ Below w.heap.size w w' := by
  by_cases h64 : s.size = 64
  · have hb : ((s.size : Int) != 64) = false := by rw [h64]; rfl
    have hc := fun W => Try.strings_Count_one s 0 W
    by_cases hz : s.data.toList = List.replicate 64 0
    · have hl : lookL s.data.toList = ([], 0) := by unfold lookL; rw [if_neg (by simp [h64]), if_pos hz]
      have hn : Lib.countByte s.data.toList 0 = 64 := by
        have := (count_zero s.data.toList).2 (by rw [hz]; simp)
        rw [this]; simp [h64]
      rw [hl]
      simp only [hn] at hc
      have Hc := Lib.hid hc
      clear hc hn hl hz h64
      go_enter Try.func51, Try.ntmps51
      go_wp2_with (go_at_call 66; refine (Hc.out _).mono ?_; rintro e w' ⟨rfl, rfl⟩)
      go_ret2
      exact ⟨rfl, Below.refl _ _⟩
    · have hn : ((Lib.countByte s.data.toList 0 : Int) == 64) = false := by
        rw [beq_eq_false_iff_ne]
        intro h
        apply hz
        have h2 : Lib.countByte s.data.toList 0 = s.data.toList.length := by simp [h64]; omega
        have h3 := (count_zero _).1 h2
        rw [h3]
        simp [h64]
      have Hc := Lib.hid hc
      clear hc
      have H64 := Lib.hid h64
      have Hz := Lib.hid hz
      clear hz h64
      go_enter Try.func51, Try.ntmps51
      go_wp2_with (go_at_call 66; refine (Hc.out _).mono ?_; rintro e w' ⟨rfl, rfl⟩)
      have hge : 60 ≤ s.size := by rw [H64.out]; omega
      go_region_with (first
        | (go_at_call 67; refine (getLittle_disk _ 4 _ (by omega) (by rw [ByteArray.size_extract, H64.out]; omega)).mono ?_; rintro e w' ⟨rfl, rfl⟩)
        | (go_at_call 68; refine (Sum_c _ _ (by rw [ByteArray.size_extract, H64.out]; omega)).mono ?_; rintro e w' ⟨rfl, hb2⟩))
      all_goals go_wp2
      all_goals
        go_ret2
        first
          | (have ht : (IntKind.u32.wrap (leN (List.take 4 (List.take (s.size - 60) (List.drop 60 s.data.toList))) : Int) != (sumN (List.take 60 s.data.toList) : Int)) = true := by assumption
             rw [look_test s H64.out, bne_iff_ne] at ht
             refine ⟨?_, by first | exact below_of_drew hb2 | exact hb2⟩
             rw [show lookL s.data.toList = ([], 2) from by unfold lookL; rw [if_neg (by simp [H64.out]), if_neg Hz.out, if_pos (by omega)]]
             rfl)
          | (have ht : (IntKind.u32.wrap (leN (List.take 4 (List.take (s.size - 60) (List.drop 60 s.data.toList))) : Int) != (sumN (List.take 60 s.data.toList) : Int)) = false := by assumption
             rw [look_test s H64.out, bne_eq_false_iff_eq] at ht
             refine ⟨?_, by first | exact below_of_drew hb2 | exact hb2⟩
             rw [show lookL s.data.toList = (s.data.toList.take 60, 1) from by unfold lookL; rw [if_neg (by simp [H64.out]), if_neg Hz.out, if_neg (by omega)]]
             rw [← extract_str]
             rfl)
  · have hb : ((s.size : Int) != 64) = true := by rw [bne_iff_ne]; omega
    have hl : lookL s.data.toList = ([], 2) := by unfold lookL; rw [if_pos (by simpa using h64)]
    rw [hl]
    clear hl h64
    go_enter Try.func51, Try.ntmps51
    go_wp2
    go_ret2
    exact ⟨rfl, Below.refl _ _⟩
end Go.Proofs.Ytnmbhoidnbideaa
