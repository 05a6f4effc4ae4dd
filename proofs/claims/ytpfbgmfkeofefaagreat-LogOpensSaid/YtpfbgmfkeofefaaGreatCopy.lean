/-
  A text copied into the head of an array of 64 bytes; the array's bytes as a text.
-/
import Derived.Test.YtpfbgmfkeofefaaGreatClose
import Derived.Test.YtpfbgmfkeofefaaGreatOps
import Derived.Lib.BufferWrite
namespace Go.Proofs.YtpfbgmfkeofefaaGreat
open Go Go.RowKit

/-- copy(b[:n], s), b an array of 64 bytes. -/
theorem run_copy64 {w : World} {g : Nat} {l0 : List UInt8} {T : TypeId} (hB : Blk w g T (bytesV l0).toArray) (h0 : l0.length = 64) (n cap : Nat) (hn : n ≤ 64) (s : ByteArray) :
    ∃ (W : World) (v : Value) (l : List UInt8), (Builtin.copy_ #[94, 9] 3 #[.slice (some ⟨g, 0, none⟩) n cap, .string s]).run Tryz.prog w = .ok v W ∧ l.length = 64 ∧ Blk W g T (bytesV l).toArray ∧ Upd (fun k => k = g) w W := by
  have hsz : (bytesV l0).toArray.size = 64 := by simp [bytesV, h0]
  have hlen : (Lib.byteCells (s.data.toList.take n)).length = Nat.min s.size n := by
    rw [Lib.byteCells_length, List.length_take, Nat.min_comm]
    simp [Nat.min_def]
  have hmn : Nat.min s.size n ≤ 64 := Nat.le_trans (Nat.min_le_right _ _) hn
  have hst := run_storeCells_at Tryz.prog g 0 T (Lib.byteCells (s.data.toList.take n)) 0 (bytesV l0).toArray w hB (by rw [hlen, hsz]; omega) (Lib.byteCells_one _)
  have htk : List.take (Nat.min s.size n) (List.map (fun b : UInt8 => Value.int IntKind.u8 (b.toNat : Int)) s.data.toList) = Lib.byteCells (s.data.toList.take n) := by
    rw [← List.map_take]
    show _ = List.map _ _
    congr 1
    by_cases h : s.size ≤ n
    · rw [show Nat.min s.size n = s.size from Nat.min_eq_left h, List.take_of_length_le (by simp), List.take_of_length_le (by simpa using h)]
    · rw [show Nat.min s.size n = n from Nat.min_eq_right (by omega)]
  rw [hlen] at hst
  simp only [Nat.add_zero, Nat.zero_add] at hst
  have hsize : (Tryz.prog.info? 5).map (·.size) = some 1 := by kernel_rfl
  refine ⟨w.setRow g (List.take 0 (bytesV l0).toArray.toList ++ Lib.byteCells (s.data.toList.take n) ++ List.drop (Nat.min s.size n) (bytesV l0).toArray.toList).toArray, goInt (Nat.min s.size n), s.data.toList.take n ++ l0.drop (Nat.min s.size n), ?_, ?_, ?_, Upd.setRow_ _ _ _⟩
  · cases hi : Tryz.prog.info? 5 with
    | none => rw [hi] at hsize; simp at hsize
    | some i =>
      simp [Builtin.copy_, run_underlying Tryz.underlying94, Builtin.lenOf, Builtin.firstCells, sizeOf, typeInfo, hi]
      rw [htk]
      simp at hst
      rw [hst]
      simp [Result.andThen]
  · rw [List.length_append, List.length_drop, h0]
    rw [Lib.byteCells_length] at hlen
    rw [hlen]
    omega
  · have e : List.take 0 (bytesV l0).toArray.toList ++ Lib.byteCells (s.data.toList.take n) ++ List.drop (Nat.min s.size n) (bytesV l0).toArray.toList = bytesV (s.data.toList.take n ++ l0.drop (Nat.min s.size n)) := by
      simp [bytesV, Lib.byteCells, List.map_drop]
    rw [e]
    exact Blk.setRow hB _
/-- The first n bytes of such an array as a text. -/
theorem run_text64 {w : World} {g : Nat} {l : List UInt8} {T : TypeId} (hB : Blk w g T (bytesV l).toArray) (hl : l.length = 64) (n cap : Nat) (hn : n ≤ 64) :
    (convert 94 9 (.slice (some ⟨g, 0, none⟩) n cap)).run Tryz.prog w = .ok (.string (str (l.take n))) w := by
  rw [← strOfNums_bytes]
  refine run_convert_bytes_arg _ _ _ Tryz.underlying94 Tryz.underlying5 _ 0 n cap _ (by simp [hl]; omega) (fun i hi => ?_) _ Tryz.underlying9
  rw [Nat.zero_add, hB.cell i]
  have h1 : i < (l.take n).length := by rw [List.length_take]; omega
  simp [bytesV, List.getD_eq_getElem?_getD, List.getElem?_take_of_lt hi, List.getElem?_eq_getElem (show i < l.length by omega)]
end Go.Proofs.YtpfbgmfkeofefaaGreat
