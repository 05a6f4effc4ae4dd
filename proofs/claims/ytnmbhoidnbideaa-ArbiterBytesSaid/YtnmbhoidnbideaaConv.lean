/-
  Bytes made texts.
-/
import Derived.Test.YtnmbhoidnbideaaClose
namespace Go.Proofs.Ytnmbhoidnbideaa
open Go Go.RowKit

theorem own_bytes (w : World) (l : List UInt8) (hl : l.length ≤ 1000000) : Own (w.alloc (.cells (bytesV l).toArray 5)) 5 1 (.slice (some ⟨w.heap.size, 0, none⟩) l.length l.length) l.length (bytesV l) := by
  refine ⟨by simp [bytesV], .inr ⟨w.heap.size, l.length, (bytesV l).toArray, (0, 0), rfl, heap_alloc_new w _, .inl rfl, Nat.le_refl _, by unfold maxLen; omega, by simp [bytesV], ?_⟩⟩
  rw [List.take_of_length_le (by simp [bytesV])]
theorem conv_one (w : World) (z : Int) (b : UInt8) (hz : z = (b.toNat : Int)) :
    (convert 48 9 (.slice (some ⟨w.heap.size, 0, none⟩) 1 1)).run Try.prog (w.alloc (.cells #[.int .u8 z] 5)) = .ok (.string (str [b])) (w.alloc (.cells #[.int .u8 z] 5)) := by
  subst hz
  exact run_to_string (own_bytes w [b] (by simp))
theorem str_add (a b : List UInt8) : str a ++ str b = str (a ++ b) := by
  apply ByteArray.ext
  simp [str]
/-- string([]byte{..}) of four bytes. -/
theorem conv_four (w : World) (a b c d : Int) (x y z u : UInt8) (ha : a = (x.toNat : Int)) (hb : b = (y.toNat : Int)) (hc : c = (z.toNat : Int)) (hd : d = (u.toNat : Int)) :
    (convert 48 9 (.slice (some ⟨w.heap.size, 0, none⟩) 4 4)).run Try.prog (w.alloc (.cells #[.int .u8 a, .int .u8 b, .int .u8 c, .int .u8 d] 5)) = .ok (.string (str [x, y, z, u])) (w.alloc (.cells #[.int .u8 a, .int .u8 b, .int .u8 c, .int .u8 d] 5)) := by
  subst ha hb hc hd
  exact run_to_string (own_bytes w [x, y, z, u] (by simp))
end Go.Proofs.Ytnmbhoidnbideaa
