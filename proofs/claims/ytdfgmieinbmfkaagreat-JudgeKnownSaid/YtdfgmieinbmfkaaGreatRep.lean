/-
  strings.Repeat of a byte.
-/
import Derived.Test.YtdfgmieinbmfkaaGreatClose
namespace Go.Proofs.YtdfgmieinbmfkaaGreat
open Go Go.RowKit

/-- n times the byte c. -/
def repB (c : UInt8) (n : Nat) : ByteArray := ⟨(Lib.repeatL (⟨#[c]⟩ : ByteArray).data.toList n).toArray⟩
theorem rep_c (c : UInt8) (n : Nat) (w : World) (hn : n ≤ 5000) :
    Calls Tryz.prog 107 #[.string ⟨#[c]⟩, .int .i64 (n : Int)] w fun e w' => e = .returned (.string (repB c n)) ∧ Upd (fun _ => False) w w' := by
  refine (Tryz.strings_Repeat ⟨#[c]⟩ n w (by omega) (by show 1 * n ≤ _; omega)).mono ?_
  rintro e w' ⟨rfl, hb⟩
  exact ⟨rfl, Upd.of_below hb _⟩

end Go.Proofs.YtdfgmieinbmfkaaGreat
