/-
  Facts on the program, the same for each law.
-/
import Derived.Test.YtnmbhoidnbideaaRows
import Derived.ProofKit
namespace Go.Proofs.Ytnmbhoidnbideaa
open Go Go.ChangeShapes Go.WideShapes Go.ChangeAt Go.RowKit Go.Proofs.Ytnmbhoidnbideaa
theorem common1 : laidOutB Try.pinned.checked.prog = true := by kernel_rfl
theorem common2 : mapsRowed Try.pinned.checked.prog = true := by kernel_rfl
theorem common6 : (Try.pinned.checked.prog.stops == []) = true := by kernel_rfl
theorem common8 : (Try.pinned.checked.prog.stopKnobs == []) = true := by kernel_rfl
theorem common22 : (Rows.arbiterBytesRow.plainKeys == Try.pinned.checked.prog.plainKeys) = true := by kernel_rfl
theorem common24 : Try.pinned.checked.prog.stopsHeard = true := by kernel_rfl
theorem common25 : Try.pinned.checked.prog.mayEnter = true := by kernel_rfl
theorem common26 : (Rows.arbiterBytesRow.lifted == Try.pinned.checked.prog.liftsFinal) = true := by kernel_rfl
theorem common27 : (Try.pinned.checked.prog.make == some Rows.arbiterBytesRow.make) = true := by kernel_rfl
theorem and_mk {a b : Bool} (ha : a = true) (hb : b = true) : (a && b) = true := by rw [ha, hb]; rfl
end Go.Proofs.Ytnmbhoidnbideaa
