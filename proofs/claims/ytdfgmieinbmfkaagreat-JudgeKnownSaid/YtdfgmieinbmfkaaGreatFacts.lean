/-
  Facts on the program, the same for each law.
-/
import Derived.Test.YtdfgmieinbmfkaaGreatRows
import Derived.ProofKit
namespace Go.Proofs.YtdfgmieinbmfkaaGreat
open Go Go.ChangeShapes Go.WideShapes Go.ChangeAt Go.RowKit Go.Proofs.YtdfgmieinbmfkaaGreat
theorem common1 : laidOutB Tryz.pinned.checked.prog = true := by kernel_rfl
theorem common2 : mapsRowed Tryz.pinned.checked.prog = true := by kernel_rfl
theorem common6 : (Tryz.pinned.checked.prog.stops == []) = true := by kernel_rfl
theorem common8 : (Tryz.pinned.checked.prog.stopKnobs == []) = true := by kernel_rfl
theorem common22 : (Rows.clusterKnownRow.plainKeys == Tryz.pinned.checked.prog.plainKeys) = true := by kernel_rfl
theorem common24 : Tryz.pinned.checked.prog.stopsHeard = true := by kernel_rfl
theorem common25 : Tryz.pinned.checked.prog.mayEnter = true := by kernel_rfl
theorem common26 : (Rows.clusterKnownRow.lifted == Tryz.pinned.checked.prog.liftsFinal) = true := by kernel_rfl
theorem common27 : (Tryz.pinned.checked.prog.make == some Rows.clusterKnownRow.make) = true := by kernel_rfl
theorem and_mk {a b : Bool} (ha : a = true) (hb : b = true) : (a && b) = true := by rw [ha, hb]; rfl
end Go.Proofs.YtdfgmieinbmfkaaGreat
