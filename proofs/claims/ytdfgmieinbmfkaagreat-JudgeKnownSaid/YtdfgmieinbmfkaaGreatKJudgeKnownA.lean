/-
  Facts on the program, of the law JudgeKnown: part A.
-/
import Derived.Test.YtdfgmieinbmfkaaGreatFacts
import Derived.WalkKit
import Derived.ProofKit
import Derived.OpenShut
import Derived.ShutString
import Derived.ChangeOld
import Derived.Below
namespace Go.Proofs.YtdfgmieinbmfkaaGreat.judgeKnown
open Go Go.ChangeShapes Go.WideShapes Go.ChangeAt Go.RowKit Go.Proofs.YtdfgmieinbmfkaaGreat
open Go.ChangeMaps (open_string shut_string)
theorem k0 : Rows.judgeKnownRow.wf (OpenSpec.ofChange Rows.judgeKnownSpec) = true := by kernel_rfl
theorem k3 : Tryz.f8.params.all (Tryz.pinned.checked.prog.readableRec ·) = true := by kernel_rfl
theorem k4 : namedTie Tryz.pinned.checked.prog Rows.judgeKnownRow.named Rows.judgeKnownSpec.vars = true := by kernel_rfl
theorem k5 : (Rows.judgeKnownRow.stops == []) = true := by kernel_rfl
theorem k7 : (Rows.judgeKnownRow.knobs == []) = true := by kernel_rfl
theorem k9 : (Rows.judgeKnownRow.inPlace == Tryz.pinned.checked.prog.inPlace 8) = true := by kernel_rfl
end Go.Proofs.YtdfgmieinbmfkaaGreat.judgeKnown
