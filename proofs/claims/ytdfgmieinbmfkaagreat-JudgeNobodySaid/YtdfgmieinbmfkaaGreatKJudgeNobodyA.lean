/-
  Facts on the program, of the law JudgeNobody: part A.
-/
import Derived.Test.YtdfgmieinbmfkaaGreatFacts
import Derived.WalkKit
import Derived.ProofKit
import Derived.OpenShut
import Derived.ShutString
import Derived.ChangeOld
import Derived.Below
namespace Go.Proofs.YtdfgmieinbmfkaaGreat.judgeNobody
open Go Go.ChangeShapes Go.WideShapes Go.ChangeAt Go.RowKit Go.Proofs.YtdfgmieinbmfkaaGreat
open Go.ChangeMaps (open_string shut_string)
theorem k0 : Rows.judgeNobodyRow.wf (OpenSpec.ofChange Rows.judgeNobodySpec) = true := by kernel_rfl
theorem k3 : Tryz.f9.params.all (Tryz.pinned.checked.prog.readableRec ·) = true := by kernel_rfl
theorem k4 : namedTie Tryz.pinned.checked.prog Rows.judgeNobodyRow.named Rows.judgeNobodySpec.vars = true := by kernel_rfl
theorem k5 : (Rows.judgeNobodyRow.stops == []) = true := by kernel_rfl
theorem k7 : (Rows.judgeNobodyRow.knobs == []) = true := by kernel_rfl
theorem k9 : (Rows.judgeNobodyRow.inPlace == Tryz.pinned.checked.prog.inPlace 9) = true := by kernel_rfl
end Go.Proofs.YtdfgmieinbmfkaaGreat.judgeNobody
