/-
  Facts on the program, of the law ClusterNobody: part A.
-/
import Derived.Test.YtdfgmieinbmfkaaGreatFacts
import Derived.WalkKit
import Derived.ProofKit
import Derived.OpenShut
import Derived.ShutString
import Derived.ChangeOld
import Derived.Below
namespace Go.Proofs.YtdfgmieinbmfkaaGreat.clusterNobody
open Go Go.ChangeShapes Go.WideShapes Go.ChangeAt Go.RowKit Go.Proofs.YtdfgmieinbmfkaaGreat
open Go.ChangeMaps (open_string shut_string)
theorem k0 : Rows.clusterNobodyRow.wf (OpenSpec.ofChange Rows.clusterNobodySpec) = true := by kernel_rfl
theorem k3 : Tryz.f5.params.all (Tryz.pinned.checked.prog.readableRec ·) = true := by kernel_rfl
theorem k4 : namedTie Tryz.pinned.checked.prog Rows.clusterNobodyRow.named Rows.clusterNobodySpec.vars = true := by kernel_rfl
theorem k5 : (Rows.clusterNobodyRow.stops == []) = true := by kernel_rfl
theorem k7 : (Rows.clusterNobodyRow.knobs == []) = true := by kernel_rfl
theorem k9 : (Rows.clusterNobodyRow.inPlace == Tryz.pinned.checked.prog.inPlace 5) = true := by kernel_rfl
end Go.Proofs.YtdfgmieinbmfkaaGreat.clusterNobody
