/-
  Facts on the program, of the law ClusterNobody: part B.
-/
import Derived.Test.YtdfgmieinbmfkaaGreatFacts
import Derived.WalkKit
import Derived.ProofKit
import Derived.OpenShut
import Derived.ShutString
import Derived.ChangeOld
import Derived.Below
namespace Go.Proofs.YtdfgmieinbmfkaaGreat.clusterNobody
open Go Go.ChangeShapes Go.WideShapes Go.ChangeAt Go.RowKit Go.Proofs.YtdfgmieinbmfkaaGreat
open Go.ChangeMaps (open_string shut_string)
theorem k12 : (Rows.clusterNobodyRow.named == Tryz.pinned.checked.prog.varsNamed 5) = true := by kernel_rfl
end Go.Proofs.YtdfgmieinbmfkaaGreat.clusterNobody
