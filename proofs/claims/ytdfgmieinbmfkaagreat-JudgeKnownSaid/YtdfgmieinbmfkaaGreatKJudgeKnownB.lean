/-
  Facts on the program, of the law JudgeKnown: part B.
-/
import Derived.Test.YtdfgmieinbmfkaaGreatFacts
import Derived.WalkKit
import Derived.ProofKit
import Derived.OpenShut
import Derived.ShutString
import Derived.ChangeOld
import Derived.Below
namespace Go.Proofs.YtdfgmieinbmfkaaGreat.judgeKnown
open Go Go.ChangeShapes Go.WideShapes Go.ChangeAt Go.RowKit Go.Proofs.YtdfgmieinbmfkaaGreat
open Go.ChangeMaps (open_string shut_string)
theorem k12 : (Rows.judgeKnownRow.named == Tryz.pinned.checked.prog.varsNamed 8) = true := by kernel_rfl
end Go.Proofs.YtdfgmieinbmfkaaGreat.judgeKnown
