/-
  Facts on the program, of the law JudgeKnown: part D.
-/
import Derived.Test.YtdfgmieinbmfkaaGreatFacts
import Derived.WalkKit
import Derived.ProofKit
import Derived.OpenShut
import Derived.ShutString
import Derived.ChangeOld
import Derived.Below
namespace Go.Proofs.YtdfgmieinbmfkaaGreat.judgeKnown
open Go Go.ChangeShapes Go.WideShapes Go.ChangeAt Go.RowKit Go.Proofs.YtdfgmieinbmfkaaGreat
open Go.ChangeMaps (open_string shut_string)
theorem k10 : (Rows.judgeKnownRow.unfollowed == Tryz.pinned.checked.prog.unfollowed 8) = true := by kernel_rfl
theorem k11 : (Rows.judgeKnownRow.recurses == Tryz.pinned.checked.prog.recurses 8) = true := by kernel_rfl
end Go.Proofs.YtdfgmieinbmfkaaGreat.judgeKnown
