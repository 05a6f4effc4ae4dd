/-
  Facts on the program, of the law JudgeNobody: part C.
-/
import Derived.Test.YtdfgmieinbmfkaaGreatFacts
import Derived.WalkKit
import Derived.ProofKit
import Derived.OpenShut
import Derived.ShutString
import Derived.ChangeOld
import Derived.Below
namespace Go.Proofs.YtdfgmieinbmfkaaGreat.judgeNobody
open Go Go.ChangeShapes Go.WideShapes Go.ChangeAt Go.RowKit Go.Proofs.YtdfgmieinbmfkaaGreat
open Go.ChangeMaps (open_string shut_string)
theorem k13 : (Rows.judgeNobodyRow.maps == (Tryz.f9.params.toList ++ Rows.judgeNobodySpec.plain.varTypes Tryz.pinned.checked.prog).any (Tryz.pinned.checked.prog.mapsRec ·)) = true := by kernel_rfl
theorem k14 : (Rows.judgeNobodyRow.ifaces == (Tryz.f9.params.toList ++ Rows.judgeNobodySpec.plain.varTypes Tryz.pinned.checked.prog).any (Tryz.pinned.checked.prog.ifacesRec ·)) = true := by kernel_rfl
theorem k15 : (Rows.judgeNobodyRow.mapsOut == Tryz.pinned.checked.prog.mapsAmong Tryz.f9.resultTypes.toList) = true := by kernel_rfl
theorem k16 : (Rows.judgeNobodyRow.loops == (Tryz.f9.params.toList ++ Rows.judgeNobodySpec.plain.varTypes Tryz.pinned.checked.prog).any (Tryz.pinned.checked.prog.loopsFrom ·)) = true := by kernel_rfl
theorem k17 : (Rows.judgeNobodyRow.wideKeys == (Tryz.f9.params.toList ++ Rows.judgeNobodySpec.plain.varTypes Tryz.pinned.checked.prog ++ Tryz.f9.resultTypes.toList).any (Tryz.pinned.checked.prog.wideKeysFrom ·)) = true := by kernel_rfl
theorem k18 : Rows.judgeNobodySpec.vars.all (Tryz.pinned.checked.prog.varReadable ·) = true := by kernel_rfl
theorem k19 : Tryz.f9.resultTypes.all (fun t => Tryz.pinned.checked.prog.readableRec t && decide (t < Tryz.pinned.checked.prog.types.size)) = true := by kernel_rfl
theorem k20 : (Rows.judgeNobodyRow.ifacesOut == Tryz.f9.resultTypes.toList.any (Tryz.pinned.checked.prog.ifacesRec ·)) = true := by kernel_rfl
theorem k21 : (Rows.judgeNobodyRow.loopsOut == Tryz.f9.resultTypes.toList.any (Tryz.pinned.checked.prog.loopsFrom ·)) = true := by kernel_rfl
theorem k23 : Rows.judgeNobodyRow.shortTexts.isNone = true := by kernel_rfl
theorem k28 : (Rows.judgeNobodyRow.kinds == (if Rows.judgeNobodyRow.domain.isEmpty then [] else Tryz.f9.params.toList.map fun t => match Tryz.pinned.checked.prog.underlying t with | some (.int k) => some k | _ => none)) = true := by kernel_rfl
theorem k29 : (Rows.judgeNobodyRow.pinned == Rows.judgeNobodyRow.pinnedBy) = true := by kernel_rfl
theorem k30 : (Rows.judgeNobodyRow.veiled == (Tryz.f9.params.toList ++ Rows.judgeNobodySpec.plain.varTypes Tryz.pinned.checked.prog ++ Tryz.f9.resultTypes.toList).any (Tryz.pinned.checked.prog.veiledRec ·)) = true := by kernel_rfl
theorem k31 : Rows.judgeNobodyRow.veiledFits Tryz.pinned.checked.prog Tryz.f9.params.toList (Tryz.f9.params.toList ++ Rows.judgeNobodySpec.plain.varTypes Tryz.pinned.checked.prog ++ Tryz.f9.resultTypes.toList) = true := by kernel_rfl
end Go.Proofs.YtdfgmieinbmfkaaGreat.judgeNobody
