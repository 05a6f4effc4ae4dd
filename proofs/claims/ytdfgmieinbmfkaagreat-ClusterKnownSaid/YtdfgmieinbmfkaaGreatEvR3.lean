/-
  The wakes of chapter 26, the rest.
-/
import Derived.Test.YtdfgmieinbmfkaaGreatEvS
import Derived.KernelRfl
namespace Go.Ev
open Go
set_option maxRecDepth 100000
theorem w2 : chkL 0 (code (drp 3 (bodyC 10)) (callE 59) (gmOf 10) Tw [] S1) = true := by kernel_rfl
end Go.Ev
