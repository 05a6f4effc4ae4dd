/-
  The wakes of chapter 26, the first part.
-/
import Derived.Test.YtdfgmieinbmfkaaGreatEvS
import Derived.KernelRfl
namespace Go.Ev
open Go
set_option maxRecDepth 100000
theorem w1 : chkR (runP (callE 59) (gmOf 10) 3 (bodyC 10) .e g00) Tw S1 = true := by kernel_rfl
end Go.Ev
