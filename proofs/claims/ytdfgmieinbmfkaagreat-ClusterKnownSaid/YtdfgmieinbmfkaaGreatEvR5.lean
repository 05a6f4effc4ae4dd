/-
  ClusterKnown, the rest.
-/
import Derived.Test.YtdfgmieinbmfkaaGreatEvS
import Derived.KernelRfl
namespace Go.Ev
open Go
set_option maxRecDepth 100000
theorem c3 : chkL 0 (code (drp 17 (drp 3 (bodyC 4))) (orc 10 (callE 59)) (gmOf 4) T2 [] S2) = true := by kernel_rfl
end Go.Ev
