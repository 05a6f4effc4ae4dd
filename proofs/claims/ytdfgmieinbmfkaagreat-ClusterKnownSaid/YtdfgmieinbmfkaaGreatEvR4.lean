/-
  ClusterKnown, the second part.
-/
import Derived.Test.YtdfgmieinbmfkaaGreatEvS
import Derived.KernelRfl
namespace Go.Ev
open Go
set_option maxRecDepth 100000
theorem c2 : chkR (runP (callE 59) (gmOf 4) 17 (drp 3 (bodyC 4)) T1 S1) T2 S2 = true := by kernel_rfl
end Go.Ev
