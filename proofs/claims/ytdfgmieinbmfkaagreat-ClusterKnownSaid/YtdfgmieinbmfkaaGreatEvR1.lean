/-
  ClusterKnown, the first part: two clusters are made.
-/
import Derived.Test.YtdfgmieinbmfkaaGreatEvS
import Derived.KernelRfl
namespace Go.Ev
open Go
set_option maxRecDepth 100000
theorem c1 : chkR (runP (callE 59) (gmOf 4) 3 (bodyC 4) .e g00) T1 S1 = true := by kernel_rfl
end Go.Ev
