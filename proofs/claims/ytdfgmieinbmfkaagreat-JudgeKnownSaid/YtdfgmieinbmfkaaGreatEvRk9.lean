/-
  The run of the law JudgeKnown.
-/
import Derived.Test.YtdfgmieinbmfkaaGreatEvSk
import Derived.KernelRfl
namespace Go.Ev
open Go
set_option maxRecDepth 100000
theorem run_8 : chkT (callX (fun b => oneE kRun (oneE kEnds (oneE kJ (oneE kA1 (oneE kA3 (orc 57 b)))))) 59 8 [] g00) = true := by kernel_rfl
end Go.Ev
