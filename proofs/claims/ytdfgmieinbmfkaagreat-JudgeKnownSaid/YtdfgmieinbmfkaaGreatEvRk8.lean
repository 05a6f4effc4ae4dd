/-
  Runs of the interpreter, by the kernel.
-/
import Derived.Test.YtdfgmieinbmfkaaGreatEvSk
import Derived.KernelRfl
namespace Go.Ev
open Go
set_option maxRecDepth 100000
theorem kRun_wf : wfE kRun = true := by kernel_rfl
theorem kRun_ok : chkE (callX (fun b => oneE kJ (oneE kA0 (oneE kA1 (oneE kA2 (oneE kA3 (oneE kA4 (oneE kA5 (oneE kA6 (oneE kA7 (oneE kA8 (oneE kA9 (oneE kA10 (oneE kA11 (oneE kA12 (oneE kA13 (oneE kA14 (oneE kA15 (oneE kA16 (oneE kA17 (oneE kA18 (oneE kA19 (oneE kA20 (b))))))))))))))))))))))) 59) kRun = true := by kernel_rfl
theorem kEnds_wf : wfE kEnds = true := by kernel_rfl
theorem kEnds_ok : chkE (callX (fun b => oneE kJ (oneE kA0 (oneE kA1 (oneE kA2 (oneE kA3 (oneE kA4 (oneE kA5 (oneE kA6 (oneE kA7 (oneE kA8 (oneE kA9 (oneE kA10 (oneE kA11 (oneE kA12 (oneE kA13 (oneE kA14 (oneE kA15 (oneE kA16 (oneE kA17 (oneE kA18 (oneE kA19 (oneE kA20 (oneE kB13 (oneE kH (oneE kS (b)))))))))))))))))))))))))) 59) kEnds = true := by kernel_rfl
end Go.Ev
