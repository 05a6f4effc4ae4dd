/-
  Runs of the interpreter, by the kernel.
-/
import Derived.Test.YtdfgmieinbmfkaaGreatEvSk
import Derived.KernelRfl
namespace Go.Ev
open Go
set_option maxRecDepth 100000
theorem kA6_wf : wfE kA6 = true := by kernel_rfl
theorem kA6_ok : chkE (callX id 59) kA6 = true := by kernel_rfl
theorem kA7_wf : wfE kA7 = true := by kernel_rfl
theorem kA7_ok : chkE (callX id 59) kA7 = true := by kernel_rfl
theorem kA8_wf : wfE kA8 = true := by kernel_rfl
theorem kA8_ok : chkE (callX id 59) kA8 = true := by kernel_rfl
theorem kA9_wf : wfE kA9 = true := by kernel_rfl
theorem kA9_ok : chkE (callX id 59) kA9 = true := by kernel_rfl
theorem kA10_wf : wfE kA10 = true := by kernel_rfl
theorem kA10_ok : chkE (callX id 59) kA10 = true := by kernel_rfl
end Go.Ev
