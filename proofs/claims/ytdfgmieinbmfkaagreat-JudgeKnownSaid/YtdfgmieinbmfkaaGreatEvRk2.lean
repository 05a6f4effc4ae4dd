/-
  Runs of the interpreter, by the kernel.
-/
import Derived.Test.YtdfgmieinbmfkaaGreatEvSk
import Derived.KernelRfl
namespace Go.Ev
open Go
set_option maxRecDepth 100000
theorem kA0_wf : wfE kA0 = true := by kernel_rfl
theorem kA0_ok : chkE (callX id 59) kA0 = true := by kernel_rfl
theorem kA1_wf : wfE kA1 = true := by kernel_rfl
theorem kA1_ok : chkE (callX id 59) kA1 = true := by kernel_rfl
theorem kA2_wf : wfE kA2 = true := by kernel_rfl
theorem kA2_ok : chkE (callX id 59) kA2 = true := by kernel_rfl
theorem kA3_wf : wfE kA3 = true := by kernel_rfl
theorem kA3_ok : chkE (callX id 59) kA3 = true := by kernel_rfl
theorem kA4_wf : wfE kA4 = true := by kernel_rfl
theorem kA4_ok : chkE (callX id 59) kA4 = true := by kernel_rfl
theorem kA5_wf : wfE kA5 = true := by kernel_rfl
theorem kA5_ok : chkE (callX id 59) kA5 = true := by kernel_rfl
end Go.Ev
