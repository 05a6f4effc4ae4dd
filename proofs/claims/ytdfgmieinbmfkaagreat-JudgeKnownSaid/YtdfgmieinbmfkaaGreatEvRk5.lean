/-
  Runs of the interpreter, by the kernel.
-/
import Derived.Test.YtdfgmieinbmfkaaGreatEvSk
import Derived.KernelRfl
namespace Go.Ev
open Go
set_option maxRecDepth 100000
theorem kA14_wf : wfE kA14 = true := by kernel_rfl
theorem kA14_ok : chkE (callX id 59) kA14 = true := by kernel_rfl
theorem kA15_wf : wfE kA15 = true := by kernel_rfl
theorem kA15_ok : chkE (callX id 59) kA15 = true := by kernel_rfl
theorem kA16_wf : wfE kA16 = true := by kernel_rfl
theorem kA16_ok : chkE (callX id 59) kA16 = true := by kernel_rfl
theorem kA17_wf : wfE kA17 = true := by kernel_rfl
theorem kA17_ok : chkE (callX id 59) kA17 = true := by kernel_rfl
theorem kA18_wf : wfE kA18 = true := by kernel_rfl
theorem kA18_ok : chkE (callX id 59) kA18 = true := by kernel_rfl
theorem kA19_wf : wfE kA19 = true := by kernel_rfl
theorem kA19_ok : chkE (callX id 59) kA19 = true := by kernel_rfl
theorem kA20_wf : wfE kA20 = true := by kernel_rfl
theorem kA20_ok : chkE (callX id 59) kA20 = true := by kernel_rfl
end Go.Ev
