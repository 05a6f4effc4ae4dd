/-
  Runs of the interpreter, by the kernel.
-/
import Derived.Test.YtdfgmieinbmfkaaGreatEvSj
import Derived.KernelRfl
namespace Go.Ev
open Go
set_option maxRecDepth 100000
theorem eA0_wf : wfE eA0 = true := by kernel_rfl
theorem eA0_ok : chkE (callX id 59) eA0 = true := by kernel_rfl
theorem eA1_wf : wfE eA1 = true := by kernel_rfl
theorem eA1_ok : chkE (callX id 59) eA1 = true := by kernel_rfl
theorem eA2_wf : wfE eA2 = true := by kernel_rfl
theorem eA2_ok : chkE (callX id 59) eA2 = true := by kernel_rfl
theorem eA3_wf : wfE eA3 = true := by kernel_rfl
theorem eA3_ok : chkE (callX id 59) eA3 = true := by kernel_rfl
theorem eA4_wf : wfE eA4 = true := by kernel_rfl
theorem eA4_ok : chkE (callX id 59) eA4 = true := by kernel_rfl
end Go.Ev
