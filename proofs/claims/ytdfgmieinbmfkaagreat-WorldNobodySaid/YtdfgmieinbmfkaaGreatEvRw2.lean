/-
  Runs of the interpreter, by the kernel.
-/
import Derived.Test.YtdfgmieinbmfkaaGreatEvSw
import Derived.KernelRfl
namespace Go.Ev
open Go
set_option maxRecDepth 100000
theorem eC1_wf : wfE eC1 = true := by kernel_rfl
theorem eC1_ok : chkE (callX id 59) eC1 = true := by kernel_rfl
theorem eC2_wf : wfE eC2 = true := by kernel_rfl
theorem eC2_ok : chkE (callX id 59) eC2 = true := by kernel_rfl
theorem eC4_wf : wfE eC4 = true := by kernel_rfl
theorem eC4_ok : chkE (callX id 59) eC4 = true := by kernel_rfl
theorem eC5_wf : wfE eC5 = true := by kernel_rfl
theorem eC5_ok : chkE (callX id 59) eC5 = true := by kernel_rfl
end Go.Ev
