/-
  Runs of the interpreter, by the kernel.
-/
import Derived.Test.YtdfgmieinbmfkaaGreatEvSj
import Derived.KernelRfl
namespace Go.Ev
open Go
set_option maxRecDepth 100000
theorem eD_wf : wfE eD = true := by kernel_rfl
theorem eD_ok : chkE (callX id 59) eD = true := by kernel_rfl
theorem eV0_wf : wfE eV0 = true := by kernel_rfl
theorem eV0_ok : chkE (callX id 59) eV0 = true := by kernel_rfl
theorem eV1_wf : wfE eV1 = true := by kernel_rfl
theorem eV1_ok : chkE (callX id 59) eV1 = true := by kernel_rfl
theorem eJ_wf : wfE eJ = true := by kernel_rfl
theorem eJ_ok : chkE (callX (fun b => oneE eD (oneE eV0 (oneE eV1 (b)))) 59) eJ = true := by kernel_rfl
end Go.Ev
