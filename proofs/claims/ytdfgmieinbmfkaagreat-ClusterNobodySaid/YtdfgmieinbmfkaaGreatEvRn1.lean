/-
  Runs of the interpreter, by the kernel.
-/
import Derived.Test.YtdfgmieinbmfkaaGreatEvSn
import Derived.KernelRfl
namespace Go.Ev
open Go
set_option maxRecDepth 100000
theorem nD_wf : wfE nD = true := by kernel_rfl
theorem nD_ok : chkE (callX id 59) nD = true := by kernel_rfl
theorem nV0_wf : wfE nV0 = true := by kernel_rfl
theorem nV0_ok : chkE (callX id 59) nV0 = true := by kernel_rfl
theorem nV1_wf : wfE nV1 = true := by kernel_rfl
theorem nV1_ok : chkE (callX id 59) nV1 = true := by kernel_rfl
theorem nF0_wf : wfE nF0 = true := by kernel_rfl
theorem nF0_ok : chkE (callX (fun b => oneE nD (oneE nV0 (b))) 59) nF0 = true := by kernel_rfl
theorem nF1_wf : wfE nF1 = true := by kernel_rfl
theorem nF1_ok : chkE (callX (fun b => oneE nD (oneE nV1 (b))) 59) nF1 = true := by kernel_rfl
end Go.Ev
