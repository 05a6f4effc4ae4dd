/-
  Runs of the interpreter, by the kernel.
-/
import Derived.Test.YtdfgmieinbmfkaaGreatEvSn
import Derived.KernelRfl
namespace Go.Ev
open Go
set_option maxRecDepth 100000
theorem nN_wf : wfE nN = true := by kernel_rfl
theorem nN_ok : chkE (callX id 59) nN = true := by kernel_rfl
theorem nT_wf : wfE nT = true := by kernel_rfl
theorem nT_ok : chkE (callX id 59) nT = true := by kernel_rfl
theorem nH_wf : wfE nH = true := by kernel_rfl
theorem nH_ok : chkE (callX id 59) nH = true := by kernel_rfl
end Go.Ev
