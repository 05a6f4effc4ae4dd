/-
  Runs of the interpreter, by the kernel.
-/
import Derived.Test.YtdfgmieinbmfkaaGreatEvSj
import Derived.KernelRfl
namespace Go.Ev
open Go
set_option maxRecDepth 100000
theorem eA5_wf : wfE eA5 = true := by kernel_rfl
theorem eA5_ok : chkE (callX id 59) eA5 = true := by kernel_rfl
theorem eH_wf : wfE eH = true := by kernel_rfl
theorem eH_ok : chkE (callX id 59) eH = true := by kernel_rfl
theorem eW0_wf : wfE eW0 = true := by kernel_rfl
theorem eW0_ok : chkE (callX id 59) eW0 = true := by kernel_rfl
end Go.Ev
