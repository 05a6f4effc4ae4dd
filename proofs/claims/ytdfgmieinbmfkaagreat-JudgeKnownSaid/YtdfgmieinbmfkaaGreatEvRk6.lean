/-
  Runs of the interpreter, by the kernel.
-/
import Derived.Test.YtdfgmieinbmfkaaGreatEvSk
import Derived.KernelRfl
namespace Go.Ev
open Go
set_option maxRecDepth 100000
theorem kB13_wf : wfE kB13 = true := by kernel_rfl
theorem kB13_ok : chkE (callX id 59) kB13 = true := by kernel_rfl
theorem kH_wf : wfE kH = true := by kernel_rfl
theorem kH_ok : chkE (callX id 59) kH = true := by kernel_rfl
theorem kW0_wf : wfE kW0 = true := by kernel_rfl
theorem kW0_ok : chkE (callX id 59) kW0 = true := by kernel_rfl
end Go.Ev
