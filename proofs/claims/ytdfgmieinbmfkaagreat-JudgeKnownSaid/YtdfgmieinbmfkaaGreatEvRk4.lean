/-
  Runs of the interpreter, by the kernel.
-/
import Derived.Test.YtdfgmieinbmfkaaGreatEvSk
import Derived.KernelRfl
namespace Go.Ev
open Go
set_option maxRecDepth 100000
theorem kA11_wf : wfE kA11 = true := by kernel_rfl
theorem kA11_ok : chkE (callX id 59) kA11 = true := by kernel_rfl
theorem kA12_wf : wfE kA12 = true := by kernel_rfl
theorem kA12_ok : chkE (callX id 59) kA12 = true := by kernel_rfl
theorem kA13_wf : wfE kA13 = true := by kernel_rfl
theorem kA13_ok : chkE (callX id 59) kA13 = true := by kernel_rfl
end Go.Ev
