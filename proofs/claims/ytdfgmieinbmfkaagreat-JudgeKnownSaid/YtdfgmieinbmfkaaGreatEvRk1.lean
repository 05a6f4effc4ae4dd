/-
  Runs of the interpreter, by the kernel.
-/
import Derived.Test.YtdfgmieinbmfkaaGreatEvSk
import Derived.KernelRfl
namespace Go.Ev
open Go
set_option maxRecDepth 100000
theorem kD_wf : wfE kD = true := by kernel_rfl
theorem kD_ok : chkE (callX id 59) kD = true := by kernel_rfl
theorem kV0_wf : wfE kV0 = true := by kernel_rfl
theorem kV0_ok : chkE (callX id 59) kV0 = true := by kernel_rfl
theorem kV1_wf : wfE kV1 = true := by kernel_rfl
theorem kV1_ok : chkE (callX id 59) kV1 = true := by kernel_rfl
theorem kJ_wf : wfE kJ = true := by kernel_rfl
theorem kJ_ok : chkE (callX (fun b => oneE kD (oneE kV0 (oneE kV1 (b)))) 59) kJ = true := by kernel_rfl
end Go.Ev
