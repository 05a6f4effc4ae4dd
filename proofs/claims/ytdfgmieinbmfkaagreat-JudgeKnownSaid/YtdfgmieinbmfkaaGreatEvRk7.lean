/-
  Runs of the interpreter, by the kernel.
-/
import Derived.Test.YtdfgmieinbmfkaaGreatEvSk
import Derived.KernelRfl
namespace Go.Ev
open Go
set_option maxRecDepth 100000
theorem kW1_wf : wfE kW1 = true := by kernel_rfl
theorem kW1_ok : chkE (callX id 59) kW1 = true := by kernel_rfl
theorem kX0_wf : wfE kX0 = true := by kernel_rfl
theorem kX0_ok : chkE (callX id 59) kX0 = true := by kernel_rfl
theorem kX1_wf : wfE kX1 = true := by kernel_rfl
theorem kX1_ok : chkE (callX id 59) kX1 = true := by kernel_rfl
theorem kX2_wf : wfE kX2 = true := by kernel_rfl
theorem kX2_ok : chkE (callX id 59) kX2 = true := by kernel_rfl
theorem kW2_wf : wfE kW2 = true := by kernel_rfl
theorem kW2_ok : chkE (callX (fun b => oneE kX0 (oneE kX1 (oneE kX2 (b)))) 59) kW2 = true := by kernel_rfl
theorem kS_wf : wfE kS = true := by kernel_rfl
theorem kS_ok : chkE (callX (fun b => oneE kW0 (oneE kW1 (oneE kW2 (b)))) 59) kS = true := by kernel_rfl
end Go.Ev
