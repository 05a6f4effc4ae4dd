/-
  Runs of the interpreter, by the kernel.
-/
import Derived.Test.YtdfgmieinbmfkaaGreatEvSw
import Derived.KernelRfl
namespace Go.Ev
open Go
set_option maxRecDepth 100000
theorem eT0_wf : wfE eT0 = true := by kernel_rfl
theorem eT0_ok : chkE (callX id 59) eT0 = true := by kernel_rfl
theorem eT1_wf : wfE eT1 = true := by kernel_rfl
theorem eT1_ok : chkE (callX id 59) eT1 = true := by kernel_rfl
theorem eR_wf : wfE eR = true := by kernel_rfl
theorem eR_ok : chkE (callX (fun b => oneE eC1 (oneE eC2 (oneE eC4 (oneE eC5 (oneE eT0 (oneE eT1 (b))))))) 59) eR = true := by kernel_rfl
theorem run_42 : chkT (callX (fun b => oneE eN (oneE eR (b))) 59 42 [] g00) = true := by kernel_rfl
end Go.Ev
