/-
  Runs of the interpreter, by the kernel.
-/
import Derived.Test.YtdfgmieinbmfkaaGreatEvSj
import Derived.KernelRfl
namespace Go.Ev
open Go
set_option maxRecDepth 100000
theorem eW1_wf : wfE eW1 = true := by kernel_rfl
theorem eW1_ok : chkE (callX id 59) eW1 = true := by kernel_rfl
theorem eS_wf : wfE eS = true := by kernel_rfl
theorem eS_ok : chkE (callX (fun b => oneE eW0 (oneE eW1 (b))) 59) eS = true := by kernel_rfl
theorem run_57 : chkT (callX (fun b => oneE eJ (oneE eA0 (oneE eA1 (oneE eA2 (oneE eA3 (oneE eA4 (oneE eA5 (oneE eH (oneE eS (b)))))))))) 59 57 [] g00) = true := by kernel_rfl
end Go.Ev
