/-
  Runs of the interpreter, by the kernel.
-/
import Derived.Test.YtdfgmieinbmfkaaGreatEvSn
import Derived.KernelRfl
namespace Go.Ev
open Go
set_option maxRecDepth 100000
theorem run_10 : chkT (callX (fun b => oneE nF0 (oneE nF1 (oneE nN (oneE nT (oneE nH (b)))))) 59 10 [] g00) = true := by kernel_rfl
end Go.Ev
