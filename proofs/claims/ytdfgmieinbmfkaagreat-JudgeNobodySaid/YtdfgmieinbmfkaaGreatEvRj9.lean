/-
  Runs of the law JudgeNobody over cells that are not looked into.
-/
import Derived.Test.YtdfgmieinbmfkaaGreatEvSj
import Derived.KernelRfl
namespace Go.Ev
open Go
set_option maxRecDepth 100000
noncomputable def wr9 (β : Bool) : Cl → Cl := fun b => orG 41 7 β (oneE eD (oneE eV0 (oneE eV1 (orc 57 b))))
noncomputable def run9 (β : Bool) (n : Int) : Bool := chkT (callX (wr9 β) 59 9 [.g (xsV 7 0), .i .i64 n] g00)
theorem n9a : run9 false (.ofNat 0) = true := by kernel_rfl
theorem n9b : run9 false (.ofNat 1) = true := by kernel_rfl
theorem n9d (m : Nat) : run9 false (.ofNat (Nat.succ (Nat.succ m))) = true := by kernel_rfl
theorem n9e (m : Nat) : run9 false (.negSucc m) = true := by kernel_rfl
theorem n9f (n : Int) : run9 true n = true := by kernel_rfl
end Go.Ev
