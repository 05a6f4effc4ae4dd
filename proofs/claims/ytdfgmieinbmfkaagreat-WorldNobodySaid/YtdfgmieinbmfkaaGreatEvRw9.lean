/-
  Runs of the law WorldNobody over cells that are not looked into.
-/
import Derived.Test.YtdfgmieinbmfkaaGreatEvSw
import Derived.KernelRfl
namespace Go.Ev
open Go
set_option maxRecDepth 100000
noncomputable def wr6 (β : Bool) : Cl → Cl := fun b => orG 41 7 β (oneE eN (orc 42 b))
noncomputable def run6 (β : Bool) (n : Int) : Bool := chkT (callX (wr6 β) 59 6 [.g (xsV 7 0), .i .i64 n] g00)
theorem n6a : run6 false (.ofNat 0) = true := by kernel_rfl
theorem n6b : run6 false (.ofNat 1) = true := by kernel_rfl
theorem n6c : run6 false (.ofNat 2) = true := by kernel_rfl
theorem n6d (m : Nat) : run6 false (.ofNat (Nat.succ (Nat.succ (Nat.succ m)))) = true := by kernel_rfl
theorem n6e (m : Nat) : run6 false (.negSucc m) = true := by kernel_rfl
theorem n6f : run6 true (.ofNat 5) = true := by kernel_rfl
theorem n6g (m : Nat) : run6 true (.ofNat m) = true := by kernel_rfl
theorem n6h (m : Nat) : run6 true (.negSucc m) = true := by kernel_rfl
end Go.Ev
