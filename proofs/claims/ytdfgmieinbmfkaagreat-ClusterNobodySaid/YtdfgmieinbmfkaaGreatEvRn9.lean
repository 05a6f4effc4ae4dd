/-
  Runs of the law ClusterNobody over cells that are not looked into.
-/
import Derived.Test.YtdfgmieinbmfkaaGreatEvSn
import Derived.KernelRfl
namespace Go.Ev
open Go
set_option maxRecDepth 100000
noncomputable def L26 : List V := .u :: .x 1 :: .x 2 :: .x 3 :: .x 4 :: rpV .u 7 (.x 12 :: rpV .u 99 [.x 112])
noncomputable def wr5 (β : Bool) : Cl → Cl := fun b => orL 33 L26 β (oneE nD (oneE nV0 (oneE nV1 (orc 10 b))))
noncomputable def run5 (β : Bool) (n : Int) : Bool := chkT (callX (wr5 β) 59 5 [.i .i64 n, .g L26] g00)
theorem n5a : run5 false (.ofNat 0) = true := by kernel_rfl
theorem n5b : run5 false (.ofNat 1) = true := by kernel_rfl
theorem n5d (m : Nat) : run5 false (.ofNat (Nat.succ (Nat.succ m))) = true := by kernel_rfl
theorem n5e (m : Nat) : run5 false (.negSucc m) = true := by kernel_rfl
theorem n5f (n : Int) : run5 true n = true := by kernel_rfl
end Go.Ev
