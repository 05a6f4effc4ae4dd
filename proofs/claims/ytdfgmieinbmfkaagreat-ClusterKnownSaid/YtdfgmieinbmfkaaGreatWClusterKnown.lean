/-
  The law ClusterKnown, by runs of the interpreter in the kernel.
-/
import Derived.Test.YtdfgmieinbmfkaaGreatEvR1
import Derived.Test.YtdfgmieinbmfkaaGreatEvR2
import Derived.Test.YtdfgmieinbmfkaaGreatEvR3
import Derived.Test.YtdfgmieinbmfkaaGreatEvR4
import Derived.Test.YtdfgmieinbmfkaaGreatEvR5
namespace Go.Ev
open Go
/-- The wakes of chapter 26, whatever the world. -/
theorem wakes26 (w : World) : Calls PP 10 #[] w (Truth w) ∧ CallsD PP 10 #[] .returning w (fun e u w' => u = .returning ∧ Truth w e w') :=
  law_two (callE_all opq0 59) i10 res10 gm10 rfl w1 w2 w
theorem known26 (w : World) : Calls PP 4 #[] w (Truth w) :=
  (law_calls i4 w (law_body (ρ := rho) (k := 0) i4 res4 w fun _ hQ _ Sa =>
    sta_chunk opq0 (callE_all opq0 59) (dst_of i4) rfl c1 Sa fun hd _ _ _ Sa1 => sta_chunk opq0 (callE_all opq0 59) hd rfl c2 Sa1 fun hd2 _ _ _ Sa2 =>
      sta_last opq0 (orc_ok i10 wakes26 (callE_all opq0 59)) gm4 hd2 rfl c3 Sa2 hQ)).1
end Go.Ev
namespace Go.Proofs.YtdfgmieinbmfkaaGreat
open Go
theorem walk_ClusterKnown (w : World) : Calls Tryz.prog 4 #[] w fun e w' => e = .returned (.bool true) ∧ Upd (fun _ => False) w w' :=
  (Go.Ev.known26 w).mono fun _ _ he => ⟨he.1, he.2.2.2.1, he.2.2.2.2.1, he.2.2.2.2.2, he.2.1, fun r hr _ => he.2.2.1 r hr⟩
end Go.Proofs.YtdfgmieinbmfkaaGreat
