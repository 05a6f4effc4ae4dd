/-
  The law JudgeKnown, by runs of the interpreter in the kernel.
-/
import Derived.Test.YtdfgmieinbmfkaaGreatEvTj
import Derived.Test.YtdfgmieinbmfkaaGreatEvTk
import Derived.Test.YtdfgmieinbmfkaaGreatEvRk9
namespace Go.Ev
open Go
theorem i8 : In1 8 := ⟨by kernel_rfl, by kernel_rfl, by kernel_rfl⟩
theorem known29 (w : World) : Calls PP 8 #[] w (Truth w) :=
  (law_run0 w (callX_ok (opq0 w) (fun _ hb => (kRun_in (opq0 w) (kEnds_in (opq0 w) (kJ_in (opq0 w) (kA1_in (opq0 w) (kA3_in (opq0 w) (orc_ok i57 law_57 hb))))))) 59) i8 (by kernel_rfl) run_8).1
end Go.Ev
namespace Go.Proofs.YtdfgmieinbmfkaaGreat
open Go
theorem walk_JudgeKnown (w : World) : Calls Tryz.prog 8 #[] w fun e w' => e = .returned (.bool true) ∧ Upd (fun _ => False) w w' :=
  (Go.Ev.known29 w).mono fun _ _ he => ⟨he.1, he.2.2.2.1, he.2.2.2.2.1, he.2.2.2.2.2, he.2.1, fun r hr _ => he.2.2.1 r hr⟩
end Go.Proofs.YtdfgmieinbmfkaaGreat
