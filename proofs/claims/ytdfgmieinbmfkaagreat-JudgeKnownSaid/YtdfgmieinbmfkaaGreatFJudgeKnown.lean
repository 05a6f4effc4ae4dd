/-
  Proves JudgeKnownSaid: whatever the input, the law returns true, and its arguments read afterwards as they read before.
  Conditions: none but those of the given statement.
-/
import Derived.Test.YtdfgmieinbmfkaaGreatWJudgeKnown
import Derived.Test.YtdfgmieinbmfkaaGreatFacts
import Derived.Test.YtdfgmieinbmfkaaGreatKJudgeKnownA
import Derived.Test.YtdfgmieinbmfkaaGreatKJudgeKnownB
import Derived.Test.YtdfgmieinbmfkaaGreatKJudgeKnownC
import Derived.Test.YtdfgmieinbmfkaaGreatKJudgeKnownD
import Derived.WalkKit
import Derived.ProofKit
import Derived.OpenShut
import Derived.ShutString
import Derived.ChangeOld
import Derived.Below
namespace Go.Proofs.YtdfgmieinbmfkaaGreat.judgeKnown
open Go Go.ChangeShapes Go.WideShapes Go.ChangeAt Go.RowKit Go.Proofs.YtdfgmieinbmfkaaGreat
open Go.ChangeMaps (open_string shut_string)

theorem own : ownKnob Tryz.prog.godebug = none := by kernel_rfl
theorem laidOut : laidOutB Tryz.prog = true := common1
set_option maxRecDepth 100000 in
theorem lifted (os : Os) (started : os.Started) (H : Type) (enc : TypeId × Value → H) :
    ReturnsInHanded {} Tryz.checked os 8 .any (Rows.judgeKnownSpec.pre6 enc Tryz.prog Tryz.f8 Rows.judgeKnownRow.domain false) (Rows.judgeKnownSpec.post enc Tryz.prog Tryz.f8 false true false false) := by
  refine returnsInHanded_of_change (C := Tryz.checked) own started (by kernel_rfl) Tryz.func8
    (ChangeSpec.witness6 (enc := enc) (C := Tryz.checked) false ⟨#[], #[], []⟩ 8 (by kernel_rfl) (by kernel_rfl) (by kernel_rfl) (by kernel_rfl)) ?_
  intro W base args ds gs before hval0 hW hcnd _
  have hval : ∀ (j : Nat) t v, Tryz.f8.params[j]? = some t → args[j]? = some v → Value.okWide Tryz.prog W .any base t v := hval0
  have hW' := hW
  obtain ⟨p, q, hA0, hV, rfl, hfz, hnd⟩ := hW
  have hA : DataW.TrodAll enc Tryz.prog W 0 (fun _ => true) true Tryz.f8.params.toList args.toList ds p := hA0
  rw [Tryz.params8] at hA hval
  obtain ⟨h0, rfl, rfl⟩ := trodAll_nil hA
  obtain rfl : args = #[] := by cases args; simp_all
  obtain ⟨rfl, rfl⟩ := trodVars_none hV
  clear hA0 hval0
  refine (walk_JudgeKnown W ).mono fun e W' ⟨he, hu⟩ => ?_
  have bel : Below W.heap.size W W' := hu.below (fun _ e => e.elim)
  subst he
  exact ⟨_, rfl, _, _, _, [], _, [], hW', trodAll_mk1 (shut_bool Tryz.underlying4 _), rfl, rfl, bel.frame _, fun h => by cases h⟩

theorem named_ : Tryz.pinned.checked.prog.funcNamed Rows.judgeKnownRow.func = some 8 := by kernel_rfl
theorem k1 : laidOutB Tryz.pinned.checked.prog = true := common1
theorem k2 : mapsRowed Tryz.pinned.checked.prog = true := common2
theorem k6 : (Tryz.pinned.checked.prog.stops == []) = true := common6
theorem k8 : (Tryz.pinned.checked.prog.stopKnobs == []) = true := common8
theorem k22 : (Rows.judgeKnownRow.plainKeys == Tryz.pinned.checked.prog.plainKeys) = true := common22
theorem k24 : Tryz.pinned.checked.prog.stopsHeard = true := common24
theorem k25 : Tryz.pinned.checked.prog.mayEnter = true := common25
theorem k26 : (Rows.judgeKnownRow.lifted == Tryz.pinned.checked.prog.liftsFinal) = true := common26
theorem k27 : (Tryz.pinned.checked.prog.make == some Rows.judgeKnownRow.make) = true := common27
set_option maxRecDepth 100000 in
theorem closed_ : joinedFacts Tryz.pinned.checked.prog 8 Tryz.f8 Rows.judgeKnownSpec Rows.judgeKnownRow = true := (and_mk (and_mk (and_mk (and_mk (and_mk (and_mk (and_mk (and_mk (and_mk (and_mk (and_mk (and_mk (and_mk (and_mk (and_mk (and_mk (and_mk (and_mk (and_mk (and_mk (and_mk (and_mk (and_mk (and_mk (and_mk (and_mk (and_mk (and_mk (and_mk (and_mk (and_mk k0 k1) k2) k3) k4) k5) k6) k7) k8) k9) k10) k11) k12) k13) k14) k15) k16) k17) k18) k19) k20) k21) k22) k23) k24) k25) k26) k27) k28) k29) k30) k31)
theorem inst_ : (Tryz.f8).isInstance Tryz.pinned.checked.prog Rows.judgeKnownRow.origin Rows.judgeKnownRow.targs := of_decide_eq_true (by kernel_rfl)
theorem wrap_ : (Tryz.f8).isWrapper Tryz.pinned.checked.prog Rows.judgeKnownRow.wrapper Rows.judgeKnownRow.mainSum := by
  unfold Func.isWrapper; first | (rw [if_pos (by decide +kernel)]; kernel_rfl) | (rw [if_neg (by decide +kernel)]; exact ⟨rfl, rfl⟩)
theorem holds_judgeKnown : Rows.JudgeKnownSaid :=
  OpenClaim.holds_of_wide 8 Tryz.f8 rfl rfl rfl rfl rfl rfl rfl ⟨rfl, rfl, rfl, rfl, rfl⟩ rfl rfl rfl rfl rfl named_ Tryz.func8 closed_ inst_ wrap_
    (fun os started H enc _ => lifted os started H enc)
end Go.Proofs.YtdfgmieinbmfkaaGreat.judgeKnown
namespace Go.Proofs.YtdfgmieinbmfkaaGreat
theorem judgeKnown_holds : Rows.JudgeKnownSaid := judgeKnown.holds_judgeKnown
#print axioms judgeKnown_holds
end Go.Proofs.YtdfgmieinbmfkaaGreat
