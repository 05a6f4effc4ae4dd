/-
  Proves ArbiterKnownSaid: whatever the input, the law returns true, and its arguments read afterwards as they read before.
  Conditions: none but those of the given statement.
-/
import Derived.Test.YtnmbhoidnbideaaWArbiterKnown
import Derived.Test.YtnmbhoidnbideaaFacts
import Derived.WalkKit
import Derived.ProofKit
import Derived.OpenShut
import Derived.ShutString
import Derived.ChangeOld
import Derived.Below
namespace Go.Proofs.Ytnmbhoidnbideaa.arbiterKnown
open Go Go.ChangeShapes Go.WideShapes Go.ChangeAt Go.RowKit Go.Proofs.Ytnmbhoidnbideaa
open Go.ChangeMaps (open_string shut_string)

theorem own : ownKnob Try.prog.godebug = none := by kernel_rfl
theorem laidOut : laidOutB Try.prog = true := common1
set_option maxRecDepth 100000 in
theorem lifted (os : Os) (started : os.Started) (H : Type) (enc : TypeId × Value → H) :
    ReturnsInHanded {} Try.checked os 4 .any (Rows.arbiterKnownSpec.pre6 enc Try.prog Try.f4 Rows.arbiterKnownRow.domain false) (Rows.arbiterKnownSpec.post enc Try.prog Try.f4 false true false false) := by
  refine returnsInHanded_of_change (C := Try.checked) own started (by kernel_rfl) Try.func4
    (ChangeSpec.witness6 (enc := enc) (C := Try.checked) false ⟨#[], #[], []⟩ 8 (by kernel_rfl) (by kernel_rfl) (by kernel_rfl) (by kernel_rfl)) ?_
  intro W base args ds gs before hval0 hW hcnd _
  have hval : ∀ (j : Nat) t v, Try.f4.params[j]? = some t → args[j]? = some v → Value.okWide Try.prog W .any base t v := hval0
  have hW' := hW
  obtain ⟨p, q, hA0, hV, rfl, hfz, hnd⟩ := hW
  have hA : DataW.TrodAll enc Try.prog W 0 (fun _ => true) true Try.f4.params.toList args.toList ds p := hA0
  rw [Try.params4] at hA hval
  obtain ⟨h0, rfl, rfl⟩ := trodAll_nil hA
  obtain rfl : args = #[] := by cases args; simp_all
  obtain ⟨rfl, rfl⟩ := trodVars_none hV
  clear hA0 hval0
  refine (walk_ArbiterKnown W ).mono fun e W' ⟨he, hu⟩ => ?_
  have bel : Below W.heap.size W W' := hu.below (fun _ e => e.elim)
  subst he
  exact ⟨_, rfl, _, _, _, [], _, [], hW', trodAll_mk1 (shut_bool Try.underlying4 _), rfl, rfl, bel.frame _, fun h => by cases h⟩

theorem named_ : Try.pinned.checked.prog.funcNamed Rows.arbiterKnownRow.func = some 4 := by kernel_rfl
theorem k0 : Rows.arbiterKnownRow.wf (OpenSpec.ofChange Rows.arbiterKnownSpec) = true := by kernel_rfl
theorem k1 : laidOutB Try.pinned.checked.prog = true := common1
theorem k2 : mapsRowed Try.pinned.checked.prog = true := common2
theorem k3 : Try.f4.params.all (Try.pinned.checked.prog.readableRec ·) = true := by kernel_rfl
theorem k4 : namedTie Try.pinned.checked.prog Rows.arbiterKnownRow.named Rows.arbiterKnownSpec.vars = true := by kernel_rfl
theorem k5 : (Rows.arbiterKnownRow.stops == []) = true := by kernel_rfl
theorem k6 : (Try.pinned.checked.prog.stops == []) = true := common6
theorem k7 : (Rows.arbiterKnownRow.knobs == []) = true := by kernel_rfl
theorem k8 : (Try.pinned.checked.prog.stopKnobs == []) = true := common8
theorem k9 : (Rows.arbiterKnownRow.inPlace == Try.pinned.checked.prog.inPlace 4) = true := by kernel_rfl
theorem k10 : (Rows.arbiterKnownRow.unfollowed == Try.pinned.checked.prog.unfollowed 4) = true := by kernel_rfl
theorem k11 : (Rows.arbiterKnownRow.recurses == Try.pinned.checked.prog.recurses 4) = true := by kernel_rfl
theorem k12 : (Rows.arbiterKnownRow.named == Try.pinned.checked.prog.varsNamed 4) = true := by kernel_rfl
theorem k13 : (Rows.arbiterKnownRow.maps == (Try.f4.params.toList ++ Rows.arbiterKnownSpec.plain.varTypes Try.pinned.checked.prog).any (Try.pinned.checked.prog.mapsRec ·)) = true := by kernel_rfl
theorem k14 : (Rows.arbiterKnownRow.ifaces == (Try.f4.params.toList ++ Rows.arbiterKnownSpec.plain.varTypes Try.pinned.checked.prog).any (Try.pinned.checked.prog.ifacesRec ·)) = true := by kernel_rfl
theorem k15 : (Rows.arbiterKnownRow.mapsOut == Try.pinned.checked.prog.mapsAmong Try.f4.resultTypes.toList) = true := by kernel_rfl
theorem k16 : (Rows.arbiterKnownRow.loops == (Try.f4.params.toList ++ Rows.arbiterKnownSpec.plain.varTypes Try.pinned.checked.prog).any (Try.pinned.checked.prog.loopsFrom ·)) = true := by kernel_rfl
theorem k17 : (Rows.arbiterKnownRow.wideKeys == (Try.f4.params.toList ++ Rows.arbiterKnownSpec.plain.varTypes Try.pinned.checked.prog ++ Try.f4.resultTypes.toList).any (Try.pinned.checked.prog.wideKeysFrom ·)) = true := by kernel_rfl
theorem k18 : Rows.arbiterKnownSpec.vars.all (Try.pinned.checked.prog.varReadable ·) = true := by kernel_rfl
theorem k19 : Try.f4.resultTypes.all (fun t => Try.pinned.checked.prog.readableRec t && decide (t < Try.pinned.checked.prog.types.size)) = true := by kernel_rfl
theorem k20 : (Rows.arbiterKnownRow.ifacesOut == Try.f4.resultTypes.toList.any (Try.pinned.checked.prog.ifacesRec ·)) = true := by kernel_rfl
theorem k21 : (Rows.arbiterKnownRow.loopsOut == Try.f4.resultTypes.toList.any (Try.pinned.checked.prog.loopsFrom ·)) = true := by kernel_rfl
theorem k22 : (Rows.arbiterKnownRow.plainKeys == Try.pinned.checked.prog.plainKeys) = true := common22
theorem k23 : Rows.arbiterKnownRow.shortTexts.isNone = true := by kernel_rfl
theorem k24 : Try.pinned.checked.prog.stopsHeard = true := common24
theorem k25 : Try.pinned.checked.prog.mayEnter = true := common25
theorem k26 : (Rows.arbiterKnownRow.lifted == Try.pinned.checked.prog.liftsFinal) = true := common26
theorem k27 : (Try.pinned.checked.prog.make == some Rows.arbiterKnownRow.make) = true := common27
theorem k28 : (Rows.arbiterKnownRow.kinds == (if Rows.arbiterKnownRow.domain.isEmpty then [] else Try.f4.params.toList.map fun t => match Try.pinned.checked.prog.underlying t with | some (.int k) => some k | _ => none)) = true := by kernel_rfl
theorem k29 : (Rows.arbiterKnownRow.pinned == Rows.arbiterKnownRow.pinnedBy) = true := by kernel_rfl
theorem k30 : (Rows.arbiterKnownRow.veiled == (Try.f4.params.toList ++ Rows.arbiterKnownSpec.plain.varTypes Try.pinned.checked.prog ++ Try.f4.resultTypes.toList).any (Try.pinned.checked.prog.veiledRec ·)) = true := by kernel_rfl
theorem k31 : Rows.arbiterKnownRow.veiledFits Try.pinned.checked.prog Try.f4.params.toList (Try.f4.params.toList ++ Rows.arbiterKnownSpec.plain.varTypes Try.pinned.checked.prog ++ Try.f4.resultTypes.toList) = true := by kernel_rfl
set_option maxRecDepth 100000 in
theorem closed_ : joinedFacts Try.pinned.checked.prog 4 Try.f4 Rows.arbiterKnownSpec Rows.arbiterKnownRow = true := (and_mk (and_mk (and_mk (and_mk (and_mk (and_mk (and_mk (and_mk (and_mk (and_mk (and_mk (and_mk (and_mk (and_mk (and_mk (and_mk (and_mk (and_mk (and_mk (and_mk (and_mk (and_mk (and_mk (and_mk (and_mk (and_mk (and_mk (and_mk (and_mk (and_mk (and_mk k0 k1) k2) k3) k4) k5) k6) k7) k8) k9) k10) k11) k12) k13) k14) k15) k16) k17) k18) k19) k20) k21) k22) k23) k24) k25) k26) k27) k28) k29) k30) k31)
theorem inst_ : (Try.f4).isInstance Try.pinned.checked.prog Rows.arbiterKnownRow.origin Rows.arbiterKnownRow.targs := of_decide_eq_true (by kernel_rfl)
theorem wrap_ : (Try.f4).isWrapper Try.pinned.checked.prog Rows.arbiterKnownRow.wrapper Rows.arbiterKnownRow.mainSum := by
  unfold Func.isWrapper; first | (rw [if_pos (by decide +kernel)]; kernel_rfl) | (rw [if_neg (by decide +kernel)]; exact ⟨rfl, rfl⟩)
theorem holds_arbiterKnown : Rows.ArbiterKnownSaid :=
  OpenClaim.holds_of_wide 4 Try.f4 rfl rfl rfl rfl rfl rfl rfl ⟨rfl, rfl, rfl, rfl, rfl⟩ rfl rfl rfl rfl rfl named_ Try.func4 closed_ inst_ wrap_
    (fun os started H enc _ => lifted os started H enc)
end Go.Proofs.Ytnmbhoidnbideaa.arbiterKnown
namespace Go.Proofs.Ytnmbhoidnbideaa
theorem arbiterKnown_holds : Rows.ArbiterKnownSaid := arbiterKnown.holds_arbiterKnown
#print axioms arbiterKnown_holds
end Go.Proofs.Ytnmbhoidnbideaa
