/-
  Proves KeptKnownSaid: whatever the input, the law returns true, and its arguments read afterwards as they read before.
  Conditions: none but those of the given statement.
-/
import Derived.Test.YtafgohnpnaiomaaWKeptKnown
import Derived.Test.YtafgohnpnaiomaaFacts
import Derived.WalkKit
import Derived.ProofKit
import Derived.OpenShut
import Derived.ShutString
import Derived.ChangeOld
import Derived.Below
namespace Go.Proofs.Ytafgohnpnaiomaa.keptKnown
open Go Go.ChangeShapes Go.WideShapes Go.ChangeAt Go.RowKit Go.Proofs.Ytafgohnpnaiomaa
open Go.ChangeMaps (open_string shut_string)

theorem own : ownKnob Try.prog.godebug = none := by kernel_rfl
theorem laidOut : laidOutB Try.prog = true := common1
set_option maxRecDepth 100000 in
theorem lifted (os : Os) (started : os.Started) (H : Type) (enc : TypeId × Value → H) :
    ReturnsInHanded {} Try.checked os 21 .any (Rows.keptKnownSpec.pre6 enc Try.prog Try.f21 Rows.keptKnownRow.domain false) (Rows.keptKnownSpec.post enc Try.prog Try.f21 false true false false) := by
  refine returnsInHanded_of_change (C := Try.checked) own started (by kernel_rfl) Try.func21
    (ChangeSpec.witness6 (enc := enc) (C := Try.checked) false ⟨#[], #[], []⟩ 8 (by kernel_rfl) (by kernel_rfl) (by kernel_rfl) (by kernel_rfl)) ?_
  intro W base args ds gs before hval0 hW hcnd _
  have hval : ∀ (j : Nat) t v, Try.f21.params[j]? = some t → args[j]? = some v → Value.okWide Try.prog W .any base t v := hval0
  have hW' := hW
  obtain ⟨p, q, hA0, hV, rfl, hfz, hnd⟩ := hW
  have hA : DataW.TrodAll enc Try.prog W 0 (fun _ => true) true Try.f21.params.toList args.toList ds p := hA0
  rw [Try.params21] at hA hval
  obtain ⟨h0, rfl, rfl⟩ := trodAll_nil hA
  obtain rfl : args = #[] := by cases args; simp_all
  obtain ⟨rfl, rfl⟩ := trodVars_none hV
  clear hA0 hval0
  refine (walk_KeptKnown W ).mono fun e W' ⟨he, hu⟩ => ?_
  have bel : Below W.heap.size W W' := hu.below (fun _ e => e.elim)
  subst he
  exact ⟨_, rfl, _, _, _, [], _, [], hW', trodAll_mk1 (shut_bool Try.underlying4 _), rfl, rfl, bel.frame _, fun h => by cases h⟩

theorem named_ : Try.pinned.checked.prog.funcNamed Rows.keptKnownRow.func = some 21 := by kernel_rfl
theorem k0 : Rows.keptKnownRow.wf (OpenSpec.ofChange Rows.keptKnownSpec) = true := by kernel_rfl
theorem k1 : laidOutB Try.pinned.checked.prog = true := common1
theorem k2 : mapsRowed Try.pinned.checked.prog = true := common2
theorem k3 : Try.f21.params.all (Try.pinned.checked.prog.readableRec ·) = true := by kernel_rfl
theorem k4 : namedTie Try.pinned.checked.prog Rows.keptKnownRow.named Rows.keptKnownSpec.vars = true := by kernel_rfl
theorem k5 : (Rows.keptKnownRow.stops == []) = true := by kernel_rfl
theorem k6 : (Try.pinned.checked.prog.stops == []) = true := common6
theorem k7 : (Rows.keptKnownRow.knobs == []) = true := by kernel_rfl
theorem k8 : (Try.pinned.checked.prog.stopKnobs == []) = true := common8
theorem k9 : (Rows.keptKnownRow.inPlace == Try.pinned.checked.prog.inPlace 21) = true := by kernel_rfl
theorem k10 : (Rows.keptKnownRow.unfollowed == Try.pinned.checked.prog.unfollowed 21) = true := by kernel_rfl
theorem k11 : (Rows.keptKnownRow.recurses == Try.pinned.checked.prog.recurses 21) = true := by kernel_rfl
theorem k12 : (Rows.keptKnownRow.named == Try.pinned.checked.prog.varsNamed 21) = true := by kernel_rfl
theorem k13 : (Rows.keptKnownRow.maps == (Try.f21.params.toList ++ Rows.keptKnownSpec.plain.varTypes Try.pinned.checked.prog).any (Try.pinned.checked.prog.mapsRec ·)) = true := by kernel_rfl
theorem k14 : (Rows.keptKnownRow.ifaces == (Try.f21.params.toList ++ Rows.keptKnownSpec.plain.varTypes Try.pinned.checked.prog).any (Try.pinned.checked.prog.ifacesRec ·)) = true := by kernel_rfl
theorem k15 : (Rows.keptKnownRow.mapsOut == Try.pinned.checked.prog.mapsAmong Try.f21.resultTypes.toList) = true := by kernel_rfl
theorem k16 : (Rows.keptKnownRow.loops == (Try.f21.params.toList ++ Rows.keptKnownSpec.plain.varTypes Try.pinned.checked.prog).any (Try.pinned.checked.prog.loopsFrom ·)) = true := by kernel_rfl
theorem k17 : (Rows.keptKnownRow.wideKeys == (Try.f21.params.toList ++ Rows.keptKnownSpec.plain.varTypes Try.pinned.checked.prog ++ Try.f21.resultTypes.toList).any (Try.pinned.checked.prog.wideKeysFrom ·)) = true := by kernel_rfl
theorem k18 : Rows.keptKnownSpec.vars.all (Try.pinned.checked.prog.varReadable ·) = true := by kernel_rfl
theorem k19 : Try.f21.resultTypes.all (fun t => Try.pinned.checked.prog.readableRec t && decide (t < Try.pinned.checked.prog.types.size)) = true := by kernel_rfl
theorem k20 : (Rows.keptKnownRow.ifacesOut == Try.f21.resultTypes.toList.any (Try.pinned.checked.prog.ifacesRec ·)) = true := by kernel_rfl
theorem k21 : (Rows.keptKnownRow.loopsOut == Try.f21.resultTypes.toList.any (Try.pinned.checked.prog.loopsFrom ·)) = true := by kernel_rfl
theorem k22 : (Rows.keptKnownRow.plainKeys == Try.pinned.checked.prog.plainKeys) = true := common22
theorem k23 : Rows.keptKnownRow.shortTexts.isNone = true := by kernel_rfl
theorem k24 : Try.pinned.checked.prog.stopsHeard = true := common24
theorem k25 : Try.pinned.checked.prog.mayEnter = true := common25
theorem k26 : (Rows.keptKnownRow.lifted == Try.pinned.checked.prog.liftsFinal) = true := common26
theorem k27 : (Try.pinned.checked.prog.make == some Rows.keptKnownRow.make) = true := common27
theorem k28 : (Rows.keptKnownRow.kinds == (if Rows.keptKnownRow.domain.isEmpty then [] else Try.f21.params.toList.map fun t => match Try.pinned.checked.prog.underlying t with | some (.int k) => some k | _ => none)) = true := by kernel_rfl
theorem k29 : (Rows.keptKnownRow.pinned == Rows.keptKnownRow.pinnedBy) = true := by kernel_rfl
theorem k30 : (Rows.keptKnownRow.veiled == (Try.f21.params.toList ++ Rows.keptKnownSpec.plain.varTypes Try.pinned.checked.prog ++ Try.f21.resultTypes.toList).any (Try.pinned.checked.prog.veiledRec ·)) = true := by kernel_rfl
theorem k31 : Rows.keptKnownRow.veiledFits Try.pinned.checked.prog Try.f21.params.toList (Try.f21.params.toList ++ Rows.keptKnownSpec.plain.varTypes Try.pinned.checked.prog ++ Try.f21.resultTypes.toList) = true := by kernel_rfl
set_option maxRecDepth 100000 in
theorem closed_ : joinedFacts Try.pinned.checked.prog 21 Try.f21 Rows.keptKnownSpec Rows.keptKnownRow = true := (and_mk (and_mk (and_mk (and_mk (and_mk (and_mk (and_mk (and_mk (and_mk (and_mk (and_mk (and_mk (and_mk (and_mk (and_mk (and_mk (and_mk (and_mk (and_mk (and_mk (and_mk (and_mk (and_mk (and_mk (and_mk (and_mk (and_mk (and_mk (and_mk (and_mk (and_mk k0 k1) k2) k3) k4) k5) k6) k7) k8) k9) k10) k11) k12) k13) k14) k15) k16) k17) k18) k19) k20) k21) k22) k23) k24) k25) k26) k27) k28) k29) k30) k31)
theorem inst_ : (Try.f21).isInstance Try.pinned.checked.prog Rows.keptKnownRow.origin Rows.keptKnownRow.targs := of_decide_eq_true (by kernel_rfl)
theorem wrap_ : (Try.f21).isWrapper Try.pinned.checked.prog Rows.keptKnownRow.wrapper Rows.keptKnownRow.mainSum := by
  unfold Func.isWrapper; first | (rw [if_pos (by decide +kernel)]; kernel_rfl) | (rw [if_neg (by decide +kernel)]; exact ⟨rfl, rfl⟩)
theorem holds_keptKnown : Rows.KeptKnownSaid :=
  OpenClaim.holds_of_wide 21 Try.f21 rfl rfl rfl rfl rfl rfl rfl ⟨rfl, rfl, rfl, rfl, rfl⟩ rfl rfl rfl rfl rfl named_ Try.func21 closed_ inst_ wrap_
    (fun os started H enc _ => lifted os started H enc)
end Go.Proofs.Ytafgohnpnaiomaa.keptKnown
namespace Go.Proofs.Ytafgohnpnaiomaa
theorem keptKnown_holds : Rows.KeptKnownSaid := keptKnown.holds_keptKnown
#print axioms keptKnown_holds
end Go.Proofs.Ytafgohnpnaiomaa
