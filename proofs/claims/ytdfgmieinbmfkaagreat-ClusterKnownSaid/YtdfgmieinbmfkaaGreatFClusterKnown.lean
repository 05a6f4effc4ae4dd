/-
  Proves ClusterKnownSaid: whatever the input, the law returns true, and its arguments read afterwards as they read before.
  Conditions: none but those of the given statement.
-/
import Derived.Test.YtdfgmieinbmfkaaGreatWClusterKnown
import Derived.Test.YtdfgmieinbmfkaaGreatFacts
import Derived.WalkKit
import Derived.ProofKit
import Derived.OpenShut
import Derived.ShutString
import Derived.ChangeOld
import Derived.Below
namespace Go.Proofs.YtdfgmieinbmfkaaGreat.clusterKnown
open Go Go.ChangeShapes Go.WideShapes Go.ChangeAt Go.RowKit Go.Proofs.YtdfgmieinbmfkaaGreat
open Go.ChangeMaps (open_string shut_string)

theorem own : ownKnob Tryz.prog.godebug = none := by kernel_rfl
theorem laidOut : laidOutB Tryz.prog = true := common1
set_option maxRecDepth 100000 in
theorem lifted (os : Os) (started : os.Started) (H : Type) (enc : TypeId × Value → H) :
    ReturnsInHanded {} Tryz.checked os 4 .any (Rows.clusterKnownSpec.pre6 enc Tryz.prog Tryz.f4 Rows.clusterKnownRow.domain false) (Rows.clusterKnownSpec.post enc Tryz.prog Tryz.f4 false true false false) := by
  refine returnsInHanded_of_change (C := Tryz.checked) own started (by kernel_rfl) Tryz.func4
    (ChangeSpec.witness6 (enc := enc) (C := Tryz.checked) false ⟨#[], #[], []⟩ 8 (by kernel_rfl) (by kernel_rfl) (by kernel_rfl) (by kernel_rfl)) ?_
  intro W base args ds gs before hval0 hW hcnd _
  have hval : ∀ (j : Nat) t v, Tryz.f4.params[j]? = some t → args[j]? = some v → Value.okWide Tryz.prog W .any base t v := hval0
  have hW' := hW
  obtain ⟨p, q, hA0, hV, rfl, hfz, hnd⟩ := hW
  have hA : DataW.TrodAll enc Tryz.prog W 0 (fun _ => true) true Tryz.f4.params.toList args.toList ds p := hA0
  rw [Tryz.params4] at hA hval
  obtain ⟨h0, rfl, rfl⟩ := trodAll_nil hA
  obtain rfl : args = #[] := by cases args; simp_all
  obtain ⟨rfl, rfl⟩ := trodVars_none hV
  clear hA0 hval0
  refine (walk_ClusterKnown W ).mono fun e W' ⟨he, hu⟩ => ?_
  have bel : Below W.heap.size W W' := hu.below (fun _ e => e.elim)
  subst he
  exact ⟨_, rfl, _, _, _, [], _, [], hW', trodAll_mk1 (shut_bool Tryz.underlying4 _), rfl, rfl, bel.frame _, fun h => by cases h⟩

theorem named_ : Tryz.pinned.checked.prog.funcNamed Rows.clusterKnownRow.func = some 4 := by kernel_rfl
theorem k0 : Rows.clusterKnownRow.wf (OpenSpec.ofChange Rows.clusterKnownSpec) = true := by kernel_rfl
theorem k1 : laidOutB Tryz.pinned.checked.prog = true := common1
theorem k2 : mapsRowed Tryz.pinned.checked.prog = true := common2
theorem k3 : Tryz.f4.params.all (Tryz.pinned.checked.prog.readableRec ·) = true := by kernel_rfl
theorem k4 : namedTie Tryz.pinned.checked.prog Rows.clusterKnownRow.named Rows.clusterKnownSpec.vars = true := by kernel_rfl
theorem k5 : (Rows.clusterKnownRow.stops == []) = true := by kernel_rfl
theorem k6 : (Tryz.pinned.checked.prog.stops == []) = true := common6
theorem k7 : (Rows.clusterKnownRow.knobs == []) = true := by kernel_rfl
theorem k8 : (Tryz.pinned.checked.prog.stopKnobs == []) = true := common8
theorem k9 : (Rows.clusterKnownRow.inPlace == Tryz.pinned.checked.prog.inPlace 4) = true := by kernel_rfl
theorem k10 : (Rows.clusterKnownRow.unfollowed == Tryz.pinned.checked.prog.unfollowed 4) = true := by kernel_rfl
theorem k11 : (Rows.clusterKnownRow.recurses == Tryz.pinned.checked.prog.recurses 4) = true := by kernel_rfl
theorem k12 : (Rows.clusterKnownRow.named == Tryz.pinned.checked.prog.varsNamed 4) = true := by kernel_rfl
theorem k13 : (Rows.clusterKnownRow.maps == (Tryz.f4.params.toList ++ Rows.clusterKnownSpec.plain.varTypes Tryz.pinned.checked.prog).any (Tryz.pinned.checked.prog.mapsRec ·)) = true := by kernel_rfl
theorem k14 : (Rows.clusterKnownRow.ifaces == (Tryz.f4.params.toList ++ Rows.clusterKnownSpec.plain.varTypes Tryz.pinned.checked.prog).any (Tryz.pinned.checked.prog.ifacesRec ·)) = true := by kernel_rfl
theorem k15 : (Rows.clusterKnownRow.mapsOut == Tryz.pinned.checked.prog.mapsAmong Tryz.f4.resultTypes.toList) = true := by kernel_rfl
theorem k16 : (Rows.clusterKnownRow.loops == (Tryz.f4.params.toList ++ Rows.clusterKnownSpec.plain.varTypes Tryz.pinned.checked.prog).any (Tryz.pinned.checked.prog.loopsFrom ·)) = true := by kernel_rfl
theorem k17 : (Rows.clusterKnownRow.wideKeys == (Tryz.f4.params.toList ++ Rows.clusterKnownSpec.plain.varTypes Tryz.pinned.checked.prog ++ Tryz.f4.resultTypes.toList).any (Tryz.pinned.checked.prog.wideKeysFrom ·)) = true := by kernel_rfl
theorem k18 : Rows.clusterKnownSpec.vars.all (Tryz.pinned.checked.prog.varReadable ·) = true := by kernel_rfl
theorem k19 : Tryz.f4.resultTypes.all (fun t => Tryz.pinned.checked.prog.readableRec t && decide (t < Tryz.pinned.checked.prog.types.size)) = true := by kernel_rfl
theorem k20 : (Rows.clusterKnownRow.ifacesOut == Tryz.f4.resultTypes.toList.any (Tryz.pinned.checked.prog.ifacesRec ·)) = true := by kernel_rfl
theorem k21 : (Rows.clusterKnownRow.loopsOut == Tryz.f4.resultTypes.toList.any (Tryz.pinned.checked.prog.loopsFrom ·)) = true := by kernel_rfl
theorem k22 : (Rows.clusterKnownRow.plainKeys == Tryz.pinned.checked.prog.plainKeys) = true := common22
theorem k23 : Rows.clusterKnownRow.shortTexts.isNone = true := by kernel_rfl
theorem k24 : Tryz.pinned.checked.prog.stopsHeard = true := common24
theorem k25 : Tryz.pinned.checked.prog.mayEnter = true := common25
theorem k26 : (Rows.clusterKnownRow.lifted == Tryz.pinned.checked.prog.liftsFinal) = true := common26
theorem k27 : (Tryz.pinned.checked.prog.make == some Rows.clusterKnownRow.make) = true := common27
theorem k28 : (Rows.clusterKnownRow.kinds == (if Rows.clusterKnownRow.domain.isEmpty then [] else Tryz.f4.params.toList.map fun t => match Tryz.pinned.checked.prog.underlying t with | some (.int k) => some k | _ => none)) = true := by kernel_rfl
theorem k29 : (Rows.clusterKnownRow.pinned == Rows.clusterKnownRow.pinnedBy) = true := by kernel_rfl
theorem k30 : (Rows.clusterKnownRow.veiled == (Tryz.f4.params.toList ++ Rows.clusterKnownSpec.plain.varTypes Tryz.pinned.checked.prog ++ Tryz.f4.resultTypes.toList).any (Tryz.pinned.checked.prog.veiledRec ·)) = true := by kernel_rfl
theorem k31 : Rows.clusterKnownRow.veiledFits Tryz.pinned.checked.prog Tryz.f4.params.toList (Tryz.f4.params.toList ++ Rows.clusterKnownSpec.plain.varTypes Tryz.pinned.checked.prog ++ Tryz.f4.resultTypes.toList) = true := by kernel_rfl
set_option maxRecDepth 100000 in
theorem closed_ : joinedFacts Tryz.pinned.checked.prog 4 Tryz.f4 Rows.clusterKnownSpec Rows.clusterKnownRow = true := (and_mk (and_mk (and_mk (and_mk (and_mk (and_mk (and_mk (and_mk (and_mk (and_mk (and_mk (and_mk (and_mk (and_mk (and_mk (and_mk (and_mk (and_mk (and_mk (and_mk (and_mk (and_mk (and_mk (and_mk (and_mk (and_mk (and_mk (and_mk (and_mk (and_mk (and_mk k0 k1) k2) k3) k4) k5) k6) k7) k8) k9) k10) k11) k12) k13) k14) k15) k16) k17) k18) k19) k20) k21) k22) k23) k24) k25) k26) k27) k28) k29) k30) k31)
theorem inst_ : (Tryz.f4).isInstance Tryz.pinned.checked.prog Rows.clusterKnownRow.origin Rows.clusterKnownRow.targs := of_decide_eq_true (by kernel_rfl)
theorem wrap_ : (Tryz.f4).isWrapper Tryz.pinned.checked.prog Rows.clusterKnownRow.wrapper Rows.clusterKnownRow.mainSum := by
  unfold Func.isWrapper; first | (rw [if_pos (by decide +kernel)]; kernel_rfl) | (rw [if_neg (by decide +kernel)]; exact ⟨rfl, rfl⟩)
theorem holds_clusterKnown : Rows.ClusterKnownSaid :=
  OpenClaim.holds_of_wide 4 Tryz.f4 rfl rfl rfl rfl rfl rfl rfl ⟨rfl, rfl, rfl, rfl, rfl⟩ rfl rfl rfl rfl rfl named_ Tryz.func4 closed_ inst_ wrap_
    (fun os started H enc _ => lifted os started H enc)
end Go.Proofs.YtdfgmieinbmfkaaGreat.clusterKnown
namespace Go.Proofs.YtdfgmieinbmfkaaGreat
theorem clusterKnown_holds : Rows.ClusterKnownSaid := clusterKnown.holds_clusterKnown
#print axioms clusterKnown_holds
end Go.Proofs.YtdfgmieinbmfkaaGreat
