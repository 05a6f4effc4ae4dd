/-
  Proves KeptAgainSaid: whatever the input, the law returns true, and its arguments read afterwards as they read before.
  Conditions: none but those of the given statement.
-/
import Derived.Test.YtafgohnpnaiomaaWKeptAgain
import Derived.Test.YtafgohnpnaiomaaFacts
import Derived.WalkKit
import Derived.ProofKit
import Derived.OpenShut
import Derived.ShutString
import Derived.ChangeOld
import Derived.Below
namespace Go.Proofs.Ytafgohnpnaiomaa.keptAgain
open Go Go.ChangeShapes Go.WideShapes Go.ChangeAt Go.RowKit Go.Proofs.Ytafgohnpnaiomaa
open Go.ChangeMaps (open_string shut_string)

theorem own : ownKnob Try.prog.godebug = none := by kernel_rfl
theorem laidOut : laidOutB Try.prog = true := common1
set_option maxRecDepth 100000 in
theorem lifted (os : Os) (started : os.Started) (H : Type) (enc : TypeId × Value → H) :
    ReturnsInHanded {} Try.checked os 4 .any (Rows.keptAgainSpec.pre6 enc Try.prog Try.f4 Rows.keptAgainRow.domain false) (Rows.keptAgainSpec.post enc Try.prog Try.f4 false true false false) := by
  refine returnsInHanded_of_change (C := Try.checked) own started (by kernel_rfl) Try.func4
    (ChangeSpec.witness6 (enc := enc) (C := Try.checked) false ⟨#[], #[.slice none 0 0], []⟩ 8 (by kernel_rfl) (by kernel_rfl) (by kernel_rfl) (by kernel_rfl)) ?_
  intro W base args ds gs before hval0 hW hcnd _
  have hval : ∀ (j : Nat) t v, Try.f4.params[j]? = some t → args[j]? = some v → Value.okWide Try.prog W .any base t v := hval0
  have hW' := hW
  obtain ⟨p, q, hA0, hV, rfl, hfz, hnd⟩ := hW
  have hA : DataW.TrodAll enc Try.prog W 0 (fun _ => true) true Try.f4.params.toList args.toList ds p := hA0
  rw [Try.params4] at hA hval
  obtain ⟨v0, vs0, d0, ds0, p0, q0, hargs, rfl, rfl, h0, r0⟩ := trodAll_cons hA
  obtain ⟨rfl, rfl, rfl⟩ := trodAll_nil r0
  obtain rfl : args = #[v0] := by cases args; simp_all
  obtain ⟨rfl, rfl⟩ := trodVars_none hV
  obtain ⟨a0, len0, cap0, rfl⟩ := okWide_slice Try.underlying22 (hval 0 22 v0 rfl rfl)
  have k0 := h0
  have lt0 : ∀ x ∈ p0, x.block < W.heap.size := by obtain ⟨m, hm⟩ := k0; exact DataW.trod_lt m _ _ _ hm
  obtain ⟨z0, w0⟩ : ∃ zs, IsStrs W (.slice a0 len0 cap0) zs := by
    obtain ⟨fuel, hf⟩ := h0
    simp only [Value.cells] at hf
    exact strs_of Try.underlying22 Try.underlying9 (by kernel_rfl) hf
  clear hA0 hval0
  refine (walk_KeptAgain W w0).mono fun e W' ⟨he, hu⟩ => ?_
  have bel : Below W.heap.size W W' := hu.below (fun _ e => e.elim)
  subst he
  exact ⟨_, rfl, _, _, _, [], _, [], hW', trodAll_mk1 (shut_bool Try.underlying4 _), (trodAll_cons_mk (Below.trod laidOut (by kernel_rfl) (of_decide_eq_true (by kernel_rfl)) k0 bel lt0) trodAll_mk0), rfl, bel.frame _, fun h => by cases h⟩

theorem named_ : Try.pinned.checked.prog.funcNamed Rows.keptAgainRow.func = some 4 := by kernel_rfl
theorem k0 : Rows.keptAgainRow.wf (OpenSpec.ofChange Rows.keptAgainSpec) = true := by kernel_rfl
theorem k1 : laidOutB Try.pinned.checked.prog = true := common1
theorem k2 : mapsRowed Try.pinned.checked.prog = true := common2
theorem k3 : Try.f4.params.all (Try.pinned.checked.prog.readableRec ·) = true := by kernel_rfl
theorem k4 : namedTie Try.pinned.checked.prog Rows.keptAgainRow.named Rows.keptAgainSpec.vars = true := by kernel_rfl
theorem k5 : (Rows.keptAgainRow.stops == []) = true := by kernel_rfl
theorem k6 : (Try.pinned.checked.prog.stops == []) = true := common6
theorem k7 : (Rows.keptAgainRow.knobs == []) = true := by kernel_rfl
theorem k8 : (Try.pinned.checked.prog.stopKnobs == []) = true := common8
theorem k9 : (Rows.keptAgainRow.inPlace == Try.pinned.checked.prog.inPlace 4) = true := by kernel_rfl
theorem k10 : (Rows.keptAgainRow.unfollowed == Try.pinned.checked.prog.unfollowed 4) = true := by kernel_rfl
theorem k11 : (Rows.keptAgainRow.recurses == Try.pinned.checked.prog.recurses 4) = true := by kernel_rfl
theorem k12 : (Rows.keptAgainRow.named == Try.pinned.checked.prog.varsNamed 4) = true := by kernel_rfl
theorem k13 : (Rows.keptAgainRow.maps == (Try.f4.params.toList ++ Rows.keptAgainSpec.plain.varTypes Try.pinned.checked.prog).any (Try.pinned.checked.prog.mapsRec ·)) = true := by kernel_rfl
theorem k14 : (Rows.keptAgainRow.ifaces == (Try.f4.params.toList ++ Rows.keptAgainSpec.plain.varTypes Try.pinned.checked.prog).any (Try.pinned.checked.prog.ifacesRec ·)) = true := by kernel_rfl
theorem k15 : (Rows.keptAgainRow.mapsOut == Try.pinned.checked.prog.mapsAmong Try.f4.resultTypes.toList) = true := by kernel_rfl
theorem k16 : (Rows.keptAgainRow.loops == (Try.f4.params.toList ++ Rows.keptAgainSpec.plain.varTypes Try.pinned.checked.prog).any (Try.pinned.checked.prog.loopsFrom ·)) = true := by kernel_rfl
theorem k17 : (Rows.keptAgainRow.wideKeys == (Try.f4.params.toList ++ Rows.keptAgainSpec.plain.varTypes Try.pinned.checked.prog ++ Try.f4.resultTypes.toList).any (Try.pinned.checked.prog.wideKeysFrom ·)) = true := by kernel_rfl
theorem k18 : Rows.keptAgainSpec.vars.all (Try.pinned.checked.prog.varReadable ·) = true := by kernel_rfl
theorem k19 : Try.f4.resultTypes.all (fun t => Try.pinned.checked.prog.readableRec t && decide (t < Try.pinned.checked.prog.types.size)) = true := by kernel_rfl
theorem k20 : (Rows.keptAgainRow.ifacesOut == Try.f4.resultTypes.toList.any (Try.pinned.checked.prog.ifacesRec ·)) = true := by kernel_rfl
theorem k21 : (Rows.keptAgainRow.loopsOut == Try.f4.resultTypes.toList.any (Try.pinned.checked.prog.loopsFrom ·)) = true := by kernel_rfl
theorem k22 : (Rows.keptAgainRow.plainKeys == Try.pinned.checked.prog.plainKeys) = true := common22
theorem k23 : Rows.keptAgainRow.shortTexts.isNone = true := by kernel_rfl
theorem k24 : Try.pinned.checked.prog.stopsHeard = true := common24
theorem k25 : Try.pinned.checked.prog.mayEnter = true := common25
theorem k26 : (Rows.keptAgainRow.lifted == Try.pinned.checked.prog.liftsFinal) = true := common26
theorem k27 : (Try.pinned.checked.prog.make == some Rows.keptAgainRow.make) = true := common27
theorem k28 : (Rows.keptAgainRow.kinds == (if Rows.keptAgainRow.domain.isEmpty then [] else Try.f4.params.toList.map fun t => match Try.pinned.checked.prog.underlying t with | some (.int k) => some k | _ => none)) = true := by kernel_rfl
theorem k29 : (Rows.keptAgainRow.pinned == Rows.keptAgainRow.pinnedBy) = true := by kernel_rfl
theorem k30 : (Rows.keptAgainRow.veiled == (Try.f4.params.toList ++ Rows.keptAgainSpec.plain.varTypes Try.pinned.checked.prog ++ Try.f4.resultTypes.toList).any (Try.pinned.checked.prog.veiledRec ·)) = true := by kernel_rfl
theorem k31 : Rows.keptAgainRow.veiledFits Try.pinned.checked.prog Try.f4.params.toList (Try.f4.params.toList ++ Rows.keptAgainSpec.plain.varTypes Try.pinned.checked.prog ++ Try.f4.resultTypes.toList) = true := by kernel_rfl
set_option maxRecDepth 100000 in
theorem closed_ : joinedFacts Try.pinned.checked.prog 4 Try.f4 Rows.keptAgainSpec Rows.keptAgainRow = true := (and_mk (and_mk (and_mk (and_mk (and_mk (and_mk (and_mk (and_mk (and_mk (and_mk (and_mk (and_mk (and_mk (and_mk (and_mk (and_mk (and_mk (and_mk (and_mk (and_mk (and_mk (and_mk (and_mk (and_mk (and_mk (and_mk (and_mk (and_mk (and_mk (and_mk (and_mk k0 k1) k2) k3) k4) k5) k6) k7) k8) k9) k10) k11) k12) k13) k14) k15) k16) k17) k18) k19) k20) k21) k22) k23) k24) k25) k26) k27) k28) k29) k30) k31)
theorem inst_ : (Try.f4).isInstance Try.pinned.checked.prog Rows.keptAgainRow.origin Rows.keptAgainRow.targs := of_decide_eq_true (by kernel_rfl)
theorem wrap_ : (Try.f4).isWrapper Try.pinned.checked.prog Rows.keptAgainRow.wrapper Rows.keptAgainRow.mainSum := by
  unfold Func.isWrapper; first | (rw [if_pos (by decide +kernel)]; kernel_rfl) | (rw [if_neg (by decide +kernel)]; exact ⟨rfl, rfl⟩)
theorem holds_keptAgain : Rows.KeptAgainSaid :=
  OpenClaim.holds_of_wide 4 Try.f4 rfl rfl rfl rfl rfl rfl rfl ⟨rfl, rfl, rfl, rfl, rfl⟩ rfl rfl rfl rfl rfl named_ Try.func4 closed_ inst_ wrap_
    (fun os started H enc _ => lifted os started H enc)
end Go.Proofs.Ytafgohnpnaiomaa.keptAgain
namespace Go.Proofs.Ytafgohnpnaiomaa
theorem keptAgain_holds : Rows.KeptAgainSaid := keptAgain.holds_keptAgain
#print axioms keptAgain_holds
end Go.Proofs.Ytafgohnpnaiomaa
