/-
  Proves DiskNobodySaid: whatever the input, the law returns true, and its arguments read afterwards as they read before.
  Conditions: none but those of the given statement.
-/
import Derived.Test.YtafgohnpnaiomaaWDiskNobody
import Derived.Test.YtafgohnpnaiomaaFacts
import Derived.WalkKit
import Derived.ProofKit
import Derived.OpenShut
import Derived.ShutString
import Derived.ChangeOld
import Derived.Below
namespace Go.Proofs.Ytafgohnpnaiomaa.diskNobody
open Go Go.ChangeShapes Go.WideShapes Go.ChangeAt Go.RowKit Go.Proofs.Ytafgohnpnaiomaa
open Go.ChangeMaps (open_string shut_string)

theorem own : ownKnob Try.prog.godebug = none := by kernel_rfl
theorem laidOut : laidOutB Try.prog = true := common1
set_option maxRecDepth 100000 in
theorem lifted (os : Os) (started : os.Started) (H : Type) (enc : TypeId × Value → H) :
    ReturnsInHanded {} Try.checked os 15 .any (Rows.diskNobodySpec.pre6 enc Try.prog Try.f15 Rows.diskNobodyRow.domain false) (Rows.diskNobodySpec.post enc Try.prog Try.f15 false true false false) := by
  refine returnsInHanded_of_change (C := Try.checked) own started (by kernel_rfl) Try.func15
    (ChangeSpec.witness6 (enc := enc) (C := Try.checked) false ⟨#[], #[.agg #[.int .i64 0, .int .i64 0, .int .i64 0, .string ByteArray.empty, .string ByteArray.empty, .int .u8 0, .slice none 0 0]], []⟩ 8 (by kernel_rfl) (by kernel_rfl) (by kernel_rfl) (by kernel_rfl)) ?_
  intro W base args ds gs before hval0 hW hcnd _
  have hval : ∀ (j : Nat) t v, Try.f15.params[j]? = some t → args[j]? = some v → Value.okWide Try.prog W .any base t v := hval0
  have hW' := hW
  obtain ⟨p, q, hA0, hV, rfl, hfz, hnd⟩ := hW
  have hA : DataW.TrodAll enc Try.prog W 0 (fun _ => true) true Try.f15.params.toList args.toList ds p := hA0
  rw [Try.params15] at hA hval
  obtain ⟨v0, vs0, d0, ds0, p0, q0, hargs, rfl, rfl, h0, r0⟩ := trodAll_cons hA
  obtain ⟨rfl, rfl, rfl⟩ := trodAll_nil r0
  obtain rfl : args = #[v0] := by cases args; simp_all
  obtain ⟨rfl, rfl⟩ := trodVars_none hV
  have k0 := h0
  have lt0 : ∀ x ∈ p0, x.block < W.heap.size := by obtain ⟨m, hm⟩ := k0; exact DataW.trod_lt m _ _ _ hm
  obtain ⟨x0, w0⟩ := act7_of (hval 0 66 v0 rfl rfl) h0
  clear hA0 hval0
  refine (walk_DiskNobody W w0).mono fun e W' ⟨he, hu⟩ => ?_
  have bel : Below W.heap.size W W' := hu.below (fun _ e => e.elim)
  subst he
  exact ⟨_, rfl, _, _, _, [], _, [], hW', trodAll_mk1 (shut_bool Try.underlying4 _), (trodAll_cons_mk (Below.trod laidOut (by kernel_rfl) (of_decide_eq_true (by kernel_rfl)) k0 bel lt0) trodAll_mk0), rfl, bel.frame _, fun h => by cases h⟩

theorem named_ : Try.pinned.checked.prog.funcNamed Rows.diskNobodyRow.func = some 15 := by kernel_rfl
theorem k0 : Rows.diskNobodyRow.wf (OpenSpec.ofChange Rows.diskNobodySpec) = true := by kernel_rfl
theorem k1 : laidOutB Try.pinned.checked.prog = true := common1
theorem k2 : mapsRowed Try.pinned.checked.prog = true := common2
theorem k3 : Try.f15.params.all (Try.pinned.checked.prog.readableRec ·) = true := by kernel_rfl
theorem k4 : namedTie Try.pinned.checked.prog Rows.diskNobodyRow.named Rows.diskNobodySpec.vars = true := by kernel_rfl
theorem k5 : (Rows.diskNobodyRow.stops == []) = true := by kernel_rfl
theorem k6 : (Try.pinned.checked.prog.stops == []) = true := common6
theorem k7 : (Rows.diskNobodyRow.knobs == []) = true := by kernel_rfl
theorem k8 : (Try.pinned.checked.prog.stopKnobs == []) = true := common8
theorem k9 : (Rows.diskNobodyRow.inPlace == Try.pinned.checked.prog.inPlace 15) = true := by kernel_rfl
theorem k10 : (Rows.diskNobodyRow.unfollowed == Try.pinned.checked.prog.unfollowed 15) = true := by kernel_rfl
theorem k11 : (Rows.diskNobodyRow.recurses == Try.pinned.checked.prog.recurses 15) = true := by kernel_rfl
theorem k12 : (Rows.diskNobodyRow.named == Try.pinned.checked.prog.varsNamed 15) = true := by kernel_rfl
theorem k13 : (Rows.diskNobodyRow.maps == (Try.f15.params.toList ++ Rows.diskNobodySpec.plain.varTypes Try.pinned.checked.prog).any (Try.pinned.checked.prog.mapsRec ·)) = true := by kernel_rfl
theorem k14 : (Rows.diskNobodyRow.ifaces == (Try.f15.params.toList ++ Rows.diskNobodySpec.plain.varTypes Try.pinned.checked.prog).any (Try.pinned.checked.prog.ifacesRec ·)) = true := by kernel_rfl
theorem k15 : (Rows.diskNobodyRow.mapsOut == Try.pinned.checked.prog.mapsAmong Try.f15.resultTypes.toList) = true := by kernel_rfl
theorem k16 : (Rows.diskNobodyRow.loops == (Try.f15.params.toList ++ Rows.diskNobodySpec.plain.varTypes Try.pinned.checked.prog).any (Try.pinned.checked.prog.loopsFrom ·)) = true := by kernel_rfl
theorem k17 : (Rows.diskNobodyRow.wideKeys == (Try.f15.params.toList ++ Rows.diskNobodySpec.plain.varTypes Try.pinned.checked.prog ++ Try.f15.resultTypes.toList).any (Try.pinned.checked.prog.wideKeysFrom ·)) = true := by kernel_rfl
theorem k18 : Rows.diskNobodySpec.vars.all (Try.pinned.checked.prog.varReadable ·) = true := by kernel_rfl
theorem k19 : Try.f15.resultTypes.all (fun t => Try.pinned.checked.prog.readableRec t && decide (t < Try.pinned.checked.prog.types.size)) = true := by kernel_rfl
theorem k20 : (Rows.diskNobodyRow.ifacesOut == Try.f15.resultTypes.toList.any (Try.pinned.checked.prog.ifacesRec ·)) = true := by kernel_rfl
theorem k21 : (Rows.diskNobodyRow.loopsOut == Try.f15.resultTypes.toList.any (Try.pinned.checked.prog.loopsFrom ·)) = true := by kernel_rfl
theorem k22 : (Rows.diskNobodyRow.plainKeys == Try.pinned.checked.prog.plainKeys) = true := common22
theorem k23 : Rows.diskNobodyRow.shortTexts.isNone = true := by kernel_rfl
theorem k24 : Try.pinned.checked.prog.stopsHeard = true := common24
theorem k25 : Try.pinned.checked.prog.mayEnter = true := common25
theorem k26 : (Rows.diskNobodyRow.lifted == Try.pinned.checked.prog.liftsFinal) = true := common26
theorem k27 : (Try.pinned.checked.prog.make == some Rows.diskNobodyRow.make) = true := common27
theorem k28 : (Rows.diskNobodyRow.kinds == (if Rows.diskNobodyRow.domain.isEmpty then [] else Try.f15.params.toList.map fun t => match Try.pinned.checked.prog.underlying t with | some (.int k) => some k | _ => none)) = true := by kernel_rfl
theorem k29 : (Rows.diskNobodyRow.pinned == Rows.diskNobodyRow.pinnedBy) = true := by kernel_rfl
theorem k30 : (Rows.diskNobodyRow.veiled == (Try.f15.params.toList ++ Rows.diskNobodySpec.plain.varTypes Try.pinned.checked.prog ++ Try.f15.resultTypes.toList).any (Try.pinned.checked.prog.veiledRec ·)) = true := by kernel_rfl
theorem k31 : Rows.diskNobodyRow.veiledFits Try.pinned.checked.prog Try.f15.params.toList (Try.f15.params.toList ++ Rows.diskNobodySpec.plain.varTypes Try.pinned.checked.prog ++ Try.f15.resultTypes.toList) = true := by kernel_rfl
set_option maxRecDepth 100000 in
theorem closed_ : joinedFacts Try.pinned.checked.prog 15 Try.f15 Rows.diskNobodySpec Rows.diskNobodyRow = true := (and_mk (and_mk (and_mk (and_mk (and_mk (and_mk (and_mk (and_mk (and_mk (and_mk (and_mk (and_mk (and_mk (and_mk (and_mk (and_mk (and_mk (and_mk (and_mk (and_mk (and_mk (and_mk (and_mk (and_mk (and_mk (and_mk (and_mk (and_mk (and_mk (and_mk (and_mk k0 k1) k2) k3) k4) k5) k6) k7) k8) k9) k10) k11) k12) k13) k14) k15) k16) k17) k18) k19) k20) k21) k22) k23) k24) k25) k26) k27) k28) k29) k30) k31)
theorem inst_ : (Try.f15).isInstance Try.pinned.checked.prog Rows.diskNobodyRow.origin Rows.diskNobodyRow.targs := of_decide_eq_true (by kernel_rfl)
theorem wrap_ : (Try.f15).isWrapper Try.pinned.checked.prog Rows.diskNobodyRow.wrapper Rows.diskNobodyRow.mainSum := by
  unfold Func.isWrapper; first | (rw [if_pos (by decide +kernel)]; kernel_rfl) | (rw [if_neg (by decide +kernel)]; exact ⟨rfl, rfl⟩)
theorem holds_diskNobody : Rows.DiskNobodySaid :=
  OpenClaim.holds_of_wide 15 Try.f15 rfl rfl rfl rfl rfl rfl rfl ⟨rfl, rfl, rfl, rfl, rfl⟩ rfl rfl rfl rfl rfl named_ Try.func15 closed_ inst_ wrap_
    (fun os started H enc _ => lifted os started H enc)
end Go.Proofs.Ytafgohnpnaiomaa.diskNobody
namespace Go.Proofs.Ytafgohnpnaiomaa
theorem diskNobody_holds : Rows.DiskNobodySaid := diskNobody.holds_diskNobody
#print axioms diskNobody_holds
end Go.Proofs.Ytafgohnpnaiomaa
