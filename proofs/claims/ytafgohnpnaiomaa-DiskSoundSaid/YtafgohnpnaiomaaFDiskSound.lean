/-
  Proves DiskSoundSaid: whatever the input, the law returns true, and its arguments read afterwards as they read before.
  Conditions: none but those of the given statement.
-/
import Derived.Test.YtafgohnpnaiomaaWDiskSound
import Derived.Test.YtafgohnpnaiomaaFacts
import Derived.WalkKit
import Derived.ProofKit
import Derived.OpenShut
import Derived.ShutString
import Derived.ChangeOld
import Derived.Below
namespace Go.Proofs.Ytafgohnpnaiomaa.diskSound
open Go Go.ChangeShapes Go.WideShapes Go.ChangeAt Go.RowKit Go.Proofs.Ytafgohnpnaiomaa
open Go.ChangeMaps (open_string shut_string)

theorem own : ownKnob Try.prog.godebug = none := by kernel_rfl
theorem laidOut : laidOutB Try.prog = true := common1
set_option maxRecDepth 100000 in
theorem lifted (os : Os) (started : os.Started) (H : Type) (enc : TypeId × Value → H) :
    ReturnsInHanded {} Try.checked os 20 .any (Rows.diskSoundSpec.pre6 enc Try.prog Try.f20 Rows.diskSoundRow.domain false) (Rows.diskSoundSpec.post enc Try.prog Try.f20 false true false false) := by
  refine returnsInHanded_of_change (C := Try.checked) own started (by kernel_rfl) Try.func20
    (ChangeSpec.witness6 (enc := enc) (C := Try.checked) false ⟨#[], #[.string ByteArray.empty, .int .u32 0, .int .u32 0], []⟩ 8 (by kernel_rfl) (by kernel_rfl) (by kernel_rfl) (by kernel_rfl)) ?_
  intro W base args ds gs before hval0 hW hcnd _
  have hval : ∀ (j : Nat) t v, Try.f20.params[j]? = some t → args[j]? = some v → Value.okWide Try.prog W .any base t v := hval0
  have hW' := hW
  obtain ⟨p, q, hA0, hV, rfl, hfz, hnd⟩ := hW
  have hA : DataW.TrodAll enc Try.prog W 0 (fun _ => true) true Try.f20.params.toList args.toList ds p := hA0
  rw [Try.params20] at hA hval
  obtain ⟨v0, vs0, d0, ds0, p0, q0, hargs, rfl, rfl, h0, r0⟩ := trodAll_cons hA
  obtain ⟨v1, vs1, d1, ds1, p1, q1, rfl, rfl, rfl, h1, r1⟩ := trodAll_cons r0
  obtain ⟨v2, vs2, d2, ds2, p2, q2, rfl, rfl, rfl, h2, r2⟩ := trodAll_cons r1
  obtain ⟨rfl, rfl, rfl⟩ := trodAll_nil r2
  obtain rfl : args = #[v0, v1, v2] := by cases args; simp_all
  obtain ⟨rfl, rfl⟩ := trodVars_none hV
  obtain ⟨a0, rfl, rfl, rfl, w0⟩ := open_string Try.underlying9 (hval 0 9 v0 rfl rfl) h0
  obtain ⟨a1, rfl, rfl, rfl, w1⟩ := open_int Try.underlying105 (hval 1 105 v1 rfl rfl) h1
  obtain ⟨a2, rfl, rfl, rfl, w2⟩ := open_int Try.underlying105 (hval 2 105 v2 rfl rfl) h2
  clear hA0 hval0
  refine (walk_DiskSound W w0 w1 w2).mono fun e W' ⟨he, hu⟩ => ?_
  have bel : Below W.heap.size W W' := hu.below (fun _ e => e.elim)
  subst he
  exact ⟨_, rfl, _, _, _, [], _, [], hW', trodAll_mk1 (shut_bool Try.underlying4 _), (trodAll_cons_mk (shut_string Try.underlying9 w0) (trodAll_cons_mk (shut_int Try.underlying105 w1) (trodAll_cons_mk (shut_int Try.underlying105 w2) trodAll_mk0))), rfl, bel.frame _, fun h => by cases h⟩

theorem named_ : Try.pinned.checked.prog.funcNamed Rows.diskSoundRow.func = some 20 := by kernel_rfl
theorem k0 : Rows.diskSoundRow.wf (OpenSpec.ofChange Rows.diskSoundSpec) = true := by kernel_rfl
theorem k1 : laidOutB Try.pinned.checked.prog = true := common1
theorem k2 : mapsRowed Try.pinned.checked.prog = true := common2
theorem k3 : Try.f20.params.all (Try.pinned.checked.prog.readableRec ·) = true := by kernel_rfl
theorem k4 : namedTie Try.pinned.checked.prog Rows.diskSoundRow.named Rows.diskSoundSpec.vars = true := by kernel_rfl
theorem k5 : (Rows.diskSoundRow.stops == []) = true := by kernel_rfl
theorem k6 : (Try.pinned.checked.prog.stops == []) = true := common6
theorem k7 : (Rows.diskSoundRow.knobs == []) = true := by kernel_rfl
theorem k8 : (Try.pinned.checked.prog.stopKnobs == []) = true := common8
theorem k9 : (Rows.diskSoundRow.inPlace == Try.pinned.checked.prog.inPlace 20) = true := by kernel_rfl
theorem k10 : (Rows.diskSoundRow.unfollowed == Try.pinned.checked.prog.unfollowed 20) = true := by kernel_rfl
theorem k11 : (Rows.diskSoundRow.recurses == Try.pinned.checked.prog.recurses 20) = true := by kernel_rfl
theorem k12 : (Rows.diskSoundRow.named == Try.pinned.checked.prog.varsNamed 20) = true := by kernel_rfl
theorem k13 : (Rows.diskSoundRow.maps == (Try.f20.params.toList ++ Rows.diskSoundSpec.plain.varTypes Try.pinned.checked.prog).any (Try.pinned.checked.prog.mapsRec ·)) = true := by kernel_rfl
theorem k14 : (Rows.diskSoundRow.ifaces == (Try.f20.params.toList ++ Rows.diskSoundSpec.plain.varTypes Try.pinned.checked.prog).any (Try.pinned.checked.prog.ifacesRec ·)) = true := by kernel_rfl
theorem k15 : (Rows.diskSoundRow.mapsOut == Try.pinned.checked.prog.mapsAmong Try.f20.resultTypes.toList) = true := by kernel_rfl
theorem k16 : (Rows.diskSoundRow.loops == (Try.f20.params.toList ++ Rows.diskSoundSpec.plain.varTypes Try.pinned.checked.prog).any (Try.pinned.checked.prog.loopsFrom ·)) = true := by kernel_rfl
theorem k17 : (Rows.diskSoundRow.wideKeys == (Try.f20.params.toList ++ Rows.diskSoundSpec.plain.varTypes Try.pinned.checked.prog ++ Try.f20.resultTypes.toList).any (Try.pinned.checked.prog.wideKeysFrom ·)) = true := by kernel_rfl
theorem k18 : Rows.diskSoundSpec.vars.all (Try.pinned.checked.prog.varReadable ·) = true := by kernel_rfl
theorem k19 : Try.f20.resultTypes.all (fun t => Try.pinned.checked.prog.readableRec t && decide (t < Try.pinned.checked.prog.types.size)) = true := by kernel_rfl
theorem k20 : (Rows.diskSoundRow.ifacesOut == Try.f20.resultTypes.toList.any (Try.pinned.checked.prog.ifacesRec ·)) = true := by kernel_rfl
theorem k21 : (Rows.diskSoundRow.loopsOut == Try.f20.resultTypes.toList.any (Try.pinned.checked.prog.loopsFrom ·)) = true := by kernel_rfl
theorem k22 : (Rows.diskSoundRow.plainKeys == Try.pinned.checked.prog.plainKeys) = true := common22
theorem k23 : Rows.diskSoundRow.shortTexts.isNone = true := by kernel_rfl
theorem k24 : Try.pinned.checked.prog.stopsHeard = true := common24
theorem k25 : Try.pinned.checked.prog.mayEnter = true := common25
theorem k26 : (Rows.diskSoundRow.lifted == Try.pinned.checked.prog.liftsFinal) = true := common26
theorem k27 : (Try.pinned.checked.prog.make == some Rows.diskSoundRow.make) = true := common27
theorem k28 : (Rows.diskSoundRow.kinds == (if Rows.diskSoundRow.domain.isEmpty then [] else Try.f20.params.toList.map fun t => match Try.pinned.checked.prog.underlying t with | some (.int k) => some k | _ => none)) = true := by kernel_rfl
theorem k29 : (Rows.diskSoundRow.pinned == Rows.diskSoundRow.pinnedBy) = true := by kernel_rfl
theorem k30 : (Rows.diskSoundRow.veiled == (Try.f20.params.toList ++ Rows.diskSoundSpec.plain.varTypes Try.pinned.checked.prog ++ Try.f20.resultTypes.toList).any (Try.pinned.checked.prog.veiledRec ·)) = true := by kernel_rfl
theorem k31 : Rows.diskSoundRow.veiledFits Try.pinned.checked.prog Try.f20.params.toList (Try.f20.params.toList ++ Rows.diskSoundSpec.plain.varTypes Try.pinned.checked.prog ++ Try.f20.resultTypes.toList) = true := by kernel_rfl
set_option maxRecDepth 100000 in
theorem closed_ : joinedFacts Try.pinned.checked.prog 20 Try.f20 Rows.diskSoundSpec Rows.diskSoundRow = true := (and_mk (and_mk (and_mk (and_mk (and_mk (and_mk (and_mk (and_mk (and_mk (and_mk (and_mk (and_mk (and_mk (and_mk (and_mk (and_mk (and_mk (and_mk (and_mk (and_mk (and_mk (and_mk (and_mk (and_mk (and_mk (and_mk (and_mk (and_mk (and_mk (and_mk (and_mk k0 k1) k2) k3) k4) k5) k6) k7) k8) k9) k10) k11) k12) k13) k14) k15) k16) k17) k18) k19) k20) k21) k22) k23) k24) k25) k26) k27) k28) k29) k30) k31)
theorem inst_ : (Try.f20).isInstance Try.pinned.checked.prog Rows.diskSoundRow.origin Rows.diskSoundRow.targs := of_decide_eq_true (by kernel_rfl)
theorem wrap_ : (Try.f20).isWrapper Try.pinned.checked.prog Rows.diskSoundRow.wrapper Rows.diskSoundRow.mainSum := by
  unfold Func.isWrapper; first | (rw [if_pos (by decide +kernel)]; kernel_rfl) | (rw [if_neg (by decide +kernel)]; exact ⟨rfl, rfl⟩)
theorem holds_diskSound : Rows.DiskSoundSaid :=
  OpenClaim.holds_of_wide 20 Try.f20 rfl rfl rfl rfl rfl rfl rfl ⟨rfl, rfl, rfl, rfl, rfl⟩ rfl rfl rfl rfl rfl named_ Try.func20 closed_ inst_ wrap_
    (fun os started H enc _ => lifted os started H enc)
end Go.Proofs.Ytafgohnpnaiomaa.diskSound
namespace Go.Proofs.Ytafgohnpnaiomaa
theorem diskSound_holds : Rows.DiskSoundSaid := diskSound.holds_diskSound
#print axioms diskSound_holds
end Go.Proofs.Ytafgohnpnaiomaa
