/-
  Proves LogOpensSaid: whatever the input, the law returns true, and its arguments read afterwards as they read before.
  Conditions: none but those of the given statement.
-/
import Derived.Test.YtpfbgmfkeofefaaGreatWLogOpens
import Derived.Test.YtpfbgmfkeofefaaGreatFacts
import Derived.WalkKit
import Derived.ProofKit
import Derived.OpenShut
import Derived.ShutString
import Derived.ChangeOld
import Derived.Below
namespace Go.Proofs.YtpfbgmfkeofefaaGreat.logOpens
open Go Go.ChangeShapes Go.WideShapes Go.ChangeAt Go.RowKit Go.Proofs.YtpfbgmfkeofefaaGreat
open Go.ChangeMaps (open_string shut_string)

theorem own : ownKnob Tryz.prog.godebug = none := by kernel_rfl
theorem laidOut : laidOutB Tryz.prog = true := common1
set_option maxRecDepth 100000 in
theorem lifted (os : Os) (started : os.Started) (H : Type) (enc : TypeId × Value → H) :
    ReturnsInHanded {} Tryz.checked os 4 .any (Rows.logOpensSpec.pre6 enc Tryz.prog Tryz.f4 Rows.logOpensRow.domain false) (Rows.logOpensSpec.post enc Tryz.prog Tryz.f4 false true false false) := by
  refine returnsInHanded_of_change (C := Tryz.checked) own started (by kernel_rfl) Tryz.func4
    (ChangeSpec.witness6 (enc := enc) (C := Tryz.checked) false ⟨#[], #[.slice none 0 0, .int .u64 0, .string ByteArray.empty], []⟩ 8 (by kernel_rfl) (by kernel_rfl) (by kernel_rfl) (by kernel_rfl)) ?_
  intro W base args ds gs before hval0 hW hcnd _
  have hval : ∀ (j : Nat) t v, Tryz.f4.params[j]? = some t → args[j]? = some v → Value.okWide Tryz.prog W .any base t v := hval0
  have hW' := hW
  obtain ⟨p, q, hA0, hV, rfl, hfz, hnd⟩ := hW
  have hA : DataW.TrodAll enc Tryz.prog W 0 (fun _ => true) true Tryz.f4.params.toList args.toList ds p := hA0
  rw [Tryz.params4] at hA hval
  obtain ⟨v0, vs0, d0, ds0, p0, q0, hargs, rfl, rfl, h0, r0⟩ := trodAll_cons hA
  obtain ⟨v1, vs1, d1, ds1, p1, q1, rfl, rfl, rfl, h1, r1⟩ := trodAll_cons r0
  obtain ⟨v2, vs2, d2, ds2, p2, q2, rfl, rfl, rfl, h2, r2⟩ := trodAll_cons r1
  obtain ⟨rfl, rfl, rfl⟩ := trodAll_nil r2
  obtain rfl : args = #[v0, v1, v2] := by cases args; simp_all
  obtain ⟨rfl, rfl⟩ := trodVars_none hV
  obtain ⟨a0, len0, cap0, rfl⟩ := okWide_slice Tryz.underlying48 (hval 0 48 v0 rfl rfl)
  have k0 := h0
  have lt0 : ∀ x ∈ p0, x.block < W.heap.size := by obtain ⟨m, hm⟩ := k0; exact DataW.trod_lt m _ _ _ hm
  obtain ⟨z0, w0⟩ : ∃ zs, IsGiven10 W (.slice a0 len0 cap0) zs := by
    obtain ⟨fuel, hf⟩ := h0
    simp only [Value.cells] at hf
    exact given10_of hf
  obtain ⟨a1, rfl, rfl, rfl, w1⟩ := open_int Tryz.underlying22 (hval 1 22 v1 rfl rfl) h1
  obtain ⟨a2, rfl, rfl, rfl, w2⟩ := open_string Tryz.underlying9 (hval 2 9 v2 rfl rfl) h2
  clear hA0 hval0
  refine (walk_LogOpens W w0 w1 w2).mono fun e W' ⟨he, hu⟩ => ?_
  have bel : Below W.heap.size W W' := hu.below (fun _ e => e.elim)
  subst he
  exact ⟨_, rfl, _, _, _, [], _, [], hW', trodAll_mk1 (shut_bool Tryz.underlying4 _), (trodAll_cons_mk (Below.trod laidOut (by kernel_rfl) (of_decide_eq_true (by kernel_rfl)) k0 bel lt0) (trodAll_cons_mk (shut_int Tryz.underlying22 w1) (trodAll_cons_mk (shut_string Tryz.underlying9 w2) trodAll_mk0))), rfl, bel.frame _, fun h => by cases h⟩

theorem named_ : Tryz.pinned.checked.prog.funcNamed Rows.logOpensRow.func = some 4 := by kernel_rfl
theorem k0 : Rows.logOpensRow.wf (OpenSpec.ofChange Rows.logOpensSpec) = true := by kernel_rfl
theorem k1 : laidOutB Tryz.pinned.checked.prog = true := common1
theorem k2 : mapsRowed Tryz.pinned.checked.prog = true := common2
theorem k3 : Tryz.f4.params.all (Tryz.pinned.checked.prog.readableRec ·) = true := by kernel_rfl
theorem k4 : namedTie Tryz.pinned.checked.prog Rows.logOpensRow.named Rows.logOpensSpec.vars = true := by kernel_rfl
theorem k5 : (Rows.logOpensRow.stops == []) = true := by kernel_rfl
theorem k6 : (Tryz.pinned.checked.prog.stops == []) = true := common6
theorem k7 : (Rows.logOpensRow.knobs == []) = true := by kernel_rfl
theorem k8 : (Tryz.pinned.checked.prog.stopKnobs == []) = true := common8
theorem k9 : (Rows.logOpensRow.inPlace == Tryz.pinned.checked.prog.inPlace 4) = true := by kernel_rfl
theorem k10 : (Rows.logOpensRow.unfollowed == Tryz.pinned.checked.prog.unfollowed 4) = true := by kernel_rfl
theorem k11 : (Rows.logOpensRow.recurses == Tryz.pinned.checked.prog.recurses 4) = true := by kernel_rfl
theorem k12 : (Rows.logOpensRow.named == Tryz.pinned.checked.prog.varsNamed 4) = true := by kernel_rfl
theorem k13 : (Rows.logOpensRow.maps == (Tryz.f4.params.toList ++ Rows.logOpensSpec.plain.varTypes Tryz.pinned.checked.prog).any (Tryz.pinned.checked.prog.mapsRec ·)) = true := by kernel_rfl
theorem k14 : (Rows.logOpensRow.ifaces == (Tryz.f4.params.toList ++ Rows.logOpensSpec.plain.varTypes Tryz.pinned.checked.prog).any (Tryz.pinned.checked.prog.ifacesRec ·)) = true := by kernel_rfl
theorem k15 : (Rows.logOpensRow.mapsOut == Tryz.pinned.checked.prog.mapsAmong Tryz.f4.resultTypes.toList) = true := by kernel_rfl
theorem k16 : (Rows.logOpensRow.loops == (Tryz.f4.params.toList ++ Rows.logOpensSpec.plain.varTypes Tryz.pinned.checked.prog).any (Tryz.pinned.checked.prog.loopsFrom ·)) = true := by kernel_rfl
theorem k17 : (Rows.logOpensRow.wideKeys == (Tryz.f4.params.toList ++ Rows.logOpensSpec.plain.varTypes Tryz.pinned.checked.prog ++ Tryz.f4.resultTypes.toList).any (Tryz.pinned.checked.prog.wideKeysFrom ·)) = true := by kernel_rfl
theorem k18 : Rows.logOpensSpec.vars.all (Tryz.pinned.checked.prog.varReadable ·) = true := by kernel_rfl
theorem k19 : Tryz.f4.resultTypes.all (fun t => Tryz.pinned.checked.prog.readableRec t && decide (t < Tryz.pinned.checked.prog.types.size)) = true := by kernel_rfl
theorem k20 : (Rows.logOpensRow.ifacesOut == Tryz.f4.resultTypes.toList.any (Tryz.pinned.checked.prog.ifacesRec ·)) = true := by kernel_rfl
theorem k21 : (Rows.logOpensRow.loopsOut == Tryz.f4.resultTypes.toList.any (Tryz.pinned.checked.prog.loopsFrom ·)) = true := by kernel_rfl
theorem k22 : (Rows.logOpensRow.plainKeys == Tryz.pinned.checked.prog.plainKeys) = true := common22
theorem k23 : Rows.logOpensRow.shortTexts.isNone = true := by kernel_rfl
theorem k24 : Tryz.pinned.checked.prog.stopsHeard = true := common24
theorem k25 : Tryz.pinned.checked.prog.mayEnter = true := common25
theorem k26 : (Rows.logOpensRow.lifted == Tryz.pinned.checked.prog.liftsFinal) = true := common26
theorem k27 : (Tryz.pinned.checked.prog.make == some Rows.logOpensRow.make) = true := common27
theorem k28 : (Rows.logOpensRow.kinds == (if Rows.logOpensRow.domain.isEmpty then [] else Tryz.f4.params.toList.map fun t => match Tryz.pinned.checked.prog.underlying t with | some (.int k) => some k | _ => none)) = true := by kernel_rfl
theorem k29 : (Rows.logOpensRow.pinned == Rows.logOpensRow.pinnedBy) = true := by kernel_rfl
theorem k30 : (Rows.logOpensRow.veiled == (Tryz.f4.params.toList ++ Rows.logOpensSpec.plain.varTypes Tryz.pinned.checked.prog ++ Tryz.f4.resultTypes.toList).any (Tryz.pinned.checked.prog.veiledRec ·)) = true := by kernel_rfl
theorem k31 : Rows.logOpensRow.veiledFits Tryz.pinned.checked.prog Tryz.f4.params.toList (Tryz.f4.params.toList ++ Rows.logOpensSpec.plain.varTypes Tryz.pinned.checked.prog ++ Tryz.f4.resultTypes.toList) = true := by kernel_rfl
set_option maxRecDepth 100000 in
theorem closed_ : joinedFacts Tryz.pinned.checked.prog 4 Tryz.f4 Rows.logOpensSpec Rows.logOpensRow = true := (and_mk (and_mk (and_mk (and_mk (and_mk (and_mk (and_mk (and_mk (and_mk (and_mk (and_mk (and_mk (and_mk (and_mk (and_mk (and_mk (and_mk (and_mk (and_mk (and_mk (and_mk (and_mk (and_mk (and_mk (and_mk (and_mk (and_mk (and_mk (and_mk (and_mk (and_mk k0 k1) k2) k3) k4) k5) k6) k7) k8) k9) k10) k11) k12) k13) k14) k15) k16) k17) k18) k19) k20) k21) k22) k23) k24) k25) k26) k27) k28) k29) k30) k31)
theorem inst_ : (Tryz.f4).isInstance Tryz.pinned.checked.prog Rows.logOpensRow.origin Rows.logOpensRow.targs := of_decide_eq_true (by kernel_rfl)
theorem wrap_ : (Tryz.f4).isWrapper Tryz.pinned.checked.prog Rows.logOpensRow.wrapper Rows.logOpensRow.mainSum := by
  unfold Func.isWrapper; first | (rw [if_pos (by decide +kernel)]; kernel_rfl) | (rw [if_neg (by decide +kernel)]; exact ⟨rfl, rfl⟩)
theorem holds_logOpens : Rows.LogOpensSaid :=
  OpenClaim.holds_of_wide 4 Tryz.f4 rfl rfl rfl rfl rfl rfl rfl ⟨rfl, rfl, rfl, rfl, rfl⟩ rfl rfl rfl rfl rfl named_ Tryz.func4 closed_ inst_ wrap_
    (fun os started H enc _ => lifted os started H enc)
end Go.Proofs.YtpfbgmfkeofefaaGreat.logOpens
namespace Go.Proofs.YtpfbgmfkeofefaaGreat
theorem logOpens_holds : Rows.LogOpensSaid := logOpens.holds_logOpens
#print axioms logOpens_holds
end Go.Proofs.YtpfbgmfkeofefaaGreat
