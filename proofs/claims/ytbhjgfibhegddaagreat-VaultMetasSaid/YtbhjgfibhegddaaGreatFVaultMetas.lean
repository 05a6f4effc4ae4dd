/-
  Proves VaultMetasSaid: whatever the input, the law returns true, and its arguments read afterwards as they read before.
  Conditions: none but those of the given statement.
-/
import Derived.Test.YtbhjgfibhegddaaGreatQVaultMetas23
import Derived.Below
import Derived.ChangeOld
import Derived.OpenShut
import Derived.ProofKit
import Derived.ShutString
import Derived.WalkKit
namespace Go.Proofs.YtbhjgfibhegddaaGreat.vaultMetas
open Go Go.ChangeShapes Go.WideShapes Go.ChangeAt Go.RowKit Go.Proofs.YtbhjgfibhegddaaGreat
open Go.ChangeMaps (open_string shut_string)
theorem own : ownKnob Tryz.prog.godebug = none := by kernel_rfl
theorem laidOut : laidOutB Tryz.prog = true := common1
set_option maxRecDepth 100000 in
theorem lifted (os : Os) (started : os.Started) (H : Type) (enc : TypeId × Value → H) :
 ReturnsInHanded {} Tryz.checked os 7 .any (Rows.vaultMetasSpec.pre6 enc Tryz.prog Tryz.f7 Rows.vaultMetasRow.domain false) (Rows.vaultMetasSpec.post enc Tryz.prog Tryz.f7 false true false false) := by
 refine returnsInHanded_of_change (C := Tryz.checked) own started (by kernel_rfl) Tryz.func7
  (ChangeSpec.witness6 (enc := enc) (C := Tryz.checked) false ⟨#[], #[.agg #[.int .i64 0, .int .i64 0, .int .i64 0, .slice none 0 0, .string ByteArray.empty], .agg #[.int .i64 0, .int .i64 0, .slice none 0 0], .slice none 0 0], []⟩ 8 (by kernel_rfl) (by kernel_rfl) (by kernel_rfl) (by kernel_rfl)) ?_
 intro W base args ds gs before hval0 hW hcnd _;have hval : ∀ (j : Nat) t v, Tryz.f7.params[j]? = some t → args[j]? = some v → Value.okWide Tryz.prog W .any base t v := hval0;have hW' := hW;obtain ⟨p, q, hA0, hV, rfl, hfz, hnd⟩ := hW;have hA : DataW.TrodAll enc Tryz.prog W 0 (fun _ => true) true Tryz.f7.params.toList args.toList ds p := hA0;rw [Tryz.params7] at hA hval;obtain ⟨v0, vs0, d0, ds0, p0, q0, hargs, rfl, rfl, h0, r0⟩ := trodAll_cons hA;obtain ⟨v1, vs1, d1, ds1, p1, q1, rfl, rfl, rfl, h1, r1⟩ := trodAll_cons r0;obtain ⟨v2, vs2, d2, ds2, p2, q2, rfl, rfl, rfl, h2, r2⟩ := trodAll_cons r1;obtain ⟨rfl, rfl, rfl⟩ := trodAll_nil r2;obtain rfl : args = #[v0, v1, v2] := by cases args; simp_all
 obtain ⟨rfl, rfl⟩ := trodVars_none hV;have k0 := h0;have lt0 : ∀ x ∈ p0, x.block < W.heap.size := by obtain ⟨m, hm⟩ := k0; exact DataW.trod_lt m _ _ _ hm
 obtain ⟨x0, w0⟩ := meta_of (hval 0 50 v0 rfl rfl) h0;have k1 := h1;have lt1 : ∀ x ∈ p1, x.block < W.heap.size := by obtain ⟨m, hm⟩ := k1; exact DataW.trod_lt m _ _ _ hm
 obtain ⟨x1, w1⟩ := bat_of (hval 1 35 v1 rfl rfl) h1;obtain ⟨a2, len2, cap2, rfl⟩ := okWide_slice Tryz.underlying56 (hval 2 56 v2 rfl rfl);have k2 := h2;have lt2 : ∀ x ∈ p2, x.block < W.heap.size := by obtain ⟨m, hm⟩ := k2; exact DataW.trod_lt m _ _ _ hm
 obtain ⟨z2, w2⟩ : ∃ zs, PrsIn W (.slice a2 len2 cap2) zs := by
  obtain ⟨fuel, hf⟩ := h2;simp only [Value.cells] at hf;exact prs_of hf
 clear hA0 hval0;refine (walk_VaultMetas W w0 w1 w2).mono fun e W' ⟨he, hu⟩ => ?_
 have bel : Below W.heap.size W W' := hu.below (fun _ e => e.elim);subst he;exact ⟨_, rfl, _, _, _, [], _, [], hW', trodAll_mk1 (shut_bool Tryz.underlying4 _), (trodAll_cons_mk (Below.trod laidOut (by kernel_rfl) (of_decide_eq_true (by kernel_rfl)) k0 bel lt0) (trodAll_cons_mk (Below.trod laidOut (by kernel_rfl) (of_decide_eq_true (by kernel_rfl)) k1 bel lt1) (trodAll_cons_mk (Below.trod laidOut (by kernel_rfl) (of_decide_eq_true (by kernel_rfl)) k2 bel lt2) trodAll_mk0))), rfl, bel.frame _, fun h => by cases h⟩
theorem named_ : Tryz.pinned.checked.prog.funcNamed Rows.vaultMetasRow.func = some 7 := by kernel_rfl
theorem k0 : Rows.vaultMetasRow.wf (OpenSpec.ofChange Rows.vaultMetasSpec) = true := by kernel_rfl
theorem k1 : laidOutB Tryz.pinned.checked.prog = true := common1
theorem k2 : mapsRowed Tryz.pinned.checked.prog = true := common2
theorem k3 : Tryz.f7.params.all (Tryz.pinned.checked.prog.readableRec ·) = true := by kernel_rfl
theorem k4 : namedTie Tryz.pinned.checked.prog Rows.vaultMetasRow.named Rows.vaultMetasSpec.vars = true := by kernel_rfl
theorem k5 : (Rows.vaultMetasRow.stops == []) = true := by kernel_rfl
theorem k6 : (Tryz.pinned.checked.prog.stops == []) = true := common6
theorem k7 : (Rows.vaultMetasRow.knobs == []) = true := by kernel_rfl
theorem k8 : (Tryz.pinned.checked.prog.stopKnobs == []) = true := common8
theorem k9 : (Rows.vaultMetasRow.inPlace == Tryz.pinned.checked.prog.inPlace 7) = true := by kernel_rfl
theorem k10 : (Rows.vaultMetasRow.unfollowed == Tryz.pinned.checked.prog.unfollowed 7) = true := by kernel_rfl
theorem k11 : (Rows.vaultMetasRow.recurses == Tryz.pinned.checked.prog.recurses 7) = true := by kernel_rfl
theorem k12 : (Rows.vaultMetasRow.named == Tryz.pinned.checked.prog.varsNamed 7) = true := by kernel_rfl
theorem k13 : (Rows.vaultMetasRow.maps == (Tryz.f7.params.toList ++ Rows.vaultMetasSpec.plain.varTypes Tryz.pinned.checked.prog).any (Tryz.pinned.checked.prog.mapsRec ·)) = true := by kernel_rfl
theorem k14 : (Rows.vaultMetasRow.ifaces == (Tryz.f7.params.toList ++ Rows.vaultMetasSpec.plain.varTypes Tryz.pinned.checked.prog).any (Tryz.pinned.checked.prog.ifacesRec ·)) = true := by kernel_rfl
theorem k15 : (Rows.vaultMetasRow.mapsOut == Tryz.pinned.checked.prog.mapsAmong Tryz.f7.resultTypes.toList) = true := by kernel_rfl
theorem k16 : (Rows.vaultMetasRow.loops == (Tryz.f7.params.toList ++ Rows.vaultMetasSpec.plain.varTypes Tryz.pinned.checked.prog).any (Tryz.pinned.checked.prog.loopsFrom ·)) = true := by kernel_rfl
theorem k17 : (Rows.vaultMetasRow.wideKeys == (Tryz.f7.params.toList ++ Rows.vaultMetasSpec.plain.varTypes Tryz.pinned.checked.prog ++ Tryz.f7.resultTypes.toList).any (Tryz.pinned.checked.prog.wideKeysFrom ·)) = true := by kernel_rfl
theorem k18 : Rows.vaultMetasSpec.vars.all (Tryz.pinned.checked.prog.varReadable ·) = true := by kernel_rfl
theorem k19 : Tryz.f7.resultTypes.all (fun t => Tryz.pinned.checked.prog.readableRec t && decide (t < Tryz.pinned.checked.prog.types.size)) = true := by kernel_rfl
theorem k20 : (Rows.vaultMetasRow.ifacesOut == Tryz.f7.resultTypes.toList.any (Tryz.pinned.checked.prog.ifacesRec ·)) = true := by kernel_rfl
theorem k21 : (Rows.vaultMetasRow.loopsOut == Tryz.f7.resultTypes.toList.any (Tryz.pinned.checked.prog.loopsFrom ·)) = true := by kernel_rfl
theorem k22 : (Rows.vaultMetasRow.plainKeys == Tryz.pinned.checked.prog.plainKeys) = true := common22
theorem k23 : Rows.vaultMetasRow.shortTexts.isNone = true := by kernel_rfl
theorem k24 : Tryz.pinned.checked.prog.stopsHeard = true := common24
theorem k25 : Tryz.pinned.checked.prog.mayEnter = true := common25
theorem k26 : (Rows.vaultMetasRow.lifted == Tryz.pinned.checked.prog.liftsFinal) = true := common26
theorem k27 : (Tryz.pinned.checked.prog.make == some Rows.vaultMetasRow.make) = true := common27
theorem k28 : (Rows.vaultMetasRow.kinds == (if Rows.vaultMetasRow.domain.isEmpty then [] else Tryz.f7.params.toList.map fun t => match Tryz.pinned.checked.prog.underlying t with | some (.int k) => some k | _ => none)) = true := by kernel_rfl
theorem k29 : (Rows.vaultMetasRow.pinned == Rows.vaultMetasRow.pinnedBy) = true := by kernel_rfl
theorem k30 : (Rows.vaultMetasRow.veiled == (Tryz.f7.params.toList ++ Rows.vaultMetasSpec.plain.varTypes Tryz.pinned.checked.prog ++ Tryz.f7.resultTypes.toList).any (Tryz.pinned.checked.prog.veiledRec ·)) = true := by kernel_rfl
theorem k31 : Rows.vaultMetasRow.veiledFits Tryz.pinned.checked.prog Tryz.f7.params.toList (Tryz.f7.params.toList ++ Rows.vaultMetasSpec.plain.varTypes Tryz.pinned.checked.prog ++ Tryz.f7.resultTypes.toList) = true := by kernel_rfl
set_option maxRecDepth 100000 in
theorem closed_ : joinedFacts Tryz.pinned.checked.prog 7 Tryz.f7 Rows.vaultMetasSpec Rows.vaultMetasRow = true := (and_mk (and_mk (and_mk (and_mk (and_mk (and_mk (and_mk (and_mk (and_mk (and_mk (and_mk (and_mk (and_mk (and_mk (and_mk (and_mk (and_mk (and_mk (and_mk (and_mk (and_mk (and_mk (and_mk (and_mk (and_mk (and_mk (and_mk (and_mk (and_mk (and_mk (and_mk k0 k1) k2) k3) k4) k5) k6) k7) k8) k9) k10) k11) k12) k13) k14) k15) k16) k17) k18) k19) k20) k21) k22) k23) k24) k25) k26) k27) k28) k29) k30) k31)
theorem inst_ : (Tryz.f7).isInstance Tryz.pinned.checked.prog Rows.vaultMetasRow.origin Rows.vaultMetasRow.targs := of_decide_eq_true (by kernel_rfl)
theorem wrap_ : (Tryz.f7).isWrapper Tryz.pinned.checked.prog Rows.vaultMetasRow.wrapper Rows.vaultMetasRow.mainSum := by
 unfold Func.isWrapper; first | (rw [if_pos (by decide +kernel)]; kernel_rfl) | (rw [if_neg (by decide +kernel)]; exact ⟨rfl, rfl⟩)
theorem holds_vaultMetas : Rows.VaultMetasSaid :=
 OpenClaim.holds_of_wide 7 Tryz.f7 rfl rfl rfl rfl rfl rfl rfl ⟨rfl, rfl, rfl, rfl, rfl⟩ rfl rfl rfl rfl rfl named_ Tryz.func7 closed_ inst_ wrap_
  (fun os started H enc _ => lifted os started H enc)
end Go.Proofs.YtbhjgfibhegddaaGreat.vaultMetas
namespace Go.Proofs.YtbhjgfibhegddaaGreat
theorem vaultMetas_holds : Rows.VaultMetasSaid := vaultMetas.holds_vaultMetas
#print axioms vaultMetas_holds
end Go.Proofs.YtbhjgfibhegddaaGreat
