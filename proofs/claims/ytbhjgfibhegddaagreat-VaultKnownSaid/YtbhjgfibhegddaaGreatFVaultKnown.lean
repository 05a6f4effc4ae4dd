/-
  Proves VaultKnownSaid: whatever the input, the law returns true, and its arguments read afterwards as they read before.
  Conditions: none but those of the given statement.
-/
import Derived.Test.YtbhjgfibhegddaaGreatQVaultKnown21
import Derived.Below
import Derived.ChangeOld
import Derived.OpenShut
import Derived.ProofKit
import Derived.ShutString
import Derived.WalkKit
namespace Go.Proofs.YtbhjgfibhegddaaGreat.vaultKnown
open Go Go.ChangeShapes Go.WideShapes Go.ChangeAt Go.RowKit Go.Proofs.YtbhjgfibhegddaaGreat
open Go.ChangeMaps (open_string shut_string)
theorem own:ownKnob Tryz.prog.godebug=none:=by kernel_rfl
theorem laidOut:laidOutB Tryz.prog=true:=common1
set_option maxRecDepth 100000 in
theorem lifted (os:Os) (started:os.Started) (H:Type) (enc:TypeId × Value→H) :
 ReturnsInHanded {} Tryz.checked os 3 .any (Rows.vaultKnownSpec.pre6 enc Tryz.prog Tryz.f3 Rows.vaultKnownRow.domain false) (Rows.vaultKnownSpec.post enc Tryz.prog Tryz.f3 false true false false):=by
 refine returnsInHanded_of_change (C:=Tryz.checked) own started (by kernel_rfl) Tryz.func3
  (ChangeSpec.witness6 (enc:=enc) (C:=Tryz.checked) false ⟨#[],#[],[]⟩ 8 (by kernel_rfl) (by kernel_rfl) (by kernel_rfl) (by kernel_rfl)) ?_
 intro W base args ds gs before hval0 hW hcnd _;have hval:∀(j:Nat) t v,Tryz.f3.params[j]? = some t→args[j]? = some v→Value.okWide Tryz.prog W .any base t v:=hval0;have hW':=hW;obtain ⟨p,q,hA0,hV,rfl,hfz,hnd⟩:=hW;have hA:DataW.TrodAll enc Tryz.prog W 0 (fun _=>true) true Tryz.f3.params.toList args.toList ds p:=hA0;rw [Tryz.params3] at hA hval;obtain ⟨h0,rfl,rfl⟩:=trodAll_nil hA;obtain rfl:args=#[]:=by cases args;simp_all
 obtain ⟨rfl,rfl⟩:=trodVars_none hV;clear hA0 hval0;refine (walk_VaultKnown W ).mono fun e W' ⟨he,hu⟩=>?_
 have bel:Below W.heap.size W W':=hu.below (fun _ e=>e.elim);subst he;exact ⟨_,rfl,_,_,_,[],_,[],hW',trodAll_mk1 (shut_bool Tryz.underlying4 _),rfl,rfl,bel.frame _,fun h=>by cases h⟩
theorem named_:Tryz.pinned.checked.prog.funcNamed Rows.vaultKnownRow.func=some 3:=by kernel_rfl
theorem k0:Rows.vaultKnownRow.wf (OpenSpec.ofChange Rows.vaultKnownSpec)=true:=by kernel_rfl
theorem k1:laidOutB Tryz.pinned.checked.prog=true:=common1
theorem k2:mapsRowed Tryz.pinned.checked.prog=true:=common2
theorem k3:Tryz.f3.params.all (Tryz.pinned.checked.prog.readableRec ·)=true:=by kernel_rfl
theorem k4:namedTie Tryz.pinned.checked.prog Rows.vaultKnownRow.named Rows.vaultKnownSpec.vars=true:=by kernel_rfl
theorem k5:(Rows.vaultKnownRow.stops == [])=true:=by kernel_rfl
theorem k6:(Tryz.pinned.checked.prog.stops == [])=true:=common6
theorem k7:(Rows.vaultKnownRow.knobs == [])=true:=by kernel_rfl
theorem k8:(Tryz.pinned.checked.prog.stopKnobs == [])=true:=common8
theorem k9:(Rows.vaultKnownRow.inPlace == Tryz.pinned.checked.prog.inPlace 3)=true:=by kernel_rfl
theorem k10:(Rows.vaultKnownRow.unfollowed == Tryz.pinned.checked.prog.unfollowed 3)=true:=by kernel_rfl
theorem k11:(Rows.vaultKnownRow.recurses == Tryz.pinned.checked.prog.recurses 3)=true:=by kernel_rfl
theorem k12:(Rows.vaultKnownRow.named == Tryz.pinned.checked.prog.varsNamed 3)=true:=by kernel_rfl
theorem k13:(Rows.vaultKnownRow.maps == (Tryz.f3.params.toList++Rows.vaultKnownSpec.plain.varTypes Tryz.pinned.checked.prog).any (Tryz.pinned.checked.prog.mapsRec ·))=true:=by kernel_rfl
theorem k14:(Rows.vaultKnownRow.ifaces == (Tryz.f3.params.toList++Rows.vaultKnownSpec.plain.varTypes Tryz.pinned.checked.prog).any (Tryz.pinned.checked.prog.ifacesRec ·))=true:=by kernel_rfl
theorem k15:(Rows.vaultKnownRow.mapsOut == Tryz.pinned.checked.prog.mapsAmong Tryz.f3.resultTypes.toList)=true:=by kernel_rfl
theorem k16:(Rows.vaultKnownRow.loops == (Tryz.f3.params.toList++Rows.vaultKnownSpec.plain.varTypes Tryz.pinned.checked.prog).any (Tryz.pinned.checked.prog.loopsFrom ·))=true:=by kernel_rfl
theorem k17:(Rows.vaultKnownRow.wideKeys == (Tryz.f3.params.toList++Rows.vaultKnownSpec.plain.varTypes Tryz.pinned.checked.prog++Tryz.f3.resultTypes.toList).any (Tryz.pinned.checked.prog.wideKeysFrom ·))=true:=by kernel_rfl
theorem k18:Rows.vaultKnownSpec.vars.all (Tryz.pinned.checked.prog.varReadable ·)=true:=by kernel_rfl
theorem k19:Tryz.f3.resultTypes.all (fun t=>Tryz.pinned.checked.prog.readableRec t && decide (t<Tryz.pinned.checked.prog.types.size))=true:=by kernel_rfl
theorem k20:(Rows.vaultKnownRow.ifacesOut == Tryz.f3.resultTypes.toList.any (Tryz.pinned.checked.prog.ifacesRec ·))=true:=by kernel_rfl
theorem k21:(Rows.vaultKnownRow.loopsOut == Tryz.f3.resultTypes.toList.any (Tryz.pinned.checked.prog.loopsFrom ·))=true:=by kernel_rfl
theorem k22:(Rows.vaultKnownRow.plainKeys == Tryz.pinned.checked.prog.plainKeys)=true:=common22
theorem k23:Rows.vaultKnownRow.shortTexts.isNone=true:=by kernel_rfl
theorem k24:Tryz.pinned.checked.prog.stopsHeard=true:=common24
theorem k25:Tryz.pinned.checked.prog.mayEnter=true:=common25
theorem k26:(Rows.vaultKnownRow.lifted == Tryz.pinned.checked.prog.liftsFinal)=true:=common26
theorem k27:(Tryz.pinned.checked.prog.make == some Rows.vaultKnownRow.make)=true:=common27
theorem k28:(Rows.vaultKnownRow.kinds == (if Rows.vaultKnownRow.domain.isEmpty then [] else Tryz.f3.params.toList.map fun t=>match Tryz.pinned.checked.prog.underlying t with | some (.int k)=>some k | _=>none))=true:=by kernel_rfl
theorem k29:(Rows.vaultKnownRow.pinned == Rows.vaultKnownRow.pinnedBy)=true:=by kernel_rfl
theorem k30:(Rows.vaultKnownRow.veiled == (Tryz.f3.params.toList++Rows.vaultKnownSpec.plain.varTypes Tryz.pinned.checked.prog++Tryz.f3.resultTypes.toList).any (Tryz.pinned.checked.prog.veiledRec ·))=true:=by kernel_rfl
theorem k31:Rows.vaultKnownRow.veiledFits Tryz.pinned.checked.prog Tryz.f3.params.toList (Tryz.f3.params.toList++Rows.vaultKnownSpec.plain.varTypes Tryz.pinned.checked.prog++Tryz.f3.resultTypes.toList)=true:=by kernel_rfl
set_option maxRecDepth 100000 in
theorem closed_:joinedFacts Tryz.pinned.checked.prog 3 Tryz.f3 Rows.vaultKnownSpec Rows.vaultKnownRow=true:=(and_mk (and_mk (and_mk (and_mk (and_mk (and_mk (and_mk (and_mk (and_mk (and_mk (and_mk (and_mk (and_mk (and_mk (and_mk (and_mk (and_mk (and_mk (and_mk (and_mk (and_mk (and_mk (and_mk (and_mk (and_mk (and_mk (and_mk (and_mk (and_mk (and_mk (and_mk k0 k1) k2) k3) k4) k5) k6) k7) k8) k9) k10) k11) k12) k13) k14) k15) k16) k17) k18) k19) k20) k21) k22) k23) k24) k25) k26) k27) k28) k29) k30) k31)
theorem inst_:(Tryz.f3).isInstance Tryz.pinned.checked.prog Rows.vaultKnownRow.origin Rows.vaultKnownRow.targs:=of_decide_eq_true (by kernel_rfl)
theorem wrap_:(Tryz.f3).isWrapper Tryz.pinned.checked.prog Rows.vaultKnownRow.wrapper Rows.vaultKnownRow.mainSum:=by
 unfold Func.isWrapper;first | (rw [if_pos (by decide +kernel)];kernel_rfl) | (rw [if_neg (by decide +kernel)];exact ⟨rfl,rfl⟩)
theorem holds_vaultKnown:Rows.VaultKnownSaid :=
 OpenClaim.holds_of_wide 3 Tryz.f3 rfl rfl rfl rfl rfl rfl rfl ⟨rfl,rfl,rfl,rfl,rfl⟩ rfl rfl rfl rfl rfl named_ Tryz.func3 closed_ inst_ wrap_
  (fun os started H enc _=>lifted os started H enc)
end Go.Proofs.YtbhjgfibhegddaaGreat.vaultKnown
namespace Go.Proofs.YtbhjgfibhegddaaGreat
theorem vaultKnown_holds:Rows.VaultKnownSaid:=vaultKnown.holds_vaultKnown
#print axioms vaultKnown_holds
end Go.Proofs.YtbhjgfibhegddaaGreat
