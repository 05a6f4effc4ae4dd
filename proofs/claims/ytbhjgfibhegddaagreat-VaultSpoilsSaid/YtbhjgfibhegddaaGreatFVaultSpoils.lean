/-
  Proves VaultSpoilsSaid: whatever the input, the law returns true, and its arguments read afterwards as they read before.
  Conditions: none but those of the given statement.
-/
import Derived.Test.YtbhjgfibhegddaaGreatQVaultSpoils21
import Derived.Below
import Derived.ChangeOld
import Derived.OpenShut
import Derived.ProofKit
import Derived.ShutString
import Derived.WalkKit
namespace Go.Proofs.YtbhjgfibhegddaaGreat.vaultSpoils
open Go Go.ChangeShapes Go.WideShapes Go.ChangeAt Go.RowKit Go.Proofs.YtbhjgfibhegddaaGreat
open Go.ChangeMaps (open_string shut_string)
theorem own:ownKnob Tryz.prog.godebug=none:=by kernel_rfl
theorem laidOut:laidOutB Tryz.prog=true:=common1
set_option maxRecDepth 100000 in
theorem lifted (os:Os) (started:os.Started) (H:Type) (enc:TypeId × Value→H) :
 ReturnsInHanded {} Tryz.checked os 8 .any (Rows.vaultSpoilsSpec.pre6 enc Tryz.prog Tryz.f8 Rows.vaultSpoilsRow.domain false) (Rows.vaultSpoilsSpec.post enc Tryz.prog Tryz.f8 false true false false):=by
 refine returnsInHanded_of_change (C:=Tryz.checked) own started (by kernel_rfl) Tryz.func8
  (ChangeSpec.witness6 (enc:=enc) (C:=Tryz.checked) false ⟨#[],#[.slice none 0 0,.int .i64 0,.int .i64 0,.agg #[.int .u8 0,.int .u8 0,.int .u8 0,.int .u8 0]],[]⟩ 8 (by kernel_rfl) (by kernel_rfl) (by kernel_rfl) (by kernel_rfl)) ?_
 intro W base args ds gs before hval0 hW hcnd _;have hval:∀(j:Nat) t v,Tryz.f8.params[j]? = some t→args[j]? = some v→Value.okWide Tryz.prog W .any base t v:=hval0;have hW':=hW;obtain ⟨p,q,hA0,hV,rfl,hfz,hnd⟩:=hW;have hA:DataW.TrodAll enc Tryz.prog W 0 (fun _=>true) true Tryz.f8.params.toList args.toList ds p:=hA0;rw [Tryz.params8] at hA hval;obtain ⟨v0,vs0,d0,ds0,p0,q0,hargs,rfl,rfl,h0,r0⟩:=trodAll_cons hA;obtain ⟨v1,vs1,d1,ds1,p1,q1,rfl,rfl,rfl,h1,r1⟩:=trodAll_cons r0;obtain ⟨v2,vs2,d2,ds2,p2,q2,rfl,rfl,rfl,h2,r2⟩:=trodAll_cons r1;obtain ⟨v3,vs3,d3,ds3,p3,q3,rfl,rfl,rfl,h3,r3⟩:=trodAll_cons r2;obtain ⟨rfl,rfl,rfl⟩:=trodAll_nil r3;obtain rfl:args=#[v0,v1,v2,v3]:=by cases args;simp_all
 obtain ⟨rfl,rfl⟩:=trodVars_none hV;obtain ⟨a0,len0,cap0,rfl⟩:=okWide_slice Tryz.underlying60 (hval 0 60 v0 rfl rfl);have k0:=h0;have lt0:∀x ∈ p0,x.block<W.heap.size:=by obtain ⟨m,hm⟩:=k0;exact DataW.trod_lt m _ _ _ hm
 obtain ⟨z0,w0⟩:∃zs,IsActs17 W (.slice a0 len0 cap0) zs:=by
  obtain ⟨fuel,hf⟩:=h0;simp only [Value.cells] at hf;exact acts17_of hf
 obtain ⟨a1,rfl,rfl,rfl,w1⟩:=open_int Tryz.underlying3 (hval 1 3 v1 rfl rfl) h1;obtain ⟨a2,rfl,rfl,rfl,w2⟩:=open_int Tryz.underlying3 (hval 2 3 v2 rfl rfl) h2;have k3:=h3;have lt3:∀x ∈ p3,x.block<W.heap.size:=by obtain ⟨m,hm⟩:=k3;exact DataW.trod_lt m _ _ _ hm
 obtain ⟨x3,w3⟩:=b4_of (hval 3 82 v3 rfl rfl) h3;clear hA0 hval0;refine (walk_VaultSpoils W w0 w1 w2 w3).mono fun e W' ⟨he,hu⟩=>?_
 have bel:Below W.heap.size W W':=hu.below (fun _ e=>e.elim);subst he;exact ⟨_,rfl,_,_,_,[],_,[],hW',trodAll_mk1 (shut_bool Tryz.underlying4 _),(trodAll_cons_mk (Below.trod laidOut (by kernel_rfl) (of_decide_eq_true (by kernel_rfl)) k0 bel lt0) (trodAll_cons_mk (shut_int Tryz.underlying3 w1) (trodAll_cons_mk (shut_int Tryz.underlying3 w2) (trodAll_cons_mk (Below.trod laidOut (by kernel_rfl) (of_decide_eq_true (by kernel_rfl)) k3 bel lt3) trodAll_mk0)))),rfl,bel.frame _,fun h=>by cases h⟩
theorem named_:Tryz.pinned.checked.prog.funcNamed Rows.vaultSpoilsRow.func=some 8:=by kernel_rfl
theorem k0:Rows.vaultSpoilsRow.wf (OpenSpec.ofChange Rows.vaultSpoilsSpec)=true:=by kernel_rfl
theorem k1:laidOutB Tryz.pinned.checked.prog=true:=common1
theorem k2:mapsRowed Tryz.pinned.checked.prog=true:=common2
theorem k3:Tryz.f8.params.all (Tryz.pinned.checked.prog.readableRec ·)=true:=by kernel_rfl
theorem k4:namedTie Tryz.pinned.checked.prog Rows.vaultSpoilsRow.named Rows.vaultSpoilsSpec.vars=true:=by kernel_rfl
theorem k5:(Rows.vaultSpoilsRow.stops == [])=true:=by kernel_rfl
theorem k6:(Tryz.pinned.checked.prog.stops == [])=true:=common6
theorem k7:(Rows.vaultSpoilsRow.knobs == [])=true:=by kernel_rfl
theorem k8:(Tryz.pinned.checked.prog.stopKnobs == [])=true:=common8
theorem k9:(Rows.vaultSpoilsRow.inPlace == Tryz.pinned.checked.prog.inPlace 8)=true:=by kernel_rfl
theorem k10:(Rows.vaultSpoilsRow.unfollowed == Tryz.pinned.checked.prog.unfollowed 8)=true:=by kernel_rfl
theorem k11:(Rows.vaultSpoilsRow.recurses == Tryz.pinned.checked.prog.recurses 8)=true:=by kernel_rfl
theorem k12:(Rows.vaultSpoilsRow.named == Tryz.pinned.checked.prog.varsNamed 8)=true:=by kernel_rfl
theorem k13:(Rows.vaultSpoilsRow.maps == (Tryz.f8.params.toList++Rows.vaultSpoilsSpec.plain.varTypes Tryz.pinned.checked.prog).any (Tryz.pinned.checked.prog.mapsRec ·))=true:=by kernel_rfl
theorem k14:(Rows.vaultSpoilsRow.ifaces == (Tryz.f8.params.toList++Rows.vaultSpoilsSpec.plain.varTypes Tryz.pinned.checked.prog).any (Tryz.pinned.checked.prog.ifacesRec ·))=true:=by kernel_rfl
theorem k15:(Rows.vaultSpoilsRow.mapsOut == Tryz.pinned.checked.prog.mapsAmong Tryz.f8.resultTypes.toList)=true:=by kernel_rfl
theorem k16:(Rows.vaultSpoilsRow.loops == (Tryz.f8.params.toList++Rows.vaultSpoilsSpec.plain.varTypes Tryz.pinned.checked.prog).any (Tryz.pinned.checked.prog.loopsFrom ·))=true:=by kernel_rfl
theorem k17:(Rows.vaultSpoilsRow.wideKeys == (Tryz.f8.params.toList++Rows.vaultSpoilsSpec.plain.varTypes Tryz.pinned.checked.prog++Tryz.f8.resultTypes.toList).any (Tryz.pinned.checked.prog.wideKeysFrom ·))=true:=by kernel_rfl
theorem k18:Rows.vaultSpoilsSpec.vars.all (Tryz.pinned.checked.prog.varReadable ·)=true:=by kernel_rfl
theorem k19:Tryz.f8.resultTypes.all (fun t=>Tryz.pinned.checked.prog.readableRec t && decide (t<Tryz.pinned.checked.prog.types.size))=true:=by kernel_rfl
theorem k20:(Rows.vaultSpoilsRow.ifacesOut == Tryz.f8.resultTypes.toList.any (Tryz.pinned.checked.prog.ifacesRec ·))=true:=by kernel_rfl
theorem k21:(Rows.vaultSpoilsRow.loopsOut == Tryz.f8.resultTypes.toList.any (Tryz.pinned.checked.prog.loopsFrom ·))=true:=by kernel_rfl
theorem k22:(Rows.vaultSpoilsRow.plainKeys == Tryz.pinned.checked.prog.plainKeys)=true:=common22
theorem k23:Rows.vaultSpoilsRow.shortTexts.isNone=true:=by kernel_rfl
theorem k24:Tryz.pinned.checked.prog.stopsHeard=true:=common24
theorem k25:Tryz.pinned.checked.prog.mayEnter=true:=common25
theorem k26:(Rows.vaultSpoilsRow.lifted == Tryz.pinned.checked.prog.liftsFinal)=true:=common26
theorem k27:(Tryz.pinned.checked.prog.make == some Rows.vaultSpoilsRow.make)=true:=common27
theorem k28:(Rows.vaultSpoilsRow.kinds == (if Rows.vaultSpoilsRow.domain.isEmpty then [] else Tryz.f8.params.toList.map fun t=>match Tryz.pinned.checked.prog.underlying t with | some (.int k)=>some k | _=>none))=true:=by kernel_rfl
theorem k29:(Rows.vaultSpoilsRow.pinned == Rows.vaultSpoilsRow.pinnedBy)=true:=by kernel_rfl
theorem k30:(Rows.vaultSpoilsRow.veiled == (Tryz.f8.params.toList++Rows.vaultSpoilsSpec.plain.varTypes Tryz.pinned.checked.prog++Tryz.f8.resultTypes.toList).any (Tryz.pinned.checked.prog.veiledRec ·))=true:=by kernel_rfl
theorem k31:Rows.vaultSpoilsRow.veiledFits Tryz.pinned.checked.prog Tryz.f8.params.toList (Tryz.f8.params.toList++Rows.vaultSpoilsSpec.plain.varTypes Tryz.pinned.checked.prog++Tryz.f8.resultTypes.toList)=true:=by kernel_rfl
set_option maxRecDepth 100000 in
theorem closed_:joinedFacts Tryz.pinned.checked.prog 8 Tryz.f8 Rows.vaultSpoilsSpec Rows.vaultSpoilsRow=true:=(and_mk (and_mk (and_mk (and_mk (and_mk (and_mk (and_mk (and_mk (and_mk (and_mk (and_mk (and_mk (and_mk (and_mk (and_mk (and_mk (and_mk (and_mk (and_mk (and_mk (and_mk (and_mk (and_mk (and_mk (and_mk (and_mk (and_mk (and_mk (and_mk (and_mk (and_mk k0 k1) k2) k3) k4) k5) k6) k7) k8) k9) k10) k11) k12) k13) k14) k15) k16) k17) k18) k19) k20) k21) k22) k23) k24) k25) k26) k27) k28) k29) k30) k31)
theorem inst_:(Tryz.f8).isInstance Tryz.pinned.checked.prog Rows.vaultSpoilsRow.origin Rows.vaultSpoilsRow.targs:=of_decide_eq_true (by kernel_rfl)
theorem wrap_:(Tryz.f8).isWrapper Tryz.pinned.checked.prog Rows.vaultSpoilsRow.wrapper Rows.vaultSpoilsRow.mainSum:=by
 unfold Func.isWrapper;first | (rw [if_pos (by decide +kernel)];kernel_rfl) | (rw [if_neg (by decide +kernel)];exact ⟨rfl,rfl⟩)
theorem holds_vaultSpoils:Rows.VaultSpoilsSaid :=
 OpenClaim.holds_of_wide 8 Tryz.f8 rfl rfl rfl rfl rfl rfl rfl ⟨rfl,rfl,rfl,rfl,rfl⟩ rfl rfl rfl rfl rfl named_ Tryz.func8 closed_ inst_ wrap_
  (fun os started H enc _=>lifted os started H enc)
end Go.Proofs.YtbhjgfibhegddaaGreat.vaultSpoils
namespace Go.Proofs.YtbhjgfibhegddaaGreat
theorem vaultSpoils_holds:Rows.VaultSpoilsSaid:=vaultSpoils.holds_vaultSpoils
#print axioms vaultSpoils_holds
end Go.Proofs.YtbhjgfibhegddaaGreat
