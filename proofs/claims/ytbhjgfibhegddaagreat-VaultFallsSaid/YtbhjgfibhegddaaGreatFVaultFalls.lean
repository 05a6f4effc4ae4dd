/-
  Proves VaultFallsSaid: whatever the input, the law returns true, and its arguments read afterwards as they read before.
  Conditions: none but those of the given statement.
-/
import Derived.Test.YtbhjgfibhegddaaGreatQVaultFalls26
import Derived.Below
import Derived.ChangeOld
import Derived.OpenShut
import Derived.ProofKit
import Derived.ShutString
import Derived.WalkKit
namespace Go.Proofs.YtbhjgfibhegddaaGreat.vaultFalls
open Go Go.ChangeShapes Go.WideShapes Go.ChangeAt Go.RowKit Go.Proofs.YtbhjgfibhegddaaGreat
open Go.ChangeMaps (open_string shut_string)
theorem own:ownKnob Tryz.prog.godebug=none:=kR
theorem laidOut:laidOutB Tryz.prog=true:=abu
set_option maxRecDepth 100000 in
theorem lifted (os:Os) (started:os.Started) (H:Type) (enc:TypeId × Value→H) :
 ReturnsInHanded {} Tryz.checked os 10 .any (Rows.vaultFallsSpec.pre6 enc Tryz.prog Tryz.f10 Rows.vaultFallsRow.domain false) (Rows.vaultFallsSpec.post enc Tryz.prog Tryz.f10 false true false false):=by
 refine returnsInHanded_of_change (C:=Tryz.checked) own started kR Tryz.func10
  (ChangeSpec.witness6 (enc:=enc) (C:=Tryz.checked) false ⟨#[],#[.slice none 0 0,.slice none 0 0],[]⟩ 8 kR kR kR kR) ?_
 intro W base args ds gs before ac0 hW hcnd _;have hval:∀(j:Nat) t v,Tryz.f10.params[j]? = some t→args[j]? = some v→Value.okWide Tryz.prog W .any base t v:=ac0;have Qu:=hW;obtain ⟨p,q,l_,hV,rfl,hfz,hnd⟩:=hW;have hA:DataW.TrodAll enc Tryz.prog W 0 (fun _=>true) true Tryz.f10.params.toList args.toList ds p:=l_;rw [Tryz.params10] at hA hval;obtain ⟨v0,vs0,d0,ds0,p0,q0,hargs,rfl,rfl,h0,r0⟩:=trodAll_cons hA;obtain ⟨v1,vs1,d1,ds1,p1,q1,rfl,rfl,rfl,h1,r1⟩:=trodAll_cons r0;obtain ⟨rfl,rfl,rfl⟩:=trodAll_nil r1;obtain rfl:args=#[v0,v1]:=by cases args;simp_all
 obtain ⟨rfl,rfl⟩:=trodVars_none hV;obtain ⟨a0,aoW,afp,rfl⟩:=okWide_slice Tryz.underlying60 (hval 0 60 v0 rfl rfl);have k0:=h0;have lt0:∀x ∈ p0,x.block<W.heap.size:=by obtain ⟨m,hm⟩:=k0;exact DataW.trod_lt m _ _ _ hm
 obtain ⟨z0,w0⟩:∃zs,Dd W (.slice a0 aoW afp) zs:=by
  obtain ⟨fuel,hf⟩:=h0;simp only [Value.cells] at hf;exact ajm hf
 obtain ⟨a1,aoX,BN,rfl⟩:=okWide_slice Tryz.underlying99 (hval 1 99 v1 rfl rfl);have k1:=h1;have lt1:∀x ∈ p1,x.block<W.heap.size:=by obtain ⟨m,hm⟩:=k1;exact DataW.trod_lt m _ _ _ hm
 obtain ⟨z1,w1⟩:∃zs,Dg W (.slice a1 aoX BN) zs:=by
  obtain ⟨fuel,hf⟩:=h1;simp only [Value.cells] at hf;exact aln hf
 clear l_ ac0;refine (agr W w0 w1).mono fun e W' ⟨he,hu⟩=>?_
 have XM:Below W.heap.size W W':=hu.below φ;subst he;exact ⟨_,rfl,_,_,_,[],_,[],Qu,trodAll_mk1 (shut_bool Tryz.underlying4 _),(trodAll_cons_mk (Below.trod laidOut kR (of_decide_eq_true kR) k0 XM lt0) (trodAll_cons_mk (Below.trod laidOut kR (of_decide_eq_true kR) k1 XM lt1) trodAll_mk0)),rfl,XM.frame _,fun h=>by cases h⟩
theorem anl:Tryz.pinned.checked.prog.funcNamed Rows.vaultFallsRow.func=some 10:=kR
theorem k0:Rows.vaultFallsRow.wf (OpenSpec.ofChange Rows.vaultFallsSpec)=true:=kR
theorem k1:laidOutB Tryz.pinned.checked.prog=true:=abu
theorem k2:mapsRowed Tryz.pinned.checked.prog=true:=amq
theorem k3:Tryz.f10.params.all (Tryz.pinned.checked.prog.readableRec ·)=true:=kR
theorem k4:namedTie Tryz.pinned.checked.prog Rows.vaultFallsRow.named Rows.vaultFallsSpec.vars=true:=kR
theorem k5:(Rows.vaultFallsRow.stops == [])=true:=kR
theorem k6:(Tryz.pinned.checked.prog.stops == [])=true:=amr
theorem k7:(Rows.vaultFallsRow.knobs == [])=true:=kR
theorem k8:(Tryz.pinned.checked.prog.stopKnobs == [])=true:=ams
theorem k9:(Rows.vaultFallsRow.inPlace == Tryz.pinned.checked.prog.inPlace 10)=true:=kR
theorem k10:(Rows.vaultFallsRow.unfollowed == Tryz.pinned.checked.prog.unfollowed 10)=true:=kR
theorem k11:(Rows.vaultFallsRow.recurses == Tryz.pinned.checked.prog.recurses 10)=true:=kR
theorem k12:(Rows.vaultFallsRow.named == Tryz.pinned.checked.prog.varsNamed 10)=true:=kR
theorem k13:(Rows.vaultFallsRow.maps == (Tryz.f10.params.toList++Rows.vaultFallsSpec.plain.varTypes Tryz.pinned.checked.prog).any (Tryz.pinned.checked.prog.mapsRec ·))=true:=kR
theorem k14:(Rows.vaultFallsRow.ifaces == (Tryz.f10.params.toList++Rows.vaultFallsSpec.plain.varTypes Tryz.pinned.checked.prog).any (Tryz.pinned.checked.prog.ifacesRec ·))=true:=kR
theorem k15:(Rows.vaultFallsRow.mapsOut == Tryz.pinned.checked.prog.mapsAmong Tryz.f10.resultTypes.toList)=true:=kR
theorem k16:(Rows.vaultFallsRow.loops == (Tryz.f10.params.toList++Rows.vaultFallsSpec.plain.varTypes Tryz.pinned.checked.prog).any (Tryz.pinned.checked.prog.loopsFrom ·))=true:=kR
theorem k17:(Rows.vaultFallsRow.wideKeys == (Tryz.f10.params.toList++Rows.vaultFallsSpec.plain.varTypes Tryz.pinned.checked.prog++Tryz.f10.resultTypes.toList).any (Tryz.pinned.checked.prog.wideKeysFrom ·))=true:=kR
theorem k18:Rows.vaultFallsSpec.vars.all (Tryz.pinned.checked.prog.varReadable ·)=true:=kR
theorem k19:Tryz.f10.resultTypes.all (fun t=>Tryz.pinned.checked.prog.readableRec t && decide (t<Tryz.pinned.checked.prog.types.size))=true:=kR
theorem k20:(Rows.vaultFallsRow.ifacesOut == Tryz.f10.resultTypes.toList.any (Tryz.pinned.checked.prog.ifacesRec ·))=true:=kR
theorem k21:(Rows.vaultFallsRow.loopsOut == Tryz.f10.resultTypes.toList.any (Tryz.pinned.checked.prog.loopsFrom ·))=true:=kR
theorem k22:(Rows.vaultFallsRow.plainKeys == Tryz.pinned.checked.prog.plainKeys)=true:=alp
theorem k23:Rows.vaultFallsRow.shortTexts.isNone=true:=kR
theorem k24:Tryz.pinned.checked.prog.stopsHeard=true:=alq
theorem k25:Tryz.pinned.checked.prog.mayEnter=true:=alr
theorem k26:(Rows.vaultFallsRow.lifted == Tryz.pinned.checked.prog.liftsFinal)=true:=als
theorem k27:(Tryz.pinned.checked.prog.make == some Rows.vaultFallsRow.make)=true:=alu
theorem k28:(Rows.vaultFallsRow.kinds == (if Rows.vaultFallsRow.domain.isEmpty then [] else Tryz.f10.params.toList.map fun t=>match Tryz.pinned.checked.prog.underlying t with | some (.int k)=>some k | _=>none))=true:=kR
theorem k29:(Rows.vaultFallsRow.pinned == Rows.vaultFallsRow.pinnedBy)=true:=kR
theorem k30:(Rows.vaultFallsRow.veiled == (Tryz.f10.params.toList++Rows.vaultFallsSpec.plain.varTypes Tryz.pinned.checked.prog++Tryz.f10.resultTypes.toList).any (Tryz.pinned.checked.prog.veiledRec ·))=true:=kR
theorem k31:Rows.vaultFallsRow.veiledFits Tryz.pinned.checked.prog Tryz.f10.params.toList (Tryz.f10.params.toList++Rows.vaultFallsSpec.plain.varTypes Tryz.pinned.checked.prog++Tryz.f10.resultTypes.toList)=true:=kR
set_option maxRecDepth 100000 in
theorem amu:joinedFacts Tryz.pinned.checked.prog 10 Tryz.f10 Rows.vaultFallsSpec Rows.vaultFallsRow=true:=(iG (iG (iG (iG (iG (iG (iG (iG (iG (iG (iG (iG (iG (iG (iG (iG (iG (iG (iG (iG (iG (iG (iG (iG (iG (iG (iG (iG (iG (iG (iG k0 k1) k2) k3) k4) k5) k6) k7) k8) k9) k10) k11) k12) k13) k14) k15) k16) k17) k18) k19) k20) k21) k22) k23) k24) k25) k26) k27) k28) k29) k30) k31)
theorem anT:(Tryz.f10).isInstance Tryz.pinned.checked.prog Rows.vaultFallsRow.origin Rows.vaultFallsRow.targs:=of_decide_eq_true kR
theorem anU:(Tryz.f10).isWrapper Tryz.pinned.checked.prog Rows.vaultFallsRow.wrapper Rows.vaultFallsRow.mainSum:=by
 unfold Func.isWrapper;first | (rw [if_pos (by decide +kernel)];kernel_rfl) | (rw [if_neg (by decide +kernel)];exact ⟨rfl,rfl⟩)
theorem holds_vaultFalls:Rows.VaultFallsSaid :=
 OpenClaim.holds_of_wide 10 Tryz.f10 rfl rfl rfl rfl rfl rfl rfl ⟨rfl,rfl,rfl,rfl,rfl⟩ rfl rfl rfl rfl rfl anl Tryz.func10 amu anT anU
  (fun os started H enc _=>lifted os started H enc)
end Go.Proofs.YtbhjgfibhegddaaGreat.vaultFalls
namespace Go.Proofs.YtbhjgfibhegddaaGreat
theorem vaultFalls_holds:Rows.VaultFallsSaid:=vaultFalls.holds_vaultFalls
#print axioms vaultFalls_holds
end Go.Proofs.YtbhjgfibhegddaaGreat
