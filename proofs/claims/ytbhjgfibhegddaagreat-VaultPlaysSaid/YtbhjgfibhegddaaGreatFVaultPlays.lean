/-
  Proves VaultPlaysSaid: whatever the input, the law returns true, and its arguments read afterwards as they read before.
  Conditions: none but those of the given statement.
-/
import Derived.Test.YtbhjgfibhegddaaGreatQVaultPlays25
import Derived.Below
import Derived.ChangeOld
import Derived.OpenShut
import Derived.ProofKit
import Derived.ShutString
import Derived.WalkKit
namespace Go.Proofs.YtbhjgfibhegddaaGreat.vaultPlays
open Go Go.ChangeShapes Go.WideShapes Go.ChangeAt Go.RowKit Go.Proofs.YtbhjgfibhegddaaGreat
open Go.ChangeMaps (open_string shut_string)
theorem own:ownKnob Tryz.prog.godebug=none:=by kernel_rfl
theorem laidOut:laidOutB Tryz.prog=true:=W5
set_option maxRecDepth 100000 in
theorem lifted (os:Os) (started:os.Started) (H:Type) (enc:TypeId × Value→H) :
 ReturnsInHanded {} Tryz.checked os 9 .any (Rows.vaultPlaysSpec.pre6 enc Tryz.prog Tryz.f9 Rows.vaultPlaysRow.domain false) (Rows.vaultPlaysSpec.post enc Tryz.prog Tryz.f9 false true false false):=by
 refine returnsInHanded_of_change (C:=Tryz.checked) own started (by kernel_rfl) Tryz.func9
  (ChangeSpec.witness6 (enc:=enc) (C:=Tryz.checked) false ⟨#[],#[.slice none 0 0],[]⟩ 8 (by kernel_rfl) (by kernel_rfl) (by kernel_rfl) (by kernel_rfl)) ?_
 intro W base args ds gs before Yx hW hcnd _;have hval:∀(j:Nat) t v,Tryz.f9.params[j]? = some t→args[j]? = some v→Value.okWide Tryz.prog W .any base t v:=Yx;have Nn:=hW;obtain ⟨p,q,mX,hV,rfl,hfz,hnd⟩:=hW;have hA:DataW.TrodAll enc Tryz.prog W 0 (fun _=>true) true Tryz.f9.params.toList args.toList ds p:=mX;rw [Tryz.params9] at hA hval;obtain ⟨v0,vs0,d0,ds0,p0,q0,hargs,rfl,rfl,h0,r0⟩:=trodAll_cons hA;obtain ⟨rfl,rfl,rfl⟩:=trodAll_nil r0;obtain rfl:args=#[v0]:=by cases args;simp_all
 obtain ⟨rfl,rfl⟩:=trodVars_none hV;obtain ⟨a0,ajU,aat,rfl⟩:=okWide_slice Tryz.underlying60 (hval 0 60 v0 rfl rfl);have k0:=h0;have lt0:∀x ∈ p0,x.block<W.heap.size:=by obtain ⟨m,hm⟩:=k0;exact DataW.trod_lt m _ _ _ hm
 obtain ⟨z0,w0⟩:∃zs,Bo W (.slice a0 ajU aat) zs:=by
  obtain ⟨fuel,hf⟩:=h0;simp only [Value.cells] at hf;exact aen hf
 clear mX Yx;refine (abj W w0).mono fun e W' ⟨he,hu⟩=>?_
 have bel:Below W.heap.size W W':=hu.below (fun _ e=>e.elim);subst he;exact ⟨_,rfl,_,_,_,[],_,[],Nn,trodAll_mk1 (shut_bool Tryz.underlying4 _),(trodAll_cons_mk (Below.trod laidOut (by kernel_rfl) (of_decide_eq_true (by kernel_rfl)) k0 bel lt0) trodAll_mk0),rfl,bel.frame _,fun h=>by cases h⟩
theorem aiq:Tryz.pinned.checked.prog.funcNamed Rows.vaultPlaysRow.func=some 9:=by kernel_rfl
theorem k0:Rows.vaultPlaysRow.wf (OpenSpec.ofChange Rows.vaultPlaysSpec)=true:=by kernel_rfl
theorem k1:laidOutB Tryz.pinned.checked.prog=true:=W5
theorem k2:mapsRowed Tryz.pinned.checked.prog=true:=ahu
theorem k3:Tryz.f9.params.all (Tryz.pinned.checked.prog.readableRec ·)=true:=by kernel_rfl
theorem k4:namedTie Tryz.pinned.checked.prog Rows.vaultPlaysRow.named Rows.vaultPlaysSpec.vars=true:=by kernel_rfl
theorem k5:(Rows.vaultPlaysRow.stops == [])=true:=by kernel_rfl
theorem k6:(Tryz.pinned.checked.prog.stops == [])=true:=ahv
theorem k7:(Rows.vaultPlaysRow.knobs == [])=true:=by kernel_rfl
theorem k8:(Tryz.pinned.checked.prog.stopKnobs == [])=true:=ahw
theorem k9:(Rows.vaultPlaysRow.inPlace == Tryz.pinned.checked.prog.inPlace 9)=true:=by kernel_rfl
theorem k10:(Rows.vaultPlaysRow.unfollowed == Tryz.pinned.checked.prog.unfollowed 9)=true:=by kernel_rfl
theorem k11:(Rows.vaultPlaysRow.recurses == Tryz.pinned.checked.prog.recurses 9)=true:=by kernel_rfl
theorem k12:(Rows.vaultPlaysRow.named == Tryz.pinned.checked.prog.varsNamed 9)=true:=by kernel_rfl
theorem k13:(Rows.vaultPlaysRow.maps == (Tryz.f9.params.toList++Rows.vaultPlaysSpec.plain.varTypes Tryz.pinned.checked.prog).any (Tryz.pinned.checked.prog.mapsRec ·))=true:=by kernel_rfl
theorem k14:(Rows.vaultPlaysRow.ifaces == (Tryz.f9.params.toList++Rows.vaultPlaysSpec.plain.varTypes Tryz.pinned.checked.prog).any (Tryz.pinned.checked.prog.ifacesRec ·))=true:=by kernel_rfl
theorem k15:(Rows.vaultPlaysRow.mapsOut == Tryz.pinned.checked.prog.mapsAmong Tryz.f9.resultTypes.toList)=true:=by kernel_rfl
theorem k16:(Rows.vaultPlaysRow.loops == (Tryz.f9.params.toList++Rows.vaultPlaysSpec.plain.varTypes Tryz.pinned.checked.prog).any (Tryz.pinned.checked.prog.loopsFrom ·))=true:=by kernel_rfl
theorem k17:(Rows.vaultPlaysRow.wideKeys == (Tryz.f9.params.toList++Rows.vaultPlaysSpec.plain.varTypes Tryz.pinned.checked.prog++Tryz.f9.resultTypes.toList).any (Tryz.pinned.checked.prog.wideKeysFrom ·))=true:=by kernel_rfl
theorem k18:Rows.vaultPlaysSpec.vars.all (Tryz.pinned.checked.prog.varReadable ·)=true:=by kernel_rfl
theorem k19:Tryz.f9.resultTypes.all (fun t=>Tryz.pinned.checked.prog.readableRec t && decide (t<Tryz.pinned.checked.prog.types.size))=true:=by kernel_rfl
theorem k20:(Rows.vaultPlaysRow.ifacesOut == Tryz.f9.resultTypes.toList.any (Tryz.pinned.checked.prog.ifacesRec ·))=true:=by kernel_rfl
theorem k21:(Rows.vaultPlaysRow.loopsOut == Tryz.f9.resultTypes.toList.any (Tryz.pinned.checked.prog.loopsFrom ·))=true:=by kernel_rfl
theorem k22:(Rows.vaultPlaysRow.plainKeys == Tryz.pinned.checked.prog.plainKeys)=true:=ags
theorem k23:Rows.vaultPlaysRow.shortTexts.isNone=true:=by kernel_rfl
theorem k24:Tryz.pinned.checked.prog.stopsHeard=true:=agt
theorem k25:Tryz.pinned.checked.prog.mayEnter=true:=agu
theorem k26:(Rows.vaultPlaysRow.lifted == Tryz.pinned.checked.prog.liftsFinal)=true:=agv
theorem k27:(Tryz.pinned.checked.prog.make == some Rows.vaultPlaysRow.make)=true:=agw
theorem k28:(Rows.vaultPlaysRow.kinds == (if Rows.vaultPlaysRow.domain.isEmpty then [] else Tryz.f9.params.toList.map fun t=>match Tryz.pinned.checked.prog.underlying t with | some (.int k)=>some k | _=>none))=true:=by kernel_rfl
theorem k29:(Rows.vaultPlaysRow.pinned == Rows.vaultPlaysRow.pinnedBy)=true:=by kernel_rfl
theorem k30:(Rows.vaultPlaysRow.veiled == (Tryz.f9.params.toList++Rows.vaultPlaysSpec.plain.varTypes Tryz.pinned.checked.prog++Tryz.f9.resultTypes.toList).any (Tryz.pinned.checked.prog.veiledRec ·))=true:=by kernel_rfl
theorem k31:Rows.vaultPlaysRow.veiledFits Tryz.pinned.checked.prog Tryz.f9.params.toList (Tryz.f9.params.toList++Rows.vaultPlaysSpec.plain.varTypes Tryz.pinned.checked.prog++Tryz.f9.resultTypes.toList)=true:=by kernel_rfl
set_option maxRecDepth 100000 in
theorem ahx:joinedFacts Tryz.pinned.checked.prog 9 Tryz.f9 Rows.vaultPlaysSpec Rows.vaultPlaysRow=true:=(g_ (g_ (g_ (g_ (g_ (g_ (g_ (g_ (g_ (g_ (g_ (g_ (g_ (g_ (g_ (g_ (g_ (g_ (g_ (g_ (g_ (g_ (g_ (g_ (g_ (g_ (g_ (g_ (g_ (g_ (g_ k0 k1) k2) k3) k4) k5) k6) k7) k8) k9) k10) k11) k12) k13) k14) k15) k16) k17) k18) k19) k20) k21) k22) k23) k24) k25) k26) k27) k28) k29) k30) k31)
theorem aiW:(Tryz.f9).isInstance Tryz.pinned.checked.prog Rows.vaultPlaysRow.origin Rows.vaultPlaysRow.targs:=of_decide_eq_true (by kernel_rfl)
theorem aiX:(Tryz.f9).isWrapper Tryz.pinned.checked.prog Rows.vaultPlaysRow.wrapper Rows.vaultPlaysRow.mainSum:=by
 unfold Func.isWrapper;first | (rw [if_pos (by decide +kernel)];kernel_rfl) | (rw [if_neg (by decide +kernel)];exact ⟨rfl,rfl⟩)
theorem holds_vaultPlays:Rows.VaultPlaysSaid :=
 OpenClaim.holds_of_wide 9 Tryz.f9 rfl rfl rfl rfl rfl rfl rfl ⟨rfl,rfl,rfl,rfl,rfl⟩ rfl rfl rfl rfl rfl aiq Tryz.func9 ahx aiW aiX
  (fun os started H enc _=>lifted os started H enc)
end Go.Proofs.YtbhjgfibhegddaaGreat.vaultPlays
namespace Go.Proofs.YtbhjgfibhegddaaGreat
theorem vaultPlays_holds:Rows.VaultPlaysSaid:=vaultPlays.holds_vaultPlays
#print axioms vaultPlays_holds
end Go.Proofs.YtbhjgfibhegddaaGreat
