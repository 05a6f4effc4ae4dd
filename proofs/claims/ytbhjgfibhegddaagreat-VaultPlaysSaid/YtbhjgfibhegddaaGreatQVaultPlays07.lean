/-
  Parts of the proof of VaultPlays: Seal, SealB, DiskA, DiskN.
-/
import Derived.Test.YtbhjgfibhegddaaGreatQVaultPlays06
import Derived.Deep.RegionHeld3
import Derived.Maps.RangeWalk
import Derived.Test.YtbhjgfibhegddaaGreatProg
set_option maxRecDepth 100000
set_option maxHeartbeats 16000000
namespace Go.Proofs.YtbhjgfibhegddaaGreat
abbrev aaX:=@Go.yieldsIf_load_mid
open Tryz
section
open Go Go.RowKit
section
variable {P:Program} {ops:Array Oper} {Q:Exit→Act→World→Prop} {S:World→Prop}
theorem kX {i:Nat} {o:Oper} {a:Act} (hi:ops[i]? = some o) (hw:Region.wanted o (yielded ops a.tmps)=true) (ty:TypeId) (x:Operand) (ho:o.op=.load ty x) (g:Nat) (hx:a.eval x=.pointer (some ⟨g,0,none⟩))
 (t:TypeId) (cs:Array Value) (d:TypeDesc) (hS:∀w,S w→η w g t cs) (hu:P.underlying ty=some d) (hd:d.isRow=true) (hz:(P.info? ty).map (·.size)=some cs.size):l7 P ops Q S i o (.agg cs) a:=by
 have h:=aaX (P:=P) (ops:=ops) (S:=S) hw ty x ho g 0 hx cs.toList d (fun w h=>(hS w h).range 0 _ (fun j v e=>by rw[kU];simpa using e)) hu hd (by simpa using hz)
 exact sQ hi (by simpa using h)
end
structure aZ where
 key:Nat
 μ:Nat
 n:Nat
 data:List UInt8
 tag:List UInt8
structure ux (x:aZ):Prop where
 key:x.key≤1048576
 μ:x.μ<4294967296
 n:x.n<18446744073709551616
 data:x.data.length≤8192
 tag:x.tag.length=32
def aZ.row (x:aZ):Array Value:=([Value.int .i64 (x.key:Int),.int .u32 (x.μ:Int),ω (x.n:Int),.string (str x.data)]++aK x.tag).toArray
theorem aZ.row_one (x:aZ):x.row.all (·.oneCell')=true:=by simp[aZ.row,aK,Value.oneCell']
theorem aZ.ql {x:aZ} (h:x.tag.length=32):x.row.size=36:=by simp[aZ.row,aK,h]
theorem aZ.cells {w:World} {g:Nat} {t:TypeId} {x:aZ} (h:η w g t x.row):w.cell? ⟨g,0,none⟩=some (ι (x.key:Int))∧w.cell? ⟨g,1,none⟩=some (.int .u32 (x.μ:Int))∧w.cell? ⟨g,2,none⟩=some (ω (x.n:Int))∧w.cell? ⟨g,3,none⟩=some (.string (str x.data)) :=
 ⟨h.cell 0,h.cell 1,h.cell 2,h.cell 3⟩
theorem aZ.aiv {w:World} {g:Nat} {t:TypeId} {x:aZ} (h:η w g t x.row) (i:Nat) (hi:i<x.tag.length):w.cell? ⟨g,4+i,none⟩=some (ϋ ((x.tag.getD i 0).toNat:Int)):=by
 rw[h.cell];unfold aZ.row;rw[FC,lM sM];rw[show 4+i - [Value.int .i64 (x.key:Int),.int .u32 (x.μ:Int),ω (x.n:Int),.string (str x.data)].length=i by simp];exact UZ _ _ hi
theorem O7 (x:aZ) (hx:ux x) (w:World):ς 162 #[.agg x.row] w fun e w'=>e=ώ (.bool true)∧υ w w':=by
 have k1:(x.key:Int)≤1048576:=by have:=hx.key;omega
 have k0:(0:Int)≤(x.key:Int):=oM;have hs:(str x.data).size=x.data.length:=bf _;have k3:(x.data.length:Int)≤8192:=by have:=hx.data;omega
 obtain⟨D,hD⟩:=κ (str x.data);rw[hD] at hs;have k4:(D.size:Int)≤8192:=oM;obtain⟨K,hK⟩:∃K:Int,(x.key:Int)=K:=⟨_,rfl⟩;rw[hK] at k1 k0;have HH:=τ hD hK;clear hD hK hx hs k3;go_enter func162,ntmps162
 go_upto_region 1 with (fail)
 generalize aH:World.alloc _ _=w2;have hB:η w2 w.heap.size 191 x.row:=by rw[← aH];exact η.new w _ _
 have hU:υ w w2:=by rw[← aH];exact(ζ.refl _ w).alloc _
 obtain⟨c0,-,-,c3⟩:=aZ.cells hB;rw[HH.out.1] at c3;rw[HH.out.2] at c0;have HU:=δ hU;clear hB hU aH;go_wp2_with fail
 go_ret
 exact⟨rfl,HU.out⟩
theorem Vw (x:aZ) (hx:ux x) {F:Nat→Prop} {w0 w:World} {o:Nat} {l:List UInt8} (h:dU F w0 w o l) (hl:l.length≤1000) :
 ς 168 #[.pointer (some ⟨o,0,none⟩),.agg x.row] w fun e w'=>e=ώ (.tuple #[])∧dU F w0 w' o (l++qj x.key x.μ x.n):=by
 have hk:=hx.key;have hb:=hx.μ;have hn:=hx.n;have s1:=dc (n:=x.key) oM;have s2:=dc (n:=x.μ) oM;have HO:=δ h;obtain⟨K,hK⟩:∃K:Nat,x.key=K:=⟨_,rfl⟩;obtain⟨B,hB⟩:∃K:Nat,x.μ=K:=⟨_,rfl⟩;obtain⟨N,hN⟩:∃K:Nat,x.n=K:=⟨_,rfl⟩;rw[hK] at hk s1 ⊢;rw[hB] at hb s2 ⊢;rw[hN] at hn ⊢;have k1:(K:Int)≤1048576:=oM;have b1:(B:Int)<4294967296:=oM;have Iy:=aj hK hB hN;have HE:=δ (show l++aN K++aN B++aN N=l++qj K B N by unfold qj;simp only[dQ]);have HL:=δ (show (l++aN K).length≤900000∧(l++aN K++aN B).length≤900000 by simp only[aL,iF];omega);have HN:=aj hk hb hn;clear h hx hk hb hn s1 s2 hK hB hN;go_enter func168,ntmps168
 go_upto_region 1 with (fail)
 generalize aH:World.alloc _ _=w2;obtain⟨g,hg⟩:=κ w.heap.size;rw[hg];have hB:η w2 g 191 x.row:=by rw[← aH,← hg];exact η.new w _ _
 have hO:dU F w0 w2 o l:=HO.out.still (by rw[← aH];exact(ζ.refl _ w).alloc _);obtain⟨G,bH,hGF,hG⟩:=hO.here;have hgG:¬G g:=hG g _ _ hB dC dC;obtain⟨c0,-,-,-⟩:=aZ.cells hB;rw[Iy.out.1] at c0;have HB:=cx hB hO bH hGF hgG;clear hB hO aH hg bH hGF hG hgG;go_wp2_with fail
 refine(DT HB.out.2.2.1 K (oN HN.out.1) oM).mono ?_;rintro e w3 ⟨rfl,h3⟩;obtain⟨-,c1,-,-⟩:=aZ.cells (HB.out.1.ε h3.ε HB.out.2.2.2.2);rw[Iy.out.2.1] at c1;have H3:=δ h3;clear h3 c0;go_wp2_with fail
 refine(DT H3.out B (oN HN.out.2.1) HL.out.1).mono ?_;rintro e w4 ⟨rfl,h4⟩;obtain⟨-,-,c2,-⟩:=aZ.cells (HB.out.1.ε h4.ε HB.out.2.2.2.2);rw[Iy.out.2.2] at c2;have H4:=δ h4;clear h4 c1;go_wp2_with fail
 refine(DT H4.out N HN.out.2.2 HL.out.2).mono ?_;rintro e w5 ⟨rfl,h5⟩;have H5:=δ (HB.out.2.1.back HB.out.2.2.2.1 h5);clear h5 c2;go_wp2_with fail
 go_end0
 rw[← HE.out];exact⟨rfl,H5.out⟩
theorem Vx (k:List UInt8) (hk:k.length=32) (x:aZ) (hx:ux x) (text:ByteArray) (ht:text.size≤8192) (w:World) :
 ς 163 #[.agg (ψ k),.agg x.row,.string text] w fun e w'=>e=ώ (.string (str (oT k x.μ x.n text.data.toList)))∧υ w w':=by
 obtain⟨B,hB⟩:∃K:Nat,x.μ=K:=⟨_,rfl⟩;obtain⟨N,hN⟩:∃K:Nat,x.n=K:=⟨_,rfl⟩;have hb:=hx.μ;have hn:=hx.n;obtain⟨E,hE⟩:=κ (qX k [101,110,99]);have EJ:E.length=32:=by rw[← hE];exact qi _ _
 obtain⟨NO,MD⟩:∃n,i6 B 4++i6 N 8=n:=⟨_,rfl⟩;have pe:NO.length=12:=by rw[← MD,aL,ur,ur]
 obtain⟨O,hO⟩:=κ (uu E NO text.data.toList);have hd:oT k x.μ x.n text.data.toList=O:=by unfold oT;rw[hB,hN,hE,MD,hO]
 rw[hd];rw[hB] at hb;rw[hN] at hn;have hmk:=fun W=>Xg k (str [101,110,99]) W hk (by rw[bf];simp)
 rw[bS,hE] at hmk;have RX:=δ hmk;have fT:=δ (fun W=>ae5 E NO text W EJ pe oM);rw[hO] at fT;have HX:=gU hB hN MD pe hk EJ;have b1:(B:Int)<4294967296:=oM;have b2:B<4294967296:=oM;have HN2:=δ hn;clear hB hN hb hn hE EJ MD pe hO hd hmk hx;obtain⟨g,hg⟩:=κ w.heap.size;have HG:=δ hg;go_enter func163,ntmps163
 go_upto_region 2 with (fail)
 generalize aH:World.alloc _ _=w2;have aB:η w2 g 194 (ψ k):=by rw[← aH,← hg];exact((η.new w _ _).alloc _).alloc _
 have jD:η w2 (g+1) 191 x.row:=by
  have h:=(η.new (w.alloc (.cells (ψ k) 194)) 191 x.row).alloc (.cells (ψ (List.replicate 12 0)) 312);rw[cM,hg] at h;rw[← aH];exact h
 have jU:η w2 (g+1+1) 312 (ψ (List.replicate 12 0)):=by
  have h:=η.new ((w.alloc (.cells (ψ k) 194)).alloc (.cells x.row 191)) 312 (ψ (List.replicate 12 0));rw[cM,cM,hg] at h;rw[← aH];exact h
 have π:υ w w2:=by rw[← aH];exact(((ζ.refl _ w).alloc _).alloc _).alloc _
 have aU:=aD aB jD jU π;clear aB jD jU π aH hg;have e1:IntKind.u64.wrap (B:Int)=(B:Int):=Ga B oM;refine dB ?_;refine dK (S:=fun w'=>υ w2 w') (T:=fun k=>k == 8) kR ?_;have aC:=(ζ.refl (fun _=>False) w2).drew;refine ξ 0 ?_ rfl (by intro w' hSw;obtain⟨-,hc1,hc2,-⟩:=aZ.cells (aU.out.2.1.ε hSw (fun e=>e));rw[HX.out.1] at hc1;rw[HX.out.2.1] at hc2;go_split_ands;first|(go_simp;done)|(go_simp;rfl)| rfl)
 refine ξ 1 ?_ rfl (by intro w' hSw;obtain⟨-,hc1,hc2,-⟩:=aZ.cells (aU.out.2.1.ε hSw (fun e=>e));rw[HX.out.1] at hc1;rw[HX.out.2.1] at hc2;go_split_ands;first|(go_simp;done)|(go_simp;rfl)| rfl)
 refine ξ 2 ?_ rfl (by intro w' hSw;obtain⟨-,hc1,hc2,-⟩:=aZ.cells (aU.out.2.1.ε hSw (fun e=>e));rw[HX.out.1] at hc1;rw[HX.out.2.1] at hc2;go_split_ands;first|(go_simp;done)|(go_simp;rfl)| rfl)
 refine ξ 3 ?_ rfl (by intro w' hSw;obtain⟨-,hc1,hc2,-⟩:=aZ.cells (aU.out.2.1.ε hSw (fun e=>e));rw[HX.out.1] at hc1;rw[HX.out.2.1] at hc2;go_split_ands;first|(go_simp;done)|(go_simp;rfl)| rfl)
 refine ξ 5 ?_ rfl (by intro w' hSw;obtain⟨-,hc1,hc2,-⟩:=aZ.cells (aU.out.2.1.ε hSw (fun e=>e));rw[HX.out.1] at hc1;rw[HX.out.2.1] at hc2;go_split_ands;first|(go_simp;done)|(go_simp;rfl)| rfl)
 refine ξ 6 ?_ rfl (by intro w' hSw;obtain⟨-,hc1,hc2,-⟩:=aZ.cells (aU.out.2.1.ε hSw (fun e=>e));rw[HX.out.1] at hc1;rw[HX.out.2.1] at hc2;go_split_ands;first|(go_simp;done)|(go_simp;rfl)| rfl)
 refine aY 4 (fun K hK=>?_);go_simp
 clear e1;refine(UE (.slice none 0 0) 0 [] B 4 _ (Own.nil _ _ _) dC dC).mono ?_;rintro e w3 ⟨v3,rfl,lC,χ,fI⟩;rw[kU,nW] at lC;have lF:υ w2.drew w3:=χ.mono (fun b hb=>by simp[Value.ownBlock] at hb);have jC:=aC.then lF φ;have XP:∀q,v3.ownBlock=some q→w2.heap.size≤q:=by
  intro q hq;rcases fI with e | ⟨q2,e,h2⟩
  ·rw[e] at hq;simp[Value.ownBlock] at hq
  ·rw[e] at hq;have:=dw hq;have h3:w2.drew.heap.size=w2.heap.size:=rfl;omega
 refine hK.out _ _ jC ?_;clear hK;refine aY 7 (fun K hK=>?_);go_simp
 refine(UE v3 4 _ N 8 w3 lC dC dC).mono ?_;rintro e w4 ⟨v4,rfl,pE,ag,nO⟩;have dh:υ w2 w4:=jC.then ag (fun q hq=>.inr (XP q hq));refine hK.out _ _ dh ?_;clear hK;rw[← qM,HX.out.2.2.1] at pE;have hby:=gx.jK pE;have hnl:=HX.out.2.2.2.1;obtain⟨W,rv,rz,aF,av,iz⟩:=Ko (off:=0) (n:=12) (cap:=12) (l:=NO) (aU.out.2.2.1.ε dh (fun e=>e)) hby oM (by rw[fG];omega);rw[show (List.replicate 12 (0:UInt8)).take 0++NO++(List.replicate 12 (0:UInt8)).drop (0+NO.length)=NO by rw[Fw,nW,pN (by rw[fG];omega),xz]] at aF;obtain⟨A4,c4,rfl,-,-⟩:=pE.shape;refine kO 8 (fun K hK=>?_);refine NY (by rfl) _ _ _ _ (by rfl) (by rfl) (by rfl) rz ?_;refine hK.out _ _ ?_;have hkW:η W g 194 (ψ k):=(aU.out.1.ε dh (fun e=>e)).ε av oM;have tL:υ w W:=(aU.out.2.2.2.then dh φ).then av (fun q e=>.inr (by have e2:q=g+1+1:=e;have:=HG.out;omega));have HW:=aj hkW aF tL;clear hK rz aF av iz aC jC dh hby lC pE χ ag fI nO lF XP hnl hkW tL
 refine dF ?_;refine cZ ?_;go_upto_region 3 with (fail)
 refine dB ?_;refine dK (S:=fun w'=>υ W w') (T:=fun _=>false) kR ?_;have aC:=(ζ.refl (fun _=>False) W).drew;refine iq 0 (.agg (ψ k)) (kX rfl (by rfl) _ _ rfl g (by rfl) _ _ _ (fun w' hSw=>HW.out.1.ε hSw (fun e=>e)) underlying194 rfl (by rw[bq,HX.out.2.2.2.2.1];kernel_rfl)) ?_
 refine iq 2 (.agg (ψ NO)) (kX rfl (by rfl) _ _ rfl (g+1+1) (by rfl) _ _ _ (fun w' hSw=>HW.out.2.1.ε hSw (fun e=>e)) underlying312 rfl (by rw[bq,HX.out.2.2.2.1];kernel_rfl)) ?_
 refine ξ 3 ?_;refine aY 1 (fun K hK=>?_);go_simp
 refine(RX.out _).mono ?_;rintro e w6 ⟨rfl,az⟩;have cH:=aC.then az φ;refine hK.out _ _ cH ?_;clear hK az;refine aY 4 (fun K hK=>?_);go_simp
 refine(fT.out _).mono ?_;rintro e w7 ⟨rfl,bK⟩;have lU:=cH.then bK φ;refine hK.out _ _ lU ?_;clear hK bK;refine ξ 5 ?_;refine dF ?_;refine cZ ?_;have HF:=δ (HW.out.2.2.then lU φ);clear aC cH lU;go_wp2_with fail
 go_ret
 exact⟨rfl,HF.out⟩
theorem Xh (k:List UInt8) (hk:k.length=32) (x:aZ) (hx:ux x) (about:ByteArray) (ha:about.size≤1000) (w:World) :
 ς 164 #[.agg (ψ k),.agg x.row,.string about] w fun e w'=>e=ώ (.agg (ψ (rR k x.key x.μ x.n about.data.toList x.data)))∧υ w w':=by
 have hkk:=hx.key;have hb:=hx.μ;have hn:=hx.n;have hd:=hx.data;have s1:=dc (n:=x.key) oM;have s2:=dc (n:=x.μ) oM;have s3:=dc hn;have s4:=dc (n:=about.size) oM;have s5:=dc (n:=x.data.length) oM;obtain⟨D,hD⟩:=κ (str x.data);have hDl:D.data.toList=x.data:=by rw[← hD,bS]
 have rC:D.size=x.data.length:=by rw[← hD,bf]
 obtain⟨N,hN⟩:=κ (qj x.key x.μ x.n);have pe:N.length≤30:=by rw[← hN];unfold qj;simp only[aL,iF];omega
 have gJ:(N++bF about.data.toList).length≤2000:=by rw[aL,iT];show N.length+(bC about.size+about.size)≤2000;omega
 obtain⟨T,hT⟩:=κ (N++bF about.data.toList++bF D.data.toList);have tM:T.length≤20000:=by rw[← hT,aL,hDl,iT];omega
 obtain⟨E,hE⟩:=κ (qX k [109,97,99]);have EJ:E.length=32:=by rw[← hE];exact qi _ _
 obtain⟨O,hO⟩:=κ (qX E T);have lD:O.length=32:=by rw[← hO];exact qi _ _
 have hst:rR k x.key x.μ x.n about.data.toList x.data=O:=by unfold rR;rw[hE,hN,← hO,← hT,hDl,dQ]
 rw[hst];have hmk:=fun W=>Xg k (str [109,97,99]) W hk (by rw[bf];simp)
 rw[bS,hE] at hmk;have Cv:=fun W=>Qa (str E) (str T) W (by rw[bf];omega) (by rw[bf];omega)
 rw[bS,bS,hO] at Cv;have RX:=δ hmk;have EG:=δ Cv;have HX:=δ (And.intro hD (And.intro rC (And.intro hN (And.intro pe (And.intro gJ (And.intro hT (And.intro EJ (And.intro lD (And.intro hk (And.intro hd hx))))))))));have tF:=δ (aZ.ql hx.tag);clear hkk hb hn hd s1 s2 s3 s4 s5 hD hDl rC hN pe gJ hT tM hE EJ hO lD hst hmk Cv hk hx;obtain⟨g,hg⟩:=κ w.heap.size;have HG:=δ hg;go_enter func164,ntmps164
 go_upto_region 1 with (fail)
 generalize aH:World.alloc _ _=w2;have aB:η w2 g 194 (ψ k):=by rw[← aH,← hg];exact((η.new w _ _).alloc _).alloc _
 have jD:η w2 (g+1) 191 x.row:=by
  have h:=(η.new (w.alloc (.cells (ψ k) 194)) 191 x.row).alloc (.cells (ψ (List.replicate 32 0)) 189);rw[cM,hg] at h;rw[← aH];exact h
 have jU:η w2 (g+1+1) 189 (ψ (List.replicate 32 0)):=by
  have h:=η.new ((w.alloc (.cells (ψ k) 194)).alloc (.cells x.row 191)) 189 (ψ (List.replicate 32 0));rw[cM,cM,hg] at h;rw[← aH];exact h
 have π:υ w w2:=by rw[← aH];exact(((ζ.refl _ w).alloc _).alloc _).alloc _
 obtain⟨o,ho⟩:=κ w2.heap.size;have aU:=aD aB jD jU π;clear aB jD jU π aH hg;go_upto_region 2 with (fail)
 generalize fJ:World.alloc _ _=w3;have gm:dU (fun _=>False) w2 w3 o []:=by rw[← fJ,← ho];exact dU.start w2
 have Cp:=δ gm;clear gm fJ ho;go_upto_region 6 with (first
  |(go_at_call 168
    refine(Vw x HX.out.2.2.2.2.2.2.2.2.2.2 Cp.out sM).mono ?_;rintro e w4 ⟨rfl,h4⟩;rw[nW,HX.out.2.2.1] at h4;have H4:=δ h4;clear h4)
  |(go_at_call 100
    refine(vS H4.out about oM (oN HX.out.2.2.2.1)).mono ?_;rintro e w5 ⟨rfl,h5⟩;obtain⟨-,-,-,c3⟩:=aZ.cells (aU.out.2.1.ε h5.ε (fun e=>e));rw[HX.out.1] at c3;have H5:=δ h5;clear h5;go_wp2_with fail
    refine(vS H5.out D (by rw[HX.out.2.1];have:=HX.out.2.2.2.2.2.2.2.2.2.1;omega) (oN HX.out.2.2.2.2.1)).mono ?_;rintro e w6 ⟨rfl,h6⟩;rw[HX.out.2.2.2.2.2.1] at h6;have H6:=δ h6;clear h6 c3)
  |(refine eL _ g (aU.out.1.ε H6.out.ε (fun e=>e)) underlying194 (by rw[bq,HX.out.2.2.2.2.2.2.2.2.1];kernel_rfl) ?_)
  |(refine eL _ (g+1) (aU.out.2.1.ε Cp.out.ε (fun e=>e)) underlying191 (by rw[tF.out];kernel_rfl) ?_)
  |(go_at_call 211
    refine(RX.out _).mono ?_;rintro e w7 ⟨rfl,h7⟩;have H7:=δ (H6.out.still h7);clear h7)
  |(refine fk rfl 194 _ _ rfl w7.heap.size (ψ E) rfl rfl 194 _ (η.new w7 _ _) (by rw[bq,HX.out.2.2.2.2.2.2.1];rfl) (lY _) (by rw[bq,HX.out.2.2.2.2.2.2.1];kernel_rfl) ?_
    intro w8 jc cC kC))
 obtain⟨q8,hq8⟩:∃q,w7.heap.size=q:=⟨_,rfl⟩;have ym:υ w7 w8:=((ζ.refl (fun _=>False) w7).alloc _).then cC (fun q hq=>.inr oM);rw[hq8] at jc ⊢;have h8:=H7.out.still ym;have gV:=aj h8 jc ((aU.out.2.2.1.ε h8.ε (fun e=>e)));clear cC kC ym hq8 jc h8;refine dB ?_;refine dK (S:=fun w'=>υ w8 w') (T:=fun k=>k == 4) kR ?_;have aC:=(ζ.refl (fun _=>False) w8).drew;refine aQ 0 (fun w' hSw=>Bk (gV.out.2.1.ε hSw (fun e=>e)) 32 32 HX.out.2.2.2.2.2.2.1) ?_;refine aQ 1 (fun w' hSw=>Bk (gV.out.2.1.ε hSw (fun e=>e)) 32 32 HX.out.2.2.2.2.2.2.1) ?_;refine aY 2 (fun K hK=>?_);go_simp
 refine(FY (gV.out.1.still aC)).mono ?_;rintro e w9 ⟨rfl,rfl⟩;refine hK.out _ _ aC ?_;clear hK;refine aY 3 (fun K hK=>?_);go_simp
 refine(EG.out _).mono ?_;rintro e w10 ⟨rfl,eT⟩;have BW:=aC.then eT φ;refine hK.out _ _ BW ?_;clear hK eT;refine kO 4 (fun K hK=>?_);refine sO (by rfl) 189 _ _ (by rfl) (g+1+1) (ψ O) (by rfl) (by rfl) _ _ (gV.out.2.2.ε BW (fun e=>e)) (by rw[bq,bq,HX.out.2.2.2.2.2.2.2.1];rfl) (lY _) (by rw[bq,HX.out.2.2.2.2.2.2.2.1];kernel_rfl) ?_
 intro w11 f_ pW GW;refine hK.out _ _ ?_;refine dF ?_;refine cZ ?_;have cN:υ w w11:=((aU.out.2.2.2.then gV.out.1.ε φ).then BW φ).then pW (fun q hq=>.inr (by have e2:q=g+1+1:=hq;have:=HG.out;omega));have HF:=τ cN f_;clear cN f_ pW GW hK aC BW;go_wp2_with fail
 refine cy (jx rfl _ _ (g+1+1) _ _ _ _ rfl HF.out.2 underlying189 rfl (by rw[bq,HX.out.2.2.2.2.2.2.2.1];kernel_rfl)) rfl ⟨rfl,HF.out.1⟩
structure Dk where
 af:List ByteArray
 waits:List (List ByteArray)
 cV:Int
 off:Bool
namespace Dk
def at_ (d:Dk) (i:Nat):List ByteArray:=d.waits.getD i []
def last (d:Dk) (i:Nat):ByteArray:=d.af.getD i ByteArray.empty
def there (d:Dk) (i:Int):Bool:=decide (0≤i∧i<d.af.length)
def now (d:Dk) (i:Nat):ByteArray:=(d.at_ i).getLast?.getD (d.last i)
def read (d:Dk) (i:Int):ByteArray × Int:=if d.off then (ByteArray.empty,14) else if d.there i then (d.now i.toNat,0) else (ByteArray.empty,1)
def eO (d:Dk):Dk × Bool:=if d.cV=0 then ({ d with off:=true },false) else if 0<d.cV then ({ d with cV:=d.cV - 1 },true) else (d,true)
def push (d:Dk) (i:Nat) (b:ByteArray):Dk := { d with waits:=d.waits.set i (d.at_ i++[b]) }
def write (d:Dk) (i:Int) (b:ByteArray):Dk × Int :=
 if d.off then (d,14) else if d.there i && decide (b.size=64) then (if d.eO.2 then (d.eO.1.push i.toNat b,0) else (d.eO.1,14)) else (d,1)
def flush (d:Dk):Dk := { d with af:=(List.range d.af.length).map d.now,waits:=d.waits.map fun _=>[] }
def sync (d:Dk):Dk × Int:=if d.off then (d,14) else if d.eO.2 then (d.eO.1.flush,0) else (d.eO.1,14)
def pend (d:Dk):Nat:=(d.waits.map List.length).sum
structure wf (d:Dk):Prop where
 len:d.waits.length=d.af.length
 pos:1≤d.af.length
 most:d.af.length≤4096
 af:∀b ∈ d.af,b.size=64
 waits:∀l ∈ d.waits,∀b ∈ l,b.size=64
 cV:-1≤d.cV
 Qb:d.cV≤9223372036854775807
 room:d.pend<1000000
theorem at_len {d:Dk} (i:Nat):(d.at_ i).length≤d.pend:=by
 unfold at_ pend;generalize d.waits=l;induction l generalizing i with
 | nil=>simp
 | cons x l ih =>
   cases i with
   | zero=>simp
   | succ i=>have:=ih i;simp at this ⊢;omega
theorem FW (d:Dk):d.eO.1.af=d.af:=by
 unfold eO;split
 ·rfl
 ·split<;>rfl
theorem Kq (d:Dk):d.eO.1.waits=d.waits:=by
 unfold eO;split
 ·rfl
 ·split<;>rfl
theorem Kw (d:Dk):d.eO.1.pend=d.pend:=by unfold pend;rw[Kq]
end Dk
def strs (l:List ByteArray):List Value:=l.map Value.string
theorem ae6 (l:List ByteArray):∀u ∈ strs l,u.oneCell'=true:=by
 intro u hu;obtain⟨_,_,rfl⟩:=List.mem_map.1 hu;rfl
theorem DE (l:List ByteArray) (i:Nat):(strs l)[i]? = (l[i]?).map Value.string:=by simp[strs]
abbrev qn (i:Int):Value:=.int .i64 i
structure rP (w:World) (m:List (Int × Value)) (waits:List (List ByteArray)):Prop where
 each:∀p ∈ m,∃i:Nat,p.1=(i:Int)∧i<waits.length∧waits.getD i []≠[]∧Own w 9 1 p.2 (waits.getD i []).length (strs (waits.getD i []))
 all:∀i:Nat,waits.getD i []≠[]→(i:Int) ∈ m.map (·.1)
def bI (w:World) (p:Nat) (d:Dk) (F:List Nat):Prop :=
 ∃ bl cap bm m,
  η w p 151 #[.slice (some ⟨bl,0,none⟩) d.af.length cap,.map (some bm),.int .i64 d.cV,.bool d.off] ∧
  Own w 9 1 (.slice (some ⟨bl,0,none⟩) d.af.length cap) d.af.length (strs d.af) ∧
  cA qn w bm m∧rP w m d.waits∧d.wf∧F=p::bl::bm::m.filterMap (·.2.ownBlock)∧F.Nodup
theorem xX:zq (.int .i64) qn:=ahz .i64
section
variable {w w':World} {p:Nat} {d:Dk} {F:List Nat}
theorem rP.ε {m:List (Int × Value)} {waits:List (List ByteArray)} (h:rP w m waits) (hb:∀k ∈ m.filterMap (·.2.ownBlock),w'.heap[k]? = w.heap[k]?):rP w' m waits:=by
 refine⟨fun q hq=>?_,h.all⟩;obtain⟨i,h1,h2,h3,h4⟩:=h.each q hq;exact⟨i,h1,h2,h3,h4.cU fun k hk=>hb k (List.mem_filterMap.2 ⟨q,hq,hk⟩)⟩
theorem bI.cU (h:bI w p d F) (hb:∀k ∈ F,w'.heap[k]? = w.heap[k]?):bI w' p d F:=by
 obtain⟨bl,cap,bm,m,h1,h2,h3,h4,h5,rfl,h7⟩:=h;refine⟨bl,cap,bm,m,h1.cU (hb p (by simp)),h2.cU (fun k hk=>hb k ?_),h3.cU (hb bm (by simp)),h4.ε (fun k hk=>hb k (by simp only[List.mem_cons];exact .inr (.inr (.inr hk)))),h5,rfl,h7⟩;have:k=bl:=by simpa [Value.ownBlock] using hk.symm
 subst this;simp
theorem bI.lt (h:bI w p d F):∀k ∈ F,k<w.heap.size:=by
 obtain⟨bl,cap,bm,m,h1,h2,h3,h4,h5,rfl,h7⟩:=h;intro k hk;simp only[List.mem_cons,List.mem_filterMap] at hk;rcases hk with rfl | rfl | rfl | ⟨q,hq,hk⟩
 ·exact h1.lt
 ·exact h2.lt (by simp[Value.ownBlock])
 ·exact h3.lt
 ·obtain⟨i,_,_,_,h8⟩:=h4.each q hq
  exact h8.lt hk
theorem bI.ε {G:Nat→Prop} (h:bI w p d F) (hu:ζ G w w') (hn:∀k ∈ F,¬G k):bI w' p d F:=h.cU fun k hk=>hu.block k (h.lt k hk) (hn k hk)
theorem bI.drew (h:bI w p d F):bI w.drew p d F:=h.cU fun _ _=>rfl
theorem bI.alloc (h:bI w p d F) (o:Obj):bI (w.alloc o) p d F:=h.cU fun k hk=>Below.heap_alloc w o k (h.lt k hk)
theorem bI.below (h:bI w p d F) (hb:Below w.heap.size w w'):bI w' p d F:=h.cU fun k hk=>hb.block k (h.lt k hk)
theorem bI.blk (h:bI w p d F):∃bl cap bm,η w p 151 #[.slice (some ⟨bl,0,none⟩) d.af.length cap,.map (some bm),.int .i64 d.cV,.bool d.off]:=by
 obtain⟨bl,cap,bm,_,h1,_⟩:=h;exact⟨bl,cap,bm,h1⟩
theorem bI.wf (h:bI w p d F):d.wf:=by obtain⟨_,_,_,_,_,_,_,_,h5,_⟩:=h;exact h5
theorem bI.mem (h:bI w p d F):p ∈ F:=by obtain⟨_,_,_,_,_,_,_,_,_,rfl,_⟩:=h;simp
end
structure Left (w w':World) (p:Nat) (d':Dk) (F F':List Nat):Prop where
 bO:bI w' p d' F'
 ε:ζ (· ∈ F) w w'
 sub:∀k ∈ F',k ∈ F∨w.heap.size≤k
theorem Left.refl {w:World} {p:Nat} {d:Dk} {F:List Nat} (h:bI w p d F):Left w w p d F F:=⟨h,ζ.refl _ _,fun _ hk=>.inl hk⟩
theorem Left.trans {w w1 w2:World} {p:Nat} {d1 d2:Dk} {F F1 F2:List Nat} (h:Left w w1 p d1 F F1) (k:Left w1 w2 p d2 F1 F2):Left w w2 p d2 F F2 :=
 ⟨k.bO,h.ε.then k.ε h.sub,fun b hb=>(k.sub b hb).elim (h.sub b) (fun e=>.inr (Nat.le_trans h.ε.size e))⟩
theorem Left.alloc {w w1:World} {p:Nat} {d1:Dk} {F F1:List Nat} (h:Left w w1 p d1 F F1) (o:Obj):Left w (w1.alloc o) p d1 F F1:=⟨h.bO.alloc o,h.ε.alloc o,h.sub⟩
theorem Left.below {w w1 w2:World} {p:Nat} {d1:Dk} {F F1:List Nat} (h:Left w w1 p d1 F F1) (hb:Below w1.heap.size w1 w2):Left w w2 p d1 F F1 :=
 ⟨h.bO.below hb,h.ε.then (ζ.oI hb (fun _=>False)) φ,h.sub⟩
theorem Left.eq {w w1:World} {p:Nat} {d1 d2:Dk} {F F1:List Nat} (h:Left w w1 p d1 F F1) (e:d1=d2):Left w w1 p d2 F F1:=e ▸ h
theorem adC {w:World} {p:Nat} {d:Dk} {F:List Nat} (hD:bI w p d F) (n:Int) (h1:-1≤n) (h2:n≤9223372036854775807) :
 Left w (w.setCell ⟨p,2,none⟩ (.int .i64 n)) p { d with cV:=n } F F:=by
 have hm:=hD.mem;refine⟨?_,(ζ.refl _ _).setCell (.inl hm) _,fun _ hk=>.inl hk⟩;obtain⟨bl,cap,bm,m,g1,g2,g3,g4,g5,rfl,g7⟩:=hD;have hpl:p≠bl:=fun e=>by subst e;simp at g7
 have wS:p≠bm:=fun e=>by subst e;simp at g7
 refine⟨bl,cap,bm,m,g1.bE 2 _,g2.bP (by simpa [Value.ownBlock] using Ne.symm hpl) _,g3.bP (Ne.symm wS) _,g4.ε (fun k hk=>?_),⟨g5.1,g5.2,g5.3,g5.4,g5.5,h1,h2,g5.8⟩,rfl,g7⟩;exact Below.heap_setCell _ _ _ _ (fun e=>by subst e;simp only[List.nodup_cons,List.mem_cons] at g7;exact g7.1 (.inr (.inr hk)))
theorem ae7 {w:World} {p:Nat} {d:Dk} {F:List Nat} (hD:bI w p d F) (b:Bool) :
 Left w (w.setCell ⟨p,3,none⟩ (.bool b)) p { d with off:=b } F F:=by
 have hm:=hD.mem;refine⟨?_,(ζ.refl _ _).setCell (.inl hm) _,fun _ hk=>.inl hk⟩;obtain⟨bl,cap,bm,m,g1,g2,g3,g4,g5,rfl,g7⟩:=hD;have hpl:p≠bl:=fun e=>by subst e;simp at g7
 have wS:p≠bm:=fun e=>by subst e;simp at g7
 refine⟨bl,cap,bm,m,g1.bE 3 _,g2.bP (by simpa [Value.ownBlock] using Ne.symm hpl) _,g3.bP (Ne.symm wS) _,g4.ε (fun k hk=>?_),⟨g5.1,g5.2,g5.3,g5.4,g5.5,g5.6,g5.7,g5.8⟩,rfl,g7⟩;exact Below.heap_setCell _ _ _ _ (fun e=>by subst e;simp only[List.nodup_cons,List.mem_cons] at g7;exact g7.1 (.inr (.inr hk)))
theorem J_ {β : Type} {f : β → Option Nat} : ∀ {l:List β},(l.filterMap f).Nodup→∀ {x y : β} {k:Nat},x ∈ l→y ∈ l→f x=some k→f y=some k→x=y
 | [],_,_,_,_,hx,_,_,_=>by cases hx
 | z :: l,h,x,y,k,hx,hy,fx,fy=>by
   have hl:(l.filterMap f).Nodup:=by
    rw[List.filterMap_cons] at h;split at h
    ·exact h
    ·exact(List.nodup_cons.1 h).2
   have out:f z=some k→∀q,q ∈ l→f q=some k→False:=fun fz q hq fq=>by
    rw[List.filterMap_cons,fz] at h;exact(List.nodup_cons.1 h).1 (List.mem_filterMap.2 ⟨q,hq,fq⟩)
   rcases List.mem_cons.1 hx with ex | hx2
   ·rcases List.mem_cons.1 hy with ey | hy2
    ·rw[ex,ey]
    ·exact(out (by rw[← ex];exact fx) y hy2 fy).elim
   ·rcases List.mem_cons.1 hy with ey | hy2
    ·exact(out (by rw[← ey];exact fy) x hx2 fx).elim
    ·exact J_ hl hx2 hy2 fx fy
theorem Gc {α : Type} [DecidableEq α] {m:List (α × Value)} {a : α} {v:Value} {q : α × Value} (h:q ∈ lQ m a v):q=(a,v)∨(q ∈ m∧q.1≠a):=by
 unfold lQ at h;split at h
 ·obtain⟨r,hr,e⟩:=List.mem_map.1 h
  split at e
  ·exact .inl e.symm
  ·rename_i hne
   subst e;exact .inr ⟨hr,hne⟩
 ·rename_i hna
  rcases List.mem_append.1 h with h | h
  ·exact .inr ⟨h,fun e=>hna (List.mem_map.2 ⟨q,h,e⟩)⟩
  ·exact .inl (by simpa using h)
theorem ae8 {α : Type} [DecidableEq α] {m:List (α × Value)} {a : α} {v:Value} : (a,v) ∈ lQ m a v:=by
 unfold lQ;split
 ·rename_i h
  obtain⟨r,hr,e⟩:=List.mem_map.1 h;exact List.mem_map.2 ⟨r,hr,by simp[e]⟩
 ·simp
theorem adD {α : Type} [DecidableEq α] {m:List (α × Value)} {a : α} {v:Value} {x : α} (h:x ∈ m.map (·.1)):x ∈ (lQ m a v).map (·.1):=by
 unfold lQ;split
 ·obtain⟨r,hr,e⟩:=List.mem_map.1 h
  by_cases RY:r.1=a
  ·exact List.mem_map.2 ⟨(a,v),List.mem_map.2 ⟨r,hr,by simp[RY]⟩,by rw[← e,RY]⟩
  ·exact List.mem_map.2 ⟨r,List.mem_map.2 ⟨r,hr,by simp[RY]⟩,e⟩
 ·simp only[List.map_append,List.mem_append]
  exact .inl h
theorem Up {β : Type} {f : β → Option Nat} : ∀ {l:List β},l.Nodup→(∀x ∈ l,∀y ∈ l,∀k,f x=some k→f y=some k→x=y)→(l.filterMap f).Nodup
 | [],_,_=>List.nodup_nil
 | z :: l,h,hi=>by
   have ih:=Up (l:=l) (List.nodup_cons.1 h).2 (fun x hx y hy=>hi x (.tail _ hx) y (.tail _ hy));rw[List.filterMap_cons];split
   ·exact ih
   ·rename_i k hk
    refine List.nodup_cons.2 ⟨fun hmem=>?_,ih⟩;obtain⟨y,hy,fy⟩:=List.mem_filterMap.1 hmem;have:=hi z (.head _) y (.tail _ hy) k hk fy;subst this;exact(List.nodup_cons.1 h).1 hy
theorem Dk.wf.push {d:Dk} (h:d.wf) (k:Nat) (b:ByteArray) (hb:b.size=64) (hp:d.pend+1<1000000):(d.push k b).wf∧(d.push k b).pend≤d.pend+1:=by
 have aiw:(d.push k b).pend≤d.pend+1:=by
  unfold Dk.pend Dk.push Dk.at_;simp only
  generalize d.waits=l;induction l generalizing k with
  | nil=>simp
  | cons x l ih =>
    cases k with
    | zero=>simp;omega
    | succ k=>have:=ih k;simp at this ⊢;omega
 refine⟨⟨by simpa [Dk.push] using h.len,h.pos,h.most,h.af,?_,h.cV,h.Qb,by omega⟩,aiw⟩;intro l hl x hx;simp only[Dk.push] at hl;rcases List.mem_or_eq_of_mem_set hl with hl | rfl
 ·exact h.waits l hl x hx
 ·rcases List.mem_append.1 hx with hx | hx
  ·unfold Dk.at_ at hx
   rw[List.getD_eq_getElem?_getD] at hx;cases hg:d.waits[k]? with
   | none=>simp[hg] at hx
   | some l=>rw[hg] at hx;exact h.waits l (List.mem_of_getElem? hg) x hx
  ·simp at hx;rw[hx];exact hb
theorem Gl {d:Dk} (k:Nat) (b:ByteArray) (hk:k<d.waits.length) (i:Nat):(d.push k b).at_ i=if i=k then d.at_ k++[b] else d.at_ i:=by
 unfold Dk.push Dk.at_;simp only[List.getD_eq_getElem?_getD,List.getElem?_set];by_cases h:k=i
 ·subst h;simp[hk]
 ·simp[h,Ne.symm h]
theorem adE {w w2 w3:World} {p bl cap bm k:Nat} {d:Dk} {m:List (Int × Value)} {v0 v':Value} {b:ByteArray}
 (g1:η w p 151 #[.slice (some ⟨bl,0,none⟩) d.af.length cap,.map (some bm),.int .i64 d.cV,.bool d.off])
 (g2:Own w 9 1 (.slice (some ⟨bl,0,none⟩) d.af.length cap) d.af.length (strs d.af))
 (g3:cA qn w bm m) (g4:rP w m d.waits) (g5:d.wf) (g7:(p::bl::bm::m.filterMap (·.2.ownBlock)).Nodup)
 (hk:k<d.af.length) (hb:b.size=64) (hp:d.pend+1<1000000)
 (RZ:∀q,v0.ownBlock=some q→((k:Int),v0) ∈ m)
 (hown:Own w2 9 1 v' ((d.at_ k).length+1) (strs (d.at_ k++[b]))) (π:ζ (fun q=>v0.ownBlock=some q) w w2)
 (Ek:∀q,v'.ownBlock=some q→v0.ownBlock=some q∨w.heap.size≤q)
 (hM:cA qn w3 bm (lQ m (k:Int) v')) (χ:ζ (· = bm) w2 w3):∃F',Left w w3 p (d.push k b) (p::bl::bm::m.filterMap (·.2.ownBlock)) F':=by
 have hF:bI w p d (p::bl::bm::m.filterMap (·.2.ownBlock)):=⟨bl,cap,bm,m,g1,g2,g3,g4,g5,rfl,g7⟩;have hlt:=hF.lt;simp only[List.nodup_cons,List.mem_cons,not_or] at g7;obtain⟨⟨wT,z_,ME⟩,⟨yq,ID⟩,EK,IE⟩:=g7;have GG:∀q,v0.ownBlock=some q→q ∈ m.filterMap (·.2.ownBlock):=fun q hq=>List.mem_filterMap.2 ⟨_,RZ q hq,hq⟩
 -- what w3 still has of the blocks of w
 have keep:∀q,q<w.heap.size→v0.ownBlock≠some q→q≠bm→w3.heap[q]? = w.heap[q]? := fun q h1 h2 h3=>(χ.block q (Nat.lt_of_lt_of_le h1 π.size) h3).trans (π.block q h1 h2)
 have jr:v0.ownBlock≠some p:=fun e=>ME (GG p e)
 have hl0:v0.ownBlock≠some bl:=fun e=>ID (GG bl e)
 have hm0:v0.ownBlock≠some bm:=fun e=>EK (GG bm e)
 have hbm:v'.ownBlock≠some bm:=fun e=>(Ek bm e).elim hm0 (fun h=>by have:=hlt bm (by simp);omega)
 have GC:Own w3 9 1 v' ((d.at_ k).length+1) (strs (d.at_ k++[b])):=hown.ε χ (fun q hq e=>hbm (by rw[← e];exact hq));have yt:k<d.waits.length:=by rw[g5.len];exact hk
 have rD:∀q ∈ (lQ m (k:Int) v').filterMap (·.2.ownBlock),q ∈ m.filterMap (·.2.ownBlock)∨w.heap.size≤q:=by
  intro q hq;obtain⟨x,hx,fx⟩:=List.mem_filterMap.1 hq;rcases Gc hx with rfl | ⟨hx,_⟩
  ·exact(Ek q fx).imp (GG q) id
  ·exact .inl (List.mem_filterMap.2 ⟨x,hx,fx⟩)
 have hW:rP w3 (lQ m (k:Int) v') (d.push k b).waits:=by
  refine⟨fun q hq=>?_,fun i hi=>?_⟩
  ·rcases Gc hq with rfl | ⟨hq,hne⟩
   ·refine⟨k,rfl,by simpa [Dk.push] using yt,?_,?_⟩
    ·show (d.push k b).at_ k≠[]
     rw[Gl k b yt];simp
    ·show Own w3 _ 1 v' ((d.push k b).at_ k).length (strs ((d.push k b).at_ k))
     rw[Gl k b yt,if_pos rfl];simpa using GC
   ·obtain⟨i,e,hi,Y6,ho⟩:=g4.each q hq
    have hik:i≠k:=fun h=>hne (by rw[e,h])
    refine⟨i,e,by simpa [Dk.push] using hi,?_,?_⟩
    ·show (d.push k b).at_ i≠[]
     rw[Gl k b yt,if_neg hik];exact Y6
    ·show Own w3 _ 1 q.2 ((d.push k b).at_ i).length (strs ((d.push k b).at_ i))
     rw[Gl k b yt,if_neg hik];refine ho.cU fun x hx=>keep x (ho.lt hx) (fun h0=>?_) (fun hxm=>EK (List.mem_filterMap.2 ⟨q,hq,by rw[← hxm];exact hx⟩))
     have:=J_ IE hq (RZ x h0) hx h0;rw[this] at hne;exact hne rfl
  ·by_cases hik:i=k
   ·subst hik
    exact List.mem_map.2 ⟨_,ae8,rfl⟩
   ·have:d.at_ i≠[]:=by
     have h2:(d.push k b).at_ i≠[]:=hi;rw[Gl k b yt,if_neg hik] at h2;exact h2
    exact adD (g4.all i this)
 have hnd:((lQ m (k:Int) v').filterMap (·.2.ownBlock)).Nodup:=by
  refine Up (Du hM.nodup) fun x hx y hy q fx fy=>?_
  have other:∀y,y ∈ m→y.1≠(k:Int)→y.2.ownBlock=some q→v'.ownBlock=some q→False:=fun y hy hne fy fx=>by
   rcases Ek q fx with h | h
   ·have:=J_ IE hy (RZ q h) fy h
    rw[this] at hne;exact hne rfl
   ·have:=hlt q (by simp only[List.mem_cons];exact .inr (.inr (.inr (List.mem_filterMap.2 ⟨y,hy,fy⟩))))
    omega
  rcases Gc hx with rfl | ⟨hx,hxn⟩
  ·rcases Gc hy with rfl | ⟨hy,hyn⟩
   ·rfl
   ·exact(other y hy hyn fy fx).elim
  ·rcases Gc hy with rfl | ⟨hy,hyn⟩
   ·exact(other x hx hxn fx fy).elim
   ·exact J_ IE hx hy fx fy
 have lp:=hlt p (by simp);have ll:=hlt bl (by simp);have lm:=hlt bm (by simp);refine⟨p::bl::bm::(lQ m (k:Int) v').filterMap (·.2.ownBlock),⟨bl,cap,bm,lQ m (k:Int) v',g1.cU (keep p lp jr z_),g2.cU (fun q hq=>?_),hM,hW,(g5.push k b hb hp).1,rfl,?_⟩,π.trans χ ?_ ?_,?_⟩
 ·have:q=bl:=by simpa [Value.ownBlock] using hq.symm
  subst this;exact keep q ll hl0 yq
 ·simp only[List.nodup_cons,List.mem_cons,not_or]
  exact⟨⟨wT,z_,fun h=>(rD p h).elim ME (fun h=>by omega)⟩,⟨yq,fun h=>(rD bl h).elim ID (fun h=>by omega)⟩,fun h=>(rD bm h).elim EK (fun h=>by omega),hnd⟩
 ·intro q hq
  simp only[List.mem_cons];exact .inr (.inr (.inr (GG q hq)))
 ·rintro q rfl
  exact .inl (by simp)
 ·intro q hq
  simp only[List.mem_cons] at hq ⊢;rcases hq with rfl | rfl | rfl | hq
  ·exact .inl (.inl rfl)
  ·exact .inl (.inr (.inl rfl))
  ·exact .inl (.inr (.inr (.inl rfl)))
  ·exact(rD q hq).imp (fun h=>.inr (.inr (.inr h))) id
theorem adF (w:World) (r:Option Nat):(binOp .eql 149 (.map r) (.map none)).run Tryz.prog w=.ok (.bool r.isNone) w :=
 run_eql_map_nil w _ _ _ r Tryz.underlying149
theorem Gv {w:World} {p:Nat} {d:Dk} {F:List Nat} (hD:bI w p d F) :
 Calls Tryz.prog 78 #[.pointer (some ⟨p,0,none⟩)] w fun e w'=>e=.returned (.bool false)∧w=w':=by
 obtain⟨bl,cap,bm,h1⟩:=hD.blk;clear hD;have hc:=h1.iI;have hm:=adF w (some bm);clear h1;go_enter Tryz.func78,Tryz.ntmps78
 go_wp2
 go_ret
 exact⟨rfl,rfl⟩
theorem Y7 {P:Prop} (h:P:=by
 obtain⟨bl,cap,bm,h1⟩:=hD.blk;clear hD;rw[hoff] at h1;have hc:=h1.iI;have Hn:=Lib.hid hn;clear h1 hn;go_enter Tryz.func88,Tryz.ntmps88
 go_wp2_with (go_at_call 78;refine Hn.out.mono ?_;rintro e w' ⟨rfl,rfl⟩);go_ret
 exact⟨rfl,rfl⟩):P:=h
theorem DX {w:World} {p:Nat} {d:Dk} {F:List Nat} (hD:bI w p d F) (hoff:d.off=false) :
 Calls Tryz.prog 88 #[.pointer (some ⟨p,0,none⟩)] w fun e w'=>e=.returned (.int .i64 0)∧w=w':=by
 have hn:=Gv hD;exact Y7
theorem O8 {w:World} {p:Nat} {d:Dk} {F:List Nat} (hD:bI w p d F) (hoff:d.off=true) :
 Calls Tryz.prog 88 #[.pointer (some ⟨p,0,none⟩)] w fun e w'=>e=.returned (.int .i64 14)∧w=w':=by
 have hn:=Gv hD;exact Y7
theorem KW {w:World} {p:Nat} {d:Dk} {F:List Nat} (hD:bI w p d F) (i:Int) :
 Calls Tryz.prog 89 #[.pointer (some ⟨p,0,none⟩),.int .i64 i] w fun e w'=>e=.returned (.bool (d.there i))∧w=w':=by
 have Qc:=hD.wf.most;obtain⟨bl,cap,bm,h1⟩:=hD.blk;clear hD;have hc:=h1.iI;clear h1;have HT:Hid (d.there i=decide (0≤i∧i<d.af.length)):=rfl;generalize d.there i=r at HT;by_cases h0:0≤i
 ·go_enter Tryz.func89,Tryz.ntmps89
  go_wp2
  go_ret
  exact⟨by rw[HT.out];simp[h0],rfl⟩
 ·go_enter Tryz.func89,Tryz.ntmps89
  go_wp2
  go_ret
  exact⟨by rw[HT.out];simp;omega,rfl⟩
theorem OJ {w:World} {p:Nat} {d:Dk} {F:List Nat} (hD:bI w p d F) :
 Calls Tryz.prog 61 #[.pointer (some ⟨p,0,none⟩)] w fun e w'=>e=.returned (.int .i64 d.af.length)∧w=w':=by
 have hn:=Gv hD;obtain⟨bl,cap,bm,h1⟩:=hD.blk;clear hD;have hc:=h1.iI;have Hn:=Lib.hid hn;clear h1 hn;go_enter Tryz.func61,Tryz.ntmps61
 go_wp2_with (go_at_call 78;refine Hn.out.mono ?_;rintro e w' ⟨rfl,rfl⟩);go_ret
 exact⟨rfl,rfl⟩
theorem Xi {w:World} {p:Nat} {d:Dk} {F:List Nat} (hD:bI w p d F) :
 Calls Tryz.prog 33 #[.pointer (some ⟨p,0,none⟩)] w fun e w'=>e=.returned (.bool d.off)∧w=w':=by
 have hn:=Gv hD;obtain⟨bl,cap,bm,h1⟩:=hD.blk;clear hD;have hc:=h1.iI;have Hn:=Lib.hid hn;clear h1 hn;go_enter Tryz.func33,Tryz.ntmps33
 go_wp2_with (go_at_call 78;refine Hn.out.mono ?_;rintro e w' ⟨rfl,rfl⟩);go_ret
 exact⟨rfl,rfl⟩
theorem Vy {w:World} {p:Nat} {d:Dk} {F:List Nat} (hD:bI w p d F) (hb:d.eO.2=true) :
 Calls Tryz.prog 170 #[.pointer (some ⟨p,0,none⟩)] w fun e w'=>e=.returned (.int .i64 0)∧Left w w' p d.eO.1 F F:=by
 have hw:=hD.wf;have MF:=hw.cV;have uT:=hw.Qb;by_cases h0:d.cV=0
 ·simp[Dk.eO,h0] at hb
 ·by_cases h1:0<d.cV
  ·have HL:Hid (Left w (w.setCell ⟨p,2,none⟩ (.int .i64 (d.cV - 1))) p d.eO.1 F F) :=
    (adC hD (d.cV - 1) (by omega) (by omega)).eq (by simp[Dk.eO,h0,h1])
   obtain⟨bl,cap,bm,g1⟩:=hD.blk;clear hD;have hc:=g1.iI;have hfr:=g1.frozen 2;generalize d.cV=f at *;have hz:(f == 0)=false:=by simp[h0]
   clear g1 hb hw h0;go_enter Tryz.func170,Tryz.ntmps170
   go_wp2
   go_ret
   exact⟨rfl,HL.out⟩
  ·have HL:Hid (Left w w p d.eO.1 F F):=(Left.refl hD).eq (by simp[Dk.eO,h0,h1])
   obtain⟨bl,cap,bm,g1⟩:=hD.blk;clear hD;have hc:=g1.iI;generalize d.cV=f at *;have hz:(f == 0)=false:=by simp[h0]
   clear g1 hb hw h0;go_enter Tryz.func170,Tryz.ntmps170
   go_wp2
   go_ret
   exact⟨rfl,HL.out⟩
theorem Wc {w:World} {p:Nat} {d:Dk} {F:List Nat} (hD:bI w p d F) (hb:d.eO.2=false) :
 Calls Tryz.prog 170 #[.pointer (some ⟨p,0,none⟩)] w fun e w'=>e=.returned (.int .i64 14)∧Left w w' p d.eO.1 F F:=by
 have h0:d.cV=0:=by
  unfold Dk.eO at hb;split at hb
  ·assumption
  ·split at hb<;>simp at hb
 have HL:Hid (Left w (w.setCell ⟨p,3,none⟩ (.bool true)) p d.eO.1 F F):=(ae7 hD true).eq (by simp[Dk.eO,h0]);obtain⟨bl,cap,bm,g1⟩:=hD.blk;clear hD;rw[h0] at g1;have hc:=g1.iI;have hfr:=g1.frozen 3;clear g1 hb h0;go_enter Tryz.func170,Tryz.ntmps170
 go_wp2
 go_ret
 exact⟨rfl,HL.out⟩
theorem pQ {P:Program} {ops:Array Oper} {o:Oper} {a:Act} {w:World} {K:Act→World→Prop} {Q:Exit→Act→World→Prop} {E:Prop}
 (hg:o.guard=none) (s x:Operand) (t xT:TypeId) (ho:o.op=.call { callee:=.builtin .append,args:=#[s,x],argTypes:=#[t,xT] })
 (e:TypeId) (i:TypeInfo) (z:Value) (size bytes:Nat) (ht:P.underlying t=some (.slice e)) (hi:P.info? e=some i) (hz:i.zero=some z) (hsize:i.size=size) (hby:i.bytes=bytes) (hzs:z.cells.size=size)
 (v:Value) (n:Nat) (xs:List Value) (hs:a.eval s=v) (hown:Own w e size v n xs) (vx:Value) (m:Nat) (news:List Value) (hx:a.eval x=vx) (hsrc:Src P w xT size vx m news) (h1:∀u ∈ news,u.oneCell'=true)
 (h63:n+m≤maxLen) (hbytes:(n+m)*bytes≤140737488355328)
 (h:∀v' w',Own w' e size v' (n+m) (xs++news)→ζ (fun k=>v.ownBlock=some k) w w'→(v'.ownBlock=v.ownBlock∨v'.ownBlock=some w.heap.size)→w'.heap.size≤w.heap.size+1→K (a.put o.dst v') w') :
 if Region.wanted o (yielded ops a.tmps)=true then Oper.wp P o a w K Q else E:=by
 have hw:Region.wanted o (yielded ops a.tmps)=true:=by simp[Region.wanted,hg]
 rw[if_pos hw];obtain⟨v',w',hrun,h2,h3,h4,h5⟩:=Uu (P:=P) t o.type i z bytes ht hi hz hsize hby hzs hown hsrc h1 h63 hbytes;exact Uw s x t xT ho hs hx hrun (h v' w' h2 h3 h4 h5)
theorem Gm:(Tryz.prog.info? 9).map (fun i=>(i.zero,i.size,i.bytes))=some (some (.string ByteArray.empty),1,16):=by kernel_rfl
theorem ae9 (w:World):(zeroValue 147).run Tryz.prog w=.ok (.slice none 0 0) w:=by kernel_rfl
theorem Gn {w:World} {bm:Nat} {m:List (Int × Value)} {d:Dk} (h3:cA qn w bm m) (h4:rP w m d.waits) (i:Nat) :
 ∃v,(nI m (i:Int)).getD (.slice none 0 0)=v∧(Instr.lookup 149 (.map (some bm)) (.int .i64 (i:Int)) false).run Tryz.prog w=.ok v w∧Own w 9 1 v (d.at_ i).length (strs (d.at_ i))∧(d.at_ i=[]→v=.slice none 0 0)∧(d.at_ i≠[]→((i:Int),v) ∈ m):=by
 refine⟨_,rfl,h3.FO xX Tryz.underlying149 Tryz.underlying3 (i:Int) false (ae9 w),?_⟩;by_cases h0:d.at_ i=[]
 ·have hn:nI m (i:Int)=none:=by
   refine Ox fun p hp hpi=>?_
   obtain⟨j,e,_,hj,_⟩:=h4.each p hp;have:j=i:=by omega
   subst this;exact hj h0
  rw[hn,h0];exact⟨Own.nil _ _ _,fun _=>rfl,fun h=>absurd rfl h⟩
 ·obtain⟨q,hq,hqi⟩:=List.mem_map.1 (h4.all i h0)
  obtain⟨k,hk⟩:=List.getElem?_of_mem hq;have hg:nI m (i:Int)=some q.2:=Ow h3.nodup (j:=k) (by rw[hk,← hqi]);obtain⟨j,e,_,hj,hown⟩:=h4.each q hq;have:j=i:=by omega
  subst this;rw[hg];refine⟨hown,fun h=>absurd h h0,fun _=>?_⟩;simp only[Option.getD_some];rw[← hqi];exact hq
theorem bI.look {w:World} {p:Nat} {d:Dk} {F:List Nat} (hD:bI w p d F) (i:Nat) (hi:i<d.af.length) :
 ∃ bl cap bm v,η w p 151 #[.slice (some ⟨bl,0,none⟩) d.af.length cap,.map (some bm),.int .i64 d.cV,.bool d.off]∧(Instr.lookup 149 (.map (some bm)) (.int .i64 (i:Int)) false).run Tryz.prog w=.ok v w ∧
  Own w 9 1 v (d.at_ i).length (strs (d.at_ i))∧w.cell? ⟨bl,i,none⟩=some (.string (d.last i))∧(d.at_ i=[]→v=.slice none 0 0):=by
 obtain⟨bl,cap,bm,m,h1,h2,h3,h4,_⟩:=hD;obtain⟨v,_,hrun,hown,hnil,_⟩:=Gn h3 h4 i;refine⟨bl,cap,bm,v,h1,hrun,hown,?_,hnil⟩;rw[h2.cellAt i (by omega),DE,Dk.last];simp[hi]
theorem K8 {w:World} {p:Nat} {d:Dk} {F:List Nat} (hD:bI w p d F) (i:Int) :
 Calls Tryz.prog 46 #[.pointer (some ⟨p,0,none⟩),.int .i64 i] w fun e w'=>e=.returned (.tuple #[.string (d.read i).1,.int .i64 (d.read i).2])∧w=w':=by
 have hwf:=hD.wf;cases hoff:d.off with
 | true =>
   have hr:d.read i=(ByteArray.empty,14):=by simp[Dk.read,hoff]
   rw[hr];have Ho:=Lib.hid (O8 hD hoff);clear hoff hr hwf hD;go_enter Tryz.func46,Tryz.ntmps46
   go_wp2_with (go_at_call 88;refine Ho.out.mono ?_;rintro e w' ⟨rfl,rfl⟩);go_ret2
   exact⟨rfl,rfl⟩
 | false =>
   have Ho:=Lib.hid (DX hD hoff);have Ht:=Lib.hid (KW hD i);cases ht:d.there i with
   | false =>
     have hr:d.read i=(ByteArray.empty,1):=by simp[Dk.read,hoff,ht]
     rw[hr];rw[ht] at Ht;clear hoff hr hwf hD ht;go_enter Tryz.func46,Tryz.ntmps46
     go_wp2_with (first|(go_at_call 88;refine Ho.out.mono ?_;rintro e w' ⟨rfl,rfl⟩)|(go_at_call 89;refine Ht.out.mono ?_;rintro e w' ⟨rfl,rfl⟩));go_ret2
     exact⟨rfl,rfl⟩
   | true =>
     have hi:0≤i∧i<d.af.length:=by simpa [Dk.there] using ht
     obtain⟨k,rfl⟩:=Int.eq_ofNat_of_zero_le hi.1;have hk:k<d.af.length:=by omega
     have hr:d.read (k:Int)=(d.now k,0):=by simp[Dk.read,hoff,ht]
     rw[hr];rw[ht] at Ht;have Qc:=hwf.most;have hroom:=hwf.room;have jS:=Dk.at_len (d:=d) k;obtain⟨bl,cap,bm,v,h1,hrun,hown,hcell,hnil⟩:=hD.look k hk;have hc:=h1.iI;clear h1 hoff hr ht hD hwf;by_cases h0:d.at_ k=[]
     ·have rZ:Hid (d.now k=d.last k):=by simp[Dk.now,h0,Hid]
      have hv:v=.slice none 0 0:=hnil h0;subst hv;generalize d.last k=x at *;clear h0 hown jS hnil;go_enter Tryz.func46,Tryz.ntmps46
      go_wp2_with (first|(go_at_call 88;refine Ho.out.mono ?_;rintro e w' ⟨rfl,rfl⟩)|(go_at_call 89;refine Ht.out.mono ?_;rintro e w' ⟨rfl,rfl⟩));go_ret2
      exact⟨by rw[rZ.out];rfl,rfl⟩
     ·have hlen:0<(d.at_ k).length:=List.length_pos_iff.2 h0
      obtain⟨g,cap',rfl,hnc,hcm⟩:=hown.head hlen;have XQ:w.cell? ⟨g,(d.at_ k).length - 1,none⟩=some (.string (d.now k)):=by
       rw[hown.cellAt _ (by omega),DE,Dk.now,List.getLast?_eq_getElem?];rw[List.getElem?_eq_getElem (by omega)];rfl
      generalize d.now k=x at *;generalize (d.at_ k).length=n at *;clear h0 hown hcell hnil;go_enter Tryz.func46,Tryz.ntmps46
      go_wp2_with (first|(go_at_call 88;refine Ho.out.mono ?_;rintro e w' ⟨rfl,rfl⟩)|(go_at_call 89;refine Ht.out.mono ?_;rintro e w' ⟨rfl,rfl⟩));go_ret2
      exact⟨rfl,rfl⟩
theorem adG {w:World} {p:Nat} {d:Dk} {F:List Nat} (hD:bI w p d F) (i:Int) (b:ByteArray) (hoff:d.off=true) :
 Calls Tryz.prog 115 #[.pointer (some ⟨p,0,none⟩),.int .i64 i,.string b] w fun e w'=>e=.returned (.int .i64 14)∧w=w':=by
 have Ho:=Lib.hid (O8 hD hoff);clear hoff hD;go_enter Tryz.func115,Tryz.ntmps115
 go_wp2_with (go_at_call 88;refine Ho.out.mono ?_;rintro e w' ⟨rfl,rfl⟩);go_ret
 exact⟨rfl,rfl⟩
theorem adH {w:World} {p:Nat} {d:Dk} {F:List Nat} (hD:bI w p d F) (i:Int) (b:ByteArray) (hoff:d.off=false) (h:(d.there i && decide (b.size=64))=false) :
 Calls Tryz.prog 115 #[.pointer (some ⟨p,0,none⟩),.int .i64 i,.string b] w fun e w'=>e=.returned (.int .i64 1)∧w=w':=by
 have Ho:=Lib.hid (DX hD hoff);have Ht:=Lib.hid (KW hD i);clear hoff hD;cases ht:d.there i with
 | false =>
   rw[ht] at Ht;clear h ht;go_enter Tryz.func115,Tryz.ntmps115
   go_wp2_with (first|(go_at_call 88;refine Ho.out.mono ?_;rintro e w' ⟨rfl,rfl⟩)|(go_at_call 89;refine Ht.out.mono ?_;rintro e w' ⟨rfl,rfl⟩));go_ret
   exact⟨rfl,rfl⟩
 | true =>
   rw[ht] at Ht;have hb:((b.size:Int) != 64)=true:=by rw[bne_iff_ne];simp[ht] at h;omega
   clear h ht;go_enter Tryz.func115,Tryz.ntmps115
   go_wp2_with (first|(go_at_call 88;refine Ho.out.mono ?_;rintro e w' ⟨rfl,rfl⟩)|(go_at_call 89;refine Ht.out.mono ?_;rintro e w' ⟨rfl,rfl⟩));go_ret
   exact⟨rfl,rfl⟩
theorem ae_ {w:World} {p:Nat} {d:Dk} {F:List Nat} (hD:bI w p d F) (i:Int) (b:ByteArray) (hoff:d.off=false) (ht:d.there i=true) (hb:b.size=64) (hn:d.eO.2=false) :
 Calls Tryz.prog 115 #[.pointer (some ⟨p,0,none⟩),.int .i64 i,.string b] w fun e w'=>e=.returned (.int .i64 14)∧Left w w' p d.eO.1 F F:=by
 have Ho:=Lib.hid (DX hD hoff);have Ht:=Lib.hid (KW hD i);have Hb:=Lib.hid (Wc hD hn);rw[ht] at Ht;have hb':((b.size:Int) != 64)=false:=by rw[hb];rfl
 clear hoff hD ht hb hn;go_enter Tryz.func115,Tryz.ntmps115
 go_wp2_with (first|(go_at_call 88;refine Ho.out.mono ?_;rintro e w' ⟨rfl,rfl⟩)|(go_at_call 89;refine Ht.out.mono ?_;rintro e w' ⟨rfl,rfl⟩)|(go_at_call 170;refine Hb.out.mono ?_;rintro e w1 ⟨rfl,hL⟩));go_ret
 exact⟨rfl,hL⟩
theorem adI {w:World} {p:Nat} {d:Dk} {F:List Nat} (hD:bI w p d F) (k:Nat) (b:ByteArray) (hoff:d.off=false) (ht:d.there (k:Int)=true) (hb:b.size=64) (hn:d.eO.2=true) (hp:d.pend+1<1000000) :
 Calls Tryz.prog 115 #[.pointer (some ⟨p,0,none⟩),.int .i64 (k:Int),.string b] w fun e w'=>e=.returned (.int .i64 0)∧∃F',Left w w' p (d.eO.1.push k b) F F':=by
 have Ho:=Lib.hid (DX hD hoff);have Ht:=Lib.hid (KW hD k);have Hb:=Lib.hid (Vy hD hn);have hk:k<d.eO.1.af.length:=by
  rw[Dk.FW];simp[Dk.there] at ht
  exact ht
 have Cw:d.eO.1.pend+1<1000000:=by rw[Dk.Kw];exact hp
 generalize d.eO.1=d1 at *;obtain⟨i0,bx,bN,bG,aT⟩:=info_parts Gm;rw[ht] at Ht;have hb':((b.size:Int) != 64)=false:=by rw[hb];rfl
 have HB:=Lib.hid hb;clear hoff hD ht hn hb hp;go_enter Tryz.func115,Tryz.ntmps115
 go_wp2_with (first|(go_at_call 88;refine Ho.out.mono ?_;rintro e w' ⟨rfl,rfl⟩)|(go_at_call 89;refine Ht.out.mono ?_;rintro e w' ⟨rfl,rfl⟩)|(go_at_call 170;refine Hb.out.mono ?_;rintro e w1 ⟨rfl,hL⟩));clear Ho Ht Hb hb';have HL:=Lib.hid hL;obtain⟨bl,cap,bm,m,g1,g2,g3,g4,g5,gF,g7⟩:=hL.bO;clear hL;subst gF;obtain⟨v0,rW,aix,aiy,hnil,hmem⟩:=Gn g3 g4 k;obtain⟨v1,XR,sZ,hx1⟩:=Gn (w:=w1.drew) g3.drew (g4.ε (fun _ _=>rfl)) k;obtain⟨v2,XS,aiz,hx2⟩:=Gn (w:=(w1.alloc (.cells #[.string b] 9)).drew) (g3.alloc _).drew (g4.ε (fun q hq=>Below.heap_alloc _ _ _ (by
  have:=HL.out.bO.lt q (by simp only[List.mem_cons];exact .inr (.inr (.inr hq)));exact this))) k
 have e1:v1=v0:=XR.symm.trans rW;have e2:v2=v0:=XS.symm.trans rW;subst e1 e2;clear hx1 hx2;have hlen:=Dk.at_len (d:=d1) k;have hcell:w1.cell? ⟨p,1,none⟩=some (.map (some bm)):=g1.cell 1;have Yy:=g1.lt;have Ll:∀q,v2.ownBlock=some q→((k:Int),v2) ∈ m:=fun q hq=>hmem (fun h0=>by rw[hnil h0] at hq;simp[Value.ownBlock] at hq)
 have hpv:v2.ownBlock≠some p:=fun e=>by
  have:=List.mem_filterMap (f:=fun q:Int × Value=>q.2.ownBlock).2 ⟨_,Ll p e,e⟩;simp only[List.nodup_cons,List.mem_cons] at g7;exact g7.1 (.inr (.inr this))
 have hbv:v2.ownBlock≠some bm:=fun e=>by
  have:=List.mem_filterMap (f:=fun q:Int × Value=>q.2.ownBlock).2 ⟨_,Ll bm e,e⟩;simp only[List.nodup_cons,List.mem_cons] at g7;exact g7.2.2.1 this
 have hpb:p≠bm:=fun e=>by subst e;simp at g7
 have H7:=cx g1 g2 g4 g5 g7;have Hm:=aj hpv hbv hpb;have HO:=Lib.hid Ll;clear rW aix hnil hmem XR XS g1 g2 g4 g5 g7 hpv hbv hpb Ll;go_region_held3 (fun w'=>w'.cell? ⟨p,1,none⟩=some (.map (some bm))) (first| assumption | go_keep)
  ((refine pQ (by rfl) _ _ _ _ (by rfl) 9 i0 _ 1 16 Tryz.underlying147 bx bN bG aT rfl v2 _ _ (by rfl) ((aiy.alloc _).drew) _ 1 [.string b] (by rfl) (Src.N3 Tryz.underlying147 (.string b)) (by simp[Value.oneCell']) (by unfold maxLen;omega) (by omega) ?_
    intro v' w2 pU π v_ bV;have hc2:w2.cell? ⟨p,1,none⟩=some (.map (some bm)):=(World.cell?_of_block (w:=w1) (a:=⟨p,1,none⟩) ((π.block p (by simp;omega) Hm.out.1).trans (Below.heap_alloc w1 _ p Yy))).trans hcell;have hM2:cA qn w2 bm m:=(g3.alloc _).drew.ε π Hm.out.2.1;obtain⟨w3,P8,MG,χ,eU⟩:=hM2.Kl xX Tryz.underlying149 Tryz.underlying3 (k:Int) v';have wg:(Instr.mapUpdate 149 (.map (some bm)) (.int .i64 (k:Int)) v').run Tryz.prog w2=.ok () w3:=P8;clear P8;have rB:w3.cell? ⟨p,1,none⟩=some (.map (some bm)):=(World.cell?_of_block (w:=w2) (a:=⟨p,1,none⟩) (χ.block p (World.block_lt_of_cell? w2 _ hc2) Hm.out.2.2)).trans hc2;have HX:=cx pU π v_ MG χ;clear pU π v_ bV hM2 MG χ eU))
 all_goals
  clear hcell sZ aiz hc2 rB wg;go_wp2
  go_ret
  refine⟨rfl,?_⟩;obtain⟨x1,x2,x3,x4,x5⟩:=HX.out;obtain⟨g1,g2,g4,g5,g7⟩:=H7.out;obtain⟨F',hF'⟩:=adE g1 g2 g3 g4 g5 g7 hk HB.out Cw HO.out (by simpa [strs] using x1) (((ζ.refl _ w1).alloc _).drew.then x2 (fun _ h=>.inl h))
   (fun q hq=>by
     rcases x3 with h | h
     ·exact .inl (by rw[← h];exact hq)
     ·rw[h] at hq
      have:=Option.some.inj hq;simp at this
      exact .inr (by omega)) x4 x5
  exact⟨F',HL.out.trans hF'⟩
theorem Pn {w:World} {p:Nat} {d:Dk} {F:List Nat} (hD:bI w p d F) (i:Int) (b:ByteArray) (hp:d.pend+1<1000000) :
 Calls Tryz.prog 115 #[.pointer (some ⟨p,0,none⟩),.int .i64 i,.string b] w fun e w'=>e=.returned (.int .i64 (d.write i b).2)∧∃F',Left w w' p (d.write i b).1 F F':=by
 cases hoff:d.off with
 | true =>
   refine(adG hD i b hoff).mono ?_;rintro e w' ⟨rfl,rfl⟩;exact⟨by simp[Dk.write,hoff],F,(Left.refl hD).eq (by simp[Dk.write,hoff])⟩
 | false =>
   cases h:(d.there i && decide (b.size=64)) with
   | false =>
     refine(adH hD i b hoff h).mono ?_;rintro e w' ⟨rfl,rfl⟩;exact⟨by rw[Dk.write,hoff,h];rfl,F,(Left.refl hD).eq (by rw[Dk.write,hoff,h];rfl)⟩
   | true =>
     have h':=h;simp only[Bool.and_eq_true,decide_eq_true_eq] at h';cases hn:d.eO.2 with
     | false =>
       refine(ae_ hD i b hoff h'.1 h'.2 hn).mono ?_;rintro e w' ⟨rfl,hL⟩;exact⟨by rw[Dk.write,hoff,h,hn];rfl,F,hL.eq (by rw[Dk.write,hoff,h,hn];rfl)⟩
     | true =>
       have hi:0≤i:=by have:=h'.1;simp[Dk.there] at this;exact this.1
       obtain⟨k,rfl⟩:=Int.eq_ofNat_of_zero_le hi;refine(adI hD k b hoff h'.1 h'.2 hn hp).mono ?_;rintro e w' ⟨rfl,F',hL⟩;exact⟨by rw[Dk.write,hoff,h,hn];rfl,F',hL.eq (by rw[Dk.write,hoff,h,hn];rfl)⟩
def sS (d:Dk) (left:List (Int × Value)):List ByteArray:=(List.range d.af.length).map fun (i:Nat)=>if (i:Int) ∈ left.map (·.1) then d.last i else d.now i
theorem Kk (d:Dk) (left:List (Int × Value)):(sS d left).length=d.af.length:=by simp[sS]
theorem FL (d:Dk) (left:List (Int × Value)) (i:Nat) (hi:i<d.af.length):(sS d left)[i]? = some (if (i:Int) ∈ left.map (·.1) then d.last i else d.now i):=by
 rw[sS,List.getElem?_map,List.getElem?_range hi];rfl
theorem ab0 {w:World} {d:Dk} {m:List (Int × Value)} (h:rP w m d.waits):sS d m=d.af:=by
 apply List.ext_getElem?
 intro i;by_cases hi:i<d.af.length
 ·rw[FL d m i hi]
  have hl:d.last i=d.af[i]:=by simp[Dk.last,hi]
  rw[List.getElem?_eq_getElem hi];split
  ·rw[hl]
  ·rename_i hn
   have h0:d.at_ i=[]:=by
    rcases Classical.em (d.at_ i=[]) with h0 | h0
    ·exact h0
    ·exact absurd (h.all i h0) hn
   simp[Dk.now,h0,hl]
 ·rw[List.getElem?_eq_none (by rw[Kk];omega),List.getElem?_eq_none (by omega)]
theorem ab1 (d:Dk):sS d []=d.flush.af:=by simp[sS,Dk.flush]
theorem abJ (d:Dk) {l1 l2:List (Int × Value)} {k:Nat} {v:Value} (hn:((l1++((k:Int),v)::l2).map (·.1)).Nodup) :
 (sS d (l1++((k:Int),v)::l2)).set k (d.now k)=sS d (l1++l2):=by
 apply List.ext_getElem?
 intro i;by_cases hi:i<d.af.length
 ·rw[List.getElem?_set,Kk]
  by_cases hik:k=i
  ·subst hik
   rw[if_pos rfl,if_pos hi,FL d _ k hi,if_neg];intro hmem;simp only[List.map_append,List.map_cons,List.nodup_append,List.nodup_cons,List.mem_append,List.mem_cons] at hn hmem;rcases hmem with h | h
   ·exact hn.2.2 _ h _ (.inl rfl) rfl
   ·exact hn.2.1.1 h
  ·rw[if_neg hik,FL d _ i hi,FL d _ i hi]
   have:((i:Int) ∈ (l1++((k:Int),v)::l2).map (·.1))↔((i:Int) ∈ (l1++l2).map (·.1)):=by
    simp only[List.map_append,List.map_cons,List.mem_append,List.mem_cons];constructor
    ·rintro (h | h | h)
     ·exact .inl h
     ·omega
     ·exact .inr h
    ·rintro (h | h)
     ·exact .inl h
     ·exact .inr (.inr h)
   simp only[this]
 ·rw[List.getElem?_eq_none (by rw[List.length_set,Kk];omega),List.getElem?_eq_none (by rw[Kk];omega)]
theorem acK {α : Type} [DecidableEq α] {l1 l2:List (α × Value)} {k : α} {v:Value} (hn:((l1++(k,v)::l2).map (·.1)).Nodup):nH (l1++(k,v)::l2) k=l1++l2∧nH (l1++l2) k=l1++l2:=by
 simp only[List.map_append,List.map_cons,List.nodup_append,List.nodup_cons,List.mem_cons] at hn;have f1:l1.filter (fun p=>decide (p.1≠k))=l1:=by
  rw[List.filter_eq_self];intro q hq;have:=hn.2.2 q.1 (List.mem_map.2 ⟨q,hq,rfl⟩) k (.inl rfl);simpa using this
 have f2:l2.filter (fun p=>decide (p.1≠k))=l2:=by
  rw[List.filter_eq_self];intro q hq;have:q.1≠k:=fun e=>hn.2.1.1 (List.mem_map.2 ⟨q,hq,e⟩)
  simpa using this
 unfold nH;refine⟨?_,?_⟩
 ·rw[List.filter_append,List.filter_cons,if_neg (by simp),f1,f2]
 ·rw[List.filter_append,f1,f2]
structure Gp (w wr:World) (p bl cap bm r:Nat) (d:Dk) (m left:List (Int × Value)):Prop where
 blk:η wr p 151 #[.slice (some ⟨bl,0,none⟩) d.af.length cap,.map (some bm),.int .i64 d.cV,.bool d.off]
 af:Own wr 9 1 (.slice (some ⟨bl,0,none⟩) d.af.length cap) d.af.length (strs (sS d left))
 EL:lz qn wr r bm left left
 waits:∀q ∈ left,∃i:Nat,q.1=(i:Int)∧i<d.af.length∧d.at_ i≠[]∧Own wr 9 1 q.2 (d.at_ i).length (strs (d.at_ i))∧q ∈ m
 ε:ζ (fun b=>b=bl∨b=bm) w wr
 new:w.heap.size≤r
theorem Gp.done {w wr:World} {p bl cap bm r:Nat} {d:Dk} {m:List (Int × Value)} (h:Gp w wr p bl cap bm r d m []) (hwf:d.wf) (hnd:(p::bl::bm::m.filterMap (·.2.ownBlock)).Nodup) :
 Left w wr p d.flush (p::bl::bm::m.filterMap (·.2.ownBlock)) [p,bl,bm]:=by
 have hlen:d.flush.af.length=d.af.length:=by simp[Dk.flush]
 have hfw:d.flush.wf:=by
  refine⟨by simp[Dk.flush,hwf.len],by rw[hlen];exact hwf.pos,by rw[hlen];exact hwf.most,?_,?_,hwf.cV,hwf.Qb,?_⟩
  ·intro b hb
   simp only[Dk.flush,List.mem_map,List.mem_range] at hb;obtain⟨i,hi,rfl⟩:=hb;unfold Dk.now;cases hg:(d.at_ i).getLast? with
   | none =>
     simp only[Option.getD_none];unfold Dk.last;rw[List.getD_eq_getElem?_getD,List.getElem?_eq_getElem hi];exact hwf.af _ (List.getElem_mem _)
   | some b =>
     simp only[Option.getD_some];have hb:b ∈ d.at_ i:=List.mem_of_getLast? hg;unfold Dk.at_ at hb;rw[List.getD_eq_getElem?_getD,List.getElem?_eq_getElem (by rw[hwf.len];exact hi)] at hb;exact hwf.waits _ (List.getElem_mem _) b hb
  ·intro l hl b hb
   simp only[Dk.flush,List.mem_map] at hl;obtain⟨_,_,rfl⟩:=hl;simp at hb
  ·have:d.flush.pend=0:=by
    unfold Dk.pend Dk.flush;simp only[List.map_map];generalize d.waits=l;induction l with
    | nil=>rfl
    | cons x l ih=>simpa using ih
   omega
 simp only[List.nodup_cons,List.mem_cons,not_or] at hnd;refine⟨⟨bl,cap,bm,[],?_,?_,h.EL.map,⟨fun _ hq=>by simp at hq,fun i hi=>?_⟩,hfw,rfl,?_⟩,h.ε.mono (fun b hb=>.inl ?_),fun k hk=>.inl ?_⟩
 ·rw[hlen];exact h.blk
 ·rw[hlen,← ab1];exact h.af
 ·exfalso
  apply hi
  simp only[Dk.flush,List.getD_eq_getElem?_getD,List.getElem?_map];cases d.waits[i]?<;>rfl
 ·simp only[List.nodup_cons,List.mem_cons,List.not_mem_nil,or_false,not_or,not_false_eq_true,List.nodup_nil,and_true]
  exact⟨⟨hnd.1.1,hnd.1.2.1⟩,hnd.2.1.1⟩
 ·rcases hb with rfl | rfl<;>simp
 ·simp only[List.mem_cons,List.not_mem_nil,or_false] at hk ⊢
  rcases hk with rfl | rfl | rfl<;>simp
theorem ae' {w:World} {p:Nat} {d:Dk} {F:List Nat} (hD:bI w p d F) (hoff:d.off=false) (hn:d.eO.2=true) :
 Calls Tryz.prog 117 #[.pointer (some ⟨p,0,none⟩)] w fun e w'=>e=.returned (.int .i64 0)∧∃F',Left w w' p d.eO.1.flush F F':=by
 have Ho:=Lib.hid (DX hD hoff);have Hb:=Lib.hid (Vy hD hn);generalize d.eO.1=d1 at *;clear hoff hD hn;go_enter Tryz.func117,Tryz.ntmps117
 go_wp2_with (first
  |(go_at_call 88;refine Ho.out.mono ?_;rintro e w' ⟨rfl,rfl⟩)
  |(go_at_call 170
    refine Hb.out.mono ?_;rintro e w1 ⟨rfl,hL⟩;have HL:=Lib.hid hL;obtain⟨bl,cap,bm,m,g1,g2,g3,g4,g5,gF,g7⟩:=hL.bO;clear hL;have hc:=g1.iI;obtain⟨w2,hr2,gl,π,bV⟩:=g3.ado (P:=Tryz.prog) Tryz.underlying149;have H4:=o_ g1 g2 g3 g4 g5 gF g7;have HX:=aj gl π bV;clear g1 g2 g3 g4 g5 gF g7 Ho Hb gl π bV))
 obtain⟨g1,g2,g3,g4,g5,gF,g7⟩:=H4.out;have hpl:p≠bl:=fun e=>by rw[gF] at g7;subst e;simp at g7
 have wS:p≠bm:=fun e=>by rw[gF] at g7;subst e;simp at g7
 have Aa:bl≠bm:=fun e=>by rw[gF] at g7;subst e;simp at g7
 have IG:p ∉ m.filterMap (·.2.ownBlock):=by rw[gF] at g7;simp only[List.nodup_cons,List.mem_cons,not_or] at g7;exact g7.1.2.2
 have hfl:bl ∉ m.filterMap (·.2.ownBlock):=by rw[gF] at g7;simp only[List.nodup_cons,List.mem_cons,not_or] at g7;exact g7.2.1.2
 have rD:bm ∉ m.filterMap (·.2.ownBlock):=by rw[gF] at g7;simp only[List.nodup_cons,List.mem_cons,not_or] at g7;exact g7.2.2.1
 have Qc:=g5.most;have hstart:Gp w1 w2 p bl cap bm w1.heap.size d1 m m:=by
  obtain⟨x1,x2,_⟩:=HX.out;refine⟨g1.ε x2 (fun e=>e),?_,x1,fun q hq=>?_,x2.mono φ,Nat.le_refl _⟩
  ·rw[ab0 g4];exact g2.ε x2 (fun _ _ e=>e)
  ·obtain⟨i,e,hi,h0,ho⟩:=g4.each q hq
   exact⟨i,e,by rw[← g5.len];exact hi,h0,ho.ε x2 (fun _ _ e=>e),hq⟩
 clear g1 g2 g3 hc hr2 HX;have HG:=aD g4 g5 gF g7;have HN:=gU hpl wS Aa IG hfl rD;clear g4 g5 gF g7 hpl wS Aa IG hfl rD H4;have hroom:d1.pend<1000000:=HG.out.2.1.room;go_loopw [5] (fun _ wr=>∃left,Gp w1 wr p bl cap bm w1.heap.size d1 m left) (fun _ wr=>Pg wr w1.heap.size bm)
 case atStart=>exact⟨m,hstart⟩
 case round =>
  obtain⟨left,hS⟩:=hrel;clear hstart;have HS:=Lib.hid hS;have hmu:=Lib.hid (hS.EL.left_eq);rcases hS.EL.aeN (P:=Tryz.prog) xX.inj 0 with ⟨h0,hrun⟩ | ⟨k,v,l1,l2,w3,hleft,hmem,hrun,iA,wU,χ,eU⟩
  ·clear hS hmu
   subst h0;go_wp2
   go_ret
   refine⟨rfl,[p,bl,bm],HL.out.trans ?_⟩;have hx:=HS.out.done HG.out.2.1 (HG.out.2.2.1 ▸ HG.out.2.2.2);rw[HG.out.2.2.1];exact hx
  ·obtain⟨i,hki,hi,hne,hown,hqm⟩:=hS.waits (k,v) (by rw[hleft];simp)
   simp only at hki hown
   subst hki;have XT:0<(d1.at_ i).length:=List.length_pos_iff.2 hne;have ajZ:=Dk.at_len (d:=d1) i;obtain⟨g,cap',rfl,hnc,hcm⟩:=hown.head XT;have EM:g ∈ m.filterMap (·.2.ownBlock):=List.mem_filterMap.2 ⟨_,hqm,by simp[Value.ownBlock]⟩;have zQ:g≠w1.heap.size:=by
    have h1:=(HL.out.bO.lt g (by rw[HG.out.2.2.1];simp only[List.mem_cons];exact .inr (.inr (.inr EM))));omega
   have ow:p≠w1.heap.size:=by
    have h1:=(HL.out.bO.lt p (by rw[HG.out.2.2.1];simp))
    omega
   have hlr:bl≠w1.heap.size:=by
    have h1:=(HL.out.bO.lt bl (by rw[HG.out.2.2.1];simp))
    omega
   have aA:=hS.blk.ε χ ow;have gm:=hS.af.ε χ (fun q hq e=>hlr (by rw[← e];simpa [Value.ownBlock] using hq))
   have hV3:=hown.ε χ (fun q hq e=>zQ (by rw[← e];simpa [Value.ownBlock] using hq))
   have hc:=aA.iI;have XQ:w3.cell? ⟨g,(d1.at_ i).length - 1,none⟩=some (.string (d1.now i)):=by
    rw[hV3.cellAt _ (by omega),DE,Dk.now,List.getLast?_eq_getElem?,List.getElem?_eq_getElem (by omega)];rfl
   have hold:w3.cell? ⟨bl,i,none⟩=some (.string (d1.last i)):=by
    rw[gm.cellAt _ (by omega),DE,FL d1 _ i hi,if_pos]
    ·rfl
    ·rw[hleft];simp
   have hfz:=gm.frozenAt i (by omega);have HU:=o_ aA gm iA χ ow hlr EM;have GH:=Lib.hid hleft;clear hS hleft hown hqm EM zQ ow hlr aA gm hV3 iA χ hne hmem hnc hcm;go_wp2_with fail
   go_region
   obtain⟨aA,gm,iA,χ,ow,hlr,EM⟩:=HU.out;obtain⟨hpl,wS,Aa,IG,hfl,rD⟩:=HN.out;have II:=(iA.bP (p:=⟨bl,i,none⟩) (Ne.symm hlr) (Ne.symm Aa) (.string (d1.now i))).drew;obtain⟨w4,wg,mm,av,hs5⟩:=II.Bf (P:=Tryz.prog) (ty:=0) xX Tryz.underlying149 Tryz.underlying3 (i:Int);have HV:=τ mm av;have su:(w3.setCell ⟨bl,i,none⟩ (.string (d1.now i))).cell? ⟨p,1,none⟩=some (.map (some bm)):=(aA.bP (p:=⟨bl,i,none⟩) hpl _).cell 1;clear hc;clear aA gm iA χ ow hlr EM hpl wS Aa IG hfl rD II mm av hs5 wU hrun XQ hold hfz;go_wp2_with (refine Ka rfl _ _ _ _ rfl rfl rfl wg ?_;go_frame)
   have Xj:Gp w1 w4 p bl cap bm w1.heap.size d1 m (l1++l2):=by
    obtain⟨aA,gm,iA,χ,ow,hlr,EM⟩:=HU.out;obtain⟨hpl,wS,Aa,IG,hfl,rD⟩:=HN.out;obtain⟨mm,av⟩:=HV.out;have hS:=HS.out;have hnd:=hS.EL.map.nodup;rw[GH.out] at hnd;have hd:=acK hnd;rw[GH.out,hd.1,hd.2] at mm;have ag:ζ (· = bl) w3 (w3.setCell ⟨bl,i,none⟩ (.string (d1.now i))).drew:=((ζ.refl (· = bl) w3).setCell (p:=⟨bl,i,none⟩) (.inl rfl) _).drew;have q_:ζ (fun b=>b=bl∨b=bm) w3 w4:=ag.trans av (fun b h=>.inl h) (fun b h=>.inl (.inr h));have tJ:ζ (fun b=>b=bl∨b=bm∨b=w1.heap.size) wr w4:=χ.trans q_ (fun b h=>.inr (.inr h)) (fun b h=>.inl (h.elim .inl (fun h=>.inr (.inl h))));refine⟨aA.ε q_ (fun h=>h.elim hpl wS),?_,mm,fun q hq=>?_,hS.ε.then tJ (fun b h=>?_),Nat.le_refl _⟩
    ·have jT:=(gm.stored i (.string (d1.now i))).drew.ε av (fun q hq e=>Aa (by rw[← e];simpa [Value.ownBlock] using hq))
     have e1:(strs (sS d1 left)).set i (.string (d1.now i))=strs (sS d1 (l1++l2)):=by
      rw[← abJ d1 hnd,GH.out];simp only[strs,List.map_set]
     rw[e1] at jT;exact jT
    ·obtain⟨j,e,hj,h0,ho,hm⟩:=hS.waits q (by
      rw[GH.out];simp only[List.mem_append,List.mem_cons] at hq ⊢;exact hq.elim .inl (fun h=>.inr (.inr h)))
     refine⟨j,e,hj,h0,ho.ε tJ (fun x hx e2=>?_),hm⟩;have R3:x ∈ m.filterMap (·.2.ownBlock):=List.mem_filterMap.2 ⟨q,hm,hx⟩;rcases e2 with rfl | rfl | e2
     ·exact hfl R3
     ·exact rD R3
     ·have h1:=(HL.out.bO.lt x (by rw[HG.out.2.2.1];simp only[List.mem_cons];exact .inr (.inr (.inr R3))))
      omega
    ·rcases h with h | h | h
     ·exact .inl (.inl h)
     ·exact .inl (.inr h)
     ·exact .inr (by omega)
   go_roundw
   case rel=>exact⟨_,Xj⟩
   case measure =>
    rw[Xj.EL.left_eq,HS.out.EL.left_eq,GH.out];simp
theorem afa {w:World} {p:Nat} {d:Dk} {F:List Nat} (hD:bI w p d F) (hoff:d.off=true) :
 Calls Tryz.prog 117 #[.pointer (some ⟨p,0,none⟩)] w fun e w'=>e=.returned (.int .i64 14)∧w=w':=by
 have Ho:=Lib.hid (O8 hD hoff);clear hoff hD;go_enter Tryz.func117,Tryz.ntmps117
 go_wp2_with (go_at_call 88;refine Ho.out.mono ?_;rintro e w' ⟨rfl,rfl⟩);go_ret
 exact⟨rfl,rfl⟩
theorem agG {w:World} {p:Nat} {d:Dk} {F:List Nat} (hD:bI w p d F) (hoff:d.off=false) (hn:d.eO.2=false) :
 Calls Tryz.prog 117 #[.pointer (some ⟨p,0,none⟩)] w fun e w'=>e=.returned (.int .i64 14)∧Left w w' p d.eO.1 F F:=by
 have Ho:=Lib.hid (DX hD hoff);have Hb:=Lib.hid (Wc hD hn);clear hoff hD hn;go_enter Tryz.func117,Tryz.ntmps117
 go_wp2_with (first
  |(go_at_call 88;refine Ho.out.mono ?_;rintro e w' ⟨rfl,rfl⟩)
  |(go_at_call 170;refine Hb.out.mono ?_;rintro e w2 ⟨rfl,hL⟩))
 go_ret
 exact⟨rfl,hL⟩
theorem PK {w:World} {p:Nat} {d:Dk} {F:List Nat} (hD:bI w p d F) :
 Calls Tryz.prog 117 #[.pointer (some ⟨p,0,none⟩)] w fun e w'=>e=.returned (.int .i64 d.sync.2)∧∃F',Left w w' p d.sync.1 F F':=by
 cases hoff:d.off with
 | true =>
   refine(afa hD hoff).mono ?_;rintro e w' ⟨rfl,rfl⟩;exact⟨by simp[Dk.sync,hoff],F,(Left.refl hD).eq (by simp[Dk.sync,hoff])⟩
 | false =>
   cases hb:d.eO.2 with
   | true =>
     refine(ae' hD hoff hb).mono ?_;rintro e w' ⟨rfl,F',h⟩;exact⟨by simp[Dk.sync,hoff,hb],F',h.eq (by simp[Dk.sync,hoff,hb])⟩
   | false =>
     refine(agG hD hoff hb).mono ?_;rintro e w' ⟨rfl,h⟩;exact⟨by simp[Dk.sync,hoff,hb],F,h.eq (by simp[Dk.sync,hoff,hb])⟩
def oL:ByteArray:=str (List.replicate 64 0)
theorem abK:oL.size=64:=by unfold oL;rw[bf];simp
namespace Dk
def fresh (n:Nat):Dk := { af:=List.replicate n oL,waits:=List.replicate n [],cV:=-1,off:=false }
theorem afb (n:Nat) (h1:1≤n) (h2:n≤4096):(fresh n).wf:=by
 refine⟨by simp[fresh],by simpa [fresh] using h1,by simpa [fresh] using h2,?_,?_,by simp[fresh],by simp[fresh],?_⟩
 ·intro b hb
  have:=List.eq_of_mem_replicate hb;rw[this];exact abK
 ·intro l hl b hb
  have:=List.eq_of_mem_replicate hl;rw[this] at hb;simp at hb
 ·simp[fresh,pend]
end Dk
theorem abL:(⟨(Lib.repeatL (⟨#[0]⟩:ByteArray).data.toList 64).toArray⟩:ByteArray)=oL:=by decide +kernel
theorem aiA (n:Nat) (w:World) (h1:1≤n) (h2:n≤4096) :
 Calls Tryz.prog 25 #[.int .i64 (n:Int)] w fun e w'=>∃p F,e=.returned (.tuple #[.pointer (some ⟨p,0,none⟩),.int .i64 0])∧bI w' p (Dk.fresh n) F∧ζ (fun _=>False) w w'∧(∀k ∈ F,w.heap.size≤k):=by
 have rf:=fun W=>Tryz.strings_Repeat ⟨#[0]⟩ 64 W (by omega) (by show 1*64≤_;omega)
 rw[abL] at rf;have Hr:=Lib.hid rf;have IJ:=@run_makeMap Tryz.prog;obtain⟨i0,bx,bN,bG,aT⟩:=info_parts Gm;clear rf;go_enter Tryz.func25,Tryz.ntmps25
 go_wp2_with fail
 refine(Hr.out _).mono ?_;rintro e w1 ⟨rfl,ec⟩;have aM:η w1 (w.heap.size+1) 151 #[.slice none 0 0,.map (some w.heap.size),.int .i64 (-1),.bool false]:=(ec.block (w.heap.size+1) (by simp)).trans (by
  have:=heap_alloc_new (w.alloc (.map #[] 0)) (.cells #[.slice none 0 0,.map (some w.heap.size),.int .i64 (-1),.bool false] 151);simpa using this)
 have hM1:cA qn w1 w.heap.size []:=((cA.new w).alloc _).cU (ec.block w.heap.size (by simp;omega));have ax:ζ (fun _=>False) w w1:=(((ζ.refl _ w).alloc _).alloc _).then (ζ.oI ec (fun _=>False)) (fun _ h=>h.elim);have H1:=aj aM hM1 ax;clear aM hM1 ax ec IJ Hr;go_wp2_with fail
 go_loopw [17] (fun i wr=>∃(k:Nat) (v:Value),k≤n∧i=.int .i64 k∧η wr (w.heap.size+1) 151 #[v,.map (some w.heap.size),.int .i64 (-1),.bool false]∧Own wr 9 1 v k (strs (List.replicate k oL))∧cA qn wr w.heap.size []∧ζ (fun _=>False) w wr∧(∀q,v.ownBlock=some q→w.heap.size≤q)) (fun i _=>n - (intOf i).toNat)
 case atStart=>exact⟨0,.slice none 0 0,by omega,rfl,H1.out.1,Own.nil _ _ _,H1.out.2.1,H1.out.2.2,by simp[Value.ownBlock]⟩
 case round =>
  obtain⟨k,v,hk,rfl,hB,hO,hM,hU,hl⟩:=hrel;clear H1;by_cases hlt:k<n
  ·have hc:=hB.iI
   have hsz:=hU.size;have R4:=hB.lt;have HX:=aD hB hM hU hl;have hvp:=hO.fO hB (by decide);have IK:=hO.PE hM;have HV:=τ hvp IK;clear hB hM hU hl hvp IK;go_wp2_with (first
    |(at_builtin
      refine jH rfl _ _ _ _ rfl 9 i0 _ 1 16 Tryz.underlying147 bx bN bG aT rfl v k _ rfl (hO.alloc _) _ 1 [_] rfl (Src.zi Tryz.underlying147 _) (by simp[Value.oneCell']) (by unfold maxLen;omega) (by omega) ?_;intro v' w2 bH π hl2 bV;have aB:=(HX.out.1.alloc (.cells #[.string oL] 9)).ε π HV.out.1;have H2:=aj bH π hl2;have hone:=bH.one;clear bH π hl2 bV hc)
    |(refine gw rfl 147 _ _ rfl (w.heap.size+1) 0 v' rfl rfl _ _ aB (by simp) hone (by kernel_rfl) ?_
      intro w3 aA χ eU))
   obtain⟨bH,π,hl2⟩:=H2.out;obtain⟨hB,hM,hU,hl⟩:=HX.out;have gm:=bH.ε χ (fun q hq e=>bH.fO aB (by decide) (by rw[← e];exact hq));have hM2:=(hM.alloc (.cells #[.string oL] 9)).ε π HV.out.2;have MG:=hM2.ε χ (fun e=>by have:=hM2.fO aB;omega);have ag:ζ (fun _=>False) w w3:=(hU.alloc _).then (ζ.trans (H:=fun q=>v.ownBlock=some q∨q=w.heap.size+1) π χ (fun q h=>.inl h) (fun q h=>.inl (.inr h))) (fun q h=>.inr (h.elim (fun h=>hl q h) (fun h=>by omega)));go_roundw
   case rel =>
    refine⟨k+1,v',by omega,by go_num,aA,?_,MG,ag,fun q hq=>?_⟩
    ·rw[List.replicate_succ']
     simpa [strs] using gm
    ·rcases hl2 with h | h
     ·exact hl q (by rw[← h];exact hq)
     ·rw[h] at hq
      have:=Option.some.inj hq;simp at this
      omega
   case measure=>simp[intOf];omega
  ·obtain rfl:k=n:=by omega
   obtain⟨g,cap,rfl,hnc,hcm⟩:=hO.head (by omega);go_wp2
   go_ret2
   refine⟨w.heap.size+1,[w.heap.size+1,g,w.heap.size],rfl,⟨g,cap,w.heap.size,[],?_,?_,hM,⟨fun q hq=>by simp at hq,fun i hi=>?_⟩,Dk.afb k h1 h2,rfl,?_⟩,hU,fun q hq=>?_⟩
   ·simpa [Dk.fresh] using hB
   ·simpa [Dk.fresh] using hO
   ·exfalso
    apply hi
    simp only[Dk.fresh,List.getD_eq_getElem?_getD,List.getElem?_replicate];split<;>rfl
   ·have h1:g≠w.heap.size+1:=fun e=>hO.fO hB (by decide) (by simp[Value.ownBlock,e])
    have h2:g≠w.heap.size:=fun e=>hO.PE hM (by simp[Value.ownBlock,e])
    simp only[List.nodup_cons,List.mem_cons,List.not_mem_nil,or_false,not_or,not_false_eq_true,List.nodup_nil,and_true];exact⟨⟨Ne.symm h1,by omega⟩,h2⟩
   ·have:=hl g (by simp[Value.ownBlock])
    simp only[List.mem_cons,List.not_mem_nil,or_false] at hq;omega
end
end Go.Proofs.YtbhjgfibhegddaaGreat
