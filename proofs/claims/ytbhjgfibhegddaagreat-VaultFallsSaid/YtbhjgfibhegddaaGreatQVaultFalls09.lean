/-
  Parts of the proof of VaultFalls: SealD, SealE, BatC, Pairs, LogPart.
-/
import Derived.Test.YtbhjgfibhegddaaGreatQVaultFalls08
set_option maxRecDepth 100000
set_option maxHeartbeats 16000000
namespace Go.Proofs.YtbhjgfibhegddaaGreat
abbrev CY:=@List.mem_of_mem_drop
abbrev za:=@List.pairwise_cons
abbrev xB:=@List.mem_singleton
open Tryz
section
open Go Go.RowKit
section
variable {P:Program} {ops:Array Oper} {Q:Exit→Act→World→Prop} {S:World→Prop}
theorem C0 {i:Nat} {o:Oper} {a:Act} (hi:ops[i]? = some o) (hw:Region.wanted o (yielded ops a.tmps)=true) (ty:TypeId) (x:Operand) (ho:o.op=.load ty x) (g k:Nat) (hx:a.eval x=.pointer (some ⟨g,k,none⟩))
 (t:TypeId) (cs:Array Value) (vs:List Value) (d:TypeDesc) (hS:∀w,S w→η w g t cs) (hv:∀j v,vs[j]? = some v→cs[k+j]? = some v) (hu:P.underlying ty=some d) (hd:d.isRow=true) (hz:(P.info? ty).map (·.size)=some vs.length):mN P ops Q S i o (.agg vs.toArray) a :=
 uf hi (af7 (P:=P) (ops:=ops) (S:=S) hw ty x ho g k hx vs d (fun w h=>(hS w h).range k vs hv) hu hd hz)
end
theorem bF.aoa (x:bF):∀j v,(aO x.tag)[j]? = some v→x.row[4+j]? = some v:=by
 intro j v h;unfold bF.row;rw[IB,mG sM];rw[show 4+j - [Value.int .i64 (x.key:Int),.int .u32 (x.κ:Int),ω (x.n:Int),.string (str x.data)].length=j by simp];exact h
theorem alL (k:List UInt8) (hk:k.length=32) (x:bF) (hx:vC x) (about:ByteArray) (ha:about.size≤1000) (hs:x.tag=td k x.key x.κ x.n about.data.toList x.data) (w:World) :
 ς 181 #[.agg (aj k),.agg x.row,.string about] w fun e w'=>e=ώ (.tuple #[.string (str (pR k x.κ x.n x.data)),ι 0])∧υ w w':=by
 have K_:=fun W=>R_ x hx W
 have Ck:=fun W=>abF k hk x hx about ha W
 rw[← hs] at Ck;have hEq:=fun W=>alC x.tag x.tag W hx.tag hx.tag
 rw[fo rfl] at hEq;obtain⟨D,hD⟩:=μ (str x.data);have Am:=fun W=>Zy k hk x hx D (by rw[← hD,bR];exact hx.data) W
 rw[show D.data.toList=x.data by rw[← hD,cA]] at Am;obtain⟨O,hO⟩:=μ (str (pR k x.κ x.n x.data));rw[hO] at Am ⊢;have HR:=δ K_;have HT:=δ Ck;have HE:=δ hEq;have HS:=δ Am;have HX:=aF hD (bF.qT hx.tag) hx.tag hk;clear K_ Ck hEq Am hD hO hs hk hx ha;obtain⟨g,hg⟩:=μ w.heap.size;have HG:=δ hg;go_enter func181,ntmps181
 go_upto_region 1 with (fail)
 generalize bp:World.alloc _ _=w2;have hk2:η w2 g 194 (aj k):=BH
 have hx2:η w2 (g+1) 191 x.row:=by
  have h:=η.new (w.alloc (.cells (aj k) 194)) 191 x.row;rw[dx,hg] at h;rw[← bp];exact h
 have σ:υ w w2:=ya
 have a_:=aq hk2 hx2 σ;clear hk2 hx2 σ bp hg;go_upto_region 3 with (first
  |(refine eA _ (g+1) a_.out.2.1 underlying191 (by rw[HX.out.2.1];kernel_rfl) ?_)
  |(go_at_call 162
    refine(HR.out _).mono ?_;rintro e w3 ⟨rfl,χ⟩;have iO:=aq (a_.out.1.ε χ id) (a_.out.2.1.ε χ id) (a_.out.2.2.then χ φ);clear χ))
 refine dW ?_;refine eo (S:=fun w'=>υ w3 w') (T:=fun _=>false) kR ?_;have aE:=(ζ.refl (fun _=>False) w3).drew;refine ξ 0 ?_;refine iL 1 (.agg (aj x.tag)) (C0 rfl ak _ _ rfl (g+1) 4 ak _ _ (aO x.tag) _ (fun w' hSw=>iO.out.2.1.ε hSw id) x.aoa underlying189 rfl (by rw[uh,HX.out.2.2.1];kernel_rfl)) ?_
 refine iL 2 (.agg (aj k)) (lN rfl ak _ _ rfl g ak _ _ _ (fun w' hSw=>iO.out.1.ε hSw id) underlying194 rfl (by rw[bX,HX.out.2.2.2];kernel_rfl)) ?_
 refine iL 3 (.agg x.row) (lN rfl ak _ _ rfl (g+1) ak _ _ _ (fun w' hSw=>iO.out.2.1.ε hSw id) underlying191 rfl (by rw[HX.out.2.1];kernel_rfl)) ?_
 refine ξ 4 ?_;refine bf 5 (fun K hK=>?_);go_simp
 refine(HT.out _).mono ?_;rintro e w4 ⟨rfl,au⟩;have dH:=aE.then au φ;refine hK.out _ _ dH ?_;clear hK au;refine bf 6 (fun K hK=>?_);go_simp
 refine(HE.out _).mono ?_;rintro e w5 ⟨rfl,ay⟩;have jO:=dH.then ay φ;refine hK.out _ _ jO ?_;clear hK ay;refine ξ 7 ?_;refine ξ 8 ?_;refine dY ?_;refine dz ?_;have VM:=iO.out.2.1.ε jO id;obtain⟨-,-,-,c3⟩:=bF.cells VM;rw[HX.out.1] at c3;have HF:=aq (iO.out.1.ε jO id) VM (iO.out.2.2.then jO φ);clear aE dH jO VM;go_wp2_with (first
  |(refine eA _ g HF.out.1 underlying194 (by rw[bX,HX.out.2.2.2];kernel_rfl) ?_)
  |(refine eA _ (g+1) HF.out.2.1 underlying191 (by rw[HX.out.2.1];kernel_rfl) ?_)
  |(go_at_call 163
    refine(HS.out _).mono ?_;rintro e w6 ⟨rfl,aB⟩;have gD:=δ (HF.out.2.2.then aB φ);clear aB))
 go_ret2
 exact⟨rfl,gD.out⟩
theorem OE (s:ByteArray) (w:World):ς 174 #[.string s] w fun e w'=>∃y,e=ώ (.pointer (some ⟨y,0,none⟩))∧ct (fun _=>False) w w' y ⟨s.data.toList,0,0⟩:=by
 have hX:=δ (ct.start w s);go_enter func174,ntmps174
 go_wp2_with fail
 go_ret
 exact⟨_,rfl,hX.out⟩
theorem byte_at {l:List UInt8} {k R:Nat} (h:k<l.length):(⟨l.drop k,R,0⟩:eM).byte=(l.getD k 0,⟨l.drop (k+1),R+1,0⟩):=by
 rw[vc h,MP,bN,bu h];rfl
theorem ct.b9 {F G:Nat→Prop} {w0 w w':World} {x:Nat} {i:eM} (h:ct F w0 w x i) (hu:ζ G w w') (hx:¬G x) (hG:∀q,G q→F q∨w0.heap.size≤q):ct F w0 w' x i:=⟨h.blk.ε hu hx,h.new,h.ε.then hu hG⟩
theorem bF.amK (x:bF) (j:Nat) (b:UInt8):x.row.setIfInBounds (4+j) (ϋ (b.toNat:Int))=({ x with tag:=x.tag.set j b } : bF).row:=by
 unfold bF.row;rw[jW,Iq _ _ sM];rw[show 4+j - [Value.int .i64 (x.key:Int),.int .u32 (x.κ:Int),ω (x.n:Int),.string (str x.data)].length=j by simp,YZ]
theorem ahO (K B N:Nat) (D:ByteArray):prog.built 191 [(0,ι (K:Int)),(1,.int .u32 (B:Int)),(2,ω (N:Int)),(3,.string D)]=some (([Value.int .i64 (K:Int),.int .u32 (B:Int),ω (N:Int),.string D]++aO (List.replicate 32 0)).toArray):=kR
theorem alM (x:bF) (hx:vC x) (s:ByteArray) (hs:s.data.toList=qR x.key x.κ x.n++(bJ x.data++x.tag)) (w:World) :
 ς 180 #[.string s] w fun e w'=>e=ώ (.tuple #[.agg x.row,ι 0])∧υ w w':=by
 obtain⟨K,B,N,D,T⟩:=x;have hK:K≤1048576:=hx.key;have hB:B<4294967296:=hx.κ;have hN:N<18446744073709551616:=hx.n;have hD:D.length≤8192:=hx.data;have hT:T.length=32:=hx.tag;simp only at hs
 have s1:=dA (n:=K) oM;have s2:=dA (n:=B) oM;have s3:=dA hN;have s4:=lP (n:=D.length) oM;unfold qR at hs;simp only[eC] at hs;have m1:(⟨s.data.toList,0,0⟩:eM).most 1048576=(K,⟨aR B++(aR N++(bJ D++T)),0+bD K,0⟩):=by rw[hs];exact Fw _ _ _ oM hK _
 have m2:(⟨aR B++(aR N++(bJ D++T)),0+bD K,0⟩:eM).most 4294967295=(B,⟨aR N++(bJ D++T),0+bD K+bD B,0⟩):=Fw _ _ _ oM oM _;have m3:=aah N (0+bD K+bD B) hN (bJ D++T);have m4:=I9 D 8192 (0+bD K+bD B+bD N) hD oM T;have iM:(bJ D++T).length≤100000:=by rw[aN,jl];omega
 obtain⟨R,hR⟩:=μ (0+bD K+bD B+bD N+(bJ D).length);have yF:R≤100000:=by rw[← hR,jl];omega
 rw[hR] at m4;obtain⟨i0,bx⟩:∃i,(⟨s.data.toList,0,0⟩:eM)=i:=⟨_,rfl⟩;obtain⟨i1,hi1⟩:∃i,(⟨aR B++(aR N++(bJ D++T)),0+bD K,0⟩:eM)=i:=⟨_,rfl⟩;obtain⟨i2,hi2⟩:∃i,(⟨aR N++(bJ D++T),0+bD K+bD B,0⟩:eM)=i:=⟨_,rfl⟩;obtain⟨i3,Lc⟩:∃i,(⟨bJ D++T,0+bD K+bD B+bD N,0⟩:eM)=i:=⟨_,rfl⟩;rw[bx,hi1] at m1;rw[hi1,hi2] at m2;rw[hi2,Lc] at m3;rw[Lc] at m4;have r0:i0.read≤100000000000:=by rw[← bx];exact xx _
 have r1:i1.read≤100000000000:=by rw[← hi1];show 0+bD K≤_;omega
 have r2:i2.read≤100000000000:=by rw[← hi2];show 0+bD K+bD B≤_;omega
 have r3:i3.read≤100000000000:=by rw[← Lc];show 0+bD K+bD B+bD N≤_;omega
 have r4:i3.rest.length≤100000:=by rw[← Lc];exact iM
 have c0:=fun W=>OE s W
 rw[bx] at c0;have c1:∀(W W':World) (y:Nat),ct (fun _=>False) W W' y i0→ς 176 #[.pointer (some ⟨y,0,none⟩),ι 1048576] W' fun en w'=>en=ώ (ι (K:Int))∧ct (fun _=>False) W w' y i1:=by
  intro W W' y h;have:=FQ h 1048576 oM r0;rw[m1] at this;exact this
 have c2:∀(W W':World) (y:Nat),ct (fun _=>False) W W' y i1→ς 176 #[.pointer (some ⟨y,0,none⟩),ι 4294967295] W' fun en w'=>en=ώ (ι (B:Int))∧ct (fun _=>False) W w' y i2:=by
  intro W W' y h;have:=FQ h 4294967295 oM r1;rw[m2] at this;exact this
 have c3:∀(W W':World) (y:Nat),ct (fun _=>False) W W' y i2→ς 175 #[.pointer (some ⟨y,0,none⟩)] W' fun en w'=>en=ώ (ω (N:Int))∧ct (fun _=>False) W w' y i3:=by
  intro W W' y h;have:=aby h r2;rw[m3] at this;exact this
 obtain⟨S,hS⟩:=μ (str D);have c4:∀(W W':World) (y:Nat),ct (fun _=>False) W W' y i3→ς 177 #[.pointer (some ⟨y,0,none⟩),ι 8192] W' fun en w'=>en=ώ (.string S)∧ct (fun _=>False) W w' y ⟨T,R,0⟩:=by
  intro W W' y h;have:=Jj h 8192 oM r3 r4;rw[m4,hS] at this;exact this
 have hrow:∀t,bF.row ⟨K,B,N,D,t⟩=([Value.int .i64 (K:Int),.int .u32 (B:Int),ω (N:Int),.string S]++aO t).toArray:=by intro t;rw[← hS];rfl
 have jg:=ahO K B N S;rw[← hrow] at jg;have G1:=δ c0;have VN:=δ c1;have VO:=δ c2;have VP:=δ c3;have HC4:=δ c4;have VL:=δ jg;have HX:=τ hT yF;have eB:IntKind.u32.wrap (B:Int)=(B:Int):=by simp only[IntKind.wrap,IntKind.bits,IntKind.signed];simp;omega
 clear c0 c1 c2 c3 c4 jg hx hs s1 s2 s3 s4 m1 m2 m3 m4 iM hR bx hi1 hi2 Lc r0 r1 r2 r3 r4 hK hB hN hD hT yF hrow hS;obtain⟨g,hg⟩:=μ w.heap.size;have HG:=δ hg;go_enter func180,ntmps180
 go_upto_region 1 with (fail)
 generalize bp:World.alloc _ _=w2;have hr2:η w2 g 191 (bF.row ⟨0,0,0,[],List.replicate 32 0⟩):=DG
 have σ:υ w w2:=yb
 have a_:=τ hr2 σ;clear hr2 σ bp hg;go_upto_region 2 with (first
  |(go_at_call 174
    refine(G1.out _).mono ?_;rintro e w3 ⟨y,rfl,h3⟩;have H3:=δ h3;clear h3))
 go_upto_region 3 with (first
  |(go_at_call 176
    refine(VN.out _ _ _ H3.out).mono ?_;rintro e w4 ⟨rfl,h4⟩;have H4:=δ h4;clear h4;go_wp2_with fail
    refine(VO.out _ _ _ H4.out).mono ?_;rintro e w5 ⟨rfl,h5⟩;have H5:=δ h5;clear h5)
  |(go_at_call 175
    refine(VP.out _ _ _ H5.out).mono ?_;rintro e w6 ⟨rfl,h6⟩;have H6:=δ h6;clear h6)
  |(go_at_call 177
    refine(HC4.out _ _ _ H6.out).mono ?_;rintro e w7 ⟨rfl,h7⟩;have H7:=δ h7;clear h7)
  |(refine qQ rfl _ _ rfl [(0,ι (K:Int)),(1,.int .u32 (B:Int)),(2,ω (N:Int)),(3,.string S)] _ kR VL.out ?_)
  |(refine fG rfl 191 _ _ rfl w7.heap.size (bF.row ⟨K,B,N,D,List.replicate 32 0⟩) rfl rfl 191 _ (η.new w7 _ _) (by rw[bF.qT jE];rfl) (bF.row_one _) (by rw[bF.qT jE];kernel_rfl) ?_
    intro w8 jB cT kX))
 have Af:υ w7 w8:=((ζ.refl (fun _=>False) w7).alloc _).then cT (fun b hb=>.inr oM);obtain⟨q,hq⟩:=μ w7.heap.size;rw[hq] at jB ⊢;have h8:ct (fun _=>False) w2 w8 y ⟨T,R,0⟩:=H7.out.still Af;have qD:w2.heap.size≤q:=by have:=H7.out.ε.size;omega
 have hqg:g<w2.heap.size:=a_.out.1.lt;have iA:=aF h8 jB qD hqg;clear cT kX Af hq jB h8 qD hqg eB;go_wp2_with fail
 go_loopw [6,20] (fun _ u wr=>∃k:Nat,k≤32∧u=ι (k:Int)∧ct (fun _=>False) w2 wr y ⟨T.drop k,R+k,0⟩∧η wr q 191 (bF.row ⟨K,B,N,D,ou (fun i=>T.getD i 0) (List.replicate 32 0) k⟩)) (fun _ u _=>32 - (intOf u).toNat)
 case atStart=>exact⟨0,oM,rfl,iA.out.1,iA.out.2.1⟩
 case round =>
  obtain⟨k,hk,rfl,hI,hB⟩:=hrel;by_cases hlt:k<32
  ·have hby:=Nr hI.here (by have:=HX.out.2;show R+k≤_;omega)
   rw[byte_at (by rw[HX.out.1];exact hlt)] at hby;have hst:=IJ (fun i=>T.getD i 0) (List.replicate 32 0) k (by rw[jE];exact hlt);obtain⟨b,hb⟩:=μ (T.getD k 0);rw[hb] at hby;simp only[hb] at hst;have lE:=δ hby;have hqy:q≠y:=fun e=>absurd rfl (hB.B5 (e ▸ hI.blk) dC)
   have HB:=aF hI hB hst hqy;have j1:(k:Int)<32:=oM;clear hby hI hB hb hst hqy;go_wp2_with (first
    |(go_at_call 178
      refine lE.out.mono ?_;rintro e wb ⟨rfl,hb⟩;have G2:=τ (HB.out.1.back hb) (HB.out.2.1.ε hb.ε HB.out.2.2.2);clear hb)
    |(refine gJ rfl 5 _ _ rfl q (4+k) (ϋ (b.toNat:Int)) rfl rfl _ _ G2.out.2 (by rw[bF.qT (by show (ou _ _ _).length=32;rw[IX _ _ _ BG,jE])];omega) rfl kR ?_
      intro wc mV nQ G3))
   go_roundw
   case rel =>
    refine⟨k+1,oM,by go_num,G2.out.1.b9 nQ (fun e=>HB.out.2.2.2 e.symm) (fun q' e=>.inr (oF e iA.out.2.2.1)),?_⟩;rw[bF.amK,HB.out.2.2.1] at mV;exact mV
   case measure=>simp[intOf]<;>omega
  ·obtain rfl:k=32:=oM
   have e32:((32:Nat):Int)=32:=rfl;rw[e32];have hT0:T.drop 32=[]:=qj (by rw[HX.out.1];decide)
   rw[hT0] at hI;have PV:ou (fun i=>T.getD i 0) (List.replicate 32 0) 32=T:=by
    rw[IY _ _ 32 jE];refine X_ (by rw[bz,vj,HX.out.1]) fun i h1 h2=>?_
    rw[ID,QK,bN,bu h2];rfl
   rw[PV] at hB;have yJ:=NX hI;have Ld:=δ yJ;have HB:=τ hB (a_.out.2.then hI.ε φ);have PW:=δ (a_.out.1.ε hI.ε id);have HQ:=δ (show q≠g by have:=iA.out.2.2;omega);have HZ:=δ (bF.qT (x:=⟨K,B,N,D,T⟩) HX.out.1);clear hI hB e32 hlt hk yJ hT0 PV;go_wp2_with (first
    |(go_at_call 179
      refine Ld.out.mono ?_;rintro e w9 ⟨rfl,eW⟩;have nR:=aq (HB.out.1.ε eW id) (PW.out.ε eW id) (HB.out.2.then eW φ);clear eW)
    |(refine eA _ q nR.out.1 underlying191 (by rw[HZ.out];kernel_rfl) ?_)
    |(refine fG rfl 191 _ _ rfl g (bF.row ⟨K,B,N,D,T⟩) rfl rfl _ _ nR.out.2.1 (by rw[HZ.out];rfl) (bF.row_one _) (by rw[HZ.out];kernel_rfl) ?_
      intro w10 nG fE BL))
   refine cJ (jk rfl _ _ g _ _ _ _ rfl nG underlying191 rfl (by rw[HZ.out];kernel_rfl) (ι 0) rfl) rfl ⟨rfl,nR.out.2.2.then fE (fun b hb=>.inr (oF hb HG.out))⟩
theorem adZ {P:Prop} (h:P:=by rw[← Gk];exact(ζ.refl (· = c) w15).setCell (p:=⟨c,2,none⟩) (.inl rfl) _):P:=h
def opsV (l:List dn):List Value:=l.flatMap bY
theorem akf (l:List dn) (i:Nat) (hi:i<l.length) (j:Nat) (v:Value) (hv:(bY l[i])[j]? = some v):(opsV l)[i*3+j]? = some v:=by
 induction l generalizing i with
 | nil=>simp at hi
 | cons o r ih =>
   have e:opsV (o::r)=bY o++opsV r:=rfl;have h3:(bY o).length=3:=rfl;cases i with
   | zero =>
     have hj:j<3:=by
      rcases Io j 3 with h | h
      ·exact h
      ·rw[nv (by simpa [bY] using h)] at hv
       cases hv
     rw[e,qi oM];simpa using hv
   | succ i =>
     rw[e,mG oM];have e2:(i+1)*3+j - (bY o).length=i*3+j:=oM;rw[e2];exact ih i tA (by simpa using hv)
theorem vB.ku {w:World} {g cap:Nat} {l:List dn} (h:Own w 32 3 (.slice (some ⟨g,0,none⟩) l.length cap) l.length (opsV l)):vB w g 0 l:=by
 intro i hi j v hv;have h1:=akf l i hi j v hv;have hj:j<3:=by
  rcases Io j 3 with h | h
  ·exact h
  ·rw[nv (by simpa [bY] using h)] at hv
   cases hv
 have h2:=h.cellAt (i*3+j) oM;rw[lK,h2,h1]
theorem aiM (o:dn) (r:List dn):jt (o::r)=o.kind::(bJ o.path++((if o.kind=1 then bJ o.value else [])++jt r)):=by
 unfold jt;rw[yZ];unfold Aa;simp[List.append_assoc]
theorem SV:(prog.info? 32).map (fun i=>(i.zero,i.size,i.bytes))=some (some (.agg #[ϋ 0,.string ByteArray.empty,.string ByteArray.empty]),3,40):=kR
theorem ad0 {P:Prop} (h:P:=by
 refine h0.b9 NN (fun e=>?_) (fun q e=>?_)
 ·rcases e with e | e
  ·have:=HK.out.2.1 y e;have:=mD.out.1;omega
  ·exact H6.out.2.2.2 e.symm
 ·rcases e with e | e
  ·exact .inr (HK.out.2.1 q e)
  ·exact .inl (.inr e)):P:=h
theorem ad1 {P:Prop} (h:P:=by
 rcases ye with e | e
 ·exact HK.out.2.1 g2 (by rw[← e];rfl)
 ·have e2:some g2=some _:=e
  have:=dM e2;rw[dx] at this;omega):P:=h
theorem alN {l:List dn} {i ep:Nat} (eV:ep≤9223372036854775807) (eU:d_ i ep l=0) (s:ByteArray) (hs:s.data.toList=zB i ep l) (w:World) :
 ς 126 #[.string s] w fun e w'=>∃v,e=ώ (.tuple #[.agg (mm i ep v),ι 0])∧Own w' 32 3 v l.length (opsV l)∧(∀q,v.ownBlock=some q→w.heap.size≤q)∧υ w w':=by
 obtain⟨b1,b2,b3,b4,b5⟩:=ue eU;have s1:=dA (n:=i) oM;have s2:=dA (n:=ep) oM;have s3:=lP (n:=l.length) oM;unfold zB at hs;have m1:(⟨s.data.toList,0,0⟩:eM).most 4611686018427387904=(i,⟨aR ep++(aR l.length++jt l),0+bD i,0⟩):=by rw[hs];exact Fw _ _ _ oM oM _
 have m2:(⟨aR ep++(aR l.length++jt l),0+bD i,0⟩:eM).most 9223372036854775807=(ep,⟨aR l.length++jt l,0+bD i+bD ep,0⟩):=Fw _ _ _ oM eV _;have m3:(⟨aR l.length++jt l,0+bD i+bD ep,0⟩:eM).most 4=(l.length,⟨jt l,0+bD i+bD ep+bD l.length,0⟩):=Fw _ _ _ oM b4 _;obtain⟨R,hR⟩:=μ (0+bD i+bD ep+bD l.length);have yF:R≤100:=oM;rw[hR] at m3;obtain⟨i0,bx⟩:∃i,(⟨s.data.toList,0,0⟩:eM)=i:=⟨_,rfl⟩;obtain⟨i1,hi1⟩:∃x,(⟨aR ep++(aR l.length++jt l),0+bD i,0⟩:eM)=x:=⟨_,rfl⟩;obtain⟨i2,hi2⟩:∃x,(⟨aR l.length++jt l,0+bD i+bD ep,0⟩:eM)=x:=⟨_,rfl⟩;rw[bx,hi1] at m1;rw[hi1,hi2] at m2;rw[hi2] at m3;have r0:i0.read≤100000000000:=by rw[← bx];exact xx _
 have r1:i1.read≤100000000000:=by rw[← hi1];show 0+bD i≤_;omega
 have r2:i2.read≤100000000000:=by rw[← hi2];show 0+bD i+bD ep≤_;omega
 have c0:=fun W=>OE s W
 rw[bx] at c0;have c1:∀(W W':World) (y:Nat),ct (fun _=>False) W W' y i0→ς 176 #[.pointer (some ⟨y,0,none⟩),ι 4611686018427387904] W' fun en w'=>en=ώ (ι (i:Int))∧ct (fun _=>False) W w' y i1:=by
  intro W W' y h;have:=FQ h 4611686018427387904 oM r0;rw[m1] at this;exact this
 have c2:∀(W W':World) (y:Nat),ct (fun _=>False) W W' y i1→ς 176 #[.pointer (some ⟨y,0,none⟩),ι 9223372036854775807] W' fun en w'=>en=ώ (ι (ep:Int))∧ct (fun _=>False) W w' y i2:=by
  intro W W' y h;have:=FQ h 9223372036854775807 oM r1;rw[m2] at this;exact this
 have c3:∀(F:Nat→Prop) (W W':World) (y:Nat),ct F W W' y i2→ς 176 #[.pointer (some ⟨y,0,none⟩),ι 4] W' fun en w'=>en=ώ (ι (l.length:Int))∧ct F W w' y ⟨jt l,R,0⟩:=by
  intro F W W' y h;have:=FQ h 4 oM r2;rw[m3] at this;exact this
 have G1:=δ c0;have VN:=δ c1;have VO:=δ c2;have VP:=δ c3;have HX:=aF b4 b5 yF eU;have l4:(l.length:Int)≤4:=oM;clear c0 c1 c2 c3 hs s1 s2 s3 m1 m2 m3 hR bx hi1 hi2 r0 r1 r2 b1 b2 b3 b4 b5 yF eU;obtain⟨g,hg⟩:=μ w.heap.size;have HG:=δ hg;go_enter func126,ntmps126
 go_upto_region 1 with (fail)
 generalize bp:World.alloc _ _=w2;have hr2:η w2 g 35 (mm 0 0 (.slice none 0 0)):=DG
 have σ:υ w w2:=yb
 have a_:=τ hr2 σ;clear hr2 σ bp hg;go_upto_region 2 with (first
  |(go_at_call 174
    refine(G1.out _).mono ?_;rintro e w3 ⟨y,rfl,h3⟩;have H3:=δ h3;clear h3))
 go_wp2_with fail
 refine(VN.out _ _ _ H3.out).mono ?_;rintro e w4 ⟨rfl,h4⟩;have H4:=δ h4;clear h4;go_wp2_with fail
 refine(VO.out _ _ _ H4.out).mono ?_;rintro e w5 ⟨rfl,h5⟩;have H5:=δ h5;clear h5;obtain⟨c,hc⟩:=μ w5.heap.size;go_upto_region 3 with (fail)
 generalize PJ:World.alloc _ _=w6;have cY:η w6 c 35 (mm i ep (.slice none 0 0)):=by rw[← PJ,← hc];exact η.new w5 _ _
 have h6:ct (fun _=>False) w2 w6 y i2:=by rw[← PJ];exact H5.out.still ((ζ.refl _ w5).alloc _)
 have Le:w2.heap.size≤c∧c≠y:=⟨by rw[← hc];exact H5.out.ε.size,by have:=H5.out.blk.lt;omega⟩;have H6:=aq cY h6 Le;clear cY h6 Le PJ hc;go_wp2_with fail
 refine(VP.out _ _ _ _ H6.out.2.1.here).mono ?_;rintro e w7 ⟨rfl,h7⟩;have dI:=H6.out.1.ε h7.ε H6.out.2.2.2;have bI:υ w w7:=a_.out.2.then (H6.out.2.1.back h7).ε φ;have mD:=aF h7.blk.lt dI.lt bI (a_.out.1.ε (H6.out.2.1.back h7).ε id);have H7:=τ h7 dI;clear h7 dI bI;go_wp2_with fail
 go_loopw [6,7,8,9] (fun n _ _ _ wr=>∃(k r:Nat) (v:Value),k≤l.length∧n=ι ((l.length - k:Nat):Int)∧r≤100+100*k∧ct (fun q=>q=y∨q=c) w7 wr y ⟨jt (l.drop k),r,0⟩∧η wr c 35 (mm i ep v)∧Own wr 32 3 v k (opsV (l.take k))∧(∀q,v.ownBlock=some q→w7.heap.size≤q)) (fun n _ _ _ _=>(intOf n).toNat)
 case atStart=>exact⟨0,R,.slice none 0 0,oM,sM,by have:=HX.out.2.2.1;omega,⟨H7.out.1.blk,.inl (.inl rfl),ζ.refl _ _⟩,H7.out.2,Own.nil _ _ _,by simp[Value.ownBlock]⟩
 case round =>
  obtain⟨k,r,v,hk,rfl,hr,hI,hB,hO,hv⟩:=hrel;by_cases hlt:k<l.length
  ·have mP:=HX.out.2.1 _ (eE hlt)
   have cU:opsV (l.take (k+1))=opsV (l.take k)++bY l[k]:=by
    rw[ia hlt];unfold opsV;rw[xq];simp
   rw[vc hlt,aiM] at hI;obtain⟨rest,r9⟩:∃r,jt (l.drop (k+1))=r:=⟨_,rfl⟩;have hrl:rest.length≤280:=by
    rw[← r9];have:=RX (l:=l.drop (k+1)) (fun o ho=>HX.out.2.1 o (CY ho));rw[jC] at this;have:=HX.out.1;omega
   obtain⟨o,ho⟩:=μ (l[k]);rw[ho] at mP cU hI;rw[r9] at hI;obtain⟨x1,-,x3,x4,x5⟩:=C6 mP;obtain⟨Kb,P,V⟩:=o;simp only at x1 x3 x4 x5 hI
   have jc:(str P).size≤33:=by rw[bR];exact x3
   have Cn:=lP (n:=P.length) oM;have Lf:=lP (n:=V.length) oM;have j1:(0:Int)<((l.length - k:Nat):Int):=oM;obtain⟨n,hn⟩:∃n:Nat,l.length - k=n:=⟨_,rfl⟩;rw[hn] at j1;obtain⟨M,hM⟩:=μ ((if Kb=1 then bJ V else [])++rest);rw[hM] at hI;have l5:M.length≤330:=by
    rw[← hM,aN];split
    ·rw[jl];omega
    ·simp;omega
   have hM1:Kb=1→M=bJ V++rest:=fun e=>by rw[← hM,π e]
   have hM2:Kb=2→M=rest:=fun e=>by rw[← hM,ν (by rw[e];decide)];rfl
   have HM:=aq hM1 hM2 l5;have HN:=cD hn hr hrl r9 cU;have HK:=aq hO hv hB;have HI:=δ hI;have HS:=aF x3 x4 Cn Lf;have qI:=δ x5;have nle:(n:Int)≤4:=oM;have hcv:=hB.gd;clear hM hM1 hM2 l5 hI hB hO hv r9 hrl cU mP ho hr x3 x4 x5 jc Cn Lf hcv;rw[hn];clear hn;rcases x1 with rfl | rfl
   ·have hby:=Nr HI.out.here (by have:=HN.out.2.1;show r≤_;omega)
    rw[MP] at hby;have lE:=δ hby;clear hby;go_wp2_with fail
    refine lE.out.mono ?_;rintro e w8 ⟨rfl,h8⟩;have U8:=h8.ε;have iA:=aq (HK.out.1.ε U8 (fun q hq e=>oG e (HK.out.2.1 q hq) mD.out.1)) (HK.out.2.2.ε U8 H6.out.2.2.2) (HI.out.back h8);clear h8 U8;obtain⟨d,hd⟩:=μ w8.heap.size;have HD:=δ hd;go_upto_region 7 with (fail)
    generalize Ev:World.alloc _ _=w9;have dy:η w9 d 32 #[ϋ 1,.string ⟨#[]⟩,.string ⟨#[]⟩]:=by rw[← Ev,← hd];exact η.new w8 _ _
    have U9:υ w8 w9:=by rw[← Ev];exact(ζ.refl _ w8).alloc _
    have hdb:w7.heap.size≤d:=by rw[← hd];exact iA.out.2.2.ε.size
    have Co:∀q,v.ownBlock=some q→q<d:=fun q hq=>by rw[← hd];exact iA.out.1.lt hq
    have nR:=aF (iA.out.1.ε U9 (fun _ _ e=>e)) (iA.out.2.1.ε U9 id) (iA.out.2.2.still U9) dy;have pE:=τ hdb Co;clear Ev dy U9 hd hdb Co;go_wp2_with fail
    refine(Sq nR.out.2.2.1).mono ?_;rintro e w10 ⟨nf,rfl,fE⟩;have tC:=aF (nR.out.1.ε fE (fun _ _ e=>e)) (nR.out.2.1.ε fE id) (nR.out.2.2.1.still fE) (nR.out.2.2.2.ε fE id);have hz:(⟨bJ P++M,r+1,0⟩:eM).fail=0:=rfl;obtain⟨c0,c1,c2⟩:=tC.out.2.2.2.gd;clear fE;go_upto_region 12 with (fail)
    have mW:=Jj tC.out.2.2.1.here 33 oM (by have:=HN.out.2.1;show r+1≤_;omega) (by
     show (_:List UInt8).length≤_;have:=HM.out.2.2;have:=HS.out;rw[aN,jl];omega)
    rw[I9 P 33 (r+1) HS.out.1 (oN HS.out.1)] at mW;have Lh:=δ mW;clear mW hz;go_wp2_with fail
    refine Lh.out.mono ?_;rintro e w11 ⟨rfl,h11⟩;have wE:d≠y:=by have:=pE.out.1;have:=mD.out.1;omega
    have hdc:d≠c:=by have:=pE.out.1;have:=mD.out.2.1;omega
    have zK:=aF (tC.out.1.ε h11.ε (fun q hq e=>oG e (HK.out.2.1 q hq) mD.out.1)) (tC.out.2.1.ε h11.ε H6.out.2.2.2) (tC.out.2.2.1.back h11) (tC.out.2.2.2.ε h11.ε wE);have rK:=τ wE hdc;obtain⟨S,hS⟩:=μ (str P);rw[hS];have fQ:=δ hS;clear h11 c0 c1 c2 wE hdc hS Lh;go_upto_region 13 with (first
     |(refine gJ rfl 9 _ _ rfl d 1 (.string S) rfl rfl _ _ zK.out.2.2.2 dC rfl kR ?_
       intro w12 pX iq DK))
    have Ds:η w12 d 32 #[ϋ 1,.string S,.string ⟨#[]⟩]:=pX;have BM:=aF (zK.out.1.ε iq (fun q hq e=>oF e (pE.out.2 q hq))) (zK.out.2.1.ε iq (fun e=>rK.out.2 e.symm)) (zK.out.2.2.1.b9 iq (fun e=>rK.out.1 e.symm) (fun q e=>.inr (oF e pE.out.1))) Ds;obtain⟨c0,c1,c2⟩:=Ds.gd;clear pX iq DK Ds;have VQ:=Jj BM.out.2.2.1.here 32 oM (by have:=HN.out.2.1;have:=HS.out;show r+1+(bJ P).length≤_;rw[jl];omega) (by
     exact ic HM.out.2.2 oM)
    rw[show M=bJ V++rest by simpa using HM.out.1,I9 V 32 _ HS.out.2.1 (oN HS.out.2.1)] at VQ;have HTV:=δ VQ;clear VQ;go_wp2_with fail
    refine HTV.out.mono ?_;rintro e w13 ⟨rfl,h13⟩;have Gl:=aF (BM.out.1.ε h13.ε (fun q hq e=>oG e (HK.out.2.1 q hq) mD.out.1)) (BM.out.2.1.ε h13.ε H6.out.2.2.2) (BM.out.2.2.1.back h13) (BM.out.2.2.2.ε h13.ε rK.out.1);obtain⟨T,hT⟩:∃S,str V=S:=⟨_,rfl⟩;rw[hT];have Ee:=δ hT;clear h13 c0 c1 hT HTV;have c2:w13.cell? ⟨d,2,none⟩=some (.string ⟨#[]⟩):=Gl.out.2.2.2.cell 2;have fz:=Gl.out.2.2.2.frozen 2;go_upto_region 15 with (fail)
    generalize TZ:World.setCell _ _ _=w14;have aco:η w14 d 32 #[ϋ 1,.string S,.string T]:=by rw[← TZ];exact Gl.out.2.2.2.bE 2 _
    have jY:ζ (· = d) w13 w14:=by rw[← TZ];exact(ζ.refl (· = d) w13).setCell (p:=⟨d,2,none⟩) (.inl rfl) _
    have rz:=aF (Gl.out.1.ε jY (fun q hq e=>oF e (pE.out.2 q hq))) (Gl.out.2.1.ε jY (fun e=>rK.out.2 e.symm)) (Gl.out.2.2.1.b9 jY (fun e=>rK.out.1 e.symm) (fun q e=>.inr (oF e pE.out.1))) aco;clear TZ jY aco c2 fz;obtain⟨A,cap,rfl,-,-⟩:=rz.out.1.shape;have mV:η w14 c 35 #[ι (i:Int),ι (ep:Int),.slice A k cap]:=rz.out.2.1;obtain⟨d0,d1,d2⟩:=mV.gd;obtain⟨c0,c1,c2⟩:=rz.out.2.2.2.gd;obtain⟨ti,bx,bU,bK,aY⟩:=jD SV;have oI:k≤4:=by have:=HX.out.1;omega
    obtain⟨z,hz⟩:=μ w14.heap.size;have HZ:=δ hz;clear mV hz;go_wp2_with (first
     |(at_builtin;refine kr rfl _ _ _ _ rfl 32 ti _ 3 40 underlying33 bx bU bK aY rfl (.slice A k cap) k _ rfl (rz.out.1.alloc _) _ 1 [_,_,_] rfl (Src.rY underlying33 _ rfl) jN ke oM ?_;intro v2 w15 tD oC ye yf
       have zM:η w15 c 35 #[ι (i:Int),ι (ep:Int),.slice A k cap]:=η.ε (rz.out.2.1.alloc _) oC (fun hq=>oO (HK.out.2.1 c hq) mD.out.2.1);obtain⟨g2,fJ,rfl,-,-⟩:=tD.head oM;have e2:w15.cell? ⟨c,2,none⟩=some (.slice A k cap):=zM.cell 2;have G4:=zM.frozen 2))
    generalize Gk:World.setCell _ _ _=w16;have Tg:w7.heap.size≤w14.heap.size:=rz.out.2.2.1.ε.size;have J5:η w16 c 35 (mm i ep (.slice (some ⟨g2,0,none⟩) (k+1) fJ)):=by rw[← Gk];exact zM.bE 2 _
    have DM:ζ (· = c) w15 w16:=adZ
    have tS:w7.heap.size≤g2:=by
     exact ad1
    have J6:=tD.ε DM (fun q hq e=>by have e2:some g2=some q:=hq;have:=dM e2;have e3:q=c:=e;have:=mD.out.2.1;omega);have NN:ζ (fun q=>(Value.slice A k cap).ownBlock=some q∨q=c) w14 w16:=((((ζ.refl _ w14).alloc _).then oC (fun q e=>.inl (.inl e))).then DM (fun q e=>.inl (.inr e)));have J7:ct (fun q=>q=y∨q=c) w7 w16 y ⟨rest,r+1+(bJ P).length+(bJ V).length,0⟩:=by
     have h0:=rz.out.2.2.1;exact ad0
    have zN:=aF J5 J6 J7 tS;clear Gk J5 DM J6 J7 tS Tg NN tD oC ye yf zM e2 G4 d0 d1 d2 c0 c1 c2 bx bU bK aY;go_wp2_with fail
    go_roundw
    case rel =>
     refine⟨k+1,r+1+(bJ P).length+(bJ V).length,_,oM,?_,?_,?_,zN.out.1,?_,fun q hq=>by have e2:some g2=some q:=hq;have:=dM e2;have:=zN.out.2.2.2;omega⟩
     ·have:=HN.out.1
      congr 1
      omega
     ·have:=HN.out.2.1
      have:=HS.out;simp only[jl];omega
     ·rw[HN.out.2.2.2.1];exact zN.out.2.2.1
     ·rw[HN.out.2.2.2.2]
      have:=zN.out.2.1;rw[← fQ.out,← Ee.out] at this;exact this
    case measure=>simp[intOf]<;>omega
   ·have hby:=Nr HI.out.here (by have:=HN.out.2.1;show r≤_;omega)
    rw[MP] at hby;have lE:=δ hby;clear hby;go_wp2_with fail
    refine lE.out.mono ?_;rintro e w8 ⟨rfl,h8⟩;have U8:=h8.ε;have iA:=aq (HK.out.1.ε U8 (fun q hq e=>oG e (HK.out.2.1 q hq) mD.out.1)) (HK.out.2.2.ε U8 H6.out.2.2.2) (HI.out.back h8);clear h8 U8;obtain⟨d,hd⟩:=μ w8.heap.size;have HD:=δ hd;go_upto_region 7 with (fail)
    generalize Ev:World.alloc _ _=w9;have dy:η w9 d 32 #[ϋ 2,.string ⟨#[]⟩,.string ⟨#[]⟩]:=by rw[← Ev,← hd];exact η.new w8 _ _
    have U9:υ w8 w9:=by rw[← Ev];exact(ζ.refl _ w8).alloc _
    have hdb:w7.heap.size≤d:=by rw[← hd];exact iA.out.2.2.ε.size
    have Co:∀q,v.ownBlock=some q→q<d:=fun q hq=>by rw[← hd];exact iA.out.1.lt hq
    have nR:=aF (iA.out.1.ε U9 (fun _ _ e=>e)) (iA.out.2.1.ε U9 id) (iA.out.2.2.still U9) dy;have pE:=τ hdb Co;clear Ev dy U9 hd hdb Co;go_wp2_with fail
    refine(Sq nR.out.2.2.1).mono ?_;rintro e w10 ⟨nf,rfl,fE⟩;have tC:=aF (nR.out.1.ε fE (fun _ _ e=>e)) (nR.out.2.1.ε fE id) (nR.out.2.2.1.still fE) (nR.out.2.2.2.ε fE id);have hz:(⟨bJ P++M,r+1,0⟩:eM).fail=0:=rfl;obtain⟨c0,c1,c2⟩:=tC.out.2.2.2.gd;clear fE;go_upto_region 12 with (fail)
    have mW:=Jj tC.out.2.2.1.here 33 oM (by have:=HN.out.2.1;show r+1≤_;omega) (by
     show (_:List UInt8).length≤_;have:=HM.out.2.2;have:=HS.out;rw[aN,jl];omega)
    rw[I9 P 33 (r+1) HS.out.1 (oN HS.out.1)] at mW;have Lh:=δ mW;clear mW hz;go_wp2_with fail
    refine Lh.out.mono ?_;rintro e w11 ⟨rfl,h11⟩;have wE:d≠y:=by have:=pE.out.1;have:=mD.out.1;omega
    have hdc:d≠c:=by have:=pE.out.1;have:=mD.out.2.1;omega
    have zK:=aF (tC.out.1.ε h11.ε (fun q hq e=>oG e (HK.out.2.1 q hq) mD.out.1)) (tC.out.2.1.ε h11.ε H6.out.2.2.2) (tC.out.2.2.1.back h11) (tC.out.2.2.2.ε h11.ε wE);have rK:=τ wE hdc;obtain⟨S,hS⟩:=μ (str P);rw[hS];have fQ:=δ hS;clear h11 c0 c1 c2 wE hdc hS Lh;go_upto_region 13 with (first
     |(refine gJ rfl 9 _ _ rfl d 1 (.string S) rfl rfl _ _ zK.out.2.2.2 dC rfl kR ?_
       intro w12 pX iq DK))
    have Ds:η w12 d 32 #[ϋ 2,.string S,.string ⟨#[]⟩]:=pX;have BM:=aF (zK.out.1.ε iq (fun q hq e=>oF e (pE.out.2 q hq))) (zK.out.2.1.ε iq (fun e=>rK.out.2 e.symm)) (zK.out.2.2.1.b9 iq (fun e=>rK.out.1 e.symm) (fun q e=>.inr (oF e pE.out.1))) Ds;obtain⟨c0,c1,c2⟩:=Ds.gd;clear pX iq DK Ds;obtain rfl:V=[]:=by simpa using qI.out
    obtain⟨T,hT⟩:∃S,str ([]:List UInt8)=S:=⟨_,rfl⟩;have Ee:=δ hT;have hTe:(⟨#[]⟩:ByteArray)=T:=by rw[← hT];rfl
    rw[hTe] at c2 BM;clear hT hTe;go_upto_region 15 with (fail)
    generalize w12=w14 at *;have rz:=BM;clear c0 c1 c2;obtain⟨A,cap,rfl,-,-⟩:=rz.out.1.shape;have mV:η w14 c 35 #[ι (i:Int),ι (ep:Int),.slice A k cap]:=rz.out.2.1;obtain⟨d0,d1,d2⟩:=mV.gd;obtain⟨c0,c1,c2⟩:=rz.out.2.2.2.gd;obtain⟨ti,bx,bU,bK,aY⟩:=jD SV;have oI:k≤4:=by have:=HX.out.1;omega
    obtain⟨z,hz⟩:=μ w14.heap.size;have HZ:=δ hz;clear mV hz;go_wp2_with (first
     |(at_builtin;refine kr rfl _ _ _ _ rfl 32 ti _ 3 40 underlying33 bx bU bK aY rfl (.slice A k cap) k _ rfl (rz.out.1.alloc _) _ 1 [_,_,_] rfl (Src.rY underlying33 _ rfl) jN ke oM ?_;intro v2 w15 tD oC ye yf
       have zM:η w15 c 35 #[ι (i:Int),ι (ep:Int),.slice A k cap]:=η.ε (rz.out.2.1.alloc _) oC (fun hq=>oO (HK.out.2.1 c hq) mD.out.2.1);obtain⟨g2,fJ,rfl,-,-⟩:=tD.head oM;have e2:w15.cell? ⟨c,2,none⟩=some (.slice A k cap):=zM.cell 2;have G4:=zM.frozen 2))
    generalize Gk:World.setCell _ _ _=w16;have Tg:w7.heap.size≤w14.heap.size:=rz.out.2.2.1.ε.size;have J5:η w16 c 35 (mm i ep (.slice (some ⟨g2,0,none⟩) (k+1) fJ)):=by rw[← Gk];exact zM.bE 2 _
    have DM:ζ (· = c) w15 w16:=adZ
    have tS:w7.heap.size≤g2:=by
     exact ad1
    have J6:=tD.ε DM (fun q hq e=>by have e2:some g2=some q:=hq;have:=dM e2;have e3:q=c:=e;have:=mD.out.2.1;omega);have NN:ζ (fun q=>(Value.slice A k cap).ownBlock=some q∨q=c) w14 w16:=((((ζ.refl _ w14).alloc _).then oC (fun q e=>.inl (.inl e))).then DM (fun q e=>.inl (.inr e)));have J7:ct (fun q=>q=y∨q=c) w7 w16 y ⟨rest,r+1+(bJ P).length,0⟩:=by
     have h0:=rz.out.2.2.1;rw[show M=rest by simpa using HM.out.2.1] at h0;exact ad0
    have zN:=aF J5 J6 J7 tS;clear Gk J5 DM J6 J7 tS Tg NN tD oC ye yf zM e2 G4 d0 d1 d2 c0 c1 c2 bx bU bK aY;go_wp2_with fail
    go_roundw
    case rel =>
     refine⟨k+1,r+1+(bJ P).length,_,oM,?_,?_,?_,zN.out.1,?_,fun q hq=>by have e2:some g2=some q:=hq;have:=dM e2;have:=zN.out.2.2.2;omega⟩
     ·have:=HN.out.1
      congr 1
      omega
     ·have:=HN.out.2.1
      have:=HS.out;simp only[jl];omega
     ·rw[HN.out.2.2.2.1];exact zN.out.2.2.1
     ·rw[HN.out.2.2.2.2]
      have:=zN.out.2.1;rw[← fQ.out,← Ee.out] at this;exact this
    case measure=>simp[intOf]<;>omega
  ·obtain rfl:k=l.length:=oM
   have hz:l.length - l.length=0:=oM;rw[hz];rw[qj (bO _)] at hI;rw[dV (bO _)] at hO;obtain⟨A,cap,rfl,-,-⟩:=hO.shape;have HI:=δ hI;have HB:=aq hB hO hv;have yJ:=NX hI;have Ld:=δ yJ;clear hI hB hO hv yJ hz hlt hk;go_wp2_with fail
   refine Ld.out.mono ?_;rintro e w8 ⟨rfl,cT⟩;have iA:=aq (HB.out.1.ε cT id) (HB.out.2.1.ε cT (fun _ _ e=>e)) (HI.out.still cT);have gS:qo l:=fun o ho=>by
    obtain⟨-,-,x3,x4,-⟩:=C6 (HX.out.2.1 o ho);exact⟨oM,oM⟩
   obtain⟨b,hb⟩:∃b,0<l.length→A=some ⟨b,0,none⟩:=by
    by_cases h0:0<l.length
    ·obtain⟨b,cp,e,-,-⟩:=iA.out.2.1.head h0
     injection e with e1;exact⟨b,fun _=>e1⟩
    ·exact⟨0,fun h=>absurd h h0⟩
   have hat:∀W,υ w8 W→vB W b 0 l:=fun W hW=>by
    by_cases h0:0<l.length
    ·have h1:=iA.out.2.1.ε hW (fun _ _ e=>e)
     rw[hb h0] at h1;exact vB.ku h1
    ·exact fun j hj=>absurd hj oM
   have eX:=fun W (hW:υ w8 W)=>Nb (cap:=cap) (i:=i) (ep:=ep) (w:=W) hb (fun w' h=>hat w' (hW.then h φ)) gS (oN HX.out.1)
   rw[HX.out.2.2.2] at eX;have T3:=a_.out.1.lt;have Cb:g≠c:=by have:=H6.out.2.2.1;omega
   have G5:g≠y:=by
    rcases H5.out.new with e | e
    ·exact e.elim
    ·omega
   have T4:ζ (fun q=>q=y∨q=c) w7 w8:=HI.out.ε.then cT φ;have hg8:=mD.out.2.2.2.ε T4 (fun e=>e.elim G5 Cb);have ad2:υ w w8:=mD.out.2.2.1.then T4 (fun q e=>.inr (by
    have bp:=a_.out.2.size;rcases e with e | e
    ·rw[e]
     rcases H5.out.new with e2 | e2
     ·exact e2.elim
     ·omega
    ·rw[e];have:=H6.out.2.2.1;omega))
   have nS:=δ eX;have HG8:=aq hg8 ad2 Cb;clear eX gS hb hat T3 Cb G5 T4 hg8 ad2 cT;have hb0:jt ([]:List dn)=[]:=rfl;rw[hb0];clear hb0;go_wp2_with (first
    |(refine gp _ c iA.out.1 underlying35 ?_)
    |(go_at_call 81
      refine(nS.out _ (ζ.refl _ _)).mono ?_;rintro e w9 ⟨rfl,eW⟩;have nR:=aF (iA.out.1.ε eW id) (HG8.out.1.ε eW id) (HG8.out.2.1.then eW φ) (iA.out.2.1.ε eW (fun _ _ e=>e));clear eW)
    |(refine gp _ c nR.out.1 underlying35 ?_)
    |(refine eN 35 g (mm i ep (.slice A l.length cap)) nR.out.2.1 (by simp[mm,Value.oneCell']) ?_
      intro w10 nG fE BL))
   have hsz:=mD.out.2.2.1.size;refine cJ (jk rfl _ _ g _ _ _ _ rfl nG underlying35 rfl kR (ι 0) rfl) rfl ⟨.slice A l.length cap,rfl,nR.out.2.2.2.ε fE (fun q hq e=>?_),fun q hq=>?_,nR.out.2.2.1.then fE (fun q e=>.inr (oF e HG.out))⟩
   ·have e2:q=g:=e
    have:=HB.out.2.2 q hq;have:=mD.out.2.2.2.lt;omega
   ·have:=HB.out.2.2 q hq
    omega
end
section
open Go
instance:DecidableEq ai:=fun a b=>by unfold ai at *;infer_instance
def jJ (k v:List UInt8):List ai→List ai
 | []=>[(k,v)]
 | p::r=>if p.1<k then p::jJ k v r else if p.1=k then (k,v)::r else (k,v)::p::r
def rB (k:List UInt8) (l:List ai):List ai:=l.filter fun p=>decide (p.1≠k)
def lT (k:List UInt8) (l:List ai):Option (List UInt8):=(l.find? fun p=>decide (p.1=k)).map (·.2)
def gx (l:List ai):Prop:=l.Pairwise fun a b=>a.1<b.1
theorem Bu {a b:List UInt8} (h:a<b):a≠b:=fun e=>List.lt_irrefl b (e ▸ h)
theorem SW (a b:List UInt8):a<b∨a=b∨b<a:=by
 rcases XZ (a<b) with h | h
 ·exact .inl h
 ·rcases XZ (b<a) with h2 | h2
  ·exact .inr (.inr h2)
  ·exact .inr (.inl (List.le_antisymm (List.not_lt.1 h2) (List.not_lt.1 h)))
theorem Bd {k v:List UInt8} {l:List ai} (h:gx l) (p:ai):p ∈ jJ k v l↔p=(k,v)∨(p ∈ l∧p.1≠k):=by
 induction l with
 | nil=>simp[jJ]
 | cons q r ih =>
   have h1:=(za.1 h).1;have h2:gx r:=(za.1 h).2;unfold jJ;by_cases c1:q.1<k
   ·rw[π c1,cC,ih h2,cC]
    constructor
    ·rintro (rfl | rfl | ⟨a,b⟩)
     ·exact .inr ⟨.inl rfl,Bu c1⟩
     ·exact .inl rfl
     ·exact .inr ⟨.inr a,b⟩
    ·rintro (rfl | ⟨rfl | a,b⟩)
     ·exact .inr (.inl rfl)
     ·exact .inl rfl
     ·exact .inr (.inr ⟨a,b⟩)
   ·rw[ν c1]
    by_cases c2:q.1=k
    ·rw[π c2,cC,cC]
     constructor
     ·rintro (rfl | a)
      ·exact .inl rfl
      ·exact .inr ⟨.inr a,fun e=>Bu (h1 p a) (by rw[c2,e])⟩
     ·rintro (rfl | ⟨rfl | a,b⟩)
      ·exact .inl rfl
      ·exact absurd c2 b
      ·exact .inr a
    ·rw[ν c2,cC,cC]
     have hk:k<q.1:=by
      rcases SW q.1 k with e | e | e
      ·exact absurd e c1
      ·exact absurd e c2
      ·exact e
     constructor
     ·rintro (rfl | rfl | a)
      ·exact .inl rfl
      ·exact .inr ⟨.inl rfl,c2⟩
      ·exact .inr ⟨.inr a,fun e=>Bu (List.lt_trans hk (h1 p a)) e.symm⟩
     ·rintro (rfl | ⟨a,b⟩)
      ·exact .inl rfl
      ·exact .inr a
theorem C9 {k v:List UInt8} {l:List ai} (h:gx l):gx (jJ k v l):=by
 induction l with
 | nil=>simp[jJ,gx]
 | cons q r ih =>
   have h1:=(za.1 h).1;have h2:gx r:=(za.1 h).2;unfold jJ;by_cases c1:q.1<k
   ·rw[π c1]
    refine za.2 ⟨fun p hp=>?_,ih h2⟩;rcases (Bd h2 p).1 hp with rfl | ⟨a,-⟩
    ·exact c1
    ·exact h1 p a
   ·rw[ν c1]
    by_cases c2:q.1=k
    ·rw[π c2]
     exact za.2 ⟨fun p hp=>by rw[← c2];exact h1 p hp,h2⟩
    ·rw[ν c2]
     have hk:k<q.1:=by
      rcases SW q.1 k with e | e | e
      ·exact absurd e c1
      ·exact absurd e c2
      ·exact e
     refine za.2 ⟨fun p hp=>?_,h⟩;rcases cC.1 hp with rfl | a
     ·exact hk
     ·exact List.lt_trans hk (h1 p a)
theorem Rl {k:List UInt8} {l:List ai} (h:gx l):gx (rB k l):=List.Pairwise.filter _ h
theorem gx.nodup {l:List ai} (h:gx l):l.Nodup:=List.Pairwise.imp (R:=fun a b:ai=>a.1<b.1) (fun h e=>Bu h (aI Prod.fst e)) h
theorem Sc (k v:List UInt8) (l:List ai):(jJ k v l).length≤l.length+1:=by
 induction l with
 | nil=>simp[jJ]
 | cons q r ih =>
   unfold jJ;split
   ·simp only[eZ];omega
   ·split<;>simp only[eZ]<;>omega
def uy (p:ai):ByteArray × Value:=(str p.1,.string (str p.2))
theorem akg {a b:ai} (h:uy a=uy b):a=b:=by
 unfold uy at h;injection h with h1 h2;injection h2 with h2;exact Prod.ext (str_inj h1) (str_inj h2)
def qY (m:List (ByteArray × Value)) (S:List ai):Prop:=m.Perm (S.map uy)
theorem qY.mem {m:List (ByteArray × Value)} {S:List ai} (h:qY m S) (x:ByteArray × Value):x ∈ m↔∃p ∈ S,uy p=x:=by rw[h.mem_iff,cu]
theorem ahP {S:List ai} (h:S.Nodup):(S.map uy).Nodup:=List.Pairwise.map uy (fun _ _ hne e=>hne (akg e)) h
theorem qY.bE {m:List (ByteArray × Value)} {S:List ai} (h:qY m S) (hn:(m.map (·.1)).Nodup) (hS:gx S) (k v:List UInt8):qY (mu m (str k) (.string (str v))) (jJ k v S):=by
 have n1:(mu m (str k) (.string (str v))).Nodup:=by
  unfold mu;split
  ·refine Fm (f:=(·.1)) ?_
   rw[sS];have e:((fun x:ByteArray × Value=>x.1) ∘ fun p:ByteArray × Value=>if p.1=str k then (str k,Value.string (str v)) else p)=(·.1):=by
    funext p
    simp only[Function.comp];split
    ·rename_i h;exact h.symm
    ·rfl
   rw[e];exact hn
  ·rename_i hk
   refine Fm (f:=(·.1)) ?_;rw[lq];refine Me.2 ⟨hn,sM,fun a ha b hb=>?_⟩;have:b=str k:=by simpa using hb
   rw[this];rintro rfl;exact hk ha
 refine(List.perm_ext_iff_of_nodup n1 (ahP (C9 hS).nodup)).2 fun x=>?_
 rw[cu];have key:x ∈ mu m (str k) (.string (str v))↔x=(str k,.string (str v))∨(x ∈ m∧x.1≠str k):=by
  unfold mu;split
  ·rename_i hk
   rw[cu];constructor
   ·rintro⟨p,hp,rfl⟩
    split
    ·exact .inl rfl
    ·rename_i h;exact .inr ⟨hp,h⟩
   ·rintro (rfl | ⟨a,b⟩)
    ·obtain⟨p,hp,e⟩:=cu.1 hk
     exact⟨p,hp,by rw[π e]⟩
    ·exact⟨x,a,by rw[ν b]⟩
  ·rename_i hk
   rw[jX,xB];constructor
   ·rintro (a | a)
    ·exact .inr ⟨a,fun e=>hk (cu.2 ⟨x,a,e⟩)⟩
    ·exact .inl a
   ·rintro (a | ⟨a,-⟩)
    ·exact .inr a
    ·exact .inl a
 rw[key];constructor
 ·rintro (rfl | ⟨a,b⟩)
  ·exact⟨(k,v),(Bd hS _).2 (.inl rfl),rfl⟩
  ·obtain⟨p,hp,rfl⟩:=(h.mem x).1 a
   exact⟨p,(Bd hS _).2 (.inr ⟨hp,fun e=>b (by unfold uy;rw[e])⟩),rfl⟩
 ·rintro⟨p,hp,rfl⟩
  rcases (Bd hS p).1 hp with rfl | ⟨a,b⟩
  ·exact .inl rfl
  ·exact .inr ⟨(h.mem _).2 ⟨p,a,rfl⟩,fun e=>b (str_inj e)⟩
theorem qY.aob {m:List (ByteArray × Value)} {S:List ai} (h:qY m S) (k:List UInt8):qY (oA m (str k)) (rB k S):=by
 unfold qY oA rB;have:=h.filter (fun p=>decide (p.1≠str k));rw[List.filter_map] at this;have e:((fun p:ByteArray × Value=>decide (p.1≠str k)) ∘ uy)=fun p:ai=>decide (p.1≠k):=by
  funext p
  simp only[Function.comp,uy];congr 1
  simp only[AY,eq_iff_iff];exact not_congr ⟨str_inj,fun e=>by rw[e]⟩
 rw[e] at this;exact this
theorem Sd {S:List ai} (hS:gx S) {p:ai} (hp:p ∈ S):lT p.1 S=some p.2:=by
 unfold lT;induction S with
 | nil=>simp at hp
 | cons q r ih =>
   rw[List.find?_cons];by_cases c:q.1=p.1
   ·rw[fo c]
    rcases cC.1 hp with rfl | a
    ·rfl
    ·exact absurd ((za.1 hS).1 p a) (by rw[c];exact List.lt_irrefl _)
   ·rw[gI c]
    refine ih (za.1 hS).2 ?_;rcases cC.1 hp with rfl | a
    ·exact absurd rfl c
    ·exact a
theorem RN {S:List ai} {k:List UInt8} (h:∀p ∈ S,p.1≠k):lT k S=none:=by
 unfold lT;have:S.find? (fun p=>decide (p.1=k))=none:=by
  simp only[afW,eD];exact h
 rw[this];rfl
theorem qY.T5 {m:List (ByteArray × Value)} {S:List ai} (h:qY m S) (hn:(m.map (·.1)).Nodup) (hS:gx S) (k:List UInt8):oB m (str k)=(lT k S).map fun v=>Value.string (str v):=by
 by_cases c:∃p ∈ S,p.1=k
 ·obtain⟨p,hp,rfl⟩:=c
  rw[Sd hS hp];obtain⟨j,hj⟩:=CU ((h.mem (uy p)).2 ⟨p,hp,rfl⟩);exact Ry hn hj
 ·have c':∀p ∈ S,p.1≠k:=fun p hp e=>c ⟨p,hp,e⟩
  rw[RN c'];refine Rz fun x hx e=>?_
  obtain⟨p,hp,rfl⟩:=(h.mem x).1 hx;exact c' p hp (str_inj e)
end
section
open Go Go.RowKit
theorem J8 {P:Prop} (h:P:=by unfold partsOf;omega):P:=h
structure Lp where
 θ:Nat
 af:Nat
 ahead:Nat
 number:Nat
 all:Nat
 text:List UInt8
 deriving DecidableEq
def Lp.cells (p:Lp):List Value:=[ω p.θ,ω p.af,ω p.ahead,ι p.number,ι p.all,.string (str p.text)]
def Lp.val (p:Lp):Value:=.agg #[ω p.θ,ω p.af,ω p.ahead,ι p.number,ι p.all,.string (str p.text)]
def Lp.body (p:Lp):List UInt8:=leB p.θ 8++leB p.af 8++leB p.ahead 8++[UInt8.ofNat p.number,UInt8.ofNat p.all,UInt8.ofNat p.text.length,0]++p.text++List.replicate (32 - p.text.length) 0
theorem Lp.FC (p:Lp) (h:p.text.length≤32):p.body.length=60:=by simp[Lp.body,pN];omega
def partsOf (n:Nat):Nat:=max ((n+31) / 32) 1
def bZ (text:List UInt8) (θ af ahead:Nat):List Lp:=(List.range (partsOf text.length)).map fun i=>⟨θ,af,ahead,i,partsOf text.length,(text.drop (32*i)).take 32⟩
def ow (l:List Lp):List Value:=l.flatMap Lp.cells
theorem qV (text:List UInt8) (e s a:Nat):(bZ text e s a).length=partsOf text.length:=by simp[bZ]
theorem xG (t:List UInt8) (e s a j:Nat) (hj:j<(bZ t e s a).length):(bZ t e s a)[j].θ=e∧(bZ t e s a)[j].af=s∧(bZ t e s a)[j].ahead=a∧(bZ t e s a)[j].number=j∧(bZ t e s a)[j].all=partsOf t.length∧(bZ t e s a)[j].text.length≤32:=by
 simp[bZ]
 omega
theorem abH:(prog.info? 204).map (fun i=>(i.zero,i.size,i.bytes))=some (some (.agg #[ω 0,ω 0,ω 0,ι 0,ι 0,.string ByteArray.empty]),6,56):=kR
theorem Jp (s:ByteArray) (w:World) (hs:s.size≤9223372036854775000) :
 ς 112 #[.string s] w fun e w'=>e=ώ (ι (partsOf s.size:Int))∧w=w':=by
 have vN:((partsOf s.size:Nat):Int)=max (((s.size:Int)+32 - 1) / 32) 1:=J8
 have HM:=δ vN;clear vN;go_enter func112,ntmps112
 go_wp2
 go_ret
 exact⟨by rw[HM.out];rfl,rfl⟩
theorem abI (s:ByteArray) (ep sa ah:Nat) (w:World) (hs:s.size≤100000) :
 ς 114 #[.string s,ω (ep:Int),ω (sa:Int),ω (ah:Int)] w fun e w'=>∃v,e=ώ v∧Own w' 204 6 v (partsOf s.size) (ow (bZ s.data.toList ep sa ah))∧Below w.heap.size w w'∧(∀q,v.ownBlock=some q→w.heap.size≤q):=by
 obtain⟨i0,bx,bU,bK,aY⟩:=jD abH;have HA:Hid (partsOf s.size=max ((s.size+31) / 32) 1):=rfl;have Ea:1≤partsOf s.size:=DI
 have nJ:32*(partsOf s.size - 1)≤s.size:=DI
 have qE:s.size≤32*partsOf s.size:=DI
 go_enter func114,ntmps114
 go_wp2_with fail
 refine(Jp s _ oM).mono ?_;rintro e w' ⟨rfl,rfl⟩;have HC:Hid (∀k,k≤partsOf s.size→(bZ s.data.toList ep sa ah).take k=(List.range k).map fun i=>(⟨ep,sa,ah,i,partsOf s.size,(s.data.toList.drop (32*i)).take 32⟩:Lp)):=by
  intro k hk;have e:s.data.toList.length=s.size:=gZ
  rw[bZ,e,← Ff,List.take_range,xy hk]
 go_wp2_with fail
 go_loopw [10,15] (fun v i wr=>∃k:Nat,k≤partsOf s.size∧i=ι k∧Own wr 204 6 v k (ow ((bZ s.data.toList ep sa ah).take k))∧Below w.heap.size w wr∧(∀q,v.ownBlock=some q→w.heap.size≤q)) (fun _ i _=>partsOf s.size - (intOf i).toNat)
 case atStart=>exact⟨0,oM,rfl,by simpa [ow] using Own.nil _ _ _,oT _ _,by simp[Value.ownBlock]⟩
 case round =>
  obtain⟨k,hk,rfl,hO,hb,hl⟩:=hrel;by_cases hlt:k<partsOf s.size
  ·have HX:=τ hb hl
   have adR:32*k≤s.size:=oM;clear hb hl;have key:∀(v2:Value) (w2:World) (x:Value),Own w2 204 6 v2 (k+1) (ow ((bZ s.data.toList ep sa ah).take k)++Lp.cells ⟨ep,sa,ah,k,partsOf s.size,(s.data.toList.drop (32*k)).take 32⟩)→ζ (fun q=>u10.ownBlock=some q) (wr.alloc (.cells x.cells 204)) w2 →
    (v2.ownBlock=u10.ownBlock∨v2.ownBlock=some (wr.alloc (.cells x.cells 204)).heap.size) →
    Own w2 204 6 v2 (k+1) (ow ((bZ s.data.toList ep sa ah).take (k+1)))∧Below w.heap.size w w2∧(∀q,v2.ownBlock=some q→w.heap.size≤q):=by
    intro v2 w2 x h1 h2 h3;obtain⟨hb,hl⟩:=HX.out;refine⟨?_,(hb.alloc hb.size _).trans ⟨h2.os,h2.tape,h2.output,h2.size,fun q hq=>h2.block q (by have:=hb.size;simp;omega) (fun e=>oN (hl q e))⟩,fun q hq=>?_⟩
    ·rw[HC.out (k+1) oM,t_,lq,← HC.out k oM]
     simpa [ow] using h1
    ·exact adQ
   have Key:=δ key;have hcell:Hid (([ω (ep:Int),ω (sa:Int),ω (ah:Int),ι (k:Int),ι (partsOf s.size:Int),.string (s.extract (k*32) (min (((k:Int)+1)*32) (s.size:Int)).toNat)]:List Value)=Lp.cells ⟨ep,sa,ah,k,partsOf s.size,(s.data.toList.drop (32*k)).take 32⟩):=by
    show _=_;rw[Lp.cells,uc];have e:((s.data.toList.drop (k*32)).take ((min (((k:Int)+1)*32) (s.size:Int)).toNat - k*32))=(s.data.toList.drop (32*k)).take 32:=by
     rw[Mb k 32];by_cases hin:32*k+32≤s.size
     ·rw[show (min (((k:Int)+1)*32) (s.size:Int)).toNat - 32*k=32 by omega]
     ·rw[show (min (((k:Int)+1)*32) (s.size:Int)).toNat - 32*k=s.size - 32*k by omega,dV sM,dV iy]
    rw[e]
   clear HA key;go_wp2_with (at_builtin;refine kr rfl _ _ _ _ rfl 204 i0 _ 6 56 underlying201 bx bU bK aY rfl u10 k _ rfl (hO.alloc _) _ 1 [_,_,_,_,_,_] rfl (Src.rY underlying201 _ rfl) jN ke oM ?_;intro v2 w2 bL σ hl2 cn);rw[hcell.out] at bL;obtain⟨k1,k2,k3⟩:=Key.out v2 w2 (.agg #[ω (ep:Int),ω (sa:Int),ω (ah:Int),ι (k:Int),ι (partsOf s.size:Int),.string (s.extract (k*32) (min (((k:Int)+1)*32) (s.size:Int)).toNat)]) bL σ hl2;go_roundw
   case rel=>exact⟨k+1,oM,by go_num,k1,k2,k3⟩
   case measure=>simp[intOf];omega
  ·obtain rfl:k=partsOf s.size:=oM
   have HX:=aq hO hb hl;clear hO hb hl;go_wp2
   go_ret
   obtain⟨hO,hb,hl⟩:=HX.out;rw[dV (by rw[qV];simp)] at hO
   exact⟨u10,rfl,hO,hb,hl⟩
def lC (b:List UInt8):Lp × Bool :=
 if 32<(b.getD 26 0).toNat then (⟨dP (b.take 8),dP ((b.drop 8).take 8),dP ((b.drop 16).take 8),(b.getD 24 0).toNat,(b.getD 25 0).toNat,[]⟩,false) else
 (⟨dP (b.take 8),dP ((b.drop 8).take 8),dP ((b.drop 16).take 8),(b.getD 24 0).toNat,(b.getD 25 0).toNat,(b.drop 28).take (b.getD 26 0).toNat⟩,
   decide (b.getD 27 0=0∧b.drop (28+(b.getD 26 0).toNat)=List.replicate (32 - (b.getD 26 0).toNat) 0))
theorem akh (s:ByteArray) (i q:Nat) (w:World) (hs:s.size=60) (hi:i<3) (hc:w.cell? ⟨q,0,none⟩=some (.string s)) :
 ς 206 #[ι (i:Int),.pointer (some ⟨q,0,none⟩)] w fun e w'=>e=ώ (ω (dP ((s.data.toList.drop (8*i)).take 8):Int))∧w=w':=by
 have h8:(i:Int)*8≤(s.size:Int):=oM;have hn:(0:Int)≤(i:Int)*8:=oM;have ht:((i:Int)*8).toNat=i*8:=oM;have hg:∀W,ς 207 #[.string (s.extract (i*8) 60),ι 8] W fun e w'=>e=ώ (ω (dP ((s.data.toList.drop (8*i)).take 8):Int))∧W=w':=by
  intro W;have h:=agD (s.extract (i*8) 60) 8 W oM (by rw[af2];omega);have e:(s.extract (i*8) 60).data.toList.take 8=(s.data.toList.drop (8*i)).take 8:=by
   rw[ByteArray.data_extract,Array.toList_extract];simp only[List.extract_eq_take_drop];rw[List.take_take,Mb i 8];congr 1
   omega
  rw[e] at h;exact h
 have HG:=δ hg;clear hg;go_enter func206,ntmps206
 go_wp2_with fail
 refine(HG.out _).mono ?_;rintro e w' ⟨rfl,rfl⟩;go_wp2_with fail
 go_ret
 exact⟨rfl,rfl⟩
end
end Go.Proofs.YtbhjgfibhegddaaGreat
