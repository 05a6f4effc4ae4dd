/-
  Parts of the proof of VaultPlays: SealD, SealE, BatC, Pairs, LogPart.
-/
import Derived.Test.YtbhjgfibhegddaaGreatQVaultPlays08
set_option maxRecDepth 100000
set_option maxHeartbeats 16000000
namespace Go.Proofs.YtbhjgfibhegddaaGreat
abbrev Dr:=@List.mem_of_mem_drop
abbrev xA:=@List.pairwise_cons
abbrev A9:=@List.mem_singleton
open Tryz
section
open Go Go.RowKit
section
variable {P:Program} {ops:Array Oper} {Q:Exit→Act→World→Prop} {S:World→Prop}
theorem Bc {i:Nat} {o:Oper} {a:Act} (hi:ops[i]? = some o) (hw:Region.wanted o (yielded ops a.tmps)=true) (ty:TypeId) (x:Operand) (ho:o.op=.load ty x) (g k:Nat) (hx:a.eval x=.pointer (some ⟨g,k,none⟩))
 (t:TypeId) (cs:Array Value) (vs:List Value) (d:TypeDesc) (hS:∀w,S w→η w g t cs) (hv:∀j v,vs[j]? = some v→cs[k+j]? = some v) (hu:P.underlying ty=some d) (hd:d.isRow=true) (hz:(P.info? ty).map (·.size)=some vs.length):l7 P ops Q S i o (.agg vs.toArray) a :=
 sQ hi (aaX (P:=P) (ops:=ops) (S:=S) hw ty x ho g k hx vs d (fun w h=>(hS w h).range k vs hv) hu hd hz)
end
theorem aZ.ajd (x:aZ):∀j v,(aK x.tag)[j]? = some v→x.row[4+j]? = some v:=by
 intro j v h;unfold aZ.row;rw[FC,lM sM];rw[show 4+j - [Value.int .i64 (x.key:Int),.int .u32 (x.μ:Int),ω (x.n:Int),.string (str x.data)].length=j by simp];exact h
theorem agN (k:List UInt8) (hk:k.length=32) (x:aZ) (hx:ux x) (about:ByteArray) (ha:about.size≤1000) (hs:x.tag=rR k x.key x.μ x.n about.data.toList x.data) (w:World) :
 ς 181 #[.agg (ψ k),.agg x.row,.string about] w fun e w'=>e=ώ (.tuple #[.string (str (oT k x.μ x.n x.data)),ι 0])∧υ w w':=by
 have IV:=fun W=>O7 x hx W
 have Af:=fun W=>Xh k hk x hx about ha W
 rw[← hs] at Af;have hEq:=fun W=>agE x.tag x.tag W hx.tag hx.tag
 rw[fe rfl] at hEq;obtain⟨D,hD⟩:=κ (str x.data);have yw:=fun W=>Vx k hk x hx D (by rw[← hD,bf];exact hx.data) W
 rw[show D.data.toList=x.data by rw[← hD,bS]] at yw;obtain⟨O,hO⟩:=κ (str (oT k x.μ x.n x.data));rw[hO] at yw ⊢;have HR:=δ IV;have HT:=δ Af;have HE:=δ hEq;have HS:=δ yw;have HX:=aD hD (aZ.ql hx.tag) hx.tag hk;clear IV Af hEq yw hD hO hs hk hx ha;obtain⟨g,hg⟩:=κ w.heap.size;have HG:=δ hg;go_enter func181,ntmps181
 go_upto_region 1 with (fail)
 generalize aH:World.alloc _ _=w2;have hk2:η w2 g 194 (ψ k):=by rw[← aH,← hg];exact(η.new w _ _).alloc _
 have hx2:η w2 (g+1) 191 x.row:=by
  have h:=η.new (w.alloc (.cells (ψ k) 194)) 191 x.row;rw[cM,hg] at h;rw[← aH];exact h
 have π:υ w w2:=by rw[← aH];exact((ζ.refl _ w).alloc _).alloc _
 have aU:=aj hk2 hx2 π;clear hk2 hx2 π aH hg;go_upto_region 3 with (first
  |(refine eL _ (g+1) aU.out.2.1 underlying191 (by rw[HX.out.2.1];kernel_rfl) ?_)
  |(go_at_call 162
    refine(HR.out _).mono ?_;rintro e w3 ⟨rfl,χ⟩;have iw:=aj (aU.out.1.ε χ (fun e=>e)) (aU.out.2.1.ε χ (fun e=>e)) (aU.out.2.2.then χ φ);clear χ))
 refine dB ?_;refine dK (S:=fun w'=>υ w3 w') (T:=fun _=>false) kR ?_;have aC:=(ζ.refl (fun _=>False) w3).drew;refine ξ 0 ?_;refine iq 1 (.agg (ψ x.tag)) (Bc rfl (by rfl) _ _ rfl (g+1) 4 (by rfl) _ _ (aK x.tag) _ (fun w' hSw=>iw.out.2.1.ε hSw (fun e=>e)) x.ajd underlying189 rfl (by rw[sR,HX.out.2.2.1];kernel_rfl)) ?_
 refine iq 2 (.agg (ψ k)) (kX rfl (by rfl) _ _ rfl g (by rfl) _ _ _ (fun w' hSw=>iw.out.1.ε hSw (fun e=>e)) underlying194 rfl (by rw[bq,HX.out.2.2.2];kernel_rfl)) ?_
 refine iq 3 (.agg x.row) (kX rfl (by rfl) _ _ rfl (g+1) (by rfl) _ _ _ (fun w' hSw=>iw.out.2.1.ε hSw (fun e=>e)) underlying191 rfl (by rw[HX.out.2.1];kernel_rfl)) ?_
 refine ξ 4 ?_;refine aY 5 (fun K hK=>?_);go_simp
 refine(HT.out _).mono ?_;rintro e w4 ⟨rfl,ag⟩;have dh:=aC.then ag φ;refine hK.out _ _ dh ?_;clear hK ag;refine aY 6 (fun K hK=>?_);go_simp
 refine(HE.out _).mono ?_;rintro e w5 ⟨rfl,av⟩;have ig:=dh.then av φ;refine hK.out _ _ ig ?_;clear hK av;refine ξ 7 ?_;refine ξ 8 ?_;refine dF ?_;refine cZ ?_;have Sc:=iw.out.2.1.ε ig (fun e=>e);obtain⟨-,-,-,c3⟩:=aZ.cells Sc;rw[HX.out.1] at c3;have HF:=aj (iw.out.1.ε ig (fun e=>e)) Sc (iw.out.2.2.then ig φ);clear aC dh ig Sc;go_wp2_with (first
  |(refine eL _ g HF.out.1 underlying194 (by rw[bq,HX.out.2.2.2];kernel_rfl) ?_)
  |(refine eL _ (g+1) HF.out.2.1 underlying191 (by rw[HX.out.2.1];kernel_rfl) ?_)
  |(go_at_call 163
    refine(HS.out _).mono ?_;rintro e w6 ⟨rfl,az⟩;have gC:=δ (HF.out.2.2.then az φ);clear az))
 go_ret2
 exact⟨rfl,gC.out⟩
theorem LS (s:ByteArray) (w:World):ς 174 #[.string s] w fun e w'=>∃y,e=ώ (.pointer (some ⟨y,0,none⟩))∧bW (fun _=>False) w w' y ⟨s.data.toList,0,0⟩:=by
 have hX:=δ (bW.start w s);go_enter func174,ntmps174
 go_wp2_with fail
 go_ret
 exact⟨_,rfl,hX.out⟩
theorem byte_at {l:List UInt8} {k R:Nat} (h:k<l.length):(⟨l.drop k,R,0⟩:dW).byte=(l.getD k 0,⟨l.drop (k+1),R+1,0⟩):=by
 rw[ua h,Kt,bJ,bD h];rfl
theorem bW.bP {F G:Nat→Prop} {w0 w w':World} {x:Nat} {i:dW} (h:bW F w0 w x i) (hu:ζ G w w') (hx:¬G x) (hG:∀q,G q→F q∨w0.heap.size≤q):bW F w0 w' x i:=⟨h.blk.ε hu hx,h.new,h.ε.then hu hG⟩
theorem aZ.ahN (x:aZ) (j:Nat) (b:UInt8):x.row.setIfInBounds (4+j) (ϋ (b.toNat:Int))=({ x with tag:=x.tag.set j b } : aZ).row:=by
 unfold aZ.row;rw[jy,Fs _ _ sM];rw[show 4+j - [Value.int .i64 (x.key:Int),.int .u32 (x.μ:Int),ω (x.n:Int),.string (str x.data)].length=j by simp,UY]
theorem acN (K B N:Nat) (D:ByteArray):prog.built 191 [(0,ι (K:Int)),(1,.int .u32 (B:Int)),(2,ω (N:Int)),(3,.string D)]=some (([Value.int .i64 (K:Int),.int .u32 (B:Int),ω (N:Int),.string D]++aK (List.replicate 32 0)).toArray):=kR
theorem agO (x:aZ) (hx:ux x) (s:ByteArray) (hs:s.data.toList=qj x.key x.μ x.n++(bF x.data++x.tag)) (w:World) :
 ς 180 #[.string s] w fun e w'=>e=ώ (.tuple #[.agg x.row,ι 0])∧υ w w':=by
 obtain⟨K,B,N,D,T⟩:=x;have hK:K≤1048576:=hx.key;have hB:B<4294967296:=hx.μ;have hN:N<18446744073709551616:=hx.n;have hD:D.length≤8192:=hx.data;have hT:T.length=32:=hx.tag;simp only at hs
 have s1:=dc (n:=K) oM;have s2:=dc (n:=B) oM;have s3:=dc hN;have s4:=kY (n:=D.length) oM;unfold qj at hs;simp only[dQ] at hs;have m1:(⟨s.data.toList,0,0⟩:dW).most 1048576=(K,⟨aN B++(aN N++(bF D++T)),0+bC K,0⟩):=by rw[hs];exact DA _ _ _ oM hK _
 have m2:(⟨aN B++(aN N++(bF D++T)),0+bC K,0⟩:dW).most 4294967295=(B,⟨aN N++(bF D++T),0+bC K+bC B,0⟩):=DA _ _ _ oM oM _;have m3:=V4 N (0+bC K+bC B) hN (bF D++T);have m4:=F9 D 8192 (0+bC K+bC B+bC N) hD oM T;have ir:(bF D++T).length≤100000:=by rw[aL,iT];omega
 obtain⟨R,hR⟩:=κ (0+bC K+bC B+bC N+(bF D).length);have wQ:R≤100000:=by rw[← hR,iT];omega
 rw[hR] at m4;obtain⟨i0,bx⟩:∃i,(⟨s.data.toList,0,0⟩:dW)=i:=⟨_,rfl⟩;obtain⟨i1,hi1⟩:∃i,(⟨aN B++(aN N++(bF D++T)),0+bC K,0⟩:dW)=i:=⟨_,rfl⟩;obtain⟨i2,hi2⟩:∃i,(⟨aN N++(bF D++T),0+bC K+bC B,0⟩:dW)=i:=⟨_,rfl⟩;obtain⟨i3,IY⟩:∃i,(⟨bF D++T,0+bC K+bC B+bC N,0⟩:dW)=i:=⟨_,rfl⟩;rw[bx,hi1] at m1;rw[hi1,hi2] at m2;rw[hi2,IY] at m3;rw[IY] at m4;have r0:i0.read≤100000000000:=by rw[← bx];exact vL _
 have r1:i1.read≤100000000000:=by rw[← hi1];show 0+bC K≤_;omega
 have r2:i2.read≤100000000000:=by rw[← hi2];show 0+bC K+bC B≤_;omega
 have r3:i3.read≤100000000000:=by rw[← IY];show 0+bC K+bC B+bC N≤_;omega
 have r4:i3.rest.length≤100000:=by rw[← IY];exact ir
 have c0:=fun W=>LS s W
 rw[bx] at c0;have c1:∀(W W':World) (y:Nat),bW (fun _=>False) W W' y i0→ς 176 #[.pointer (some ⟨y,0,none⟩),ι 1048576] W' fun en w'=>en=ώ (ι (K:Int))∧bW (fun _=>False) W w' y i1:=by
  intro W W' y h;have:=DU h 1048576 oM r0;rw[m1] at this;exact this
 have c2:∀(W W':World) (y:Nat),bW (fun _=>False) W W' y i1→ς 176 #[.pointer (some ⟨y,0,none⟩),ι 4294967295] W' fun en w'=>en=ώ (ι (B:Int))∧bW (fun _=>False) W w' y i2:=by
  intro W W' y h;have:=DU h 4294967295 oM r1;rw[m2] at this;exact this
 have c3:∀(W W':World) (y:Nat),bW (fun _=>False) W W' y i2→ς 175 #[.pointer (some ⟨y,0,none⟩)] W' fun en w'=>en=ώ (ω (N:Int))∧bW (fun _=>False) W w' y i3:=by
  intro W W' y h;have:=Xa h r2;rw[m3] at this;exact this
 obtain⟨S,hS⟩:=κ (str D);have c4:∀(W W':World) (y:Nat),bW (fun _=>False) W W' y i3→ς 177 #[.pointer (some ⟨y,0,none⟩),ι 8192] W' fun en w'=>en=ώ (.string S)∧bW (fun _=>False) W w' y ⟨T,R,0⟩:=by
  intro W W' y h;have:=Gj h 8192 oM r3 r4;rw[m4,hS] at this;exact this
 have hrow:∀t,aZ.row ⟨K,B,N,D,t⟩=([Value.int .i64 (K:Int),.int .u32 (B:Int),ω (N:Int),.string S]++aK t).toArray:=by intro t;rw[← hS];rfl
 have jV:=acN K B N S;rw[← hrow] at jV;have ER:=δ c0;have Sd:=δ c1;have Se:=δ c2;have Sf:=δ c3;have HC4:=δ c4;have Sb:=δ jV;have HX:=τ hT wQ;have eB:IntKind.u32.wrap (B:Int)=(B:Int):=by simp only[IntKind.wrap,IntKind.bits,IntKind.signed];simp;omega
 clear c0 c1 c2 c3 c4 jV hx hs s1 s2 s3 s4 m1 m2 m3 m4 ir hR bx hi1 hi2 IY r0 r1 r2 r3 r4 hK hB hN hD hT wQ hrow hS;obtain⟨g,hg⟩:=κ w.heap.size;have HG:=δ hg;go_enter func180,ntmps180
 go_upto_region 1 with (fail)
 generalize aH:World.alloc _ _=w2;have hr2:η w2 g 191 (aZ.row ⟨0,0,0,[],List.replicate 32 0⟩):=by rw[← aH,← hg];exact η.new w _ _
 have π:υ w w2:=by rw[← aH];exact(ζ.refl _ w).alloc _
 have aU:=τ hr2 π;clear hr2 π aH hg;go_upto_region 2 with (first
  |(go_at_call 174
    refine(ER.out _).mono ?_;rintro e w3 ⟨y,rfl,h3⟩;have H3:=δ h3;clear h3))
 go_upto_region 3 with (first
  |(go_at_call 176
    refine(Sd.out _ _ _ H3.out).mono ?_;rintro e w4 ⟨rfl,h4⟩;have H4:=δ h4;clear h4;go_wp2_with fail
    refine(Se.out _ _ _ H4.out).mono ?_;rintro e w5 ⟨rfl,h5⟩;have H5:=δ h5;clear h5)
  |(go_at_call 175
    refine(Sf.out _ _ _ H5.out).mono ?_;rintro e w6 ⟨rfl,h6⟩;have H6:=δ h6;clear h6)
  |(go_at_call 177
    refine(HC4.out _ _ _ H6.out).mono ?_;rintro e w7 ⟨rfl,h7⟩;have H7:=δ h7;clear h7)
  |(refine qf rfl _ _ rfl [(0,ι (K:Int)),(1,.int .u32 (B:Int)),(2,ω (N:Int)),(3,.string S)] _ kR Sb.out ?_)
  |(refine fk rfl 191 _ _ rfl w7.heap.size (aZ.row ⟨K,B,N,D,List.replicate 32 0⟩) rfl rfl 191 _ (η.new w7 _ _) (by rw[aZ.ql fG];rfl) (aZ.row_one _) (by rw[aZ.ql fG];kernel_rfl) ?_
    intro w8 jc cC kC))
 have ym:υ w7 w8:=((ζ.refl (fun _=>False) w7).alloc _).then cC (fun b hb=>.inr oM);obtain⟨q,hq⟩:=κ w7.heap.size;rw[hq] at jc ⊢;have h8:bW (fun _=>False) w2 w8 y ⟨T,R,0⟩:=H7.out.still ym;have i7:w2.heap.size≤q:=by have:=H7.out.ε.size;omega
 have hqg:g<w2.heap.size:=aU.out.1.lt;have gV:=aD h8 jc i7 hqg;clear cC kC ym hq jc h8 i7 hqg eB;go_wp2_with fail
 go_loopw [6,20] (fun _ u wr=>∃k:Nat,k≤32∧u=ι (k:Int)∧bW (fun _=>False) w2 wr y ⟨T.drop k,R+k,0⟩∧η wr q 191 (aZ.row ⟨K,B,N,D,nA (fun i=>T.getD i 0) (List.replicate 32 0) k⟩)) (fun _ u _=>32 - (intOf u).toNat)
 case atStart=>exact⟨0,oM,rfl,gV.out.1,gV.out.2.1⟩
 case round =>
  obtain⟨k,hk,rfl,hI,hB⟩:=hrel;by_cases hlt:k<32
  ·have hby:=KU hI.here (by have:=HX.out.2;show R+k≤_;omega)
   rw[byte_at (by rw[HX.out.1];exact hlt)] at hby;have hst:=FK (fun i=>T.getD i 0) (List.replicate 32 0) k (by rw[fG];exact hlt);obtain⟨b,hb⟩:=κ (T.getD k 0);rw[hb] at hby;simp only[hb] at hst;have kN:=δ hby;have hqy:q≠y:=fun e=>absurd rfl (hB.zP (e ▸ hI.blk) dC)
   have HB:=aD hI hB hst hqy;have j1:(k:Int)<32:=oM;clear hby hI hB hb hst hqy;go_wp2_with (first
    |(go_at_call 178
      refine kN.out.mono ?_;rintro e wb ⟨rfl,hb⟩;have ES:=τ (HB.out.1.back hb) (HB.out.2.1.ε hb.ε HB.out.2.2.2);clear hb)
    |(refine gw rfl 5 _ _ rfl q (4+k) (ϋ (b.toNat:Int)) rfl rfl _ _ ES.out.2 (by rw[aZ.ql (by show (nA _ _ _).length=32;rw[FU _ _ _ (by rw[fG];omega),fG])];omega) rfl kR ?_
      intro wc kQ mU yx))
   go_roundw
   case rel =>
    refine⟨k+1,oM,by go_num,ES.out.1.bP mU (fun e=>HB.out.2.2.2 e.symm) (fun q' e=>.inr (by have e2:q'=q:=e;have:=gV.out.2.2.1;omega)),?_⟩;rw[aZ.ahN,HB.out.2.2.1] at kQ;exact kQ
   case measure=>simp[intOf]<;>omega
  ·obtain rfl:k=32:=oM
   have e32:((32:Nat):Int)=32:=rfl;rw[e32];have hT0:T.drop 32=[]:=pN (by rw[HX.out.1];decide)
   rw[hT0] at hI;have MN:nA (fun i=>T.getD i 0) (List.replicate 32 0) 32=T:=by
    rw[FV _ _ 32 fG];refine Ue (by rw[bp,uh,HX.out.1]) fun i h1 h2=>?_
    rw[J0,ND,bJ,bD h2];rfl
   rw[MN] at hB;have wU:=Li hI;have IZ:=δ wU;have HB:=τ hB (aU.out.2.then hI.ε φ);have MO:=δ (aU.out.1.ε hI.ε (fun e=>e));have HQ:=δ (show q≠g by have:=gV.out.2.2;omega);have HZ:=δ (aZ.ql (x:=⟨K,B,N,D,T⟩) HX.out.1);clear hI hB e32 hlt hk wU hT0 MN;go_wp2_with (first
    |(go_at_call 179
      refine IZ.out.mono ?_;rintro e w9 ⟨rfl,eC⟩;have mV:=aj (HB.out.1.ε eC (fun e=>e)) (MO.out.ε eC (fun e=>e)) (HB.out.2.then eC φ);clear eC)
    |(refine eL _ q mV.out.1 underlying191 (by rw[HZ.out];kernel_rfl) ?_)
    |(refine fk rfl 191 _ _ rfl g (aZ.row ⟨K,B,N,D,T⟩) rfl rfl _ _ mV.out.2.1 (by rw[HZ.out];rfl) (aZ.row_one _) (by rw[HZ.out];kernel_rfl) ?_
      intro w10 mJ eT zC))
   refine cy (iR rfl _ _ g _ _ _ _ rfl mJ underlying191 rfl (by rw[HZ.out];kernel_rfl) (ι 0) rfl) rfl ⟨rfl,mV.out.2.2.then eT (fun b hb=>.inr (by have e2:b=g:=hb;have:=HG.out;omega))⟩
def opsV (l:List cT):List Value:=l.flatMap bU
theorem afk (l:List cT) (i:Nat) (hi:i<l.length) (j:Nat) (v:Value) (hv:(bU l[i])[j]? = some v):(opsV l)[i*3+j]? = some v:=by
 induction l generalizing i with
 | nil=>simp at hi
 | cons o r ih =>
   have e:opsV (o::r)=bU o++opsV r:=rfl;have h3:(bU o).length=3:=rfl;cases i with
   | zero =>
     have hj:j<3:=by
      rcases Fp j 3 with h | h
      ·exact h
      ·rw[nh (by simpa [bU] using h)] at hv
       cases hv
     rw[e,pL oM];simpa using hv
   | succ i =>
     rw[e,lM oM];have e2:(i+1)*3+j - (bU o).length=i*3+j:=oM;rw[e2];exact ih i (by simpa using hi) (by simpa using hv)
theorem uw.jK {w:World} {g cap:Nat} {l:List cT} (h:Own w 32 3 (.slice (some ⟨g,0,none⟩) l.length cap) l.length (opsV l)):uw w g 0 l:=by
 intro i hi j v hv;have h1:=afk l i hi j v hv;have hj:j<3:=by
  rcases Fp j 3 with h | h
  ·exact h
  ·rw[nh (by simpa [bU] using h)] at hv
   cases hv
 have h2:=h.cellAt (i*3+j) oM;rw[kU,h2,h1]
theorem adN (o:cT) (r:List cT):iX (o::r)=o.kind::(bF o.path++((if o.kind=1 then bF o.value else [])++iX r)):=by
 unfold iX;rw[xx];unfold yf;simp[List.append_assoc]
theorem PN:(prog.info? 32).map (fun i=>(i.zero,i.size,i.bytes))=some (some (.agg #[ϋ 0,.string ByteArray.empty,.string ByteArray.empty]),3,40):=kR
theorem Zf {P:Prop} (h:P:=by
 refine h0.bP K9 (fun e=>?_) (fun q e=>?_)
 ·rcases e with e | e
  ·have:=HK.out.2.1 y e;have:=lW.out.1;omega
  ·exact H6.out.2.2.2 e.symm
 ·rcases e with e | e
  ·exact .inr (HK.out.2.1 q e)
  ·exact .inl (.inr e)):P:=h
theorem agP {l:List cT} {i ep:Nat} (fB:ep≤9223372036854775807) (eA:d_ i ep l=0) (s:ByteArray) (hs:s.data.toList=xQ i ep l) (w:World) :
 ς 126 #[.string s] w fun e w'=>∃v,e=ώ (.tuple #[.agg (lP i ep v),ι 0])∧Own w' 32 3 v l.length (opsV l)∧(∀q,v.ownBlock=some q→w.heap.size≤q)∧υ w w':=by
 obtain⟨b1,b2,b3,b4,b5⟩:=sP eA;have s1:=dc (n:=i) oM;have s2:=dc (n:=ep) oM;have s3:=kY (n:=l.length) oM;unfold xQ at hs;have m1:(⟨s.data.toList,0,0⟩:dW).most 4611686018427387904=(i,⟨aN ep++(aN l.length++iX l),0+bC i,0⟩):=by rw[hs];exact DA _ _ _ oM oM _
 have m2:(⟨aN ep++(aN l.length++iX l),0+bC i,0⟩:dW).most 9223372036854775807=(ep,⟨aN l.length++iX l,0+bC i+bC ep,0⟩):=DA _ _ _ oM fB _;have m3:(⟨aN l.length++iX l,0+bC i+bC ep,0⟩:dW).most 4=(l.length,⟨iX l,0+bC i+bC ep+bC l.length,0⟩):=DA _ _ _ oM b4 _;obtain⟨R,hR⟩:=κ (0+bC i+bC ep+bC l.length);have wQ:R≤100:=oM;rw[hR] at m3;obtain⟨i0,bx⟩:∃i,(⟨s.data.toList,0,0⟩:dW)=i:=⟨_,rfl⟩;obtain⟨i1,hi1⟩:∃x,(⟨aN ep++(aN l.length++iX l),0+bC i,0⟩:dW)=x:=⟨_,rfl⟩;obtain⟨i2,hi2⟩:∃x,(⟨aN l.length++iX l,0+bC i+bC ep,0⟩:dW)=x:=⟨_,rfl⟩;rw[bx,hi1] at m1;rw[hi1,hi2] at m2;rw[hi2] at m3;have r0:i0.read≤100000000000:=by rw[← bx];exact vL _
 have r1:i1.read≤100000000000:=by rw[← hi1];show 0+bC i≤_;omega
 have r2:i2.read≤100000000000:=by rw[← hi2];show 0+bC i+bC ep≤_;omega
 have c0:=fun W=>LS s W
 rw[bx] at c0;have c1:∀(W W':World) (y:Nat),bW (fun _=>False) W W' y i0→ς 176 #[.pointer (some ⟨y,0,none⟩),ι 4611686018427387904] W' fun en w'=>en=ώ (ι (i:Int))∧bW (fun _=>False) W w' y i1:=by
  intro W W' y h;have:=DU h 4611686018427387904 oM r0;rw[m1] at this;exact this
 have c2:∀(W W':World) (y:Nat),bW (fun _=>False) W W' y i1→ς 176 #[.pointer (some ⟨y,0,none⟩),ι 9223372036854775807] W' fun en w'=>en=ώ (ι (ep:Int))∧bW (fun _=>False) W w' y i2:=by
  intro W W' y h;have:=DU h 9223372036854775807 oM r1;rw[m2] at this;exact this
 have c3:∀(F:Nat→Prop) (W W':World) (y:Nat),bW F W W' y i2→ς 176 #[.pointer (some ⟨y,0,none⟩),ι 4] W' fun en w'=>en=ώ (ι (l.length:Int))∧bW F W w' y ⟨iX l,R,0⟩:=by
  intro F W W' y h;have:=DU h 4 oM r2;rw[m3] at this;exact this
 have ER:=δ c0;have Sd:=δ c1;have Se:=δ c2;have Sf:=δ c3;have HX:=aD b4 b5 wQ eA;have l4:(l.length:Int)≤4:=oM;clear c0 c1 c2 c3 hs s1 s2 s3 m1 m2 m3 hR bx hi1 hi2 r0 r1 r2 b1 b2 b3 b4 b5 wQ eA;obtain⟨g,hg⟩:=κ w.heap.size;have HG:=δ hg;go_enter func126,ntmps126
 go_upto_region 1 with (fail)
 generalize aH:World.alloc _ _=w2;have hr2:η w2 g 35 (lP 0 0 (.slice none 0 0)):=by rw[← aH,← hg];exact η.new w _ _
 have π:υ w w2:=by rw[← aH];exact(ζ.refl _ w).alloc _
 have aU:=τ hr2 π;clear hr2 π aH hg;go_upto_region 2 with (first
  |(go_at_call 174
    refine(ER.out _).mono ?_;rintro e w3 ⟨y,rfl,h3⟩;have H3:=δ h3;clear h3))
 go_wp2_with fail
 refine(Sd.out _ _ _ H3.out).mono ?_;rintro e w4 ⟨rfl,h4⟩;have H4:=δ h4;clear h4;go_wp2_with fail
 refine(Se.out _ _ _ H4.out).mono ?_;rintro e w5 ⟨rfl,h5⟩;have H5:=δ h5;clear h5;obtain⟨c,hc⟩:=κ w5.heap.size;go_upto_region 3 with (fail)
 generalize MF:World.alloc _ _=w6;have cI:η w6 c 35 (lP i ep (.slice none 0 0)):=by rw[← MF,← hc];exact η.new w5 _ _
 have h6:bW (fun _=>False) w2 w6 y i2:=by rw[← MF];exact H5.out.still ((ζ.refl _ w5).alloc _)
 have I0:w2.heap.size≤c∧c≠y:=⟨by rw[← hc];exact H5.out.ε.size,by have:=H5.out.blk.lt;omega⟩;have H6:=aj cI h6 I0;clear cI h6 I0 MF hc;go_wp2_with fail
 refine(Sf.out _ _ _ _ H6.out.2.1.here).mono ?_;rintro e w7 ⟨rfl,h7⟩;have dG:=H6.out.1.ε h7.ε H6.out.2.2.2;have bK:υ w w7:=aU.out.2.then (H6.out.2.1.back h7).ε φ;have lW:=aD h7.blk.lt dG.lt bK (aU.out.1.ε (H6.out.2.1.back h7).ε (fun e=>e));have H7:=τ h7 dG;clear h7 dG bK;go_wp2_with fail
 go_loopw [6,7,8,9] (fun n _ _ _ wr=>∃(k r:Nat) (v:Value),k≤l.length∧n=ι ((l.length - k:Nat):Int)∧r≤100+100*k∧bW (fun q=>q=y∨q=c) w7 wr y ⟨iX (l.drop k),r,0⟩∧η wr c 35 (lP i ep v)∧Own wr 32 3 v k (opsV (l.take k))∧(∀q,v.ownBlock=some q→w7.heap.size≤q)) (fun n _ _ _ _=>(intOf n).toNat)
 case atStart=>exact⟨0,R,.slice none 0 0,oM,sM,by have:=HX.out.2.2.1;omega,⟨H7.out.1.blk,.inl (.inl rfl),ζ.refl _ _⟩,H7.out.2,Own.nil _ _ _,by simp[Value.ownBlock]⟩
 case round =>
  obtain⟨k,r,v,hk,rfl,hr,hI,hB,hO,hv⟩:=hrel;by_cases hlt:k<l.length
  ·have mc:=HX.out.2.1 _ (eM hlt)
   have dn:opsV (l.take (k+1))=opsV (l.take k)++bU l[k]:=by
    rw[gX hlt];unfold opsV;rw[vJ];simp
   rw[ua hlt,adN] at hI;obtain⟨rest,qR⟩:∃r,iX (l.drop (k+1))=r:=⟨_,rfl⟩;have hrl:rest.length≤280:=by
    rw[← qR];have:=OX (l:=l.drop (k+1)) (fun o ho=>HX.out.2.1 o (Dr ho));rw[gM] at this;have:=HX.out.1;omega
   obtain⟨o,ho⟩:=κ (l[k]);rw[ho] at mc dn hI;rw[qR] at hI;obtain⟨x1,-,x3,x4,x5⟩:=Be mc;obtain⟨Kb,P,V⟩:=o;simp only at x1 x3 x4 x5 hI
   have iM:(str P).size≤33:=by rw[bf];exact x3
   have Ai:=kY (n:=P.length) oM;have I1:=kY (n:=V.length) oM;have j1:(0:Int)<((l.length - k:Nat):Int):=oM;obtain⟨n,hn⟩:∃n:Nat,l.length - k=n:=⟨_,rfl⟩;rw[hn] at j1;obtain⟨M,hM⟩:=κ ((if Kb=1 then bF V else [])++rest);rw[hM] at hI;have mj:M.length≤330:=by
    rw[← hM,aL];split
    ·rw[iT];omega
    ·simp;omega
   have hM1:Kb=1→M=bF V++rest:=fun e=>by rw[← hM,σ e]
   have hM2:Kb=2→M=rest:=fun e=>by rw[← hM,ν (by rw[e];decide)];rfl
   have HM:=aj hM1 hM2 mj;have HN:=cx hn hr hrl qR dn;have HK:=aj hO hv hB;have HI:=δ hI;have HS:=aD x3 x4 Ai I1;have p9:=δ x5;have nle:(n:Int)≤4:=oM;have hcv:=hB.fP;clear hM hM1 hM2 mj hI hB hO hv qR hrl dn mc ho hr x3 x4 x5 iM Ai I1 hcv;rw[hn];clear hn;rcases x1 with rfl | rfl
   ·have hby:=KU HI.out.here (by have:=HN.out.2.1;show r≤_;omega)
    rw[Kt] at hby;have kN:=δ hby;clear hby;go_wp2_with fail
    refine kN.out.mono ?_;rintro e w8 ⟨rfl,h8⟩;have U8:=h8.ε;have gV:=aj (HK.out.1.ε U8 (fun q hq e=>by have:=HK.out.2.1 q hq;have:=lW.out.1;have e2:q=y:=e;omega)) (HK.out.2.2.ε U8 H6.out.2.2.2) (HI.out.back h8);clear h8 U8;obtain⟨d,hd⟩:=κ w8.heap.size;have HD:=δ hd;go_upto_region 7 with (fail)
    generalize CA:World.alloc _ _=w9;have cW:η w9 d 32 #[ϋ 1,.string ⟨#[]⟩,.string ⟨#[]⟩]:=by rw[← CA,← hd];exact η.new w8 _ _
    have U9:υ w8 w9:=by rw[← CA];exact(ζ.refl _ w8).alloc _
    have hdb:w7.heap.size≤d:=by rw[← hd];exact gV.out.2.2.ε.size
    have Aj:∀q,v.ownBlock=some q→q<d:=fun q hq=>by rw[← hd];exact gV.out.1.lt hq
    have mV:=aD (gV.out.1.ε U9 (fun _ _ e=>e)) (gV.out.2.1.ε U9 (fun e=>e)) (gV.out.2.2.still U9) cW;have oA:=τ hdb Aj;clear CA cW U9 hd hdb Aj;go_wp2_with fail
    refine(Pj mV.out.2.2.1).mono ?_;rintro e w10 ⟨nf,rfl,eT⟩;have r8:=aD (mV.out.1.ε eT (fun _ _ e=>e)) (mV.out.2.1.ε eT (fun e=>e)) (mV.out.2.2.1.still eT) (mV.out.2.2.2.ε eT (fun e=>e));have hz:(⟨bF P++M,r+1,0⟩:dW).fail=0:=rfl;obtain⟨c0,c1,c2⟩:=r8.out.2.2.2.fP;clear eT;go_upto_region 12 with (fail)
    have mq:=Gj r8.out.2.2.1.here 33 oM (by have:=HN.out.2.1;show r+1≤_;omega) (by
     show (_:List UInt8).length≤_;have:=HM.out.2.2;have:=HS.out;rw[aL,iT];omega)
    rw[F9 P 33 (r+1) HS.out.1 (oN HS.out.1)] at mq;have I2:=δ mq;clear mq hz;go_wp2_with fail
    refine I2.out.mono ?_;rintro e w11 ⟨rfl,h11⟩;have u9:d≠y:=by have:=oA.out.1;have:=lW.out.1;omega
    have hdc:d≠c:=by have:=oA.out.1;have:=lW.out.2.1;omega
    have xY:=aD (r8.out.1.ε h11.ε (fun q hq e=>by have:=HK.out.2.1 q hq;have:=lW.out.1;have e2:q=y:=e;omega)) (r8.out.2.1.ε h11.ε H6.out.2.2.2) (r8.out.2.2.1.back h11) (r8.out.2.2.2.ε h11.ε u9);have qB:=τ u9 hdc;obtain⟨S,hS⟩:=κ (str P);rw[hS];have fD:=δ hS;clear h11 c0 c1 c2 u9 hdc hS I2;go_upto_region 13 with (first
     |(refine gw rfl 9 _ _ rfl d 1 (.string S) rfl rfl _ _ xY.out.2.2.2 dC rfl kR ?_
       intro w12 oY gT BX))
    have BJ:η w12 d 32 #[ϋ 1,.string S,.string ⟨#[]⟩]:=oY;have zD:=aD (xY.out.1.ε gT (fun q hq e=>by have:=oA.out.2 q hq;have e2:q=d:=e;omega)) (xY.out.2.1.ε gT (fun e=>qB.out.2 e.symm)) (xY.out.2.2.1.bP gT (fun e=>qB.out.1 e.symm) (fun q e=>.inr (by have e2:q=d:=e;have:=oA.out.1;omega))) BJ;obtain⟨c0,c1,c2⟩:=BJ.fP;clear oY gT BX BJ;have Sg:=Gj zD.out.2.2.1.here 32 oM (by have:=HN.out.2.1;have:=HS.out;show r+1+(bF P).length≤_;rw[iT];omega) (by
     exact iE HM.out.2.2 oM)
    rw[show M=bF V++rest by simpa using HM.out.1,F9 V 32 _ HS.out.2.1 (oN HS.out.2.1)] at Sg;have HTV:=δ Sg;clear Sg;go_wp2_with fail
    refine HTV.out.mono ?_;rintro e w13 ⟨rfl,h13⟩;have El:=aD (zD.out.1.ε h13.ε (fun q hq e=>by have:=HK.out.2.1 q hq;have:=lW.out.1;have e2:q=y:=e;omega)) (zD.out.2.1.ε h13.ε H6.out.2.2.2) (zD.out.2.2.1.back h13) (zD.out.2.2.2.ε h13.ε qB.out.1);obtain⟨T,hT⟩:∃S,str V=S:=⟨_,rfl⟩;rw[hT];have Ip:=δ hT;clear h13 c0 c1 hT HTV;have c2:w13.cell? ⟨d,2,none⟩=some (.string ⟨#[]⟩):=El.out.2.2.2.cell 2;have fz:=El.out.2.2.2.frozen 2;go_upto_region 15 with (fail)
    generalize QI:World.setCell _ _ _=w14;have XW:η w14 d 32 #[ϋ 1,.string S,.string T]:=by rw[← QI];exact El.out.2.2.2.bE 2 _
    have jA:ζ (· = d) w13 w14:=by rw[← QI];exact(ζ.refl (· = d) w13).setCell (p:=⟨d,2,none⟩) (.inl rfl) _
    have qv:=aD (El.out.1.ε jA (fun q hq e=>by have:=oA.out.2 q hq;have e2:q=d:=e;omega)) (El.out.2.1.ε jA (fun e=>qB.out.2 e.symm)) (El.out.2.2.1.bP jA (fun e=>qB.out.1 e.symm) (fun q e=>.inr (by have e2:q=d:=e;have:=oA.out.1;omega))) XW;clear QI jA XW c2 fz;obtain⟨A,cap,rfl,-,-⟩:=qv.out.1.shape;have kQ:η w14 c 35 #[ι (i:Int),ι (ep:Int),.slice A k cap]:=qv.out.2.1;obtain⟨d0,d1,d2⟩:=kQ.fP;obtain⟨c0,c1,c2⟩:=qv.out.2.2.2.fP;obtain⟨ti,bx,bN,bG,aT⟩:=je PN;have nN:k≤4:=by have:=HX.out.1;omega
    obtain⟨z,hz⟩:=κ w14.heap.size;have HZ:=δ hz;clear kQ hz;go_wp2_with (first
     |(at_builtin;refine jH rfl _ _ _ _ rfl 32 ti _ 3 40 underlying33 bx bN bG aT rfl (.slice A k cap) k _ rfl (qv.out.1.alloc _) _ 1 [_,_,_] rfl (Src.qN underlying33 _ rfl) (by simp[Value.oneCell']) (by unfold maxLen;omega) oM ?_;intro v2 w15 r9 nJ uG wD
       have xZ:η w15 c 35 #[ι (i:Int),ι (ep:Int),.slice A k cap]:=η.ε (qv.out.2.1.alloc _) nJ (fun hq=>by have:=HK.out.2.1 c hq;have:=lW.out.2.1;omega);obtain⟨g2,eY,rfl,-,-⟩:=r9.head oM;have e2:w15.cell? ⟨c,2,none⟩=some (.slice A k cap):=xZ.cell 2;have ET:=xZ.frozen 2))
    generalize BZ:World.setCell _ _ _=w16;have Qd:w7.heap.size≤w14.heap.size:=qv.out.2.2.1.ε.size;have G3:η w16 c 35 (lP i ep (.slice (some ⟨g2,0,none⟩) (k+1) eY)):=by rw[← BZ];exact xZ.bE 2 _
    have B0:ζ (· = c) w15 w16:=by rw[← BZ];exact(ζ.refl (· = c) w15).setCell (p:=⟨c,2,none⟩) (.inl rfl) _
    have wZ:w7.heap.size≤g2:=by
     rcases uG with e | e
     ·exact HK.out.2.1 g2 (by rw[← e];rfl)
     ·have e2:some g2=some _:=e
      have:=dw e2;rw[cM] at this;omega
    have G4:=r9.ε B0 (fun q hq e=>by have e2:some g2=some q:=hq;have:=dw e2;have e3:q=c:=e;have:=lW.out.2.1;omega);have K9:ζ (fun q=>(Value.slice A k cap).ownBlock=some q∨q=c) w14 w16:=((((ζ.refl _ w14).alloc _).then nJ (fun q e=>.inl (.inl e))).then B0 (fun q e=>.inl (.inr e)));have G5:bW (fun q=>q=y∨q=c) w7 w16 y ⟨rest,r+1+(bF P).length+(bF V).length,0⟩:=by
     have h0:=qv.out.2.2.1;exact Zf
    have x8:=aD G3 G4 G5 wZ;clear BZ G3 B0 G4 G5 wZ Qd K9 r9 nJ uG wD xZ e2 ET d0 d1 d2 c0 c1 c2 bx bN bG aT;go_wp2_with fail
    go_roundw
    case rel =>
     refine⟨k+1,r+1+(bF P).length+(bF V).length,_,oM,?_,?_,?_,x8.out.1,?_,fun q hq=>by have e2:some g2=some q:=hq;have:=dw e2;have:=x8.out.2.2.2;omega⟩
     ·have:=HN.out.1
      congr 1
      omega
     ·have:=HN.out.2.1
      have:=HS.out;simp only[iT];omega
     ·rw[HN.out.2.2.2.1];exact x8.out.2.2.1
     ·rw[HN.out.2.2.2.2]
      have:=x8.out.2.1;rw[← fD.out,← Ip.out] at this;exact this
    case measure=>simp[intOf]<;>omega
   ·have hby:=KU HI.out.here (by have:=HN.out.2.1;show r≤_;omega)
    rw[Kt] at hby;have kN:=δ hby;clear hby;go_wp2_with fail
    refine kN.out.mono ?_;rintro e w8 ⟨rfl,h8⟩;have U8:=h8.ε;have gV:=aj (HK.out.1.ε U8 (fun q hq e=>by have:=HK.out.2.1 q hq;have:=lW.out.1;have e2:q=y:=e;omega)) (HK.out.2.2.ε U8 H6.out.2.2.2) (HI.out.back h8);clear h8 U8;obtain⟨d,hd⟩:=κ w8.heap.size;have HD:=δ hd;go_upto_region 7 with (fail)
    generalize CA:World.alloc _ _=w9;have cW:η w9 d 32 #[ϋ 2,.string ⟨#[]⟩,.string ⟨#[]⟩]:=by rw[← CA,← hd];exact η.new w8 _ _
    have U9:υ w8 w9:=by rw[← CA];exact(ζ.refl _ w8).alloc _
    have hdb:w7.heap.size≤d:=by rw[← hd];exact gV.out.2.2.ε.size
    have Aj:∀q,v.ownBlock=some q→q<d:=fun q hq=>by rw[← hd];exact gV.out.1.lt hq
    have mV:=aD (gV.out.1.ε U9 (fun _ _ e=>e)) (gV.out.2.1.ε U9 (fun e=>e)) (gV.out.2.2.still U9) cW;have oA:=τ hdb Aj;clear CA cW U9 hd hdb Aj;go_wp2_with fail
    refine(Pj mV.out.2.2.1).mono ?_;rintro e w10 ⟨nf,rfl,eT⟩;have r8:=aD (mV.out.1.ε eT (fun _ _ e=>e)) (mV.out.2.1.ε eT (fun e=>e)) (mV.out.2.2.1.still eT) (mV.out.2.2.2.ε eT (fun e=>e));have hz:(⟨bF P++M,r+1,0⟩:dW).fail=0:=rfl;obtain⟨c0,c1,c2⟩:=r8.out.2.2.2.fP;clear eT;go_upto_region 12 with (fail)
    have mq:=Gj r8.out.2.2.1.here 33 oM (by have:=HN.out.2.1;show r+1≤_;omega) (by
     show (_:List UInt8).length≤_;have:=HM.out.2.2;have:=HS.out;rw[aL,iT];omega)
    rw[F9 P 33 (r+1) HS.out.1 (oN HS.out.1)] at mq;have I2:=δ mq;clear mq hz;go_wp2_with fail
    refine I2.out.mono ?_;rintro e w11 ⟨rfl,h11⟩;have u9:d≠y:=by have:=oA.out.1;have:=lW.out.1;omega
    have hdc:d≠c:=by have:=oA.out.1;have:=lW.out.2.1;omega
    have xY:=aD (r8.out.1.ε h11.ε (fun q hq e=>by have:=HK.out.2.1 q hq;have:=lW.out.1;have e2:q=y:=e;omega)) (r8.out.2.1.ε h11.ε H6.out.2.2.2) (r8.out.2.2.1.back h11) (r8.out.2.2.2.ε h11.ε u9);have qB:=τ u9 hdc;obtain⟨S,hS⟩:=κ (str P);rw[hS];have fD:=δ hS;clear h11 c0 c1 c2 u9 hdc hS I2;go_upto_region 13 with (first
     |(refine gw rfl 9 _ _ rfl d 1 (.string S) rfl rfl _ _ xY.out.2.2.2 dC rfl kR ?_
       intro w12 oY gT BX))
    have BJ:η w12 d 32 #[ϋ 2,.string S,.string ⟨#[]⟩]:=oY;have zD:=aD (xY.out.1.ε gT (fun q hq e=>by have:=oA.out.2 q hq;have e2:q=d:=e;omega)) (xY.out.2.1.ε gT (fun e=>qB.out.2 e.symm)) (xY.out.2.2.1.bP gT (fun e=>qB.out.1 e.symm) (fun q e=>.inr (by have e2:q=d:=e;have:=oA.out.1;omega))) BJ;obtain⟨c0,c1,c2⟩:=BJ.fP;clear oY gT BX BJ;obtain rfl:V=[]:=by simpa using p9.out
    obtain⟨T,hT⟩:∃S,str ([]:List UInt8)=S:=⟨_,rfl⟩;have Ip:=δ hT;have hTe:(⟨#[]⟩:ByteArray)=T:=by rw[← hT];rfl
    rw[hTe] at c2 zD;clear hT hTe;go_upto_region 15 with (fail)
    generalize w12=w14 at *;have qv:=zD;clear c0 c1 c2;obtain⟨A,cap,rfl,-,-⟩:=qv.out.1.shape;have kQ:η w14 c 35 #[ι (i:Int),ι (ep:Int),.slice A k cap]:=qv.out.2.1;obtain⟨d0,d1,d2⟩:=kQ.fP;obtain⟨c0,c1,c2⟩:=qv.out.2.2.2.fP;obtain⟨ti,bx,bN,bG,aT⟩:=je PN;have nN:k≤4:=by have:=HX.out.1;omega
    obtain⟨z,hz⟩:=κ w14.heap.size;have HZ:=δ hz;clear kQ hz;go_wp2_with (first
     |(at_builtin;refine jH rfl _ _ _ _ rfl 32 ti _ 3 40 underlying33 bx bN bG aT rfl (.slice A k cap) k _ rfl (qv.out.1.alloc _) _ 1 [_,_,_] rfl (Src.qN underlying33 _ rfl) (by simp[Value.oneCell']) (by unfold maxLen;omega) oM ?_;intro v2 w15 r9 nJ uG wD
       have xZ:η w15 c 35 #[ι (i:Int),ι (ep:Int),.slice A k cap]:=η.ε (qv.out.2.1.alloc _) nJ (fun hq=>by have:=HK.out.2.1 c hq;have:=lW.out.2.1;omega);obtain⟨g2,eY,rfl,-,-⟩:=r9.head oM;have e2:w15.cell? ⟨c,2,none⟩=some (.slice A k cap):=xZ.cell 2;have ET:=xZ.frozen 2))
    generalize BZ:World.setCell _ _ _=w16;have Qd:w7.heap.size≤w14.heap.size:=qv.out.2.2.1.ε.size;have G3:η w16 c 35 (lP i ep (.slice (some ⟨g2,0,none⟩) (k+1) eY)):=by rw[← BZ];exact xZ.bE 2 _
    have B0:ζ (· = c) w15 w16:=by rw[← BZ];exact(ζ.refl (· = c) w15).setCell (p:=⟨c,2,none⟩) (.inl rfl) _
    have wZ:w7.heap.size≤g2:=by
     rcases uG with e | e
     ·exact HK.out.2.1 g2 (by rw[← e];rfl)
     ·have e2:some g2=some _:=e
      have:=dw e2;rw[cM] at this;omega
    have G4:=r9.ε B0 (fun q hq e=>by have e2:some g2=some q:=hq;have:=dw e2;have e3:q=c:=e;have:=lW.out.2.1;omega);have K9:ζ (fun q=>(Value.slice A k cap).ownBlock=some q∨q=c) w14 w16:=((((ζ.refl _ w14).alloc _).then nJ (fun q e=>.inl (.inl e))).then B0 (fun q e=>.inl (.inr e)));have G5:bW (fun q=>q=y∨q=c) w7 w16 y ⟨rest,r+1+(bF P).length,0⟩:=by
     have h0:=qv.out.2.2.1;rw[show M=rest by simpa using HM.out.2.1] at h0;exact Zf
    have x8:=aD G3 G4 G5 wZ;clear BZ G3 B0 G4 G5 wZ Qd K9 r9 nJ uG wD xZ e2 ET d0 d1 d2 c0 c1 c2 bx bN bG aT;go_wp2_with fail
    go_roundw
    case rel =>
     refine⟨k+1,r+1+(bF P).length,_,oM,?_,?_,?_,x8.out.1,?_,fun q hq=>by have e2:some g2=some q:=hq;have:=dw e2;have:=x8.out.2.2.2;omega⟩
     ·have:=HN.out.1
      congr 1
      omega
     ·have:=HN.out.2.1
      have:=HS.out;simp only[iT];omega
     ·rw[HN.out.2.2.2.1];exact x8.out.2.2.1
     ·rw[HN.out.2.2.2.2]
      have:=x8.out.2.1;rw[← fD.out,← Ip.out] at this;exact this
    case measure=>simp[intOf]<;>omega
  ·obtain rfl:k=l.length:=oM
   have hz:l.length - l.length=0:=oM;rw[hz];rw[pN (bQ _)] at hI;rw[dH (bQ _)] at hO;obtain⟨A,cap,rfl,-,-⟩:=hO.shape;have HI:=δ hI;have HB:=aj hB hO hv;have wU:=Li hI;have IZ:=δ wU;clear hI hB hO hv wU hz hlt hk;go_wp2_with fail
   refine IZ.out.mono ?_;rintro e w8 ⟨rfl,cC⟩;have gV:=aj (HB.out.1.ε cC (fun e=>e)) (HB.out.2.1.ε cC (fun _ _ e=>e)) (HI.out.still cC);have gD:qh l:=fun o ho=>by
    obtain⟨-,-,x3,x4,-⟩:=Be (HX.out.2.1 o ho);exact⟨oM,oM⟩
   obtain⟨b,hb⟩:∃b,0<l.length→A=some ⟨b,0,none⟩:=by
    by_cases h0:0<l.length
    ·obtain⟨b,cp,e,-,-⟩:=gV.out.2.1.head h0
     injection e with e1;exact⟨b,fun _=>e1⟩
    ·exact⟨0,fun h=>absurd h h0⟩
   have hat:∀W,υ w8 W→uw W b 0 l:=fun W hW=>by
    by_cases h0:0<l.length
    ·have h1:=gV.out.2.1.ε hW (fun _ _ e=>e)
     rw[hb h0] at h1;exact uw.jK h1
    ·exact fun j hj=>absurd hj oM
   have eE:=fun W (hW:υ w8 W)=>KE (cap:=cap) (i:=i) (ep:=ep) (w:=W) hb (fun w' h=>hat w' (hW.then h φ)) gD (oN HX.out.1)
   rw[HX.out.2.2.2] at eE;have QJ:=aU.out.1.lt;have zV:g≠c:=by have:=H6.out.2.2.1;omega
   have EU:g≠y:=by
    rcases H5.out.new with e | e
    ·exact e.elim
    ·omega
   have QK:ζ (fun q=>q=y∨q=c) w7 w8:=HI.out.ε.then cC φ;have hg8:=lW.out.2.2.2.ε QK (fun e=>e.elim EU zV);have Zg:υ w w8:=lW.out.2.2.1.then QK (fun q e=>.inr (by
    have aH:=aU.out.2.size;rcases e with e | e
    ·rw[e]
     rcases H5.out.new with e2 | e2
     ·exact e2.elim
     ·omega
    ·rw[e];have:=H6.out.2.2.1;omega))
   have mW:=δ eE;have HG8:=aj hg8 Zg zV;clear eE gD hb hat QJ zV EU QK hg8 Zg cC;have hb0:iX ([]:List cT)=[]:=rfl;rw[hb0];clear hb0;go_wp2_with (first
    |(refine fV _ c gV.out.1 underlying35 ?_)
    |(go_at_call 81
      refine(mW.out _ (ζ.refl _ _)).mono ?_;rintro e w9 ⟨rfl,eC⟩;have mV:=aD (gV.out.1.ε eC (fun e=>e)) (HG8.out.1.ε eC (fun e=>e)) (HG8.out.2.1.then eC φ) (gV.out.2.1.ε eC (fun _ _ e=>e));clear eC)
    |(refine fV _ c mV.out.1 underlying35 ?_)
    |(refine ef 35 g (lP i ep (.slice A l.length cap)) mV.out.2.1 (by simp[lP,Value.oneCell']) ?_
      intro w10 mJ eT zC))
   have hsz:=lW.out.2.2.1.size;refine cy (iR rfl _ _ g _ _ _ _ rfl mJ underlying35 rfl kR (ι 0) rfl) rfl ⟨.slice A l.length cap,rfl,mV.out.2.2.2.ε eT (fun q hq e=>?_),fun q hq=>?_,mV.out.2.2.1.then eT (fun q e=>.inr (by have e2:q=g:=e;have:=HG.out;omega))⟩
   ·have e2:q=g:=e
    have:=HB.out.2.2 q hq;have:=lW.out.2.2.2.lt;omega
   ·have:=HB.out.2.2 q hq
    omega
end
section
open Go
instance:DecidableEq ai:=fun a b=>by unfold ai at *;infer_instance
def jm (k v:List UInt8):List ai→List ai
 | []=>[(k,v)]
 | p::r=>if p.1<k then p::jm k v r else if p.1=k then (k,v)::r else (k,v)::p::r
def qw (k:List UInt8) (l:List ai):List ai:=l.filter fun p=>decide (p.1≠k)
def lq (k:List UInt8) (l:List ai):Option (List UInt8):=(l.find? fun p=>decide (p.1=k)).map (·.2)
def fX (l:List ai):Prop:=l.Pairwise fun a b=>a.1<b.1
theorem zv {a b:List UInt8} (h:a<b):a≠b:=fun e=>List.lt_irrefl b (e ▸ h)
theorem PO (a b:List UInt8):a<b∨a=b∨b<a:=by
 rcases T8 (a<b) with h | h
 ·exact .inl h
 ·rcases T8 (b<a) with h2 | h2
  ·exact .inr (.inr h2)
  ·exact .inr (.inl (List.le_antisymm (List.not_lt.1 h2) (List.not_lt.1 h)))
theorem zb {k v:List UInt8} {l:List ai} (h:fX l) (p:ai):p ∈ jm k v l↔p=(k,v)∨(p ∈ l∧p.1≠k):=by
 induction l with
 | nil=>simp[jm]
 | cons q r ih =>
   have h1:=(xA.1 h).1;have h2:fX r:=(xA.1 h).2;unfold jm;by_cases c1:q.1<k
   ·rw[σ c1,cn,ih h2,cn]
    constructor
    ·rintro (rfl | rfl | ⟨a,b⟩)
     ·exact .inr ⟨.inl rfl,zv c1⟩
     ·exact .inl rfl
     ·exact .inr ⟨.inr a,b⟩
    ·rintro (rfl | ⟨rfl | a,b⟩)
     ·exact .inr (.inl rfl)
     ·exact .inl rfl
     ·exact .inr (.inr ⟨a,b⟩)
   ·rw[ν c1]
    by_cases c2:q.1=k
    ·rw[σ c2,cn,cn]
     constructor
     ·rintro (rfl | a)
      ·exact .inl rfl
      ·exact .inr ⟨.inr a,fun e=>zv (h1 p a) (by rw[c2,e])⟩
     ·rintro (rfl | ⟨rfl | a,b⟩)
      ·exact .inl rfl
      ·exact absurd c2 b
      ·exact .inr a
    ·rw[ν c2,cn,cn]
     have hk:k<q.1:=by
      rcases PO q.1 k with e | e | e
      ·exact absurd e c1
      ·exact absurd e c2
      ·exact e
     constructor
     ·rintro (rfl | rfl | a)
      ·exact .inl rfl
      ·exact .inr ⟨.inl rfl,c2⟩
      ·exact .inr ⟨.inr a,fun e=>zv (List.lt_trans hk (h1 p a)) e.symm⟩
     ·rintro (rfl | ⟨a,b⟩)
      ·exact .inl rfl
      ·exact .inr a
theorem Bh {k v:List UInt8} {l:List ai} (h:fX l):fX (jm k v l):=by
 induction l with
 | nil=>simp[jm,fX]
 | cons q r ih =>
   have h1:=(xA.1 h).1;have h2:fX r:=(xA.1 h).2;unfold jm;by_cases c1:q.1<k
   ·rw[σ c1]
    refine xA.2 ⟨fun p hp=>?_,ih h2⟩;rcases (zb h2 p).1 hp with rfl | ⟨a,-⟩
    ·exact c1
    ·exact h1 p a
   ·rw[ν c1]
    by_cases c2:q.1=k
    ·rw[σ c2]
     exact xA.2 ⟨fun p hp=>by rw[← c2];exact h1 p hp,h2⟩
    ·rw[ν c2]
     have hk:k<q.1:=by
      rcases PO q.1 k with e | e | e
      ·exact absurd e c1
      ·exact absurd e c2
      ·exact e
     refine xA.2 ⟨fun p hp=>?_,h⟩;rcases cn.1 hp with rfl | a
     ·exact hk
     ·exact List.lt_trans hk (h1 p a)
theorem Oi {k:List UInt8} {l:List ai} (h:fX l):fX (qw k l):=List.Pairwise.filter _ h
theorem fX.nodup {l:List ai} (h:fX l):l.Nodup:=List.Pairwise.imp (R:=fun a b:ai=>a.1<b.1) (fun h e=>zv h (aJ Prod.fst e)) h
theorem O_ (k v:List UInt8) (l:List ai):(jm k v l).length≤l.length+1:=by
 induction l with
 | nil=>simp[jm]
 | cons q r ih =>
   unfold jm;split
   ·simp only[eS];omega
   ·split<;>simp only[eS]<;>omega
def s8 (p:ai):ByteArray × Value:=(str p.1,.string (str p.2))
theorem afl {a b:ai} (h:s8 a=s8 b):a=b:=by
 unfold s8 at h;injection h with h1 h2;injection h2 with h2;exact Prod.ext (str_inj h1) (str_inj h2)
def qo (m:List (ByteArray × Value)) (S:List ai):Prop:=m.Perm (S.map s8)
theorem qo.mem {m:List (ByteArray × Value)} {S:List ai} (h:qo m S) (x:ByteArray × Value):x ∈ m↔∃p ∈ S,s8 p=x:=by rw[h.mem_iff,bZ]
theorem acO {S:List ai} (h:S.Nodup):(S.map s8).Nodup:=List.Pairwise.map s8 (fun _ _ hne e=>hne (afl e)) h
theorem qo.bE {m:List (ByteArray × Value)} {S:List ai} (h:qo m S) (hn:(m.map (·.1)).Nodup) (hS:fX S) (k v:List UInt8):qo (lQ m (str k) (.string (str v))) (jm k v S):=by
 have n1:(lQ m (str k) (.string (str v))).Nodup:=by
  unfold lQ;split
  ·refine Du (f:=(·.1)) ?_
   rw[rL];have e:((fun x:ByteArray × Value=>x.1) ∘ fun p:ByteArray × Value=>if p.1=str k then (str k,Value.string (str v)) else p)=(·.1):=by
    funext p
    simp only[Function.comp];split
    ·rename_i h;exact h.symm
    ·rfl
   rw[e];exact hn
  ·rename_i hk
   refine Du (f:=(·.1)) ?_;rw[kG];refine JS.2 ⟨hn,sM,fun a ha b hb=>?_⟩;have:b=str k:=by simpa using hb
   rw[this];rintro rfl;exact hk ha
 refine(List.perm_ext_iff_of_nodup n1 (acO (Bh hS).nodup)).2 fun x=>?_
 rw[bZ];have key:x ∈ lQ m (str k) (.string (str v))↔x=(str k,.string (str v))∨(x ∈ m∧x.1≠str k):=by
  unfold lQ;split
  ·rename_i hk
   rw[bZ];constructor
   ·rintro⟨p,hp,rfl⟩
    split
    ·exact .inl rfl
    ·rename_i h;exact .inr ⟨hp,h⟩
   ·rintro (rfl | ⟨a,b⟩)
    ·obtain⟨p,hp,e⟩:=bZ.1 hk
     exact⟨p,hp,by rw[σ e]⟩
    ·exact⟨x,a,by rw[ν b]⟩
  ·rename_i hk
   rw[nZ,A9];constructor
   ·rintro (a | a)
    ·exact .inr ⟨a,fun e=>hk (bZ.2 ⟨x,a,e⟩)⟩
    ·exact .inl a
   ·rintro (a | ⟨a,-⟩)
    ·exact .inr a
    ·exact .inl a
 rw[key];constructor
 ·rintro (rfl | ⟨a,b⟩)
  ·exact⟨(k,v),(zb hS _).2 (.inl rfl),rfl⟩
  ·obtain⟨p,hp,rfl⟩:=(h.mem x).1 a
   exact⟨p,(zb hS _).2 (.inr ⟨hp,fun e=>b (by unfold s8;rw[e])⟩),rfl⟩
 ·rintro⟨p,hp,rfl⟩
  rcases (zb hS p).1 hp with rfl | ⟨a,b⟩
  ·exact .inl rfl
  ·exact .inr ⟨(h.mem _).2 ⟨p,a,rfl⟩,fun e=>b (str_inj e)⟩
theorem qo.aje {m:List (ByteArray × Value)} {S:List ai} (h:qo m S) (k:List UInt8):qo (nH m (str k)) (qw k S):=by
 unfold qo nH qw;have:=h.filter (fun p=>decide (p.1≠str k));rw[List.filter_map] at this;have e:((fun p:ByteArray × Value=>decide (p.1≠str k)) ∘ s8)=fun p:ai=>decide (p.1≠k):=by
  funext p
  simp only[Function.comp,s8];congr 1
  simp only[ne_eq,eq_iff_iff];exact not_congr ⟨str_inj,fun e=>by rw[e]⟩
 rw[e] at this;exact this
theorem Pa {S:List ai} (hS:fX S) {p:ai} (hp:p ∈ S):lq p.1 S=some p.2:=by
 unfold lq;induction S with
 | nil=>simp at hp
 | cons q r ih =>
   rw[List.find?_cons];by_cases c:q.1=p.1
   ·rw[fe c]
    rcases cn.1 hp with rfl | a
    ·rfl
    ·exact absurd ((xA.1 hS).1 p a) (by rw[c];exact List.lt_irrefl _)
   ·rw[gN c]
    refine ih (xA.1 hS).2 ?_;rcases cn.1 hp with rfl | a
    ·exact absurd rfl c
    ·exact a
theorem OL {S:List ai} {k:List UInt8} (h:∀p ∈ S,p.1≠k):lq k S=none:=by
 unfold lq;have:S.find? (fun p=>decide (p.1=k))=none:=by
  simp only[aaN,dR];exact h
 rw[this];rfl
theorem qo.QL {m:List (ByteArray × Value)} {S:List ai} (h:qo m S) (hn:(m.map (·.1)).Nodup) (hS:fX S) (k:List UInt8):nI m (str k)=(lq k S).map fun v=>Value.string (str v):=by
 by_cases c:∃p ∈ S,p.1=k
 ·obtain⟨p,hp,rfl⟩:=c
  rw[Pa hS hp];obtain⟨j,hj⟩:=AU ((h.mem (s8 p)).2 ⟨p,hp,rfl⟩);exact Ow hn hj
 ·have c':∀p ∈ S,p.1≠k:=fun p hp e=>c ⟨p,hp,e⟩
  rw[OL c'];refine Ox fun x hx e=>?_
  obtain⟨p,hp,rfl⟩:=(h.mem x).1 hx;exact c' p hp (str_inj e)
end
section
open Go Go.RowKit
structure Lp where
 θ:Nat
 aq:Nat
 ahead:Nat
 number:Nat
 all:Nat
 text:List UInt8
 deriving DecidableEq
def Lp.cells (p:Lp):List Value:=[ω p.θ,ω p.aq,ω p.ahead,ι p.number,ι p.all,.string (str p.text)]
def Lp.val (p:Lp):Value:=.agg #[ω p.θ,ω p.aq,ω p.ahead,ι p.number,ι p.all,.string (str p.text)]
def Lp.body (p:Lp):List UInt8:=leB p.θ 8++leB p.aq 8++leB p.ahead 8++[UInt8.ofNat p.number,UInt8.ofNat p.all,UInt8.ofNat p.text.length,0]++p.text++List.replicate (32 - p.text.length) 0
theorem Lp.DF (p:Lp) (h:p.text.length≤32):p.body.length=60:=by simp[Lp.body,oK];omega
def partsOf (n:Nat):Nat:=max ((n+31) / 32) 1
def dm (text:List UInt8) (θ aq ahead:Nat):List Lp:=(List.range (partsOf text.length)).map fun i=>⟨θ,aq,ahead,i,partsOf text.length,(text.drop (32*i)).take 32⟩
def nB (l:List Lp):List Value:=l.flatMap Lp.cells
theorem um (text:List UInt8) (e s a:Nat):(dm text e s a).length=partsOf text.length:=by simp[dm]
theorem Ge (t:List UInt8) (e s a j:Nat) (hj:j<(dm t e s a).length):(dm t e s a)[j].θ=e∧(dm t e s a)[j].aq=s∧(dm t e s a)[j].ahead=a∧(dm t e s a)[j].number=j∧(dm t e s a)[j].all=partsOf t.length∧(dm t e s a)[j].text.length≤32:=by
 simp[dm]
 omega
theorem Xk:(prog.info? 204).map (fun i=>(i.zero,i.size,i.bytes))=some (some (.agg #[ω 0,ω 0,ω 0,ι 0,ι 0,.string ByteArray.empty]),6,56):=kR
theorem Gq (s:ByteArray) (w:World) (hs:s.size≤9223372036854775000) :
 ς 112 #[.string s] w fun e w'=>e=ώ (ι (partsOf s.size:Int))∧w=w':=by
 have uF:((partsOf s.size:Nat):Int)=max (((s.size:Int)+32 - 1) / 32) 1:=by unfold partsOf;omega
 have HM:=δ uF;clear uF;go_enter func112,ntmps112
 go_wp2
 go_ret
 exact⟨by rw[HM.out];rfl,rfl⟩
theorem Xl (s:ByteArray) (ep sa ah:Nat) (w:World) (hs:s.size≤100000) :
 ς 114 #[.string s,ω (ep:Int),ω (sa:Int),ω (ah:Int)] w fun e w'=>∃v,e=ώ v∧Own w' 204 6 v (partsOf s.size) (nB (dm s.data.toList ep sa ah))∧Below w.heap.size w w'∧(∀q,v.ownBlock=some q→w.heap.size≤q):=by
 obtain⟨i0,bx,bN,bG,aT⟩:=je Xk;have HA:Hid (partsOf s.size=max ((s.size+31) / 32) 1):=rfl;have Ch:1≤partsOf s.size:=by rw[HA.out];omega
 have mO:32*(partsOf s.size - 1)≤s.size:=by rw[HA.out];omega
 have p6:s.size≤32*partsOf s.size:=by rw[HA.out];omega
 go_enter func114,ntmps114
 go_wp2_with fail
 refine(Gq s _ oM).mono ?_;rintro e w' ⟨rfl,rfl⟩;have HC:Hid (∀k,k≤partsOf s.size→(dm s.data.toList ep sa ah).take k=(List.range k).map fun i=>(⟨ep,sa,ah,i,partsOf s.size,(s.data.toList.drop (32*i)).take 32⟩:Lp)):=by
  intro k hk;have e:s.data.toList.length=s.size:=by simp
  rw[dm,e,← Dm,List.take_range,vM hk]
 go_wp2_with fail
 go_loopw [10,15] (fun v i wr=>∃k:Nat,k≤partsOf s.size∧i=ι k∧Own wr 204 6 v k (nB ((dm s.data.toList ep sa ah).take k))∧Below w.heap.size w wr∧(∀q,v.ownBlock=some q→w.heap.size≤q)) (fun _ i _=>partsOf s.size - (intOf i).toNat)
 case atStart=>exact⟨0,oM,rfl,by simpa [nB] using Own.nil _ _ _,nX _ _,by simp[Value.ownBlock]⟩
 case round =>
  obtain⟨k,hk,rfl,hO,hb,hl⟩:=hrel;by_cases hlt:k<partsOf s.size
  ·have HX:=τ hb hl
   have Za:32*k≤s.size:=oM;clear hb hl;have key:∀(v2:Value) (w2:World) (x:Value),Own w2 204 6 v2 (k+1) (nB ((dm s.data.toList ep sa ah).take k)++Lp.cells ⟨ep,sa,ah,k,partsOf s.size,(s.data.toList.drop (32*k)).take 32⟩)→ζ (fun q=>u10.ownBlock=some q) (wr.alloc (.cells x.cells 204)) w2 →
    (v2.ownBlock=u10.ownBlock∨v2.ownBlock=some (wr.alloc (.cells x.cells 204)).heap.size) →
    Own w2 204 6 v2 (k+1) (nB ((dm s.data.toList ep sa ah).take (k+1)))∧Below w.heap.size w w2∧(∀q,v2.ownBlock=some q→w.heap.size≤q):=by
    intro v2 w2 x h1 h2 h3;obtain⟨hb,hl⟩:=HX.out;refine⟨?_,(hb.alloc hb.size _).trans ⟨h2.os,h2.tape,h2.output,h2.size,fun q hq=>h2.block q (by have:=hb.size;simp;omega) (fun e=>by have:=hl q e;omega)⟩,fun q hq=>?_⟩
    ·rw[HC.out (k+1) oM,sK,kG,← HC.out k oM]
     simpa [nB] using h1
    ·rcases h3 with h | h
     ·exact hl q (by rw[← h];exact hq)
     ·rw[h] at hq
      have h5:=dw hq;have:=hb.size;simp at h5
      omega
   have Key:=δ key;have hcell:Hid (([ω (ep:Int),ω (sa:Int),ω (ah:Int),ι (k:Int),ι (partsOf s.size:Int),.string (s.extract (k*32) (min (((k:Int)+1)*32) (s.size:Int)).toNat)]:List Value)=Lp.cells ⟨ep,sa,ah,k,partsOf s.size,(s.data.toList.drop (32*k)).take 32⟩):=by
    show _=_;rw[Lp.cells,sN];have e:((s.data.toList.drop (k*32)).take ((min (((k:Int)+1)*32) (s.size:Int)).toNat - k*32))=(s.data.toList.drop (32*k)).take 32:=by
     rw[JO k 32];by_cases hin:32*k+32≤s.size
     ·rw[show (min (((k:Int)+1)*32) (s.size:Int)).toNat - 32*k=32 by omega]
     ·rw[show (min (((k:Int)+1)*32) (s.size:Int)).toNat - 32*k=s.size - 32*k by omega,dH sM,dH (by simp;omega)]
    rw[e]
   clear HA key;go_wp2_with (at_builtin;refine jH rfl _ _ _ _ rfl 204 i0 _ 6 56 underlying201 bx bN bG aT rfl u10 k _ rfl (hO.alloc _) _ 1 [_,_,_,_,_,_] rfl (Src.qN underlying201 _ rfl) (by simp[Value.oneCell']) (by unfold maxLen;omega) oM ?_;intro v2 w2 bH π hl2 bV);rw[hcell.out] at bH;obtain⟨k1,k2,k3⟩:=Key.out v2 w2 (.agg #[ω (ep:Int),ω (sa:Int),ω (ah:Int),ι (k:Int),ι (partsOf s.size:Int),.string (s.extract (k*32) (min (((k:Int)+1)*32) (s.size:Int)).toNat)]) bH π hl2;go_roundw
   case rel=>exact⟨k+1,oM,by go_num,k1,k2,k3⟩
   case measure=>simp[intOf];omega
  ·obtain rfl:k=partsOf s.size:=oM
   have HX:=aj hO hb hl;clear hO hb hl;go_wp2
   go_ret
   obtain⟨hO,hb,hl⟩:=HX.out;rw[dH (by rw[um];simp)] at hO
   exact⟨u10,rfl,hO,hb,hl⟩
def kK (b:List UInt8):Lp × Bool :=
 if 32<(b.getD 26 0).toNat then (⟨dx (b.take 8),dx ((b.drop 8).take 8),dx ((b.drop 16).take 8),(b.getD 24 0).toNat,(b.getD 25 0).toNat,[]⟩,false) else
 (⟨dx (b.take 8),dx ((b.drop 8).take 8),dx ((b.drop 16).take 8),(b.getD 24 0).toNat,(b.getD 25 0).toNat,(b.drop 28).take (b.getD 26 0).toNat⟩,
   decide (b.getD 27 0=0∧b.drop (28+(b.getD 26 0).toNat)=List.replicate (32 - (b.getD 26 0).toNat) 0))
theorem afm (s:ByteArray) (i q:Nat) (w:World) (hs:s.size=60) (hi:i<3) (hc:w.cell? ⟨q,0,none⟩=some (.string s)) :
 ς 206 #[ι (i:Int),.pointer (some ⟨q,0,none⟩)] w fun e w'=>e=ώ (ω (dx ((s.data.toList.drop (8*i)).take 8):Int))∧w=w':=by
 have h8:(i:Int)*8≤(s.size:Int):=oM;have hn:(0:Int)≤(i:Int)*8:=oM;have ht:((i:Int)*8).toNat=i*8:=oM;have hg:∀W,ς 207 #[.string (s.extract (i*8) 60),ι 8] W fun e w'=>e=ώ (ω (dx ((s.data.toList.drop (8*i)).take 8):Int))∧W=w':=by
  intro W;have h:=abw (s.extract (i*8) 60) 8 W oM (by rw[aaT];omega);have e:(s.extract (i*8) 60).data.toList.take 8=(s.data.toList.drop (8*i)).take 8:=by
   rw[ByteArray.data_extract,Array.toList_extract];simp only[List.extract_eq_take_drop];rw[List.take_take,JO i 8];congr 1
   omega
  rw[e] at h;exact h
 have HG:=δ hg;clear hg;go_enter func206,ntmps206
 go_wp2_with fail
 refine(HG.out _).mono ?_;rintro e w' ⟨rfl,rfl⟩;go_wp2_with fail
 go_ret
 exact⟨rfl,rfl⟩
end
end Go.Proofs.YtbhjgfibhegddaaGreat
