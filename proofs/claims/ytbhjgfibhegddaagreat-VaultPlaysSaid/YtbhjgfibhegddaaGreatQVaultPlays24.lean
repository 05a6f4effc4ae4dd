/-
  Parts of the proof of VaultPlays: Does17, VlAlien, Alike17, Wakes.
-/
import Derived.Test.YtbhjgfibhegddaaGreatQVaultPlays23
set_option maxRecDepth 100000
set_option maxHeartbeats 16000000
namespace Go.Proofs.YtbhjgfibhegddaaGreat
open Tryz
section
open Go Go.RowKit
structure P6 (w0:World) (v:Nat) (R:eo) (x:kr) (M:Nat→Prop) (I:World→Prop) (Post:World→(Nat→Prop)→Int→Prop):Prop where
 still:∀ {w w'},I w→υ w w'→I w'
 ε:∀ {w},I w→υ w0 w
 lt:∀ {w},I w→∀q,M q→q<w.heap.size
 low:∀ {w},I w→∀q,M q→w0.heap.size≤q
 sW:∀ {w},I w→x.fM=0∨x.fM=1→ς 15 #[.pointer (some ⟨v,0,none⟩),.agg #[ι (jk x R.at_ R.θ).index,ι (jk x R.at_ R.θ).θ,x.ov]] w fun r w'=>∃n M',r=ώ (ι n)∧iQ w w' M M'∧Post w' M' n
 bE:∀ {w},I w→x.fM=2→ς 24 #[.pointer (some ⟨v,0,none⟩),.agg (dy x.m x.mv)] w fun r w'=>∃n M',r=ώ (ι n)∧iQ w w' M M'∧Post w' M' n
 install:∀ {w},I w→x.fM=3→ς 21 #[.pointer (some ⟨v,0,none⟩),.agg (dy x.m x.mv),x.lv,ι x.at_,ι x.ep] w fun r w'=>∃n M',r=ώ (ι n)∧iQ w w' M M'∧Post w' M' n
 rotate:∀ {w},I w→x.fM=4→ς 34 #[.pointer (some ⟨v,0,none⟩)] w fun r w'=>∃n M',r=ώ (ι n)∧iQ w w' M M'∧Post w' M' n
 none_:∀ {w},I w→4<x.fM→Post w M 0
 BR:∀ {w w' M' n c},Post w M' n→ζ (· = c) w w'→Ty w 95 c→w0.heap.size≤c→Post w' M' n
def Ed (w w':World) (M X:Nat→Prop) (R2:eo × Int) (Post:World→(Nat→Prop)→Int→Prop) (r:Ending):Prop :=
 ∃n M' mv lv rv aI,r=ώ (.tuple #[.agg (jM R2.1 mv lv rv),ι n,ι R2.2])∧eP w' (fun q=>M' q∨X q) R2.1 mv lv rv aI∧Post w' M' n∧iQ w w' M M'
def NW (M:Nat→Prop) (c:Nat) (W:World):Nat→Prop:=fun q=>M q∨(c≤q∧q<W.heap.size)
theorem gr.more {w:World} {M:Nat→Prop} {k:Nat} {v:Value} {cs:List (List Value)} {N:Nat→Prop} (h:gr w M k v cs) (hN:∀q,N q→M q∨w.heap.size≤q):gr w N k v cs :=
 ⟨h.1,fun h0 q hq hn=>(hN q hn).elim (h.2 h0 q hq) (fun e=>by have:=h.1.below h0 q hq;omega)⟩
theorem eP.more {w:World} {M N:Nat→Prop} {R:eo} {mv lv rv:Value} {aI:List Value} (h:eP w M R mv lv rv aI) (hN:∀q,N q→M q∨w.heap.size≤q):eP w N R mv lv rv aI:=⟨h.eD.more hN,h.lI.more hN,h.rows.more hN,h.len,fun i b ov h1 h2=>(h.each i b ov h1 h2).more hN⟩
theorem vR {w:World} {M:Nat→Prop} {R:eo} {mv lv rv:Value} {aI:List Value} (h:eP w M R mv lv rv aI):(jM R mv lv rv).all (·.oneCell')=true∧(jM R mv lv rv).size=11:=by
 obtain⟨o1,o2,o3⟩:=h.one;exact⟨uo o1 o2 o3,rfl⟩
theorem aip (w:World) (C D Z:Array Value) {c:Nat} (hc:w.heap.size=c) (w1:World) (h:((w.alloc (.cells C 95)).alloc (.cells D 65)).alloc (.cells Z 95)=w1):η w1 c 95 C∧η w1 (c+1) 65 D∧η w1 (c+2) 95 Z∧υ w w1∧w1.heap.size=c+3:=by
 subst h;refine⟨by rw[← hc];exact((η.new w _ _).alloc _).alloc _,?_,?_,(((ζ.refl _ w).alloc _).alloc _).alloc _,by simp[hc]⟩
 ·have:=(η.new (w.alloc (.cells C 95)) 65 D).alloc (.cells Z 95)
  rw[cM,hc] at this;exact this
 ·have:=η.new ((w.alloc (.cells C 95)).alloc (.cells D 65)) 95 Z
  rw[cM,cM,hc] at this;exact this
theorem Wz {w0 w W w5 w6:World} {c:Nat} {v:Nat} {R:eo} {x:kr} {M M9 X:Nat→Prop} {I:World→Prop} {Post:World→(Nat→Prop)→Int→Prop} {R2:eo × Int} {mv lv rv:Value} {aI:List Value} {n:Int} (hD:P6 w0 v R x M I Post) (hI:I w) (hc:w.heap.size=c)
 (hd:eP W (fun q=>(M q∨X q)∨q=c+2) R2.1 mv lv rv aI) (hU:υ w W) (hS:iQ W w5 M M9) (hP:Post w5 M9 n) (h6:ζ (· = c+2) w5 w6) (iz:Ty w5 95 (c+2)) :
 Ed w w6 M X R2 Post (ώ (.tuple #[.agg (jM R2.1 mv lv rv),ι n,ι R2.2])):=by
 have hs:=(hD.ε hI).size;have b9:iQ W w6 (fun q=>(M q∨X q)∨q=c+2) (fun q=>(M9 q∨X q)∨q=c+2):=⟨(hS.ε.mono (fun q e=>.inl (.inl (.inl e)))).then h6 (fun q e=>.inl (.inr e)),fun q hq=>hq.elim (fun e=>e.elim (fun e=>(hS.sub q e).imp (fun e=>.inl (.inl e)) id) (fun e=>.inl (.inl (.inr e)))) (fun e=>.inl (.inr e))⟩;refine⟨n,M9,mv,lv,rv,aI,rfl,(hd.act b9).more (fun q hq=>.inl (.inl hq)),hD.BR hP h6 iz oM,⟨?_,fun q hq=>?_⟩⟩
 ·exact((hU.mono φ).then hS.ε (fun q e=>.inl e)).then h6 (fun q e=>.inr (by have e2:q=c+2:=e;omega))
 ·rcases hS.sub q hq with e | e
  ·exact .inl e
  ·exact .inr (iE hU.size e)
theorem Me {P:Prop} (h:P:=by
 have hz:=(H3.out.2.2.1.ε fS (fun e=>e)).drew;rw[hact,← gL.out.2.2.1,← gL.out.2.2.2];exact Wz HH.out.1 HH.out.2.1 t_.out.2 (ve.still (ζ.refl _ w5).drew) tj.drew hS hP h7 (hz.ε hS.ε (fun e=>by have:=pI.out _ e;omega)).ty):P:=h
theorem PD {A P:Prop} (f:A) (h:A→P:=by
 intro hF;obtain⟨mM,χ,aA,HX⟩:=hF;have HX:=δ HX;obtain⟨bi,Nq⟩:∃a,(jk x R.at_ R.θ).index=a:=⟨_,rfl⟩;obtain⟨be,jV⟩:∃a,(jk x R.at_ R.θ).θ=a:=⟨_,rfl⟩;rw[Nq,jV] at aA;have vg:(jk x R.at_ R.θ).ops=x.b.ops:=by unfold jk;split<;>rfl
 have H3:=cx (H2.out.1.ε mM (fun e=>by have e2:c=c+3:=e;omega)) (H2.out.2.1.ε mM (fun e=>by have e2:c+1=c+3:=e;omega)) (H2.out.2.2.1.ε mM (fun e=>by have e2:c+2=c+3:=e;omega)) aA χ;have vD:∀W,υ w W→ς 93 #[.agg row,.agg #[ι bi,ι be,x.ov]] W fun r W'=>wH W W' (NW (fun q=>M q∨X q) c W) (j_ R (jk x R.at_ R.θ)) r:=fun W ic=>by
  have:=(iD.out.1 W _ ic (iD.out.2.2.2.2.1 W)).sW HH.out.2.2.1 (jk x R.at_ R.θ) (ov:=x.ov) (by rw[vg];exact iD.out.2.1 W _ ic (iD.out.2.2.2.2.1 W)) (by rw[vg];exact fun o ho=>by have:=HH.out.2.2.2.2.ops.2 o ho;omega) (iD.out.2.2.2.2.2 W ic);rw[jd.out.2.2.2.2.2.1] at this;unfold lP at this;rw[Nq,jV] at this;exact this
 have AP:∀W,υ w W→ς 15 #[.pointer (some ⟨v,0,none⟩),.agg #[ι bi,ι be,x.ov]] W fun r w'=>∃n M',r=ώ (ι n)∧iQ W w' M M'∧Post w' M' n:=fun W hW=>by
  have:=HH.out.1.sW (HH.out.1.still HH.out.2.1 hW) HX.out;rw[Nq,jV] at this;exact this
 have nS:=τ vD AP;clear Nq jV vg χ aA mM vD AP;go_upto_region 12 with (first
  |(refine eL 95 c H3.out.1 underlying95 (by rw[jd.out.1.2];kernel_rfl) ?_)
  |(refine fV 35 (c+3) H3.out.2.2.2.1 underlying35 ?_)
  |(go_at_call 93
    refine(nS.out.1 _ H3.out.2.2.2.2).mono ?_;rintro r w4 ⟨cv,dA,jG,nK,rfl,fc,ag⟩;obtain⟨fA,hr2⟩:∃r,jM (j_ R (jk x R.at_ R.θ)).1 cv dA jG=r:=⟨_,rfl⟩;obtain⟨E2,dX⟩:∃e,(j_ R (jk x R.at_ R.θ)).2=e:=⟨_,rfl⟩;rw[hr2,dX];have fu:=δ (hr2 ▸ vR fc);have gL:=aD fc ag hr2 dX;clear fc ag hr2 dX)
  |(refine fk rfl 95 _ _ rfl w4.heap.size fA rfl rfl _ _ (η.new w4 _ _) (by rw[fu.out.2];rfl) fu.out.1 (by rw[fu.out.2];kernel_rfl) ?_
    intro w5 aF av iz))
 obtain⟨g,hg⟩:=κ w4.heap.size;rw[hg] at aF av ⊢;have eR:c+3<g:=by have:=gL.out.2.1.size;have:=H3.out.2.2.2.1.lt;omega
 have fS:=(gL.out.2.1.alloc _).then av (fun q e=>.inr (by have e2:q=g:=e;have:=gL.out.2.1.size;omega));have wG:υ w4 w5:=((ζ.refl _ w4).alloc _).then av (fun q e=>.inr (by have e2:q=g:=e;omega));have ve:=(gL.out.1.more (N:=fun q=>(M q∨X q)∨q=c+2) (fun q hq=>hq.elim (fun e=>.inl (.inl e)) (fun e=>.inl (.inr ⟨oM,by have:=H3.out.2.2.2.1.lt;omega⟩)))).still wG;clear hg av iz wG;have tj:υ w w5:=H3.out.2.2.2.2.then fS φ;have hact:gI R x=j_ R (jk x R.at_ R.θ):=by
  unfold gI;rw[σ HX.out]
 have vE:∀w6 n M9 w7,iQ w5.drew w6 M M9→Post w6 M9 n→ζ (· = c+2) w6 w7→Ed w w7 M X (gI R x) Post (ώ (.tuple #[.agg fA,ι n,ι E2])):=fun w6 n M9 w7 hS hP h7=>by
  exact Me
 have H5:=gU aF (H3.out.2.1.ε fS (fun e=>e)) (H3.out.2.2.1.ε fS (fun e=>e)) (H3.out.2.2.2.1.ε fS (fun e=>e)) tj eR;have Df:=δ vE;clear aF eR fS tj vE hact ve;refine dB ?_;refine dK (S:=fun w'=>η w' g 95 fA∧η w' (c+3) 35 #[ι bi,ι be,x.ov]) (T:=fun _=>false) kR ?_;have aC:=And.intro H5.out.1.drew H5.out.2.2.2.1.drew;refine iq 0 (.agg fA) (kX rfl (by rfl) _ _ rfl g (by rfl) _ _ _ (fun w' hSw=>hSw.1) underlying95 rfl (by rw[fu.out.2];kernel_rfl)) ?_
 refine ξ 1 ?_;refine iq 2 (.agg #[ι bi,ι be,x.ov]) (kX rfl (by rfl) _ _ rfl (c+3) (by rfl) _ _ _ (fun w' hSw=>hSw.2) underlying35 rfl kR) ?_;refine ξ 4 ?_;refine aY 3 (fun KK ο=>?_);go_simp
 refine(nS.out.2 _ H5.out.2.2.2.2.1.drew).mono ?_;rintro r w6 ⟨n6,M9,rfl,cH,vG⟩;have vr:=(H5.out.2.2.1.drew).ε cH.ε (fun e=>by have:=pI.out _ e;omega);have o5:=(And.intro (H5.out.1.drew.ε cH.ε (fun e=>by have:=pI.out _ e;have:=H5.out.2.2.2.2.2;omega)) (H5.out.2.2.2.1.drew.ε cH.ε (fun e=>by have:=pI.out _ e;omega)));have cN:=fun w7 h7=>Df.out w6 n6 M9 w7 cH vG h7
 have uK:=δ cN;refine ο.out _ _ o5 ?_;clear ο vG cN;try simp only[ak]
 refine aY 5 (fun KK ο=>?_);refine sO (by rfl) 95 _ _ (by rfl) (c+2) fA (by rfl) (by rfl) _ _ vr (by rw[fu.out.2];rfl) fu.out.1 (by rw[fu.out.2];kernel_rfl) ?_
 intro w7 dG bK jq;have ye:=(And.intro (o5.1.ε bK (fun e=>by have e2:g=c+2:=e;have:=H5.out.2.2.2.2.2;omega)) (o5.2.ε bK (fun e=>by have e2:c+3=c+2:=e;omega)));refine ο.out _ _ ye ?_;clear ο;simp only[Act.put];refine ξ 6 ?_;refine ξ 7 ?_;refine dF ?_;refine cZ ?_;have JM:=τ dG bK;clear dG bK jq cH vr o5 ye aC;go_wp2_with fail
 refine cy (J' rfl _ _ (c+2) _ _ _ _ rfl JM.out.1 underlying95 rfl (by rw[fu.out.2];kernel_rfl) _ _ rfl rfl) rfl ?_
 exact uK.out w7 JM.out.2):P:=h f
theorem Rt {P:Prop} (h:P:=by
 refine dF ?_;refine cZ ?_;have JM:=τ dG bK;clear dG bK jq cH vr o5 ye aC;go_wp2_with fail
 refine cy (J' rfl _ _ (c+2) _ _ _ _ rfl JM.out.1 underlying95 rfl (by rw[fu.out.2];kernel_rfl) _ _ rfl rfl) rfl ?_
 exact uK.out w7 JM.out.2):P:=h
theorem agq {w0 w:World} {v:Nat} {R:eo} {x:kr} {M X:Nat→Prop} {I:World→Prop} {Post:World→(Nat→Prop)→Int→Prop} {mv lv rv:Value} {aI:List Value} (hD:P6 w0 v R x M I Post) (hI:I w) (hX:∀q,X q→w0.heap.size≤q∧q<w.heap.size) (hd:eP w (fun q=>M q∨X q) R mv lv rv aI) (hk:Lz R) (hx:x.In w0) (hf:x.Jn) :
 ς 49 #[.pointer (some ⟨v,0,none⟩),.agg (jM R mv lv rv),.agg x.row.toArray] w fun r w'=>Ed w w' M X (gI R x) Post r:=by
 obtain⟨c,hc⟩:=κ w.heap.size;obtain⟨D,Fl⟩:∃D:Int,(x.fM.toNat:Int)=D:=⟨_,rfl⟩;obtain⟨S,hS⟩:=κ (str x.m.bu);have hrow:x.row.toArray=#[ϋ D,ι x.b.index,ι x.b.θ,x.ov,ι x.m.role,ι x.m.seen,ι x.m.aG,x.mv,.string S,x.lv,ι x.at_,ι x.ep]:=by unfold kr.row;rw[Fl,hS]
 have Yv:dy x.m x.mv=#[ι x.m.role,ι x.m.seen,ι x.m.aG,x.mv,.string S]:=by rw[← hS];rfl
 rw[hrow];obtain⟨row,hro⟩:∃r,jM R mv lv rv=r:=⟨_,rfl⟩;obtain⟨AT,TI⟩:∃a,R.at_=a:=⟨_,rfl⟩;obtain⟨EP,TJ⟩:∃a,R.θ=a:=⟨_,rfl⟩;have xo:row[6]? = some (ι AT):=by rw[← hro,← TI];rfl
 have hr7:row[7]? = some (ι EP):=by rw[← hro,← TJ];rfl
 have hone:=vR hd;have ju:=hx.CW.ops.rows.one;have hmo:=hx.met.rows.one;have vg:(#[ι x.b.index,ι x.b.θ,x.ov]:Array Value).all (·.oneCell')=true:=by simp only[J7,rN,Bb,ju,y6];rfl
 rw[hro] at hone ⊢
 -- the rows that are handed in,apart from what is turned
 have uL:∀N:Nat→Prop,(∀q,N q→(M q∨X q)∨c≤q)→∀q,N q→w0.heap.size≤q:=fun N hN q hq=>(hN q hq).elim (fun e=>e.elim (hD.low hI q) (fun e=>(hX q e).1)) (fun e=>by have:=(hD.ε hI).size;omega)
 have hfo:∀W N,υ w W→(∀q,N q→(M q∨X q)∨c≤q)→gr W N 3 x.ov (x.b.ops.map bU):=fun W N hW hN=>gr.P5 ((hx.CW.ops.rows.still ((hD.ε hI).then hW φ)).row (by rw[bp];have:=hf.ops.1;omega)) (fun h0=>(hx.CW.ops.rows.lt h0)) (uL N hN)
 have rD:∀W N,υ w W→(∀q,N q→(M q∨X q)∨c≤q)→gr W N 2 x.mv (x.m.aW.map ct):=fun W N hW hN=>gr.P5 ((hx.met.rows.still ((hD.ε hI).then hW φ)).row (by rw[bp];have:=hf.met.1;omega)) (fun h0=>(hx.met.rows.lt h0)) (uL N hN)
 have hfl:∀W N,υ w W→(∀q,N q→(M q∨X q)∨c≤q)→gr W N 2 x.lv (x.l.map bz):=fun W N hW hN=>gr.P5 ((hx.lI.rows.still ((hD.ε hI).then hW φ)).row (by rw[bp];have:=hf.lI.1;omega)) (fun h0=>(hx.lI.rows.lt h0)) (uL N hN)
 have Ru:=hD.lt hI;have mQ:∀W N,υ w W→(∀q,N q→(M q∨X q)∨c≤q)→eP W N R mv lv rv aI:=fun W N hW hN=>(hd.more (fun q hq=>hc ▸ hN q hq)).still hW
 have zZ:∀W q,NW (fun q=>M q∨X q) c W q→(M q∨X q)∨c≤q:=fun W q hq=>hq.imp id (·.1)
 have hnl:∀W,υ w W→∀q,NW (fun q=>M q∨X q) c W q→q<W.heap.size:=fun W hW q hq=>by
  have:=hW.size;rcases hq with (e | e)| e
  ·have:=Ru q e
   omega
  ·have:=(hX q e).2
   omega
  ·exact e.2
 have iD:=gU mQ hfo rD hfl zZ hnl;have jd:=zO hone vg Yv xo hr7 hro TI TJ;have t_:=τ Fl hc;have pI:=δ (fun q hq=>hc ▸ Ru q hq:∀q,M q→q<c);have HH:=cx hD hI hk hx hf;clear hd hc Fl hS hrow Yv hro xo hr7 hone ju hmo vg uL hfo rD hfl Ru mQ hD hI hk hx hf TI TJ zZ hnl hX;go_enter func49,ntmps49
 go_upto_region 1 with fail
 rw[t_.out.2];generalize hw1:World.alloc (World.alloc (World.alloc _ _) _) _=w1;obtain⟨aM,hM1,pK,ax,bG⟩:=aip w row #[ϋ D,ι x.b.index,ι x.b.θ,x.ov,ι x.m.role,ι x.m.seen,ι x.m.aG,x.mv,.string S,x.lv,ι x.at_,ι x.ep] #[ι 0,ι 0,ι 0,.slice none 0 0,.string ⟨#[]⟩,.slice none 0 0,ι 0,ι 0,.slice none 0 0,ι 0,ι 0] t_.out.2 w1 hw1;have H1:=cx aM hM1 pK ax bG;clear hw1 aM hM1 pK ax bG;go_upto_region 2 with (first
  |(refine qL rfl 35 _ rfl (c+1) 1 rfl _ _ [ι x.b.index,ι x.b.θ,x.ov] _ H1.out.2.1 (fun j u hj=>nt (cs:=#[ϋ D,ι x.b.index,ι x.b.θ,x.ov,ι x.m.role,ι x.m.seen,ι x.m.aG,x.mv,.string S,x.lv,ι x.at_,ι x.ep]) (i:=1) (n:=3) rfl j u hj) underlying35 rfl kR ?_)
  |(refine ef 35 w1.heap.size #[ι x.b.index,ι x.b.θ,x.ov] (η.new w1 _ _) jd.out.2.1 ?_
    intro w2 aB π aT))
 rw[H1.out.2.2.2.2] at aB π ⊢;have gT:υ w1 w2:=((ζ.refl _ w1).alloc _).then π (fun q e=>.inr (by have e2:q=c+3:=e;have:=H1.out.2.2.2.2;omega));have zN:υ w w2:=H1.out.2.2.2.1.then gT φ;have d0:w2.cell? ⟨c+1,0,none⟩=some (ϋ D):=(H1.out.2.1.ε gT (fun e=>e)).cell 0;have H2:=cx (H1.out.1.ε gT (fun e=>e)) (H1.out.2.1.ε gT (fun e=>e)) (H1.out.2.2.1.ε gT (fun e=>e)) aB zN;clear aB π aT gT zN;have JJ:x.fM=0∨x.fM=1∨x.fM=2∨x.fM=3∨x.fM=4∨4<x.fM:=by
  rcases Fp 4 x.fM.toNat with h | h
  ·exact .inr (.inr (.inr (.inr (.inr (by rw[NT];exact h)))))
  ·have hz:∀n:Nat,n≤4→x.fM.toNat=n→x.fM=UInt8.ofNat n:=fun n hn e=>ud.1 (by rw[e,UInt8.toNat_ofNat'];omega)
   rcases (show x.fM.toNat=0∨x.fM.toNat=1∨x.fM.toNat=2∨x.fM.toNat=3∨x.fM.toNat=4 by omega) with e | e | e | e | e
   ·exact .inl (hz 0 oM e)
   ·exact .inr (.inl (hz 1 oM e))
   ·exact .inr (.inr (.inl (hz 2 oM e)))
   ·exact .inr (.inr (.inr (.inl (hz 3 oM e))))
   ·exact .inr (.inr (.inr (.inr (.inl (hz 4 oM e)))))
 rcases JJ with hd | hd | hd | hd | hd | hd
 ·obtain rfl:D=0:=by rw[← t_.out.1,hd];rfl
  have hb0:jk x R.at_ R.θ=x.b:=by unfold jk;rw[σ hd]
  have HX:=δ (show x.fM=0∨x.fM=1 from .inl hd);have mM:ζ (· = c+3) w2 w2:=ζ.refl _ _;have aA:η w2 (c+3) 35 #[ι (jk x R.at_ R.θ).index,ι (jk x R.at_ R.θ).θ,x.ov]:=by
   rw[hb0];exact H2.out.2.2.2.1
  exact PD (And.intro mM (And.intro (H2.out.2.2.2.2) (And.intro aA HX.out)))
 ·obtain rfl:D=1:=by rw[← t_.out.1,hd];rfl
  have HX:=δ (show x.fM=0∨x.fM=1 from .inr hd);have ec:jk x R.at_ R.θ=⟨IntKind.i64.wrap (AT+1),max x.b.θ EP,x.b.ops⟩:=by
   unfold jk;rw[ν (by rw[hd];decide),jd.out.2.2.2.2.2.2.1,jd.out.2.2.2.2.2.2.2]
  have c6:w2.cell? ⟨c,6,none⟩=some (ι AT):=(H2.out.1.cell 6).trans jd.out.2.2.2.1;obtain⟨ix,Cr⟩:∃m,IntKind.i64.wrap (AT+1)=m:=⟨_,rfl⟩;have qz:=τ ec Cr;clear ec hd;go_upto_region 9 with (first
   |(refine gw rfl 3 _ _ rfl (c+3) 0 (ι ix) rfl rfl _ _ H2.out.2.2.2.1 sM rfl kR ?_
     intro Nr Mf Rv ajQ))
  rw[show (#[ι x.b.index,ι x.b.θ,x.ov]:Array Value).setIfInBounds 0 (ι ix)=#[ι ix,ι x.b.θ,x.ov] from rfl] at Mf;have c7:Nr.cell? ⟨c,7,none⟩=some (ι EP):=((H2.out.1.ε Rv (fun e=>by have e2:c=c+3:=e;omega)).cell 7).trans jd.out.2.2.2.2.1;have c31:Nr.cell? ⟨c+3,1,none⟩=some (ι x.b.θ):=Mf.cell 1;have Ns:=τ Mf Rv;clear Mf Rv ajQ Cr c6;by_cases hlt:x.b.θ<EP
  ·go_upto_region 11 with (first
    |(refine gw rfl 3 _ _ rfl (c+3) 1 (ι EP) rfl rfl _ _ Ns.out.1 sM rfl kR ?_
      intro w2b Rw aaD ajR))
   rw[show (#[ι ix,ι x.b.θ,x.ov]:Array Value).setIfInBounds 1 (ι EP)=#[ι ix,ι EP,x.ov] from rfl] at Rw;have uF:max x.b.θ EP=EP:=oM;have TK:=aj Rw aaD uF;clear Rw aaD ajR c7 c31 hlt uF;have mM:ζ (· = c+3) w2 w2b:=Ns.out.2.then TK.out.2.1 (fun _ e=>.inl e);have aA:η w2b (c+3) 35 #[ι (jk x R.at_ R.θ).index,ι (jk x R.at_ R.θ).θ,x.ov]:=by
    rw[qz.out.1,qz.out.2,TK.out.2.2];exact TK.out.1
   exact PD (And.intro mM (And.intro (H2.out.2.2.2.2.then mM (fun q e=>.inr (by have e2:q=c+3:=e;have:=t_.out.2;omega))) (And.intro aA HX.out)))
  ·have uF:max x.b.θ EP=x.b.θ:=oM
   have MB:=δ uF;clear uF;go_upto_region 11 with fail
   clear c7 c31 hlt;have mM:ζ (· = c+3) w2 Nr:=Ns.out.2;have aA:η Nr (c+3) 35 #[ι (jk x R.at_ R.θ).index,ι (jk x R.at_ R.θ).θ,x.ov]:=by
    rw[qz.out.1,qz.out.2,MB.out];exact Ns.out.1
   exact PD (And.intro mM (And.intro (H2.out.2.2.2.2.then mM (fun q e=>.inr (by have e2:q=c+3:=e;have:=t_.out.2;omega))) (And.intro aA HX.out)))
 ·obtain rfl:D=2:=by rw[← t_.out.1,hd];rfl
  have H3:=H2;have HX:=δ hd;have Db:∀W,υ w W→ς 43 #[.agg #[ι x.m.role,ι x.m.seen,ι x.m.aG,x.mv,.string S]] W fun e w'=>e=ώ (.agg #[ι x.m.role,ι x.m.seen,ι x.m.aG,x.mv,.string S])∧υ W w':=fun W hW=>by
   have:=PC x.m (iD.out.2.2.1 W _ hW (iD.out.2.2.2.2.1 W)).1;rw[jd.out.2.2.1] at this;exact this
  have vD:∀W,υ w2 W→ς 94 #[.agg row,.agg #[ι x.m.role,ι x.m.seen,ι x.m.aG,x.mv,.string S]] W fun r W'=>wH W W' (NW (fun q=>M q∨X q) c W) (lS R x.m) r:=fun W hW=>by
   have ic:=H3.out.2.2.2.2.then hW φ;have:=(iD.out.1 W _ ic (iD.out.2.2.2.2.1 W)).bE x.m (iD.out.2.2.1 W _ ic (iD.out.2.2.2.2.1 W)) (fun y hy=>by have:=HH.out.2.2.2.2.met.2.2 y hy;omega);rw[jd.out.2.2.2.2.2.1,jd.out.2.2.1] at this;exact this
  have AP:∀W,υ w W→ς 24 #[.pointer (some ⟨v,0,none⟩),.agg #[ι x.m.role,ι x.m.seen,ι x.m.aG,x.mv,.string S]] W fun r w'=>∃n M',r=ώ (ι n)∧iQ W w' M M'∧Post w' M' n:=fun W hW=>by
   have:=HH.out.1.bE (HH.out.1.still HH.out.2.1 hW) HX.out;rw[jd.out.2.2.1] at this;exact this
  have nS:=aj vD AP Db;clear Db vD AP hd;go_upto_region 13 with fail
  refine dB ?_;refine dK (S:=fun w'=>υ w2 w') (T:=fun _=>false) kR ?_;have aC:=(ζ.refl (fun _=>False) w2).drew;refine iq 0 (.agg row) (kX rfl (by rfl) _ _ rfl c (by rfl) _ _ _ (fun w' hSw=>H3.out.1.ε hSw (fun e=>e)) underlying95 rfl (by rw[jd.out.1.2];kernel_rfl)) ?_
  refine ξ 1 ?_;refine iq 2 (.agg #[ι x.m.role,ι x.m.seen,ι x.m.aG,x.mv,.string S]) (Bc rfl (by rfl) _ _ rfl (c+1) 4 (by rfl) _ _ [ι x.m.role,ι x.m.seen,ι x.m.aG,x.mv,.string S] _ (fun w' hSw=>H3.out.2.1.ε hSw (fun e=>e)) (fun j u hj=>nt (cs:=#[ϋ 2,ι x.b.index,ι x.b.θ,x.ov,ι x.m.role,ι x.m.seen,ι x.m.aG,x.mv,.string S,x.lv,ι x.at_,ι x.ep]) (i:=4) (n:=5) rfl j u hj) underlying50 rfl kR) ?_;refine uj (i:=3) (j:=8) kR rfl rfl (fun KK ο=>?_) (fun KK ο=>?_);go_simp
  refine(nS.out.2.2 _ (H3.out.2.2.2.2.then aC φ)).mono ?_;rintro e Dg ⟨rfl,qH⟩;have b9:=aC.then qH φ;refine ο.out _ _ b9 ?_;clear ο;try simp only[ak]
  refine uj (i:=4) (j:=8) kR rfl rfl (fun KK ο=>?_) (fun KK ο=>?_);go_simp
  refine(nS.out.1 _ b9).mono ?_;rintro r w4 ⟨cv,dA,jG,nK,rfl,fc,ag⟩;obtain⟨fA,hr2⟩:∃r,jM (lS R x.m).1 cv dA jG=r:=⟨_,rfl⟩;obtain⟨E2,dX⟩:∃e,(lS R x.m).2=e:=⟨_,rfl⟩;rw[hr2,dX];have fu:=δ (hr2 ▸ vR fc);have gL:=aD fc ag hr2 dX;clear fc ag hr2 dX;have a_:=b9.then gL.out.2.1 φ;refine ο.out _ _ a_ ?_;clear ο;try simp only[ak]
  refine ξ 5 ?_;refine ξ 6 ?_;refine ξ 7 ?_;refine aY 8 (fun KK ο=>?_);go_simp
  refine ο.out _ _ (a_.alloc _) ?_;clear ο;try simp only[ak]
  obtain⟨g,hg⟩:=κ w4.heap.size;have i_:eP (w4.alloc (.cells #[ι 0,ι 0,ι 0,.slice none 0 0,.string ⟨#[]⟩,.slice none 0 0,ι 0,ι 0,.slice none 0 0,ι 0,ι 0] 95)) (fun q=>(M q∨X q)∨q=c+2∨q=g) (lS R x.m).1 cv dA jG nK∧υ w2 (w4.alloc (.cells #[ι 0,ι 0,ι 0,.slice none 0 0,.string ⟨#[]⟩,.slice none 0 0,ι 0,ι 0,.slice none 0 0,ι 0,ι 0] 95))∧η (w4.alloc (.cells #[ι 0,ι 0,ι 0,.slice none 0 0,.string ⟨#[]⟩,.slice none 0 0,ι 0,ι 0,.slice none 0 0,ι 0,ι 0] 95)) g 95 #[ι 0,ι 0,ι 0,.slice none 0 0,.string ⟨#[]⟩,.slice none 0 0,ι 0,ι 0,.slice none 0 0,ι 0,ι 0]∧w2.heap.size≤g:=⟨(gL.out.1.more (fun q hq=>hq.elim (fun e=>.inl (.inl e)) (fun e=>e.elim (fun e=>.inl (.inr ⟨oM,by have:=b9.size;have:=H3.out.2.2.2.1.lt;omega⟩)) (fun e=>.inr oM)))).still ((ζ.refl _ w4).alloc _),a_.alloc _,(by rw[← hg];exact η.new w4 _ _),(oN a_.size)⟩;rw[hg];generalize World.alloc w4 _=JN at i_ ⊢
  have qI:=δ i_;clear i_ hg a_ b9 qH;rotate_left 1;go_simp
  refine ο.out _ _ (b9.alloc _) ?_;clear ο;try simp only[ak]
  refine aY 4 (fun KK ο=>?_);go_simp
  refine(nS.out.1 _ (b9.alloc _)).mono ?_;rintro r w4 ⟨cv,dA,jG,nK,rfl,fc,ag⟩;obtain⟨fA,hr2⟩:∃r,jM (lS R x.m).1 cv dA jG=r:=⟨_,rfl⟩;obtain⟨E2,dX⟩:∃e,(lS R x.m).2=e:=⟨_,rfl⟩;rw[hr2,dX];have fu:=δ (hr2 ▸ vR fc);have gL:=aD fc ag hr2 dX;clear fc ag hr2 dX;have a_:=(b9.alloc (.cells #[ι 0,ι 0,ι 0,.slice none 0 0,.string ⟨#[]⟩,.slice none 0 0,ι 0,ι 0,.slice none 0 0,ι 0,ι 0] 95)).then gL.out.2.1 φ;refine ο.out _ _ a_ ?_;clear ο;try simp only[ak]
  refine ξ 5 ?_;refine ξ 6 ?_;refine ξ 7 ?_;obtain⟨g,hg⟩:=κ Dg.heap.size;have i_:eP w4 (fun q=>(M q∨X q)∨q=c+2∨q=g) (lS R x.m).1 cv dA jG nK∧υ w2 w4∧η w4 g 95 #[ι 0,ι 0,ι 0,.slice none 0 0,.string ⟨#[]⟩,.slice none 0 0,ι 0,ι 0,.slice none 0 0,ι 0,ι 0]∧w2.heap.size≤g:=⟨(gL.out.1.more (fun q hq=>hq.elim (fun e=>.inl (.inl e)) (fun e=>e.elim (fun e=>.inl (.inr ⟨oM,by have:=b9.size;have:=H3.out.2.2.2.1.lt;rw[cM];omega⟩)) (fun e=>.inl (.inr ⟨by have:=b9.size;have:=H3.out.2.2.2.1.lt;omega,by rw[cM];omega⟩))))),a_,(by rw[← hg];exact(η.new Dg _ _).ε gL.out.2.1 (fun e=>e)),(oN b9.size)⟩;rw[hg];obtain⟨JN,uO⟩:=κ w4;rw[uO] at i_ ⊢;have qI:=δ i_;clear i_ hg a_ b9 qH uO;rotate_left 1;go_simp
  refine ο.out _ _ (aC.alloc _) ?_;clear ο;try simp only[ak]
  refine aY 3 (fun KK ο=>?_);go_simp
  refine(nS.out.2.2 _ (H3.out.2.2.2.2.then (aC.alloc (.cells #[ι 0,ι 0,ι 0,.slice none 0 0,.string ⟨#[]⟩,.slice none 0 0,ι 0,ι 0,.slice none 0 0,ι 0,ι 0] 95)) φ)).mono ?_;rintro e Dg ⟨rfl,qH⟩;have b9:=(aC.alloc (.cells #[ι 0,ι 0,ι 0,.slice none 0 0,.string ⟨#[]⟩,.slice none 0 0,ι 0,ι 0,.slice none 0 0,ι 0,ι 0] 95)).then qH φ;refine ο.out _ _ b9 ?_;clear ο;try simp only[ak]
  refine aY 4 (fun KK ο=>?_);go_simp
  refine(nS.out.1 _ b9).mono ?_;rintro r w4 ⟨cv,dA,jG,nK,rfl,fc,ag⟩;obtain⟨fA,hr2⟩:∃r,jM (lS R x.m).1 cv dA jG=r:=⟨_,rfl⟩;obtain⟨E2,dX⟩:∃e,(lS R x.m).2=e:=⟨_,rfl⟩;rw[hr2,dX];have fu:=δ (hr2 ▸ vR fc);have gL:=aD fc ag hr2 dX;clear fc ag hr2 dX;have a_:=b9.then gL.out.2.1 φ;refine ο.out _ _ a_ ?_;clear ο;try simp only[ak]
  refine ξ 5 ?_;refine ξ 6 ?_;refine ξ 7 ?_;obtain⟨g,hg⟩:=κ w2.heap.size;have hb4:=(η.new w2 95 #[ι 0,ι 0,ι 0,.slice none 0 0,.string ⟨#[]⟩,.slice none 0 0,ι 0,ι 0,.slice none 0 0,ι 0,ι 0]).drew.ε qH (fun e=>e);have i_:eP w4 (fun q=>(M q∨X q)∨q=c+2∨q=g) (lS R x.m).1 cv dA jG nK∧υ w2 w4∧η w4 g 95 #[ι 0,ι 0,ι 0,.slice none 0 0,.string ⟨#[]⟩,.slice none 0 0,ι 0,ι 0,.slice none 0 0,ι 0,ι 0]∧w2.heap.size≤g:=⟨(gL.out.1.more (fun q hq=>hq.elim (fun e=>.inl (.inl e)) (fun e=>e.elim (fun e=>.inl (.inr ⟨oM,by have:=b9.size;have:=H3.out.2.2.2.1.lt;omega⟩)) (fun e=>.inl (.inr ⟨by have:=H3.out.2.2.2.1.lt;omega,by have:=hb4.lt;omega⟩))))),a_,(by rw[← hg];exact hb4.ε gL.out.2.1 (fun e=>e)),oM⟩;first| rw[hg] | skip
  obtain⟨JN,uO⟩:=κ w4;rw[uO] at i_ ⊢;have qI:=δ i_;clear i_ hg a_ b9 qH uO hb4;all_goals
   have ig:=qI.out.2.1;refine aY 9 (fun KK ο=>?_);refine sO (by rfl) 95 _ _ (by rfl) g fA (by rfl) (by rfl) _ _ qI.out.2.2.1 (by rw[fu.out.2];rfl) fu.out.1 (by rw[fu.out.2];kernel_rfl) ?_
   intro w5 aF av iz;have fS:=ig.then av (fun q e=>.inr (by have e2:q=g:=e;have:=qI.out.2.2.2;omega));refine ο.out _ _ fS ?_;clear ο;simp only[Act.put];refine ξ 10 ?_;refine dF ?_;refine cZ ?_;have eR:c+3<g:=by have:=H3.out.2.2.2.1.lt;have:=qI.out.2.2.2;omega
   have ve:=(qI.out.1.act (w':=w5) (M':=(fun q=>(M q∨X q)∨q=c+2∨q=g)) ⟨av.mono (fun q e=>.inl (.inr (.inr e))),fun q e=>.inl e⟩).more (N:=fun q=>(M q∨X q)∨q=c+2) (fun q hq=>.inl (hq.imp id .inl));clear av iz ig aC;have tj:υ w w5:=H3.out.2.2.2.2.then fS φ;have hact:gI R x=lS R x.m:=by
    unfold gI;rw[ν (by rw[HX.out];decide),σ HX.out]
   have vE:∀w6 n M9 w7,iQ w5.drew w6 M M9→Post w6 M9 n→ζ (· = c+2) w6 w7→Ed w w7 M X (gI R x) Post (ώ (.tuple #[.agg fA,ι n,ι E2])):=fun w6 n M9 w7 hS hP h7=>by
    exact Me
   have H5:=gU aF (H3.out.2.1.ε fS (fun e=>e)) (H3.out.2.2.1.ε fS (fun e=>e)) (H3.out.2.2.2.1.ε fS (fun e=>e)) tj eR;have Df:=δ vE;clear aF eR fS tj vE hact ve;go_upto_region 14 with fail
   refine dB ?_;refine dK (S:=fun w'=>η w' g 95 fA∧η w' (c+1) 65 #[ϋ 2,ι x.b.index,ι x.b.θ,x.ov,ι x.m.role,ι x.m.seen,ι x.m.aG,x.mv,.string S,x.lv,ι x.at_,ι x.ep]) (T:=fun _=>false) kR ?_;have aC:=And.intro H5.out.1.drew H5.out.2.1.drew;refine iq 0 (.agg fA) (kX rfl (by rfl) _ _ rfl g (by rfl) _ _ _ (fun w' hSw=>hSw.1) underlying95 rfl (by rw[fu.out.2];kernel_rfl)) ?_
   refine ξ 1 ?_;refine ξ 2 ?_;refine iq 3 (.agg #[ι x.m.role,ι x.m.seen,ι x.m.aG,x.mv,.string S]) (Bc rfl (by rfl) _ _ rfl (c+1) 4 (by rfl) _ _ [ι x.m.role,ι x.m.seen,ι x.m.aG,x.mv,.string S] _ (fun w' hSw=>hSw.2) (fun j u hj=>nt (cs:=#[ϋ 2,ι x.b.index,ι x.b.θ,x.ov,ι x.m.role,ι x.m.seen,ι x.m.aG,x.mv,.string S,x.lv,ι x.at_,ι x.ep]) (i:=4) (n:=5) rfl j u hj) underlying50 rfl kR) ?_;refine ξ 5 ?_;refine aY 4 (fun KK ο=>?_);go_simp
   refine(nS.out.2.1 _ H5.out.2.2.2.2.1.drew).mono ?_;rintro r w6 ⟨n6,M9,rfl,cH,vG⟩;have vr:=(H5.out.2.2.1.drew).ε cH.ε (fun e=>by have:=pI.out _ e;omega);have o5:=(And.intro (H5.out.1.drew.ε cH.ε (fun e=>by have:=pI.out _ e;have:=H5.out.2.2.2.2.2;omega)) (H5.out.2.1.drew.ε cH.ε (fun e=>by have:=pI.out _ e;omega)));have cN:=fun w7 h7=>Df.out w6 n6 M9 w7 cH vG h7
   have uK:=δ cN;refine ο.out _ _ o5 ?_;clear ο vG cN;try simp only[ak]
   refine aY 6 (fun KK ο=>?_);refine sO (by rfl) 95 _ _ (by rfl) (c+2) fA (by rfl) (by rfl) _ _ vr (by rw[fu.out.2];rfl) fu.out.1 (by rw[fu.out.2];kernel_rfl) ?_
   intro w7 dG bK jq;have ye:=(And.intro (o5.1.ε bK (fun e=>by have e2:g=c+2:=e;have:=H5.out.2.2.2.2.2;omega)) (o5.2.ε bK (fun e=>by have e2:c+1=c+2:=e;omega)));refine ο.out _ _ ye ?_;clear ο;simp only[Act.put];refine ξ 7 ?_;refine ξ 8 ?_;exact Rt
 ·obtain rfl:D=3:=by rw[← t_.out.1,hd];rfl
  have H3:=H2;have HX:=δ hd;have Db:∀W,υ w W→ς 43 #[.agg #[ι x.m.role,ι x.m.seen,ι x.m.aG,x.mv,.string S]] W fun e w'=>e=ώ (.agg #[ι x.m.role,ι x.m.seen,ι x.m.aG,x.mv,.string S])∧υ W w':=fun W hW=>by
   have:=PC x.m (iD.out.2.2.1 W _ hW (iD.out.2.2.2.2.1 W)).1;rw[jd.out.2.2.1] at this;exact this
  have vD:∀W,υ w2 W→ς 95 #[.agg row,.agg #[ι x.m.role,ι x.m.seen,ι x.m.aG,x.mv,.string S],x.lv,ι x.at_,ι x.ep] W fun r W'=>wH W W' (NW (fun q=>M q∨X q) c W) (jz R x.m x.l x.at_ x.ep) r:=fun W hW=>by
   have ic:=H3.out.2.2.2.2.then hW φ;have:=(iD.out.1 W _ ic (iD.out.2.2.2.2.1 W)).install x.m (iD.out.2.2.1 W _ ic (iD.out.2.2.2.2.1 W)) (fun y hy=>by have:=HH.out.2.2.2.2.met.2.2 y hy;omega) (iD.out.2.2.2.1 W _ ic (iD.out.2.2.2.2.1 W)) (fun y hy=>by have:=HH.out.2.2.2.2.lI.2 y hy;omega) (iD.out.2.2.2.2.2 W ic) x.at_ x.ep;rw[jd.out.2.2.2.2.2.1,jd.out.2.2.1] at this;exact this
  have AP:∀W,υ w W→ς 21 #[.pointer (some ⟨v,0,none⟩),.agg #[ι x.m.role,ι x.m.seen,ι x.m.aG,x.mv,.string S],x.lv,ι x.at_,ι x.ep] W fun r w'=>∃n M',r=ώ (ι n)∧iQ W w' M M'∧Post w' M' n:=fun W hW=>by
   have:=HH.out.1.install (HH.out.1.still HH.out.2.1 hW) HX.out;rw[jd.out.2.2.1] at this;exact this
  have nS:=aj vD AP Db;clear Db vD AP hd;go_upto_region 15 with fail
  refine dB ?_;refine dK (S:=fun w'=>υ w2 w') (T:=fun _=>false) kR ?_;have aC:=(ζ.refl (fun _=>False) w2).drew;refine iq 0 (.agg row) (kX rfl (by rfl) _ _ rfl c (by rfl) _ _ _ (fun w' hSw=>H3.out.1.ε hSw (fun e=>e)) underlying95 rfl (by rw[jd.out.1.2];kernel_rfl)) ?_
  refine ξ 1 ?_;refine iq 2 (.agg #[ι x.m.role,ι x.m.seen,ι x.m.aG,x.mv,.string S]) (Bc rfl (by rfl) _ _ rfl (c+1) 4 (by rfl) _ _ [ι x.m.role,ι x.m.seen,ι x.m.aG,x.mv,.string S] _ (fun w' hSw=>H3.out.2.1.ε hSw (fun e=>e)) (fun j u hj=>nt (cs:=#[ϋ 3,ι x.b.index,ι x.b.θ,x.ov,ι x.m.role,ι x.m.seen,ι x.m.aG,x.mv,.string S,x.lv,ι x.at_,ι x.ep]) (i:=4) (n:=5) rfl j u hj) underlying50 rfl kR) ?_;refine ξ 4 ?_;refine aQ 5 (fun w' hSw=>(H3.out.2.1.ε hSw (fun e=>e)).cell 9) ?_;refine ξ 6 ?_;refine aQ 7 (fun w' hSw=>(H3.out.2.1.ε hSw (fun e=>e)).cell 10) ?_;refine ξ 8 ?_;refine aQ 9 (fun w' hSw=>(H3.out.2.1.ε hSw (fun e=>e)).cell 11) ?_;refine uj (i:=3) (j:=14) kR rfl rfl (fun KK ο=>?_) (fun KK ο=>?_);go_simp
  refine(nS.out.2.2 _ (H3.out.2.2.2.2.then aC φ)).mono ?_;rintro e Dg ⟨rfl,qH⟩;have b9:=aC.then qH φ;refine ο.out _ _ b9 ?_;clear ο;try simp only[ak]
  refine uj (i:=10) (j:=14) kR rfl rfl (fun KK ο=>?_) (fun KK ο=>?_);go_simp
  refine(nS.out.1 _ b9).mono ?_;rintro r w4 ⟨cv,dA,jG,nK,rfl,fc,ag⟩;obtain⟨fA,hr2⟩:∃r,jM (jz R x.m x.l x.at_ x.ep).1 cv dA jG=r:=⟨_,rfl⟩;obtain⟨E2,dX⟩:∃e,(jz R x.m x.l x.at_ x.ep).2=e:=⟨_,rfl⟩;rw[hr2,dX];have fu:=δ (hr2 ▸ vR fc);have gL:=aD fc ag hr2 dX;clear fc ag hr2 dX;have a_:=b9.then gL.out.2.1 φ;refine ο.out _ _ a_ ?_;clear ο;try simp only[ak]
  refine ξ 11 ?_;refine ξ 12 ?_;refine ξ 13 ?_;refine aY 14 (fun KK ο=>?_);go_simp
  refine ο.out _ _ (a_.alloc _) ?_;clear ο;try simp only[ak]
  obtain⟨g,hg⟩:=κ w4.heap.size;have i_:eP (w4.alloc (.cells #[ι 0,ι 0,ι 0,.slice none 0 0,.string ⟨#[]⟩,.slice none 0 0,ι 0,ι 0,.slice none 0 0,ι 0,ι 0] 95)) (fun q=>(M q∨X q)∨q=c+2∨q=g) (jz R x.m x.l x.at_ x.ep).1 cv dA jG nK∧υ w2 (w4.alloc (.cells #[ι 0,ι 0,ι 0,.slice none 0 0,.string ⟨#[]⟩,.slice none 0 0,ι 0,ι 0,.slice none 0 0,ι 0,ι 0] 95))∧η (w4.alloc (.cells #[ι 0,ι 0,ι 0,.slice none 0 0,.string ⟨#[]⟩,.slice none 0 0,ι 0,ι 0,.slice none 0 0,ι 0,ι 0] 95)) g 95 #[ι 0,ι 0,ι 0,.slice none 0 0,.string ⟨#[]⟩,.slice none 0 0,ι 0,ι 0,.slice none 0 0,ι 0,ι 0]∧w2.heap.size≤g:=⟨(gL.out.1.more (fun q hq=>hq.elim (fun e=>.inl (.inl e)) (fun e=>e.elim (fun e=>.inl (.inr ⟨oM,by have:=b9.size;have:=H3.out.2.2.2.1.lt;omega⟩)) (fun e=>.inr oM)))).still ((ζ.refl _ w4).alloc _),a_.alloc _,(by rw[← hg];exact η.new w4 _ _),(oN a_.size)⟩
  rw[hg];generalize World.alloc w4 _=JN at i_ ⊢;have qI:=δ i_;clear i_ hg a_ b9 qH;rotate_left 1;go_simp
  refine ο.out _ _ (b9.alloc _) ?_;clear ο;try simp only[ak]
  refine aY 10 (fun KK ο=>?_);go_simp
  refine(nS.out.1 _ (b9.alloc _)).mono ?_;rintro r w4 ⟨cv,dA,jG,nK,rfl,fc,ag⟩;obtain⟨fA,hr2⟩:∃r,jM (jz R x.m x.l x.at_ x.ep).1 cv dA jG=r:=⟨_,rfl⟩;obtain⟨E2,dX⟩:∃e,(jz R x.m x.l x.at_ x.ep).2=e:=⟨_,rfl⟩;rw[hr2,dX];have fu:=δ (hr2 ▸ vR fc);have gL:=aD fc ag hr2 dX;clear fc ag hr2 dX;have a_:=(b9.alloc (.cells #[ι 0,ι 0,ι 0,.slice none 0 0,.string ⟨#[]⟩,.slice none 0 0,ι 0,ι 0,.slice none 0 0,ι 0,ι 0] 95)).then gL.out.2.1 φ;refine ο.out _ _ a_ ?_;clear ο;try simp only[ak]
  refine ξ 11 ?_;refine ξ 12 ?_;refine ξ 13 ?_;obtain⟨g,hg⟩:=κ Dg.heap.size;have i_:eP w4 (fun q=>(M q∨X q)∨q=c+2∨q=g) (jz R x.m x.l x.at_ x.ep).1 cv dA jG nK∧υ w2 w4∧η w4 g 95 #[ι 0,ι 0,ι 0,.slice none 0 0,.string ⟨#[]⟩,.slice none 0 0,ι 0,ι 0,.slice none 0 0,ι 0,ι 0]∧w2.heap.size≤g:=⟨(gL.out.1.more (fun q hq=>hq.elim (fun e=>.inl (.inl e)) (fun e=>e.elim (fun e=>.inl (.inr ⟨oM,by have:=b9.size;have:=H3.out.2.2.2.1.lt;rw[cM];omega⟩)) (fun e=>.inl (.inr ⟨by have:=b9.size;have:=H3.out.2.2.2.1.lt;omega,by rw[cM];omega⟩))))),a_,(by rw[← hg];exact(η.new Dg _ _).ε gL.out.2.1 (fun e=>e)),(oN b9.size)⟩;rw[hg];obtain⟨JN,uO⟩:=κ w4;rw[uO] at i_ ⊢;have qI:=δ i_;clear i_ hg a_ b9 qH uO;rotate_left 1;go_simp
  refine ο.out _ _ (aC.alloc _) ?_;clear ο;try simp only[ak]
  refine aY 3 (fun KK ο=>?_);go_simp
  refine(nS.out.2.2 _ (H3.out.2.2.2.2.then (aC.alloc (.cells #[ι 0,ι 0,ι 0,.slice none 0 0,.string ⟨#[]⟩,.slice none 0 0,ι 0,ι 0,.slice none 0 0,ι 0,ι 0] 95)) φ)).mono ?_;rintro e Dg ⟨rfl,qH⟩;have b9:=(aC.alloc (.cells #[ι 0,ι 0,ι 0,.slice none 0 0,.string ⟨#[]⟩,.slice none 0 0,ι 0,ι 0,.slice none 0 0,ι 0,ι 0] 95)).then qH φ;refine ο.out _ _ b9 ?_;clear ο;try simp only[ak]
  refine aY 10 (fun KK ο=>?_);go_simp
  refine(nS.out.1 _ b9).mono ?_;rintro r w4 ⟨cv,dA,jG,nK,rfl,fc,ag⟩;obtain⟨fA,hr2⟩:∃r,jM (jz R x.m x.l x.at_ x.ep).1 cv dA jG=r:=⟨_,rfl⟩;obtain⟨E2,dX⟩:∃e,(jz R x.m x.l x.at_ x.ep).2=e:=⟨_,rfl⟩;rw[hr2,dX];have fu:=δ (hr2 ▸ vR fc);have gL:=aD fc ag hr2 dX;clear fc ag hr2 dX;have a_:=b9.then gL.out.2.1 φ;refine ο.out _ _ a_ ?_;clear ο;try simp only[ak]
  refine ξ 11 ?_;refine ξ 12 ?_;refine ξ 13 ?_;obtain⟨g,hg⟩:=κ w2.heap.size;have hb4:=(η.new w2 95 #[ι 0,ι 0,ι 0,.slice none 0 0,.string ⟨#[]⟩,.slice none 0 0,ι 0,ι 0,.slice none 0 0,ι 0,ι 0]).drew.ε qH (fun e=>e);have i_:eP w4 (fun q=>(M q∨X q)∨q=c+2∨q=g) (jz R x.m x.l x.at_ x.ep).1 cv dA jG nK∧υ w2 w4∧η w4 g 95 #[ι 0,ι 0,ι 0,.slice none 0 0,.string ⟨#[]⟩,.slice none 0 0,ι 0,ι 0,.slice none 0 0,ι 0,ι 0]∧w2.heap.size≤g:=⟨(gL.out.1.more (fun q hq=>hq.elim (fun e=>.inl (.inl e)) (fun e=>e.elim (fun e=>.inl (.inr ⟨oM,by have:=b9.size;have:=H3.out.2.2.2.1.lt;omega⟩)) (fun e=>.inl (.inr ⟨by have:=H3.out.2.2.2.1.lt;omega,by have:=hb4.lt;omega⟩))))),a_,(by rw[← hg];exact hb4.ε gL.out.2.1 (fun e=>e)),oM⟩;first| rw[hg] | skip
  obtain⟨JN,uO⟩:=κ w4;rw[uO] at i_ ⊢;have qI:=δ i_;clear i_ hg a_ b9 qH uO hb4;all_goals
   have ig:=qI.out.2.1;refine aY 15 (fun KK ο=>?_);refine sO (by rfl) 95 _ _ (by rfl) g fA (by rfl) (by rfl) _ _ qI.out.2.2.1 (by rw[fu.out.2];rfl) fu.out.1 (by rw[fu.out.2];kernel_rfl) ?_
   intro w5 aF av iz;have fS:=ig.then av (fun q e=>.inr (by have e2:q=g:=e;have:=qI.out.2.2.2;omega));refine ο.out _ _ fS ?_;clear ο;simp only[Act.put];refine ξ 16 ?_;refine dF ?_;refine cZ ?_;have eR:c+3<g:=by have:=H3.out.2.2.2.1.lt;have:=qI.out.2.2.2;omega
   have ve:=(qI.out.1.act (w':=w5) (M':=(fun q=>(M q∨X q)∨q=c+2∨q=g)) ⟨av.mono (fun q e=>.inl (.inr (.inr e))),fun q e=>.inl e⟩).more (N:=fun q=>(M q∨X q)∨q=c+2) (fun q hq=>.inl (hq.imp id .inl));clear av iz ig aC;have tj:υ w w5:=H3.out.2.2.2.2.then fS φ;have hact:gI R x=jz R x.m x.l x.at_ x.ep:=by
    unfold gI;rw[ν (by rw[HX.out];decide),ν (by rw[HX.out];decide),σ HX.out]
   have vE:∀w6 n M9 w7,iQ w5.drew w6 M M9→Post w6 M9 n→ζ (· = c+2) w6 w7→Ed w w7 M X (gI R x) Post (ώ (.tuple #[.agg fA,ι n,ι E2])):=fun w6 n M9 w7 hS hP h7=>by
    exact Me
   have H5:=gU aF (H3.out.2.1.ε fS (fun e=>e)) (H3.out.2.2.1.ε fS (fun e=>e)) (H3.out.2.2.2.1.ε fS (fun e=>e)) tj eR;have Df:=δ vE;clear aF eR fS tj vE hact ve;go_upto_region 16 with fail
   refine dB ?_;refine dK (S:=fun w'=>η w' g 95 fA∧η w' (c+1) 65 #[ϋ 3,ι x.b.index,ι x.b.θ,x.ov,ι x.m.role,ι x.m.seen,ι x.m.aG,x.mv,.string S,x.lv,ι x.at_,ι x.ep]) (T:=fun _=>false) kR ?_;have aC:=And.intro H5.out.1.drew H5.out.2.1.drew;refine iq 0 (.agg fA) (kX rfl (by rfl) _ _ rfl g (by rfl) _ _ _ (fun w' hSw=>hSw.1) underlying95 rfl (by rw[fu.out.2];kernel_rfl)) ?_
   refine ξ 1 ?_;refine ξ 2 ?_;refine iq 3 (.agg #[ι x.m.role,ι x.m.seen,ι x.m.aG,x.mv,.string S]) (Bc rfl (by rfl) _ _ rfl (c+1) 4 (by rfl) _ _ [ι x.m.role,ι x.m.seen,ι x.m.aG,x.mv,.string S] _ (fun w' hSw=>hSw.2) (fun j u hj=>nt (cs:=#[ϋ 3,ι x.b.index,ι x.b.θ,x.ov,ι x.m.role,ι x.m.seen,ι x.m.aG,x.mv,.string S,x.lv,ι x.at_,ι x.ep]) (i:=4) (n:=5) rfl j u hj) underlying50 rfl kR) ?_;refine ξ 4 ?_;refine aQ 5 (fun w' hSw=>(hSw.2).cell 9) ?_;refine ξ 6 ?_;refine aQ 7 (fun w' hSw=>(hSw.2).cell 10) ?_;refine ξ 8 ?_;refine aQ 9 (fun w' hSw=>(hSw.2).cell 11) ?_;refine ξ 11 ?_;refine aY 10 (fun KK ο=>?_);go_simp
   refine(nS.out.2.1 _ H5.out.2.2.2.2.1.drew).mono ?_;rintro r w6 ⟨n6,M9,rfl,cH,vG⟩;have vr:=(H5.out.2.2.1.drew).ε cH.ε (fun e=>by have:=pI.out _ e;omega);have o5:=(And.intro (H5.out.1.drew.ε cH.ε (fun e=>by have:=pI.out _ e;have:=H5.out.2.2.2.2.2;omega)) (H5.out.2.1.drew.ε cH.ε (fun e=>by have:=pI.out _ e;omega)));have cN:=fun w7 h7=>Df.out w6 n6 M9 w7 cH vG h7
   have uK:=δ cN;refine ο.out _ _ o5 ?_;clear ο vG cN;try simp only[ak]
   refine aY 12 (fun KK ο=>?_);refine sO (by rfl) 95 _ _ (by rfl) (c+2) fA (by rfl) (by rfl) _ _ vr (by rw[fu.out.2];rfl) fu.out.1 (by rw[fu.out.2];kernel_rfl) ?_
   intro w7 dG bK jq;have ye:=(And.intro (o5.1.ε bK (fun e=>by have e2:g=c+2:=e;have:=H5.out.2.2.2.2.2;omega)) (o5.2.ε bK (fun e=>by have e2:c+1=c+2:=e;omega)));refine ο.out _ _ ye ?_;clear ο;simp only[Act.put];refine ξ 13 ?_;refine ξ 14 ?_;exact Rt
 ·obtain rfl:D=4:=by rw[← t_.out.1,hd];rfl
  have H3:=H2;have HX:=δ hd;have vD:∀W,υ w2 W→ς 96 #[.agg row] W fun r W'=>wH W W' (NW (fun q=>M q∨X q) c W) (rotateR R) r:=fun W hW=>by
   have ic:=H3.out.2.2.2.2.then hW φ;have:=(iD.out.1 W _ ic (iD.out.2.2.2.2.1 W)).rotate;rw[jd.out.2.2.2.2.2.1] at this;exact this
  have nS:=τ vD (fun W hW=>HH.out.1.rotate (HH.out.1.still HH.out.2.1 hW) HX.out:∀W,υ w W→ς 34 #[.pointer (some ⟨v,0,none⟩)] W fun r w'=>∃n M',r=ώ (ι n)∧iQ W w' M M'∧Post w' M' n);clear vD hd;go_upto_region 18 with (first
   |(refine eL 95 c H3.out.1 underlying95 (by rw[jd.out.1.2];kernel_rfl) ?_)
   |(go_at_call 96
     refine(nS.out.1 _ (ζ.refl _ _)).mono ?_;rintro r w4 ⟨cv,dA,jG,nK,rfl,fc,ag⟩;obtain⟨fA,hr2⟩:∃r,jM (rotateR R).1 cv dA jG=r:=⟨_,rfl⟩;obtain⟨E2,dX⟩:∃e,(rotateR R).2=e:=⟨_,rfl⟩;rw[hr2,dX];have fu:=δ (hr2 ▸ vR fc);have gL:=aD fc ag hr2 dX;clear fc ag hr2 dX)
   |(refine fk rfl 95 _ _ rfl w4.heap.size fA rfl rfl _ _ (η.new w4 _ _) (by rw[fu.out.2];rfl) fu.out.1 (by rw[fu.out.2];kernel_rfl) ?_
     intro w5 aF av iz))
  obtain⟨g,hg⟩:=κ w4.heap.size;rw[hg] at aF av ⊢;have eR:c+3<g:=by have:=gL.out.2.1.size;have:=H3.out.2.2.2.1.lt;omega
  have fS:υ w2 w5:=(gL.out.2.1.alloc _).then av (fun q e=>.inr (by have e2:q=g:=e;have:=gL.out.2.1.size;omega));have wG:υ w4 w5:=((ζ.refl _ w4).alloc _).then av (fun q e=>.inr (by have e2:q=g:=e;omega));have ve:=(gL.out.1.more (N:=fun q=>(M q∨X q)∨q=c+2) (fun q hq=>hq.elim (fun e=>.inl (.inl e)) (fun e=>.inl (.inr ⟨oM,by have:=H3.out.2.2.2.1.lt;omega⟩)))).still wG;clear hg av iz wG;have tj:υ w w5:=H3.out.2.2.2.2.then fS φ;have hact:gI R x=rotateR R:=by
   unfold gI;rw[ν (by rw[HX.out];decide),ν (by rw[HX.out];decide),ν (by rw[HX.out];decide),σ HX.out]
  have vE:∀w6 n M9 w7,iQ w5.drew w6 M M9→Post w6 M9 n→ζ (· = c+2) w6 w7→Ed w w7 M X (gI R x) Post (ώ (.tuple #[.agg fA,ι n,ι E2])):=fun w6 n M9 w7 hS hP h7=>by
   exact Me
  have H5:=gU aF (H3.out.2.1.ε fS (fun e=>e)) (H3.out.2.2.1.ε fS (fun e=>e)) (H3.out.2.2.2.1.ε fS (fun e=>e)) tj eR;have Df:=δ vE;clear aF eR fS tj vE hact ve;refine dB ?_;refine dK (S:=fun w'=>η w' g 95 fA∧η w' (c+1) 65 #[ϋ 4,ι x.b.index,ι x.b.θ,x.ov,ι x.m.role,ι x.m.seen,ι x.m.aG,x.mv,.string S,x.lv,ι x.at_,ι x.ep]) (T:=fun _=>false) kR ?_;have aC:=And.intro H5.out.1.drew H5.out.2.1.drew;refine iq 0 (.agg fA) (kX rfl (by rfl) _ _ rfl g (by rfl) _ _ _ (fun w' hSw=>hSw.1) underlying95 rfl (by rw[fu.out.2];kernel_rfl)) ?_
  refine ξ 1 ?_;refine ξ 3 ?_;refine aY 2 (fun KK ο=>?_);go_simp
  refine(nS.out.2 _ H5.out.2.2.2.2.1.drew).mono ?_;rintro r w6 ⟨n6,M9,rfl,cH,vG⟩;have vr:=(H5.out.2.2.1.drew).ε cH.ε (fun e=>by have:=pI.out _ e;omega);have o5:=(And.intro (H5.out.1.drew.ε cH.ε (fun e=>by have:=pI.out _ e;have:=H5.out.2.2.2.2.2;omega)) (H5.out.2.1.drew.ε cH.ε (fun e=>by have:=pI.out _ e;omega)));have cN:=fun w7 h7=>Df.out w6 n6 M9 w7 cH vG h7
  have uK:=δ cN;refine ο.out _ _ o5 ?_;clear ο vG cN;try simp only[ak]
  refine aY 4 (fun KK ο=>?_);refine sO (by rfl) 95 _ _ (by rfl) (c+2) fA (by rfl) (by rfl) _ _ vr (by rw[fu.out.2];rfl) fu.out.1 (by rw[fu.out.2];kernel_rfl) ?_
  intro w7 dG bK jq;have ye:=(And.intro (o5.1.ε bK (fun e=>by have e2:g=c+2:=e;have:=H5.out.2.2.2.2.2;omega)) (o5.2.ε bK (fun e=>by have e2:c+1=c+2:=e;omega)));refine ο.out _ _ ye ?_;clear ο;simp only[Act.put];refine ξ 5 ?_;refine ξ 6 ?_;exact Rt
 ·have Js:4<D:=by rw[← t_.out.1];have:=NT.1 hd;exact_mod_cast this
  have hne:∀n:UInt8,n≤4→x.fM≠n:=fun n hn e=>by
   rw[e] at hd;exact absurd hd (by rw[NT];have:=UInt8.le_iff_toNat_le.1 hn;omega)
  have hact:gI R x=(R,0):=by
   unfold gI;rw[ν (fun e=>e.elim (hne 0 dC) (hne 1 dC)),ν (hne 2 dC),ν (hne 3 dC),ν (hne 4 dC)]
  have e0:(D == (0:Int))=false:=by rw[eV];omega
  have e1:(D == (1:Int))=false:=by rw[eV];omega
  have e2:(D == (2:Int))=false:=by rw[eV];omega
  have e3:(D == (3:Int))=false:=by rw[eV];omega
  have e4:(D == (4:Int))=false:=by rw[eV];omega
  have Az:=τ hact hd;clear hact hd hne;go_wp2_with (first
   |(refine eL 95 c H2.out.1 underlying95 (by rw[jd.out.1.2];kernel_rfl) ?_)
   |(refine fk rfl 95 _ _ rfl (c+2) row rfl rfl _ _ H2.out.2.2.1 (by rw[jd.out.1.2];rfl) jd.out.1.1 (by rw[jd.out.1.2];kernel_rfl) ?_
     intro w7 dG bK jq))
  refine cy (J' rfl _ _ (c+2) _ _ _ _ rfl dG underlying95 rfl (by rw[jd.out.1.2];kernel_rfl) _ _ rfl rfl) rfl ?_
  have mQ:=iD.out.1 w2 (fun q=>(M q∨X q)∨q=c+2) H2.out.2.2.2.2 (fun q hq=>hq.imp id (fun e=>by omega));have cN:=Wz (R2:=(R,0)) HH.out.1 HH.out.2.1 t_.out.2 mQ H2.out.2.2.2.2 (iQ.still (ζ.refl _ w2)) (HH.out.1.none_ (HH.out.1.still HH.out.2.1 H2.out.2.2.2.2) Az.out.2) bK H2.out.2.2.1.ty;rw[jd.out.2.2.2.2.2.1] at cN;rw[Az.out.1];exact cN
section
variable {w0 w w':World} {p v:Nat} {d:Dk} {V:aV} {o:cR} {R:eo} {μ c b:Nat} {M:Nat→Prop} {T:TypeId}
def P7 (T:TypeId):Prop:=T ∉ oP∧T≠132∧T≠32∧T≠46
theorem aR.BR (h:aR w p v d V o) (hu:ζ (· = b) w w') (ht:Ty w T b) (hT:P7 T):aR w' p v d V o:=by
 have hm:∀q,o.mut v q→¬q=b:=fun q hq e=>ht.BC hT.1 (e ▸ h.yP hq)
 have hmb:o.mb≠b:=fun e=>by
  obtain⟨ay,e1,-⟩:=h.map.map;exact ht.ji (e ▸ e1.mp)
 refine⟨h.bO.ε hu (fun q hq e=>hm q (.inr (.inl hq)) e),h.blk.ε hu (hm _ (.inl rfl)),h.kept.ε hu (hm _ (.inr (.inr (.inl rfl)))),h.log.ε hu (hm _ (.inr (.inr (.inr (.inl rfl))))),h.recs.ε hu (fun q hq=>hm q (.inr (.inr (.inr (.inr (.inl hq)))))),h.sep,h.ring.move hu (fun q hq=>hm q (.inr (.inr (.inr (.inr (.inr (.inl hq))))))),h.xp,
  h.map.ε hu (fun e=>?_) hmb,h.qb,h.tX,h.rows.ε hu (fun q hq=>hm q (.inr (.inr (.inr (.inr (.inr (.inr hq))))))),h.qD,fun i b' ov h1 h2=>(h.each i b' ov h1 h2).ε hu (fun q hq e=>?_),h.eD.ε hu (fun q hq e=>?_)⟩
 ·have e2:o.m=b:=e
  exact hT.2.1 (ht.inj (e2 ▸ h.map.blk.ty))
 ·have e2:q=b:=e
  exact hT.2.2.1 (ht.inj (e2 ▸ hq))
 ·have e2:q=b:=e
  exact hT.2.2.2 (ht.inj (e2 ▸ hq))
theorem cK.BR (h:cK w0 w p v R μ c M) (hu:ζ (· = b) w w') (ht:Ty w T b) (hT:P7 T) (hb:w0.heap.size≤b):cK w0 w' p v R μ c M:=by
 obtain⟨d,V,o,S0,h,e⟩:=h;exact⟨d,V,o,S0,⟨h.at_.BR hu ht hT,h.g,h.low,h.ε.then hu (fun q e=>.inr (by have e2:q=b:=e;omega))⟩,e⟩
theorem Bp:P7 95:=⟨dC,dC,dC,dC⟩
theorem K_.nil (w:World) (F:List Nat):K_ w F (.slice none 0 0) []:=⟨⟨none,0,0,0,rfl,sM,fun h=>absurd h sM,fun w' _ i hi=>absurd hi sM⟩,sM⟩
theorem cK.aeI (h:cK w0 w p v R μ c M):ς 44 #[.pointer (some ⟨p,0,none⟩),.slice none 0 0] w fun r w'=>r=ώ (.tuple #[])∧∃M',cK w0 w' p v R μ c M'∧iQ w w' M M':=by
 obtain⟨d,V,o,S0,h,h1,h2,hm⟩:=h;refine(agW h.at_.bO (K_.nil _ _)).mono ?_;rintro r w' ⟨rfl,F',hL⟩;obtain⟨a1,a2⟩:=h.at_.Qg hL;obtain⟨b1,b2⟩:=h.step hm a1 a2 (h.g.gS h.at_.bO.wf []);exact⟨rfl,_,⟨_,V,_,S0,b1,h1,h2,fun _=>J8⟩,b2⟩
theorem cK.aht (hc:c<99000) {x:kr} (hx:x.In w0) (hf:x.Jn) (h0:cK w0 w p v R μ c M):P6 w0 v R x M (fun w=>cK w0 w p v R μ c M) (fun w' M' n=>n=(gI R x).2∧cK w0 w' p v (gI R x).1 μ (c+3) M'):=by
 have ho:(jk x R.at_ R.θ).ops=x.b.ops:=by unfold jk;split<;>rfl
 have fB:(jk x R.at_ R.θ).θ≤9223372036854775807:=by
  have e1:=hx.CW.θ.2;have e2:=h0.age.Sw;unfold jk;split
  ·exact e1
  ·show max _ _≤_
   omega
 refine⟨fun h hu=>h.still hu,fun h=>h.ε,fun h q hq=>h.lt hq,fun h q hq=>h.low hq,fun h hd=>?_,fun h hd=>?_,fun h hd=>?_,fun h hd=>?_,fun h hd=>?_,fun h hu ht hb=>⟨h.1,h.2.BR hu ht Bp hb⟩⟩
 ·refine(h.aez hc (jk x R.at_ R.θ) (ov:=x.ov) (by rw[ho];exact hx.CW.ops) (by rw[ho];exact hf.ops) fB).mono ?_
  rintro r w' ⟨rfl,M',h6,h7⟩;have e:gI R x=j_ R (jk x R.at_ R.θ):=by unfold gI;rw[σ hd]
  exact⟨_,M',rfl,h7,by rw[e],by rw[e];exact h6⟩
 ·refine(h.aii hc hx.met hf.met).mono ?_
  rintro r w' ⟨rfl,M',h6,h7⟩;have e:gI R x=lS R x.m:=by unfold gI;rw[ν (by rw[hd];decide),σ hd]
  exact⟨_,M',rfl,h7,by rw[e],by rw[e];exact h6⟩
 ·refine(h.adf hc hx.met hf.met hx.lI hf.lI x.at_ x.ep hx.ep.2).mono ?_
  rintro r w' ⟨rfl,M',h6,h7⟩;have e:gI R x=jz R x.m x.l x.at_ x.ep:=by unfold gI;rw[ν (by rw[hd];decide),ν (by rw[hd];decide),σ hd]
  exact⟨_,M',rfl,h7,by rw[e],by rw[e];exact h6⟩
 ·refine(h.rotate hc).mono ?_
  rintro r w' ⟨rfl,M',h6,h7⟩;have e:gI R x=rotateR R:=by unfold gI;rw[ν (by rw[hd];decide),ν (by rw[hd];decide),ν (by rw[hd];decide),σ hd]
  exact⟨_,M',rfl,h7,by rw[e],by rw[e];exact h6⟩
 ·have hne:∀n:UInt8,n≤4→x.fM≠n:=fun n hn e=>by
   rw[e] at hd;exact absurd hd (by rw[NT];have:=UInt8.le_iff_toNat_le.1 hn;omega)
  have e:gI R x=(R,0):=by
   unfold gI;rw[ν (fun e=>e.elim (hne 0 dC) (hne 1 dC)),ν (hne 2 dC),ν (hne 3 dC),ν (hne 4 dC)]
  rw[e];exact⟨rfl,h.mono oM⟩
end
section
variable {P:Program} {ops:Array Oper} {Q:Exit→Act→World→Prop} {md:Region.Mode} {S:World→Prop} {T:Nat→Bool}
theorem bM (i:Nat) {oi:Oper} {fuel:Nat} {listed:Array Bool} {a:Act} {w:World} (h:dL P md ops Q S T fuel (listed.setIfInBounds i true) (a.put oi.dst undef) w)
 (hi:ops[i]? = some oi:=by rfl) (hS:S w:=by assumption) (ie:Region.wanted oi (yielded ops a.tmps)=false:=by rfl)
 (hc:(Region.noSelect ops && Region.free md ops listed i && (Region.ready md ops listed).contains i && xH md ops T listed i && ops.size == listed.size)=true:=by kernel_rfl) (hQ:∀c a w,Q (.panic c) (a.put oi.dst undef) w→Q (.panic c) a w:=by exact fun _ _ _ h=>h):dL P md ops Q S T (fuel+1) listed a w:=by
 simp only[gY,kV] at hc;exact N0 hi hc.1.1.1.1 hc.1.1.1.2 hc.1.1.2 hc.1.2 hQ (sQ hi (Or.inr ⟨ie,rfl⟩)) hS hc.2 h
end
theorem zz1 {P:Prop} (h:P:=by
 refine ξ 9 ?_;refine ξ 10 ?_;refine bM 11 ?_;simp only[ak];refine bM 12 ?_;simp only[ak];refine bM 13 ?_;simp only[ak];refine bM 14 ?_;simp only[ak];refine bM 15 ?_;simp only[ak];refine ξ 16 ?_;refine ξ 17 ?_;refine bM 18 ?_;simp only[ak];refine bM 19 ?_;simp only[ak];refine bM 20 ?_;simp only[ak];refine bM 21 ?_;simp only[ak];refine bM 22 ?_;simp only[ak];refine bM 23 ?_;simp only[ak];refine ξ 24 ?_;refine ξ 25 ?_;refine bM 26 ?_;simp only[ak];refine bM 27 ?_;simp only[ak];refine bM 28 ?_;simp only[ak];refine bM 29 ?_;simp only[ak];refine bM 30 ?_;simp only[ak];refine bM 31 ?_;simp only[ak];refine bM 32 ?_;simp only[ak];refine ξ 33 ?_;refine ξ 34 ?_;refine bM 35 ?_;simp only[ak];refine bM 36 ?_;simp only[ak];refine bM 37 ?_;simp only[ak];refine bM 38 ?_;simp only[ak];refine ξ 39 ?_;refine ξ 40 ?_;refine bM 41 ?_;simp only[ak];refine bM 42 ?_;simp only[ak];refine bM 43 ?_;simp only[ak];refine bM 44 ?_;simp only[ak];refine ξ 45 ?_;refine ξ 46 ?_;refine dF ?_;refine cZ ?_;go_wp2_with fail
 go_ret
 exact⟨rfl,(iw.out.then TM.out φ)⟩):P:=h
theorem zz5 {P:Prop} (h:P:=by
 refine ξ 45 ?_;refine ξ 46 ?_;refine dF ?_;refine cZ ?_;go_wp2_with fail
 go_ret
 exact⟨rfl,(iw.out.then Nt.out φ)⟩):P:=h
theorem aaE {P:Prop} (h:P:=by
 refine ξ 44 ?_;exact zz5):P:=h
theorem aeJ {w:World} {p v μ:Nat} {R W:eo} {M:Nat→Prop} {mv lv rv:Value} {aI:List Value} (h:mZ w p v R μ) (hd:eP w M W mv lv rv aI) :
 ς 50 #[.pointer (some ⟨v,0,none⟩),.agg (jM W mv lv rv)] w fun e w'=>e=ώ (.bool (decide (R=W)))∧υ w w':=by
 obtain⟨c,hc⟩:=κ w.heap.size;obtain⟨r,hr⟩:=κ (decide (R=W));rw[hr];obtain⟨S,hS⟩:=κ (str W.m.bu);obtain⟨at_,hat⟩:∃x,W.at_=x:=⟨_,rfl⟩;obtain⟨ep,fB⟩:∃x,W.θ=x:=⟨_,rfl⟩;obtain⟨pr,ow⟩:∃x,W.prev=x:=⟨_,rfl⟩;obtain⟨ky,yR⟩:∃x:Int,(W.key:Int)=x:=⟨_,rfl⟩;obtain⟨a,ha⟩:∃x,W.m.role=x:=⟨_,rfl⟩;obtain⟨b,hb⟩:∃x,W.m.seen=x:=⟨_,rfl⟩;obtain⟨d,sw⟩:∃x,W.m.aG=x:=⟨_,rfl⟩;have hme:dy W.m mv=[ι a,ι b,ι d,mv,.string S].toArray:=by rw[← hS,← ha,← hb,← sw];rfl
 have hrow:jM W mv lv rv=#[ι a,ι b,ι d,mv,.string S,lv,ι at_,ι ep,rv,ι pr,ι ky]:=by unfold jM ku;rw[hS,hat,fB,ow,yR,ha,hb,sw]
 rw[hrow];have aaF:=δ hd.eD.1;have aaG:=δ hd.lI.1;have aaH:=δ hd.bt;have Cg:=δ h;have HME:=δ hme;have HL:=aD hat fB ow yR;have HR:=δ hr;have Hc:=δ hc;have zw:=h.many;have HMN:=δ zw;clear h hd hc hr hS hat fB ow yR ha hb sw hme hrow zw;go_enter func50,ntmps50
 go_upto_region 1 with fail
 rw[Hc.out];generalize hw1:World.alloc _ _=w1;have aM:η w1 c 95 #[ι a,ι b,ι d,mv,.string S,lv,ι at_,ι ep,rv,ι pr,ι ky]:=by rw[← hw1,← Hc.out];exact η.new w _ _
 have ax:υ w w1:=by rw[← hw1];exact(ζ.refl _ w).alloc _
 have H1:=τ aM ax;clear hw1 aM ax;go_upto_region 3 with (first
  |(go_at_call 12
    refine(Cg.out.still H1.out.2).place.mono ?_;rintro e w2 ⟨rfl,π⟩;have H2:=δ (H1.out.2.then π φ);have jQ:=δ (H1.out.1.ε π (fun e=>e));clear π)
  |(go_at_call 17
    refine(Cg.out.still H2.out).ahp.mono ?_;rintro e w3 ⟨vx,ovx,rfl,sr,-,χ⟩;have HX:=δ (sr.rows (oN HMN.out));have iw:=δ (H2.out.then χ φ);have HB:=δ (jQ.out.ε χ (fun e=>e));clear sr χ))
 have HMT:=δ (aaF.out.still iw.out);have Ay:=δ (aaG.out.still iw.out);have Ts:=δ (aaH.out.still iw.out);have HV:=δ (Cg.out.still iw.out);have TM:=δ ((ζ.refl (fun _=>False) w3).drew);clear aaF aaG aaH Cg H1 H2 jQ;refine dB ?_;refine dK (S:=fun w'=>η w' c 95 #[ι a,ι b,ι d,mv,.string S,lv,ι at_,ι ep,rv,ι pr,ι ky]) (T:=fun _=>false) kR ?_;have aC:=HB.out.drew;refine ξ 0 ?_;refine ξ 1 ?_;refine aQ 2 (fun w' hSw=>hSw.cell 6) ?_;by_cases z1:R.at_=W.at_
 ·have q1 : (R.at_ == at_)=true:=by rw[kV,z1];exact HL.out.1
  have Z1:=δ z1;clear z1;refine ξ 3 ?_;refine ξ 4 ?_;refine ξ 5 ?_;refine ξ 6 ?_;refine aQ 7 (fun w' hSw=>hSw.cell 7) ?_;by_cases z2:R.θ=W.θ
  ·have q2:(R.θ == ep)=true:=by rw[kV,z2];exact HL.out.2.1
   have Z2:=δ z2;clear z2;refine ξ 8 ?_;refine ξ 9 ?_;refine ξ 10 ?_;refine ξ 11 ?_;refine ξ 13 ?_;refine aQ 14 (fun w' hSw=>hSw.cell 10) ?_;refine aY 12 (fun KK ο=>?_);go_simp
   refine((HV.out.still TM.out).key).mono ?_;rintro e w1b ⟨rfl,ajS⟩;subst ajS;have hU:=ζ.refl (fun _=>False) w3.drew;have nP:=δ (TM.out.then hU φ);have b9:=HB.out.ε nP.out (fun e=>e);refine ο.out _ _ b9 ?_;clear ο hU aC;try simp only[ak]
   by_cases z3:R.key=W.key
   ·have q3:((R.key:Int) == ky)=true:=by rw[kV,← HL.out.2.2.2];omega
    have Z3:=δ z3;clear z3;refine ξ 15 ?_;refine ξ 16 ?_;refine ξ 17 ?_;refine ξ 18 ?_;refine ξ 21 ?_;refine iq 22 (.agg [ι a,ι b,ι d,mv,.string S].toArray) (Bc rfl (by rfl) _ _ rfl c 0 (by rfl) _ _ [ι a,ι b,ι d,mv,.string S] _ (fun w' hSw=>hSw) (fun j u hj=>nt (cs:=#[ι a,ι b,ι d,mv,.string S,lv,ι at_,ι ep,rv,ι pr,ι ky]) (i:=0) (n:=5) rfl j u hj) underlying79 rfl kR) ?_;refine aY 19 (fun KK ο=>?_);go_simp
    refine((HV.out.still nP.out).aiU).mono ?_;rintro e w2 ⟨mvR,rfl,TN,hU⟩;have lV:=δ (nP.out.then hU φ);have a_:=HB.out.ε lV.out (fun e=>e);refine ο.out _ _ a_ ?_;clear ο hU b9;try simp only[ak]
    refine aY 20 (fun KK ο=>?_);go_simp
    refine(PC R.m TN).mono ?_;rintro e w3b ⟨rfl,hU⟩;have HMR:=δ (TN.still hU);have iu:=δ (lV.out.then hU φ);have jC:=HB.out.ε iu.out (fun e=>e);refine ο.out _ _ jC ?_;clear ο hU a_;try simp only[ak]
    clear TN;refine aY 23 (fun KK ο=>?_);go_simp
    have gD:=adi HMR.out (HMT.out.still iu.out);rw[HME.out] at gD;refine gD.mono ?_;rintro e w4 ⟨rfl,hU⟩;by_cases z4:R.m=W.m
    ·rw[fe z4]
     have nM:=δ (iu.out.then hU φ);have dh:=HB.out.ε nM.out (fun e=>e);refine ο.out _ _ dh ?_;clear ο hU jC;try simp only[ak]
     have Z4:=δ z4;clear z4 gD;refine ξ 24 ?_;refine ξ 25 ?_;refine ξ 26 ?_;refine ξ 29 ?_;refine ξ 30 ?_;refine aQ 31 (fun w' hSw=>hSw.cell 5) ?_;refine aY 27 (fun KK ο=>?_);go_simp
     refine((HV.out.still nM.out).Ca).mono ?_;rintro e w5 ⟨m5,mb5,rfl,yG,-,-,hU⟩;have de:=δ (nM.out.then hU φ);have ig:=HB.out.ε de.out (fun e=>e);refine ο.out _ _ ig ?_;clear ο hU dh;try simp only[ak]
     refine aY 28 (fun KK ο=>?_);go_simp
     refine(Xu yG).mono ?_;rintro e w6 ⟨wv,rfl,qG,-,hU⟩;have HT6:=δ (agf qG yG);have gC:=δ (de.out.then hU φ);have cH:=HB.out.ε gC.out (fun e=>e);refine ο.out _ _ cH ?_;clear ο hU ig;try simp only[ak]
     clear yG qG;refine aY 32 (fun KK ο=>?_);go_simp
     refine(agj HT6.out (Ay.out.still gC.out)).mono ?_;rintro e w7 ⟨rfl,hU⟩;by_cases z5:R.S=W.S
     ·rw[fe z5]
      have vh:=δ (gC.out.then hU φ);have lU:=HB.out.ε vh.out (fun e=>e);refine ο.out _ _ lU ?_;clear ο hU cH;try simp only[ak]
      have Z5:=δ z5;clear z5;refine ξ 33 ?_;refine ξ 34 ?_;refine ξ 35 ?_;refine ξ 36 ?_;refine aQ 37 (fun w' hSw=>hSw.cell 8) ?_;refine aY 38 (fun KK ο=>?_);go_simp
      refine(adk (HX.out.still vh.out) (Ts.out.still vh.out)).mono ?_;rintro e w8 ⟨rfl,hU⟩;by_cases z6:R.rows=W.rows
      ·rw[fe z6]
       have Nt:=δ (vh.out.then hU φ);have ij:=HB.out.ε Nt.out (fun e=>e);refine ο.out _ _ ij ?_;clear ο hU lU;try simp only[ak]
       have Z6:=δ z6;clear z6;refine ξ 39 ?_;refine ξ 40 ?_;refine ξ 41 ?_;refine ξ 42 ?_;refine aQ 43 (fun w' hSw=>hSw.cell 9) ?_;by_cases z7:R.prev=pr
       ·have q7:(R.prev == pr)=true:=by rw[kV];exact z7
        have xq:r=true:=by
         rw[← HR.out,dR,zo];exact⟨Z4.out,Z5.out,Z1.out,Z2.out,Z6.out,z7.trans HL.out.2.2.1.symm,Z3.out⟩
        subst xq;exact aaE
       ·have q7:(R.prev == pr)=false:=by rw[eV];exact z7
        have hrf:r=false:=by
         rw[← HR.out,nj,zo];exact fun h=>z7 (h.2.2.2.2.2.1.trans HL.out.2.2.1)
        subst hrf;exact aaE
      ·rw[gN z6]
       have Nt:=δ (vh.out.then hU φ);have ij:=HB.out.ε Nt.out (fun e=>e);refine ο.out _ _ ij ?_;clear ο hU lU;try simp only[ak]
       have hrf:r=false:=by
        rw[← HR.out,nj,zo];exact fun h=>z6 h.2.2.2.2.1
       subst hrf;refine ξ 39 ?_;refine ξ 40 ?_;refine bM 41 ?_;simp only[ak];refine bM 42 ?_;simp only[ak];refine bM 43 ?_;simp only[ak];refine bM 44 ?_;simp only[ak];exact zz5
     ·rw[gN z5]
      have vh:=δ (gC.out.then hU φ);have lU:=HB.out.ε vh.out (fun e=>e);refine ο.out _ _ lU ?_;clear ο hU cH;try simp only[ak]
      have hrf:r=false:=by
       rw[← HR.out,nj,zo];exact fun h=>z5 h.2.1
      subst hrf;refine ξ 33 ?_;refine ξ 34 ?_;refine bM 35 ?_;simp only[ak];refine bM 36 ?_;simp only[ak];refine bM 37 ?_;simp only[ak];refine bM 38 ?_;simp only[ak];refine ξ 39 ?_;refine ξ 40 ?_;refine bM 41 ?_;simp only[ak];refine bM 42 ?_;simp only[ak];refine bM 43 ?_;simp only[ak];refine bM 44 ?_;simp only[ak];refine ξ 45 ?_;refine ξ 46 ?_;refine dF ?_;refine cZ ?_;go_wp2_with fail
      go_ret
      exact⟨rfl,(iw.out.then vh.out φ)⟩
    ·rw[gN z4]
     have nM:=δ (iu.out.then hU φ);have dh:=HB.out.ε nM.out (fun e=>e);refine ο.out _ _ dh ?_;clear ο hU jC;try simp only[ak]
     have hrf:r=false:=by
      rw[← HR.out,nj,zo];exact fun h=>z4 h.1
     subst hrf;refine ξ 24 ?_;refine ξ 25 ?_;refine bM 26 ?_;simp only[ak];refine bM 27 ?_;simp only[ak];refine bM 28 ?_;simp only[ak];refine bM 29 ?_;simp only[ak];refine bM 30 ?_;simp only[ak];refine bM 31 ?_;simp only[ak];refine bM 32 ?_;simp only[ak];refine ξ 33 ?_;refine ξ 34 ?_;refine bM 35 ?_;simp only[ak];refine bM 36 ?_;simp only[ak];refine bM 37 ?_;simp only[ak];refine bM 38 ?_;simp only[ak];refine ξ 39 ?_;refine ξ 40 ?_;refine bM 41 ?_;simp only[ak];refine bM 42 ?_;simp only[ak];refine bM 43 ?_;simp only[ak];refine bM 44 ?_;simp only[ak];refine ξ 45 ?_;refine ξ 46 ?_;refine dF ?_;refine cZ ?_;go_wp2_with fail
     go_ret
     exact⟨rfl,(iw.out.then nM.out φ)⟩
   ·have q3:((R.key:Int) == ky)=false:=by rw[eV,← HL.out.2.2.2];omega
    have hrf:r=false:=by
     rw[← HR.out,nj,zo];exact fun h=>z3 h.2.2.2.2.2.2
    subst hrf;refine ξ 15 ?_;refine ξ 16 ?_;refine ξ 17 ?_;refine bM 18 ?_;simp only[ak];refine bM 19 ?_;simp only[ak];refine bM 20 ?_;simp only[ak];refine bM 21 ?_;simp only[ak];refine bM 22 ?_;simp only[ak];refine bM 23 ?_;simp only[ak];refine ξ 24 ?_;refine ξ 25 ?_;refine bM 26 ?_;simp only[ak];refine bM 27 ?_;simp only[ak];refine bM 28 ?_;simp only[ak];refine bM 29 ?_;simp only[ak];refine bM 30 ?_;simp only[ak];refine bM 31 ?_;simp only[ak];refine bM 32 ?_;simp only[ak];refine ξ 33 ?_;refine ξ 34 ?_;refine bM 35 ?_;simp only[ak];refine bM 36 ?_;simp only[ak];refine bM 37 ?_;simp only[ak];refine bM 38 ?_;simp only[ak];refine ξ 39 ?_;refine ξ 40 ?_;refine bM 41 ?_;simp only[ak];refine bM 42 ?_;simp only[ak];refine bM 43 ?_;simp only[ak];refine bM 44 ?_;simp only[ak];refine ξ 45 ?_;refine ξ 46 ?_;refine dF ?_;refine cZ ?_;go_wp2_with fail
    go_ret
    exact⟨rfl,(iw.out.then nP.out φ)⟩
  ·have q2:(R.θ == ep)=false:=by rw[eV,← HL.out.2.1];exact z2
   have hrf:r=false:=by
    rw[← HR.out,nj,zo];exact fun h=>z2 h.2.2.2.1
   subst hrf;refine ξ 8 ?_;exact zz1
 ·have q1:(R.at_ == at_)=false:=by rw[eV,← HL.out.1];exact z1
  have hrf:r=false:=by
   rw[← HR.out,nj,zo];exact fun h=>z1 h.2.2.1
  subst hrf;refine ξ 3 ?_;refine ξ 4 ?_;refine bM 5 ?_;simp only[ak];refine bM 6 ?_;simp only[ak];refine bM 7 ?_;simp only[ak];refine bM 8 ?_;simp only[ak];exact zz1
theorem au.new {w:World} {t:TypeId} {k n:Nat} {cells:Array Value} {cs:List (List Value)} (hn:cs.length=n) (hm:n≤1000000) (hc:∀i c,cs[i]? = some c→∀j u,c[j]? = some u→cells[i*k+j]? = some u):au (w.alloc (.cells cells t)) t k (.slice (some ⟨w.heap.size,0,none⟩) n n) cs:=by
 refine⟨_,n,by rw[hn],oM,oM,fun _=>⟨w.heap.size,0,cells,t,(0,0),rfl,η.new w t cells,fun _=>rfl,fun i c h j u hj=>?_⟩⟩;rw[kU];exact hc i c h j u hj
theorem au.nil (w:World) (t:TypeId) (k:Nat):au w t k (.slice none 0 0) []:=⟨none,0,rfl,sM,sM,fun h=>by simp at h⟩
def opW:cT:=⟨1,[97,112,112,47,97],[49]⟩
def Ic:bL:=⟨1,1,[opW]⟩
theorem agr:∃R,j_ R0 Ic=(R,0)∧R.at_=1∧R.θ=1∧R.S=[([97,112,112,47,97],[49])]∧R.rows.length=1∧R.m=La∧R.key=0∧R.prev=0:=⟨_,rfl,rfl,rfl,rfl,rfl,rfl,rfl,rfl⟩
theorem WA (w:World):ς 26 #[] w fun e w'=>e=ώ (.bool true)∧υ w w':=by
 have HF:=δ (Wv w);obtain⟨R,hR,r1,r2,r3,-⟩:=agr;have gl:j_ R ⟨3,1,[]⟩=(R,1):=by
  unfold j_;rw[ν dC,σ (.inl (by rw[r1];decide))]
 have HR:=cx hR gl r1 r2 r3;clear hR gl r1 r2 r3;go_enter func26,ntmps26
 go_upto_region 4 with (first
  |(go_at_call 11;refine HF.out.mono ?_;rintro e w1 ⟨p,v,rfl,hV⟩
    have H1:=δ hV;clear hV))
 go_upto_region 5 with (first
  |(go_at_call 15
    have hu:=(ζ.refl (fun _=>False) w1).alloc (.cells #[ϋ 1,.string ⟨#[97,112,112,47,97]⟩,.string ⟨#[49]⟩] 32);refine((H1.out.still hu).sW oM Ic (au.new (w:=w1) (t:=32) (k:=3) (n:=1) (cells:=#[ϋ 1,.string ⟨#[97,112,112,47,97]⟩,.string ⟨#[49]⟩]) (cs:=Ic.ops.map bU) rfl oM (by
     intro i c h j u hj;match i,h with
     | 0,h =>
       cases h
       match j,hj with
       | 0,hj=>exact hj
       | 1,hj=>exact hj
       | 2,hj=>exact hj
       | n+3,hj=>simp[bU] at hj
     | n+1,h=>simp[Ic] at h)) (.inl dC) (by intro o ho;simp[Ic] at ho;subst ho;decide) dC).mono ?_
    rintro e w2 ⟨rfl,hV,-⟩;rw[HR.out.1] at hV ⊢;have H2:=δ hV;clear hu hV))
 go_upto_region 6 with (first
  |(go_at_call 15
    refine(H2.out.sW oM ⟨3,1,[]⟩ (au.nil _ 32 _) (.inl dC) (fun o ho=>by simp at ho) dC).mono ?_;rintro e w3 ⟨rfl,hV,-⟩;rw[HR.out.2.1] at hV ⊢;have H3:=δ hV;clear hV))
 go_upto_region 7 with (first
  |(go_at_call 16;refine(H3.out.open_ oM).mono ?_;rintro e w4 ⟨u,rfl,hV,-⟩
    have H4:=δ hV;clear hV))
 go_upto_region 9 with (first
  |(go_at_call 12;refine H4.out.place.mono ?_;rintro e w5 ⟨rfl,hV,-⟩
    rw[HR.out.2.2.1,HR.out.2.2.2.1];have H5:=δ hV;clear hV)
  |(go_at_call 18;refine H5.out.Ca.mono ?_;rintro e w6 ⟨m,mb,rfl,hm,-,-,hV,-⟩
    rw[HR.out.2.2.2.2] at hm;have H6:=τ hV hm;clear hV hm)
  |(go_at_call 19;refine(ah3 H6.out.2 ⟨#[97,112,112,47,97]⟩).mono ?_;rintro e w7 ⟨rfl,rfl⟩
    rw[show QT [([97,112,112,47,97],[49])] (⟨#[97,112,112,47,97]⟩:ByteArray).data.toList=.tuple #[.string ⟨#[49]⟩,.bool true] from rfl]))
 have HB:=δ (H6.out.1.BM oM);go_wp2_with (first
  |(go_at_call 13;refine HB.out.mono ?_;rintro e w8 ⟨rfl,rfl⟩))
 go_ret
 exact⟨rfl,H6.out.1.ε⟩
end
end Go.Proofs.YtbhjgfibhegddaaGreat
