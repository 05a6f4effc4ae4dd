/-
  Parts of the proof of VaultPlays: Ref17E, SameB, Doc17.
-/
import Derived.Test.YtbhjgfibhegddaaGreatQVaultPlays22
set_option maxRecDepth 100000
set_option maxHeartbeats 16000000
namespace Go.Proofs.YtbhjgfibhegddaaGreat
open Tryz
section
open Go Go.RowKit
def BQ (T:List ai) (at_ ep:Int) (i e:Int) (l:List cT):Int:=if d_ i e l≠0 then d_ i e l else if i≠at_+1∨e<ep then 1 else fW T l
theorem au.below {w:World} {t:TypeId} {k:Nat} {v:Value} {cs:List (List Value)} (h:au w t k v cs) (h0:0<cs.length):∀q,v.ownBlock=some q→q<w.heap.size:=by
 obtain⟨A,cap,h1,h2,h3,h4⟩:=h;obtain⟨b,off,cur,t',fr,e1,e2,e4,e3⟩:=h4 h0;intro q hq;rw[h1,e1] at hq;have:b=q:=by simpa [Value.ownBlock] using hq
 subst this;exact(ng.1 e2).1
theorem au.none_ {w w':World} {t:TypeId} {k:Nat} {v:Value} {cs:List (List Value)} (h:au w t k v cs) (h0:¬0<cs.length):au w' gd k v cs:=by
 obtain⟨A,cap,h1,h2,h3,-⟩:=h;exact⟨A,cap,h1,h2,h3,fun e=>absurd e h0⟩
theorem au.Rp {w w':World} {t:TypeId} {k:Nat} {v:Value} {cs:List (List Value)} {Y:Nat→Prop} (h:au w t k v cs) (hu:ζ Y w w') (hz:0<cs.length→∀q,v.ownBlock=some q→¬Y q):au w' gd k v cs:=by
 by_cases h0:0<cs.length
 ·exact h.any.tg hu (fun b hb _=>hz h0 b hb)
 ·exact h.none_ h0
theorem au.XD {w w':World} {t t':TypeId} {k k':Nat} {v:Value} {cs cs':List (List Value)} (h:au w t k v cs) (h':au w' t' k' v cs'):cs.length=cs'.length:=by
 obtain⟨A,cap,rfl,-⟩:=h;obtain⟨A',cap',e,-⟩:=h';injection e
structure Nw (W w':World) (v:Value) (n:Nat) (xs:List Value):Prop where
 own:Own w' 35 3 v n xs
 ε:υ W w'
 new:∀q,v.ownBlock=some q→W.heap.size≤q
theorem Nw.empty (W:World):Nw W ((W.alloc (.cells #[] 35)).drew) (.slice (some ⟨W.heap.size,0,none⟩) 0 0) 0 []:=by
 refine⟨⟨rfl,.inr ⟨_,0,#[],(0,0),rfl,(η.new W 35 #[]).drew,.inl rfl,bQ _,dC,rfl,rfl⟩⟩,((ζ.refl _ W).alloc _).drew,fun q hq=>?_⟩
 ·have:W.heap.size=q:=by simpa [Value.ownBlock] using hq
  omega
theorem Nw.ain (W:World):Nw W (W.alloc (.cells #[] 35)) (.slice (some ⟨W.heap.size,0,none⟩) 0 0) 0 []:=⟨(Nw.empty W).own,(ζ.refl _ W).alloc _,(Nw.empty W).new⟩
theorem Nw.append {W w1 w2:World} {v v2:Value} {n n2:Nat} {xs Ak:List Value} (h:Nw W w1 v n xs) (hO:Own w2 35 3 v2 n2 Ak) (hU:ζ (fun k=>v.ownBlock=some k) w1 w2) (hl:v2.ownBlock=v.ownBlock∨v2.ownBlock=some w1.heap.size):Nw W w2 v2 n2 Ak:=by
 refine⟨hO,h.ε.then hU (fun q e=>.inr (h.new q e)),fun q hq=>?_⟩;rcases hl with e | e
 ·exact h.new q (by rw[← e];exact hq)
 ·rw[hq] at e
  have:=dw e;have:=h.ε.size;omega
theorem Nw.alloc {W w1:World} {v:Value} {n:Nat} {xs:List Value} (h:Nw W w1 v n xs) (o:Obj):Nw W (w1.alloc o) v n xs:=⟨h.own.alloc o,h.ε.alloc o,h.new⟩
theorem Nw.base {W0 W w1:World} {v:Value} {n:Nat} {xs:List Value} (h:Nw W w1 v n xs) (hu:υ W0 W):Nw W0 w1 v n xs:=⟨h.own,hu.then h.ε φ,fun q hq=>iE hu.size (h.new q hq)⟩
theorem Src.P4 {P:Program} {w:World} {xT t e:TypeId} {b size n:Nat} {cs:Array Value} (ht:P.underlying xT=some (.slice t)) (hB:η w b e cs) (hn:cs.toList.length=n*size):Src P w xT size (.slice (some ⟨b,0,none⟩) n n) n cs.toList :=
 .uq ht _ _ _ hn fun j u hu=>by
  have iY:(⟨b,0,none⟩:Addr).add j=⟨b,j,none⟩:=by unfold Addr.add;split<;>simp_all
  rw[iY];rw[hB.cell j];simpa using hu
structure XE (w w':World) (lv cD yT:Value) (D:List ai) (rows:List (List Value)) (x:List Value):Prop where
 lI:au w' gd 2 cD (D.map bz)
 prl:cD=lv∨∀q,cD.ownBlock=some q→w.heap.size≤q
 rows:au w' gd 3 yT (rows++[x])
 ajP:∀q,yT.ownBlock=some q→w.heap.size≤q
 ε:υ w w'
structure Ex (w W:World) (c g h:Nat) (C Z BT:Array Value) (cD oD:Value) (D:List ai) (m:Nat) (mH:List (List Value)):Prop where
 hB:η W h 95 C
 hM:η W (c+1) 35 BT
 hZ:η W (c+2) 95 Z
 hG:η W g 93 #[cD]
 ε:υ w W
 Rq:au W gd 2 cD (D.map bz)
 src:∀W',υ W W'→Src prog W' 38 3 oD m mH.flatten
 one:∀u ∈ mH.flatten,u.oneCell'=true
 three:∀x ∈ mH,x.length=3
 qc:m≤24
 len:mH.length=m
 cg:c+2<g
 gh:g<h
 size:w.heap.size=c
 low:0<D.length→∀q,cD.ownBlock=some q→q≠h∧q≠c+2
theorem Ex.fin {w W w1 w9 w12 w13:World} {c g h:Nat} {C Z BT:Array Value} {cD oD v6:Value} {D:List ai} {m:Nat} {mH:List (List Value)} {x:List Value} (hA:Ex w W c g h C Z BT cD oD D m mH) (n6:Nw W w1 v6 (0+m+1) ([]++mH.flatten++x)) (hx:x.length=3) (h9:ζ (· = h) w1 w9) (h12:ζ (· = h) w9 w12) (h13:ζ (· = c+2) w12 w13) :
 au w13 gd 2 cD (D.map bz)∧au w13 gd 3 v6 (mH++[x])∧(∀q,v6.ownBlock=some q→w.heap.size≤q)∧υ w w13:=by
 have hU:ζ (fun q=>q=h∨q=c+2) w1 w13:=((h9.then h12 (fun _ e=>.inl e)).mono (fun q e=>.inl (.inl e))).then h13 (fun q e=>.inl (.inr e));have hW:=hA.hB.lt;have hs:=hA.ε.size;have hc:=hA.size;have tZ:=hA.gh;have eR:=hA.cg;refine⟨(hA.Rq.still n6.ε).Rp hU (fun h0 q hq e=>?_),?_,fun q hq=>?_,(hA.ε.then n6.ε φ).then hU (fun q e=>.inr ?_)⟩
 ·have:=hA.low (by rw[bp] at h0;exact h0) q hq
  rcases e with e | e
  ·exact this.1 e
  ·exact this.2 e
 ·have h1:au w1 35 3 v6 (mH++[x]):=by
   refine au.jK (n:=m+1) ?_ (by rw[aL,hA.len];rfl) (oN hA.qc) (fun r hr=>?_)
   ·have:=n6.own
    rw[nW,kU] at this;rw[abb];simpa using this
   ·rcases nZ.1 hr with e | e
    ·exact hA.three r e
    ·rw[A9.1 e];exact hx
  refine(h1.any).tg hU (fun q hq _ e=>?_);have:=n6.new q hq;rcases e with e | e<;>omega
 ·have:=n6.new q hq
  omega
 ·rcases e with e | e<;>omega
theorem aio (w:World) (C D Z:Array Value) {c:Nat} (hc:w.heap.size=c) (w1:World) (h:((w.alloc (.cells C 95)).alloc (.cells D 35)).alloc (.cells Z 95)=w1):η w1 c 95 C∧η w1 (c+1) 35 D∧η w1 (c+2) 95 Z∧υ w w1:=by
 subst h;refine⟨by rw[← hc];exact((η.new w _ _).alloc _).alloc _,?_,?_,(((ζ.refl _ w).alloc _).alloc _).alloc _⟩
 ·have:=(η.new (w.alloc (.cells C 95)) 35 D).alloc (.cells Z 95)
  rw[cM,hc] at this;exact this
 ·have:=η.new ((w.alloc (.cells C 95)).alloc (.cells D 35)) 95 Z
  rw[cM,cM,hc] at this;exact this
theorem adj {w:World} {a b d:Int} {mv:Value} {S:ByteArray} {lv:Value} {at_ ep:Int} {rv:Value} {pr ky:Int} (h1:mv.oneCell'=true) {tyr:TypeId} {qt:List (List Value)} (rK:au w tyr 3 rv qt) (Rr:qt.length≤24) (TC:∀x ∈ qt,x.length=3) (hk1:∀x ∈ qt,∀u ∈ x,u.oneCell'=true) {ty JG:TypeId} {T:List ai} (hT:au w ty 2 lv (T.map bz)) (hs:∀q ∈ T,q.1.length≤1000000) (hS:T.length≤1000) (hR:fX T) {ov:Value} {l:List cT} (hO:au w JG 3 ov (l.map bU)) (iO:qh l) (i e:Int) :
 ς 93 #[.agg (ku a b d mv S lv at_ ep rv pr ky),.agg (lP i e ov)] w fun r w' =>
  (BQ T at_ ep i e l=0∧∃cD yT,r=ώ (.tuple #[.agg (ku a b d mv S cD i e yT (if qt.length=24 then ep else pr) ky),ι 0])∧XE w w' lv cD yT (cJ T l) (if qt.length=24 then [] else qt) [ι i,ι e,ov]) ∨
  (BQ T at_ ep i e l≠0∧r=ώ (.tuple #[.agg (ku a b d mv S lv at_ ep rv pr ky),ι (BQ T at_ ep i e l)])∧υ w w'):=by
 have pI:Hid (∀(W:World) (x:Value) (D:List ai),au W gd 2 x (D.map bz)→0<D.length→x=lv→∀q,x.ownBlock=some q→q<w.heap.size):=δ fun W x D hx h0 e q hq=>by
  subst e;have h1:=hT.XD hx;simp only[bp] at h1;exact hT.below (by rw[bp];omega) q hq
 have h2:=hT.one;have h3:=rK.one;have hone:=hO.one;have eE:=fun W (hW:υ w W)=>VX (i:=i) (ep:=e) (hO.still hW) iO
 have jF:=fun W (hW:υ w W)=>ail (hT.still hW) hs hS hR (hO.still hW) iO
 obtain⟨E,hE⟩:=κ (BQ T at_ ep i e l);obtain⟨E1,lH⟩:=κ (d_ i e l);obtain⟨E2,dX⟩:=κ (fW T l);have qF:E=if E1≠0 then E1 else if i≠at_+1∨e<ep then 1 else E2:=by rw[← hE];unfold BQ;rw[lH,dX]
 have hi1:E1=0→1≤i∧i≤4611686018427387904:=fun h=>by have:=sP (lH.trans h);exact⟨this.1,this.2.1⟩
 rw[lH] at eE;rw[dX] at jF;rw[hE];unfold lP at eE ⊢;have fR:=aD (uo (a:=a) (b:=b) (c:=d) (S:=S) (at_:=at_) (ep:=ep) (pr:=pr) (ky:=ky) h1 h2 h3) hone h1 h3;have hsrc:∀W,υ w W→Src prog W 38 3 rv qt.length qt.flatten:=fun W hW=>(rK.still hW).src underlying38 TC
 have nG:∀u ∈ qt.flatten,u.oneCell'=true:=fun u hu=>by
  obtain⟨x,hx,hux⟩:=Um.1 hu;exact hk1 x hx u hux
 obtain⟨RA,mK,rb,aks,rfl,hrc,-,-,-⟩:=rK.open_;obtain⟨n,hn⟩:=κ qt.length;rw[hn] at hrc Rr fR hsrc ⊢;have JL:=cx hsrc nG TC Rr hn;obtain⟨DL,TD⟩:=κ (cJ T l);rw[TD] at jF ⊢;obtain⟨PR,TE⟩:∃x,(if n=24 then ep else pr)=x:=⟨_,rfl⟩;obtain⟨RW,TF⟩:∃x,(if n=24 then [] else qt)=x:=⟨_,rfl⟩;rw[TE,TF];have Ay:=τ TE TF;clear TE TF;have HDL:=δ TD;obtain⟨i0,bx,bN,bG,aT⟩:=je OT;have jv:=aD bx bN bG aT;clear hrc hsrc nG TC hk1 Rr hn rK TD bx bN bG aT;obtain⟨c,hc⟩:=κ w.heap.size;have Hc:=δ hc;have HLV:=δ h2;have mW:=τ eE jF;have HE:=τ qF hi1;clear hc h1 h2 h3 hone eE jF hE lH dX qF hi1 hT hs hS hR hO iO;unfold ku at fR ⊢;go_enter func93,ntmps93
 go_upto_region 1 with fail
 rw[Hc.out];generalize hw1:World.alloc (World.alloc (World.alloc _ _) _) _=w1;obtain⟨aM,hM1,pK,ax⟩:=aio w #[ι a,ι b,ι d,mv,.string S,lv,ι at_,ι ep,.slice RA n mK,ι pr,ι ky] #[ι i,ι e,ov] #[ι 0,ι 0,ι 0,.slice none 0 0,.string ⟨#[]⟩,.slice none 0 0,ι 0,ι 0,.slice none 0 0,ι 0,ι 0] Hc.out w1 hw1;have H1:=aD aM hM1 pK ax;clear hw1 aM hM1 pK ax;go_upto_region 2 with (first
  |(refine fV 35 (c+1) H1.out.2.1 underlying35 ?_)
  |(go_at_call 152
    refine(mW.out.1 _ H1.out.2.2.2).mono ?_;rintro r w2 ⟨rfl,π⟩;have H2:=aD (H1.out.1.ε π (fun e=>e)) (H1.out.2.1.ε π (fun e=>e)) (H1.out.2.2.1.ε π (fun e=>e)) (H1.out.2.2.2.then π φ);clear π))
 by_cases h0:E1=0
 ·subst h0
  have HI:=δ (HE.out.2 rfl);go_upto_region 4 with fail
  have m0:w2.cell? ⟨c+1,0,none⟩=some (ι i):=H2.out.2.1.cell 0;have m1:w2.cell? ⟨c+1,1,none⟩=some (ι e):=H2.out.2.1.cell 1;have v6:w2.cell? ⟨c,6,none⟩=some (ι at_):=H2.out.1.cell 6;have v7:w2.cell? ⟨c,7,none⟩=some (ι ep):=H2.out.1.cell 7;have hwi:IntKind.i64.wrap (i - 1)=i - 1:=bX _ (oN HI.out);by_cases ha:i - 1=at_
  ·have ha':(i - 1 != at_)=false:=by rw[bne_eq_false_iff_eq];exact ha
   have HA:=δ ha;clear ha;by_cases he:e<ep
   ·obtain rfl:E=1:=by rw[HE.out.1,ν sM,σ (.inr he)]
    go_wp2_with (first
   |(refine fV 95 c H2.out.1 underlying95 ?_)
   |(refine ef 95 (c+2) #[ι a,ι b,ι d,mv,.string S,lv,ι at_,ι ep,.slice RA n mK,ι pr,ι ky] H2.out.2.2.1 fR.out.1 ?_
     intro w4 aE ag cG))
    refine cy (iR rfl _ _ (c+2) _ _ _ _ rfl aE underlying95 rfl kR _ rfl) rfl (by have hu:=H2.out.2.2.2.then ag (fun q e=>.inr (by have e2:q=c+2:=e;have:=Hc.out;omega));first| exact .inr ⟨dC,rfl,hu⟩ | exact⟨rfl,hu⟩)
   ·obtain rfl:E=E2:=by rw[HE.out.1,ν sM,ν (oN HA.out)]
    go_upto_region 6 with fail
    clear m0 m1 v6 v7;have m2:w2.cell? ⟨c+1,2,none⟩=some ov:=H2.out.2.1.cell 2;go_upto_region 7 with (first
     |(refine qL rfl 93 _ rfl c 5 rfl _ _ [lv] _ H2.out.1 (fun j u hj=>by cases j with | zero=>simpa using hj | succ j=>simp at hj) underlying93 rfl kR ?_)
     |(go_at_call 153
       refine(mW.out.2 _ H2.out.2.2.2).mono ?_;rintro r w3 ⟨cD,rfl,mz,χ,fI⟩;have nG:=ot mz.one)
     |(refine ef 93 w3.heap.size #[cD] (η.new w3 _ _) nG ?_
       intro w5 aF av iz))
    clear m2;obtain⟨g,hg⟩:=κ w3.heap.size;rw[hg] at aF av ⊢;have eR:c+2<g:=by have:=(H2.out.2.2.1.ε χ (fun e=>e)).lt;omega
    have uN:υ w2 w5:=(χ.alloc _).then av (fun q e=>.inr (by have e2:q=g:=e;have:=χ.size;omega));have fS:υ w3 w5:=((ζ.refl _ w3).alloc _).then av (fun q e=>.inr (by have e2:q=g:=e;omega));have Yu:0<(if E=0 then DL else T).length→∀q,cD.ownBlock=some q→q<g∧q≠c+2:=fun h0 q hq=>by
     have h1:=mz.below (by rw[bp];exact h0) q hq;refine⟨oM,?_⟩;rcases fI with e | e
     ·have:=pI.out w3 cD _ mz h0 e q hq
      have:=Hc.out;omega
     ·have:=e q hq
      have:=H2.out.2.2.1.lt;omega
    have Et:cD=lv∨∀q,cD.ownBlock=some q→w.heap.size≤q:=fI.imp id (fun e q hq=>by have:=e q hq;have:=H2.out.2.2.2.size;omega);have HLW:=τ Yu Et;clear Yu Et;have H5:=δ (And.intro (H2.out.1.ε uN (fun e=>e)) (And.intro (H2.out.2.1.ε uN (fun e=>e)) (And.intro (H2.out.2.2.1.ε uN (fun e=>e)) (And.intro (H2.out.2.2.2.then uN φ) (And.intro aF (And.intro (mz.still fS) (And.intro fI (And.intro eR (H2.out.2.2.2.size)))))))));clear uN fS aF av iz hg eR χ mz;by_cases h0:E=0
    ·subst h0
     have aaA:0<DL.length→∀q,cD.ownBlock=some q→q<g∧q≠c+2:=by have h1:=HLW.out.1;rw[σ rfl] at h1;exact h1
     have ht5:au w5 gd 2 cD (DL.map bz):=by have h1:=H5.out.2.2.2.2.2.1;rw[σ rfl] at h1;exact h1
     have Fm:=τ ht5 aaA;clear aaA ht5;go_upto_region 10 with (first
      |(refine fV 95 c H5.out.1 underlying95 ?_)
      |(refine ef 95 w5.heap.size #[ι a,ι b,ι d,mv,.string S,lv,ι at_,ι ep,.slice RA n mK,ι pr,ι ky] (η.new w5 _ _) fR.out.1 ?_
        intro w6 cI az iB))
     obtain⟨h,hh⟩:=κ w5.heap.size;rw[hh] at cI az ⊢;have tZ:g<h:=by have:=H5.out.2.2.2.2.1.lt;omega
     have qx:υ w5 w6:=((ζ.refl _ w5).alloc _).then az (fun q e=>.inr (by have e2:q=h:=e;omega));have H6:=zO (H5.out.1.ε qx (fun e=>e)) (H5.out.2.1.ε qx (fun e=>e)) (H5.out.2.2.1.ε qx (fun e=>e)) (H5.out.2.2.2.1.then qx φ) (H5.out.2.2.2.2.1.ε qx (fun e=>e)) (H5.out.2.2.2.2.2.1.still qx) cI tZ;have c8:w6.cell? ⟨c,8,none⟩=some (.slice RA n mK):=H6.out.1.cell 8;have Lx:=δ (uo (a:=a) (b:=b) (c:=d) (S:=S) (at_:=at_) (ep:=ep) (rv:=.slice none 0 0) (pr:=ep) (ky:=ky) fR.out.2.2.1 HLV.out rfl);have hfg:=fun W=>Wy (w:=W) (a:=a) (b:=b) (d:=d) (S:=S) (at_:=at_) (ep:=ep) (rv:=.slice RA n mK) (pr:=pr) (ky:=ky) fR.out.2.2.1 HLV.out
     unfold ku at hfg Lx;have JK:=δ hfg;have aaB:=δ qx;clear hfg qx cI az iB hh tZ;by_cases h24:n=24
     case' neg =>
      have Hv:((n:Int) == 24)=false:=by rw[eV];omega
      have Dd:=δ h24;clear h24;go_upto_region 12 with fail
      have ic:ζ (· = h) w6 w6:=ζ.refl _ _;have tZ:=H6.out.2.2.2.2.2.2.2;have eR:=H5.out.2.2.2.2.2.2.2.1;have Fo:υ w w6:=H6.out.2.2.2.1.then ic (fun q e=>.inr (by have e2:q=h:=e;have:=Hc.out;omega));have hA:Ex w w6 c g h #[ι a,ι b,ι d,mv,.string S,lv,ι at_,ι ep,.slice RA n mK,ι pr,ι ky] #[ι 0,ι 0,ι 0,.slice none 0 0,.string ⟨#[]⟩,.slice none 0 0,ι 0,ι 0,.slice none 0 0,ι 0,ι 0] #[ι i,ι e,ov] cD (.slice RA n mK) DL n qt:=by
       refine⟨H6.out.2.2.2.2.2.2.1,H6.out.2.1.ε ic (fun e=>by have e2:c+1=h:=e;omega),H6.out.2.2.1.ε ic (fun e=>by have e2:c+2=h:=e;omega),H6.out.2.2.2.2.1.ε ic (fun e=>by have e2:g=h:=e;omega),Fo,?_,?_,?_,?_,?_,?_,eR,tZ,Hc.out,fun h0 q hq=>by have h1:=Fm.out.2 h0 q hq;omega⟩
       ·exact(Fm.out.1.still aaB.out).Rp ic (fun h0 q hq e=>by have e2:q=h:=e;have:=Fm.out.2 (by rw[bp] at h0;exact h0) q hq;omega)
       ·exact fun W' Nn=>JL.out.1 W' (Fo.then Nn φ)
       ·exact JL.out.2.1
       ·exact JL.out.2.2.1
       ·exact JL.out.2.2.2.1
       ·exact JL.out.2.2.2.2
      have mA:RW=qt:=by rw[← Ay.out.2];exact ν Dd.out
      have De:PR=pr:=by rw[← Ay.out.1];exact ν Dd.out
      obtain⟨W,hW⟩:=κ w6;rw[hW] at hA ⊢;obtain⟨oD,Ib⟩:∃x:Value,(.slice RA n mK)=x:=⟨_,rfl⟩;obtain⟨qd,Cd⟩:∃x,pr=x:=⟨_,rfl⟩;obtain⟨m,hm⟩:∃x:Nat,n=x:=⟨_,rfl⟩;obtain⟨mH,BF⟩:∃x:List (List Value),qt=x:=⟨_,rfl⟩;have mO:Ex w W c g h #[ι a,ι b,ι d,mv,.string S,lv,ι at_,ι ep,oD,ι qd,ι ky] #[ι 0,ι 0,ι 0,.slice none 0 0,.string ⟨#[]⟩,.slice none 0 0,ι 0,ι 0,.slice none 0 0,ι 0,ι 0] #[ι i,ι e,ov] cD oD DL m mH:=by
       rw[← Ib,← Cd,← hm,← BF];exact hA
      rw[BF] at mA;rw[Cd] at De;have HA:=δ mO;have JE:=τ mA De;clear ic tZ eR Fo hA mO mA De hW Ib Cd hm BF Hv;clear JK Lx Dd c8;have AO:∀w',υ W w'→(fun w'=>η w' h 95 #[ι a,ι b,ι d,mv,.string S,lv,ι at_,ι ep,oD,ι qd,ι ky]∧η w' (c+1) 35 #[ι i,ι e,ov]) w':=fun w' hu=>⟨HA.out.hB.ε hu (fun e=>e),HA.out.hM.ε hu (fun e=>e)⟩
      have fD:=δ AO;clear AO;refine dB ?_;refine dK (S:=(fun w'=>η w' h 95 #[ι a,ι b,ι d,mv,.string S,lv,ι at_,ι ep,oD,ι qd,ι ky]∧η w' (c+1) 35 #[ι i,ι e,ov])) (T:=fun i=>i == 8) kR ?_;have aC:=fD.out _ (ζ.refl _ W).drew;refine ξ 1 ?_;refine aQ 2 (fun w' hSw=>hSw.1.cell 8) ?_;refine iq 4 (.agg #[ι i,ι e,ov]) (kX rfl (by rfl) _ _ rfl (c+1) (by rfl) _ _ _ (fun w' hSw=>hSw.2) underlying35 rfl kR) ?_;refine uj (i:=0) (j:=5) kR rfl rfl (fun KK ο=>?ga1) (fun KK ο=>?gb1);case' gb1 =>
       go_simp
       have u5:υ W (W.alloc (.cells #[ι i,ι e,ov] 35)).drew:=((ζ.refl _ W).alloc _).drew;have ox:=η.new W 35 #[ι i,ι e,ov];refine ο.out _ _ (fD.out _ u5) ?_;clear ο;refine aY 0 (fun KK ο=>?_);go_simp
       have n1:Nw W (((W.alloc (.cells #[ι i,ι e,ov] 35)).alloc (.cells #[] 35)).drew) (.slice (some ⟨W.heap.size+1,0,none⟩) 0 0) 0 []:=by have h:=(Nw.ain ((W.alloc (.cells #[ι i,ι e,ov] 35)).drew)).base u5;rw[show ((W.alloc (.cells #[ι i,ι e,ov] 35)).drew).heap.size=W.heap.size+1 from cM _ _] at h;exact h
       refine ο.out _ _ (fD.out _ n1.ε) ?_;clear ο;refine aY 3 (fun KK ο=>?_);refine pQ (by rfl) _ _ _ _ (by rfl) 35 i0 _ 3 40 underlying38 jv.out.1 jv.out.2.1 jv.out.2.2.1 jv.out.2.2.2 rfl _ 0 [] (by rfl) n1.own oD m mH.flatten (by rfl) (HA.out.src _ n1.ε) HA.out.one (by have:=HA.out.qc;unfold maxLen;omega) (oN HA.out.qc) ?_;intro v3 TB gm χ fI fK;have n3:=n1.append gm χ fI;have hs5:=Src.P4 (n:=1) (size:=3) underlying38 ((ox.alloc (.cells #[] 35)).drew.ε χ (by simp[Value.ownBlock])) rfl;refine ο.out _ _ (fD.out _ n3.ε) ?_;clear ο;refine aY 6 (fun KK ο=>?_);refine pQ (by rfl) _ _ _ _ (by rfl) 35 i0 _ 3 40 underlying38 jv.out.1 jv.out.2.1 jv.out.2.2.1 jv.out.2.2.2 rfl v3 (0+m) ([]++mH.flatten) (by rfl) n3.own _ 1 [ι i,ι e,ov] (by rfl) hs5 (by have:=fR.out.2.1;simp[Value.oneCell'];exact this) (by have:=HA.out.qc;unfold maxLen;omega) (oN HA.out.qc) ?_;intro v6 w7a qG az vC iB;have n6:=n3.append qG az vC;have cH:=fD.out _ n6.ε;refine ο.out _ _ cH ?_;clear ο;simp only[Act.put,jy];refine ξ 7 ?_;refine kO 8 (fun KK ο=>?_)
       rw[σ (show Region.wanted _ _=true by rfl)];refine mD _ _ _ rfl h 8 v6 rfl rfl _ _ cH.1 sM n6.own.one kR (fun w9 cW eC mT=>?_);refine ο.out _ _ ?_;clear ο;simp only[Act.put];refine dF ?_;refine cZ ?_;have N6:=aj n6 cW eC;clear n6 cW eC mT qG az vC iB cH aC gm χ fI fK hs5;clear n1 n3 u5 ox
      case' ga1 =>
       go_simp
       have n1:=Nw.empty W;refine ο.out _ _ (fD.out _ n1.ε) ?_;clear ο;refine uj (i:=3) (j:=5) kR rfl rfl (fun KK ο=>?gc1) (fun KK ο=>?gd1);case' gd1 =>
        go_simp
        have n5:=n1.alloc (.cells #[ι i,ι e,ov] 35);have ox:=η.new ((W.alloc (.cells #[] 35)).drew) 35 #[ι i,ι e,ov];rw[show ((W.alloc (.cells #[] 35)).drew).heap.size=W.heap.size+1 from cM _ _] at ox;refine ο.out _ _ (fD.out _ n5.ε) ?_;clear ο;refine aY 3 (fun KK ο=>?_);refine pQ (by rfl) _ _ _ _ (by rfl) 35 i0 _ 3 40 underlying38 jv.out.1 jv.out.2.1 jv.out.2.2.1 jv.out.2.2.2 rfl _ 0 [] (by rfl) n5.own oD m mH.flatten (by rfl) (HA.out.src _ n5.ε) HA.out.one (by have:=HA.out.qc;unfold maxLen;omega) (oN HA.out.qc) ?_;intro v3 TB gm χ fI fK;have n3:=n5.append gm χ fI;have hs5:=Src.P4 (n:=1) (size:=3) underlying38 (ox.ε χ (by simp[Value.ownBlock])) rfl;refine ο.out _ _ (fD.out _ n3.ε) ?_;clear ο;refine aY 6 (fun KK ο=>?_);refine pQ (by rfl) _ _ _ _ (by rfl) 35 i0 _ 3 40 underlying38 jv.out.1 jv.out.2.1 jv.out.2.2.1 jv.out.2.2.2 rfl v3 (0+m) ([]++mH.flatten) (by rfl) n3.own _ 1 [ι i,ι e,ov] (by rfl) hs5 (by have:=fR.out.2.1;simp[Value.oneCell'];exact this) (by have:=HA.out.qc;unfold maxLen;omega) (oN HA.out.qc) ?_
        intro v6 w7a qG az vC iB;have n6:=n3.append qG az vC;have cH:=fD.out _ n6.ε;refine ο.out _ _ cH ?_;clear ο;simp only[Act.put,jy];refine ξ 7 ?_;refine kO 8 (fun KK ο=>?_);rw[σ (show Region.wanted _ _=true by rfl)];refine mD _ _ _ rfl h 8 v6 rfl rfl _ _ cH.1 sM n6.own.one kR (fun w9 cW eC mT=>?_);refine ο.out _ _ ?_;clear ο;simp only[Act.put];refine dF ?_;refine cZ ?_;have N6:=aj n6 cW eC;clear n6 cW eC mT qG az vC iB cH aC gm χ fI fK hs5;clear n1 n3 n5 ox
       case' gc1 =>
        refine pQ (by rfl) _ _ _ _ (by rfl) 35 i0 _ 3 40 underlying38 jv.out.1 jv.out.2.1 jv.out.2.2.1 jv.out.2.2.2 rfl _ 0 [] (by rfl) n1.own oD m mH.flatten (by rfl) (HA.out.src _ n1.ε) HA.out.one (by have:=HA.out.qc;unfold maxLen;omega) (oN HA.out.qc) ?_
        intro v3 TB gm χ fI fK;have n3:=n1.append gm χ fI;refine ο.out _ _ (fD.out _ n3.ε) ?_;clear ο;refine aY 5 (fun KK ο=>?_);go_simp
        have hs5:=Src.P4 (n:=1) (size:=3) underlying38 (η.new TB 35 #[ι i,ι e,ov]) rfl;have n5:=n3.alloc (.cells #[ι i,ι e,ov] 35);refine ο.out _ _ (fD.out _ n5.ε) ?_;clear ο;refine aY 6 (fun KK ο=>?_);refine pQ (by rfl) _ _ _ _ (by rfl) 35 i0 _ 3 40 underlying38 jv.out.1 jv.out.2.1 jv.out.2.2.1 jv.out.2.2.2 rfl v3 (0+m) ([]++mH.flatten) (by rfl) n5.own _ 1 [ι i,ι e,ov] (by rfl) hs5 (by have:=fR.out.2.1;simp[Value.oneCell'];exact this) (by have:=HA.out.qc;unfold maxLen;omega) (oN HA.out.qc) ?_;intro v6 w7a qG az vC iB;have n6:=n5.append qG az vC;have cH:=fD.out _ n6.ε;refine ο.out _ _ cH ?_;clear ο;simp only[Act.put,jy];refine ξ 7 ?_;refine kO 8 (fun KK ο=>?_);rw[σ (show Region.wanted _ _=true by rfl)];refine mD _ _ _ rfl h 8 v6 rfl rfl _ _ cH.1 sM n6.own.one kR (fun w9 cW eC mT=>?_);refine ο.out _ _ ?_;clear ο;simp only[Act.put];refine dF ?_;refine cZ ?_;have N6:=aj n6 cW eC;clear n6 cW eC mT qG az vC iB cH aC gm χ fI fK hs5
        clear n1 n3 n5
     case' pos =>
      have Hv:((n:Int) == 24)=true:=by rw[kV];omega
      have Dd:=δ h24;clear h24;go_upto_region 12 with (first
       |(refine fV 95 c H6.out.1 underlying95 ?_)
       |(go_at_call 52
         refine(JK.out _).mono ?_;rintro r w7 ⟨rfl,bK⟩;have H7:=τ (H6.out.2.2.2.2.2.2.1.ε bK (fun e=>e)) bK;clear bK)
       |(refine ef 95 h _ H7.out.1 Lx.out ?_
         intro w8 jc cC kC))
      have ic:ζ (· = h) w6 w8:=((H7.out.2.mono φ).then cC (fun _ e=>.inl e));have tZ:=H6.out.2.2.2.2.2.2.2;have eR:=H5.out.2.2.2.2.2.2.2.1;have Fo:υ w w8:=H6.out.2.2.2.1.then ic (fun q e=>.inr (by have e2:q=h:=e;have:=Hc.out;omega));have hA:Ex w w8 c g h #[ι a,ι b,ι d,mv,.string S,lv,ι at_,ι ep,.slice none 0 0,ι ep,ι ky] #[ι 0,ι 0,ι 0,.slice none 0 0,.string ⟨#[]⟩,.slice none 0 0,ι 0,ι 0,.slice none 0 0,ι 0,ι 0] #[ι i,ι e,ov] cD (.slice none 0 0) DL 0 []:=by
       refine⟨jc,H6.out.2.1.ε ic (fun e=>by have e2:c+1=h:=e;omega),H6.out.2.2.1.ε ic (fun e=>by have e2:c+2=h:=e;omega),H6.out.2.2.2.2.1.ε ic (fun e=>by have e2:g=h:=e;omega),Fo,?_,?_,?_,?_,?_,?_,eR,tZ,Hc.out,fun h0 q hq=>by have h1:=Fm.out.2 h0 q hq;omega⟩
       ·exact(Fm.out.1.still aaB.out).Rp ic (fun h0 q hq e=>by have e2:q=h:=e;have:=Fm.out.2 (by rw[bp] at h0;exact h0) q hq;omega)
       ·exact fun W' Nn=>Src.of_nil underlying38 0
       ·simp
       ·simp
       ·omega
       ·rfl
      have mA:RW=[]:=by rw[← Ay.out.2];exact σ Dd.out
      have De:PR=ep:=by rw[← Ay.out.1];exact σ Dd.out
      obtain⟨W,hW⟩:=κ w8;rw[hW] at hA ⊢;obtain⟨oD,Ib⟩:∃x:Value,(.slice none 0 0)=x:=⟨_,rfl⟩;obtain⟨qd,Cd⟩:∃x,ep=x:=⟨_,rfl⟩;obtain⟨m,hm⟩:∃x:Nat,0=x:=⟨_,rfl⟩;obtain⟨mH,BF⟩:∃x:List (List Value),[]=x:=⟨_,rfl⟩;have mO:Ex w W c g h #[ι a,ι b,ι d,mv,.string S,lv,ι at_,ι ep,oD,ι qd,ι ky] #[ι 0,ι 0,ι 0,.slice none 0 0,.string ⟨#[]⟩,.slice none 0 0,ι 0,ι 0,.slice none 0 0,ι 0,ι 0] #[ι i,ι e,ov] cD oD DL m mH:=by
       rw[← Ib,← Cd,← hm,← BF];exact hA
      rw[BF] at mA;rw[Cd] at De;have HA:=δ mO;have JE:=τ mA De;clear ic tZ eR Fo hA mO mA De hW Ib Cd hm BF Hv;clear jc cC kC H7;clear JK Lx Dd c8;have AO:∀w',υ W w'→(fun w'=>η w' h 95 #[ι a,ι b,ι d,mv,.string S,lv,ι at_,ι ep,oD,ι qd,ι ky]∧η w' (c+1) 35 #[ι i,ι e,ov]) w':=fun w' hu=>⟨HA.out.hB.ε hu (fun e=>e),HA.out.hM.ε hu (fun e=>e)⟩
      have fD:=δ AO;clear AO;refine dB ?_;refine dK (S:=(fun w'=>η w' h 95 #[ι a,ι b,ι d,mv,.string S,lv,ι at_,ι ep,oD,ι qd,ι ky]∧η w' (c+1) 35 #[ι i,ι e,ov])) (T:=fun i=>i == 8) kR ?_;have aC:=fD.out _ (ζ.refl _ W).drew;refine ξ 1 ?_;refine aQ 2 (fun w' hSw=>hSw.1.cell 8) ?_;refine iq 4 (.agg #[ι i,ι e,ov]) (kX rfl (by rfl) _ _ rfl (c+1) (by rfl) _ _ _ (fun w' hSw=>hSw.2) underlying35 rfl kR) ?_;refine uj (i:=0) (j:=5) kR rfl rfl (fun KK ο=>?ga2) (fun KK ο=>?gb2);case' gb2 =>
       go_simp
       have u5:υ W (W.alloc (.cells #[ι i,ι e,ov] 35)).drew:=((ζ.refl _ W).alloc _).drew;have ox:=η.new W 35 #[ι i,ι e,ov];refine ο.out _ _ (fD.out _ u5) ?_;clear ο;refine aY 0 (fun KK ο=>?_);go_simp
       have n1:Nw W (((W.alloc (.cells #[ι i,ι e,ov] 35)).alloc (.cells #[] 35)).drew) (.slice (some ⟨W.heap.size+1,0,none⟩) 0 0) 0 []:=by have h:=(Nw.ain ((W.alloc (.cells #[ι i,ι e,ov] 35)).drew)).base u5;rw[show ((W.alloc (.cells #[ι i,ι e,ov] 35)).drew).heap.size=W.heap.size+1 from cM _ _] at h;exact h
       refine ο.out _ _ (fD.out _ n1.ε) ?_;clear ο;refine aY 3 (fun KK ο=>?_);refine pQ (by rfl) _ _ _ _ (by rfl) 35 i0 _ 3 40 underlying38 jv.out.1 jv.out.2.1 jv.out.2.2.1 jv.out.2.2.2 rfl _ 0 [] (by rfl) n1.own oD m mH.flatten (by rfl) (HA.out.src _ n1.ε) HA.out.one (by have:=HA.out.qc;unfold maxLen;omega) (oN HA.out.qc) ?_;intro v3 TB gm χ fI fK;have n3:=n1.append gm χ fI;have hs5:=Src.P4 (n:=1) (size:=3) underlying38 ((ox.alloc (.cells #[] 35)).drew.ε χ (by simp[Value.ownBlock])) rfl;refine ο.out _ _ (fD.out _ n3.ε) ?_;clear ο;refine aY 6 (fun KK ο=>?_);refine pQ (by rfl) _ _ _ _ (by rfl) 35 i0 _ 3 40 underlying38 jv.out.1 jv.out.2.1 jv.out.2.2.1 jv.out.2.2.2 rfl v3 (0+m) ([]++mH.flatten) (by rfl) n3.own _ 1 [ι i,ι e,ov] (by rfl) hs5 (by have:=fR.out.2.1;simp[Value.oneCell'];exact this) (by have:=HA.out.qc;unfold maxLen;omega) (oN HA.out.qc) ?_;intro v6 w7a qG az vC iB;have n6:=n3.append qG az vC;have cH:=fD.out _ n6.ε;refine ο.out _ _ cH ?_;clear ο;simp only[Act.put,jy];refine ξ 7 ?_;refine kO 8 (fun KK ο=>?_)
       rw[σ (show Region.wanted _ _=true by rfl)];refine mD _ _ _ rfl h 8 v6 rfl rfl _ _ cH.1 sM n6.own.one kR (fun w9 cW eC mT=>?_);refine ο.out _ _ ?_;clear ο;simp only[Act.put];refine dF ?_;refine cZ ?_;have N6:=aj n6 cW eC;clear n6 cW eC mT qG az vC iB cH aC gm χ fI fK hs5;clear n1 n3 u5 ox
      case' ga2 =>
       go_simp
       have n1:=Nw.empty W;refine ο.out _ _ (fD.out _ n1.ε) ?_;clear ο;refine uj (i:=3) (j:=5) kR rfl rfl (fun KK ο=>?gc2) (fun KK ο=>?gd2);case' gd2 =>
        go_simp
        have n5:=n1.alloc (.cells #[ι i,ι e,ov] 35);have ox:=η.new ((W.alloc (.cells #[] 35)).drew) 35 #[ι i,ι e,ov];rw[show ((W.alloc (.cells #[] 35)).drew).heap.size=W.heap.size+1 from cM _ _] at ox;refine ο.out _ _ (fD.out _ n5.ε) ?_;clear ο;refine aY 3 (fun KK ο=>?_);refine pQ (by rfl) _ _ _ _ (by rfl) 35 i0 _ 3 40 underlying38 jv.out.1 jv.out.2.1 jv.out.2.2.1 jv.out.2.2.2 rfl _ 0 [] (by rfl) n5.own oD m mH.flatten (by rfl) (HA.out.src _ n5.ε) HA.out.one (by have:=HA.out.qc;unfold maxLen;omega) (oN HA.out.qc) ?_;intro v3 TB gm χ fI fK;have n3:=n5.append gm χ fI;have hs5:=Src.P4 (n:=1) (size:=3) underlying38 (ox.ε χ (by simp[Value.ownBlock])) rfl;refine ο.out _ _ (fD.out _ n3.ε) ?_;clear ο;refine aY 6 (fun KK ο=>?_);refine pQ (by rfl) _ _ _ _ (by rfl) 35 i0 _ 3 40 underlying38 jv.out.1 jv.out.2.1 jv.out.2.2.1 jv.out.2.2.2 rfl v3 (0+m) ([]++mH.flatten) (by rfl) n3.own _ 1 [ι i,ι e,ov] (by rfl) hs5 (by have:=fR.out.2.1;simp[Value.oneCell'];exact this) (by have:=HA.out.qc;unfold maxLen;omega) (oN HA.out.qc) ?_
        intro v6 w7a qG az vC iB;have n6:=n3.append qG az vC;have cH:=fD.out _ n6.ε;refine ο.out _ _ cH ?_;clear ο;simp only[Act.put,jy];refine ξ 7 ?_;refine kO 8 (fun KK ο=>?_);rw[σ (show Region.wanted _ _=true by rfl)];refine mD _ _ _ rfl h 8 v6 rfl rfl _ _ cH.1 sM n6.own.one kR (fun w9 cW eC mT=>?_);refine ο.out _ _ ?_;clear ο;simp only[Act.put];refine dF ?_;refine cZ ?_;have N6:=aj n6 cW eC;clear n6 cW eC mT qG az vC iB cH aC gm χ fI fK hs5;clear n1 n3 n5 ox
       case' gc2 =>
        refine pQ (by rfl) _ _ _ _ (by rfl) 35 i0 _ 3 40 underlying38 jv.out.1 jv.out.2.1 jv.out.2.2.1 jv.out.2.2.2 rfl _ 0 [] (by rfl) n1.own oD m mH.flatten (by rfl) (HA.out.src _ n1.ε) HA.out.one (by have:=HA.out.qc;unfold maxLen;omega) (oN HA.out.qc) ?_
        intro v3 TB gm χ fI fK;have n3:=n1.append gm χ fI;refine ο.out _ _ (fD.out _ n3.ε) ?_;clear ο;refine aY 5 (fun KK ο=>?_);go_simp
        have hs5:=Src.P4 (n:=1) (size:=3) underlying38 (η.new TB 35 #[ι i,ι e,ov]) rfl;have n5:=n3.alloc (.cells #[ι i,ι e,ov] 35);refine ο.out _ _ (fD.out _ n5.ε) ?_;clear ο;refine aY 6 (fun KK ο=>?_);refine pQ (by rfl) _ _ _ _ (by rfl) 35 i0 _ 3 40 underlying38 jv.out.1 jv.out.2.1 jv.out.2.2.1 jv.out.2.2.2 rfl v3 (0+m) ([]++mH.flatten) (by rfl) n5.own _ 1 [ι i,ι e,ov] (by rfl) hs5 (by have:=fR.out.2.1;simp[Value.oneCell'];exact this) (by have:=HA.out.qc;unfold maxLen;omega) (oN HA.out.qc) ?_;intro v6 w7a qG az vC iB;have n6:=n5.append qG az vC;have cH:=fD.out _ n6.ε;refine ο.out _ _ cH ?_;clear ο;simp only[Act.put,jy];refine ξ 7 ?_;refine kO 8 (fun KK ο=>?_);rw[σ (show Region.wanted _ _=true by rfl)];refine mD _ _ _ rfl h 8 v6 rfl rfl _ _ cH.1 sM n6.own.one kR (fun w9 cW eC mT=>?_);refine ο.out _ _ ?_;clear ο;simp only[Act.put];refine dF ?_;refine cZ ?_;have N6:=aj n6 cW eC;clear n6 cW eC mT qG az vC iB cH aC gm χ fI fK hs5
        clear n1 n3 n5
     all_goals
      have E_:v6.oneCell'=true:=N6.out.1.own.one;have hc9:(#[ι a,ι b,ι d,mv,.string S,lv,ι at_,ι ep,oD,ι qd,ι ky]:Array Value).setIfInBounds 8 v6=#[ι a,ι b,ι d,mv,.string S,lv,ι at_,ι ep,v6,ι qd,ι ky]:=rfl;have cW:=N6.out.2.1;rw[hc9] at cW;have hWs:=HA.out.hB.lt;have tZ:=HA.out.gh;have eR:=HA.out.cg;have hM9:=(HA.out.hM.ε N6.out.1.ε (fun e=>e)).ε N6.out.2.2 (fun e=>by have e2:c+1=h:=e;omega);have hZ9:=(HA.out.hZ.ε N6.out.1.ε (fun e=>e)).ε N6.out.2.2 (fun e=>by have e2:c+2=h:=e;omega);have hG9:=(HA.out.hG.ε N6.out.1.ε (fun e=>e)).ε N6.out.2.2 (fun e=>by have e2:g=h:=e;omega);have H9:=aD cW hM9 hZ9 hG9;have HV6:=τ E_ (ot HA.out.Rq.one);have TG:=τ tZ eR;clear E_ hc9 cW hWs tZ eR hM9 hZ9 hG9;go_upto_region 14 with (first
       |(refine fV 93 g H9.out.2.2.2 underlying93 ?_)
       |(refine xB rfl 93 _ _ rfl h 5 #[cD] rfl rfl _ _ #[ι a,ι b,ι d,mv,.string S,cD,ι at_,ι ep,v6,ι qd,ι ky] H9.out.1 sM rfl HV6.out.2 kR ?_
         intro w10 mJ eT zC))
      have Rs:=H9.out.2.1.ε eT (fun e=>by have e2:c+1=h:=e;have:=TG.out;omega);have m0:w10.cell? ⟨c+1,0,none⟩=some (ι i):=Rs.cell 0;have iL:=aj mJ eT Rs;clear mJ eT zC Rs;go_upto_region 15 with (first
       |(refine gw rfl 3 _ _ rfl h 6 (ι i) rfl rfl _ _ iL.out.1 sM rfl kR ?_
         intro w11 f_ pW GW))
      rw[show (#[ι a,ι b,ι d,mv,.string S,cD,ι at_,ι ep,v6,ι qd,ι ky]:Array Value).setIfInBounds 6 (ι i)=#[ι a,ι b,ι d,mv,.string S,cD,ι i,ι ep,v6,ι qd,ι ky] from rfl] at f_;have aaC:=iL.out.2.2.ε pW (fun e=>by have e2:c+1=h:=e;have:=TG.out;omega);have m1:w11.cell? ⟨c+1,1,none⟩=some (ι e):=aaC.cell 1;have eZ:=τ f_ pW;clear f_ pW GW aaC m0;go_upto_region 16 with (first
       |(refine gw rfl 3 _ _ rfl h 7 (ι e) rfl rfl _ _ eZ.out.1 sM rfl kR ?_
         intro w12 oY gT BX))
      rw[show (#[ι a,ι b,ι d,mv,.string S,cD,ι i,ι ep,v6,ι qd,ι ky]:Array Value).setIfInBounds 7 (ι e)=#[ι a,ι b,ι d,mv,.string S,cD,ι i,ι e,v6,ι qd,ι ky] from rfl] at oY;have Qo:ζ (· = h) w9 w12:=(iL.out.2.1.then eZ.out.2 (fun _ e=>.inl e)).then gT (fun _ e=>.inl e);have gf:=aj oY Qo (H9.out.2.2.1.ε Qo (fun e=>by have e2:c+2=h:=e;have:=TG.out;omega));have jd:=δ (uo (a:=a) (b:=b) (c:=d) (S:=S) (at_:=i) (ep:=e) (pr:=qd) (ky:=ky) fR.out.2.2.1 HA.out.Rq.one HV6.out.1);clear oY gT BX Qo m1;go_wp2_with (first
       |(refine fV 95 h gf.out.1 underlying95 ?_)
       |(refine ef 95 (c+2) #[ι a,ι b,ι d,mv,.string S,cD,ι i,ι e,v6,ι qd,ι ky] gf.out.2.2 jd.out ?_
         intro w13 l9 qW Ei))
      refine cy (iR rfl _ _ (c+2) _ _ _ _ rfl l9 underlying95 rfl kR _ rfl) rfl ?_;rw[JE.out.1,JE.out.2];have cN:=HA.out.fin N6.out.1 rfl N6.out.2.2 gf.out.2.1 qW;have hres:=XE.mk (lv:=lv) cN.1 HLW.out.2 cN.2.1 cN.2.2.1 cN.2.2.2;first
       | exact .inl ⟨rfl,cD,v6,rfl,hres⟩
       | exact⟨cD,v6,rfl,hres⟩
    ·have h0':(E != 0)=true:=by rw[jZ];exact h0
     go_wp2_with (first
   |(refine fV 95 c H5.out.1 underlying95 ?_)
   |(refine ef 95 (c+2) #[ι a,ι b,ι d,mv,.string S,lv,ι at_,ι ep,.slice RA n mK,ι pr,ι ky] H5.out.2.2.1 fR.out.1 ?_
     intro w4 aE ag cG))
     refine cy (iR rfl _ _ (c+2) _ _ _ _ rfl aE underlying95 rfl kR _ rfl) rfl (by have hu:=H5.out.2.2.2.1.then ag (fun q e=>.inr (by have e2:q=c+2:=e;have:=Hc.out;omega));first| exact .inr ⟨h0,rfl,hu⟩ | exact⟨rfl,hu⟩)
  ·have ha':(i - 1 != at_)=true:=by rw[jZ];exact ha
   obtain rfl:E=1:=by rw[HE.out.1,ν sM,σ (.inl oM)]
   go_wp2_with (first
   |(refine fV 95 c H2.out.1 underlying95 ?_)
   |(refine ef 95 (c+2) #[ι a,ι b,ι d,mv,.string S,lv,ι at_,ι ep,.slice RA n mK,ι pr,ι ky] H2.out.2.2.1 fR.out.1 ?_
     intro w4 aE ag cG))
   refine cy (iR rfl _ _ (c+2) _ _ _ _ rfl aE underlying95 rfl kR _ rfl) rfl (by have hu:=H2.out.2.2.2.then ag (fun q e=>.inr (by have e2:q=c+2:=e;have:=Hc.out;omega));first| exact .inr ⟨dC,rfl,hu⟩ | exact⟨rfl,hu⟩)
 ·have h0':(E1 != 0)=true:=by rw[jZ];exact h0
  obtain rfl:E=E1:=by rw[HE.out.1,σ h0]
  go_wp2_with (first
   |(refine fV 95 c H2.out.1 underlying95 ?_)
   |(refine ef 95 (c+2) #[ι a,ι b,ι d,mv,.string S,lv,ι at_,ι ep,.slice RA n mK,ι pr,ι ky] H2.out.2.2.1 fR.out.1 ?_
     intro w4 aE ag cG))
  refine cy (iR rfl _ _ (c+2) _ _ _ _ rfl aE underlying95 rfl kR _ rfl) rfl (by have hu:=H2.out.2.2.2.then ag (fun q e=>.inr (by have e2:q=c+2:=e;have:=Hc.out;omega));first| exact .inr ⟨h0,rfl,hu⟩ | exact⟨rfl,hu⟩)
structure BG (w:World) (x:Value) (l:List bL) (aI:List Value):Prop where
 row:∃t,au w t 3 x (ld l aI)
 len:aI.length=l.length
 each:∀(i:Nat) (b:bL) (ov:Value),l[i]? = some b→aI[i]? = some ov→∃t,au w t 3 ov (b.ops.map bU)
theorem BG.still {w w':World} {x:Value} {l:List bL} {aI:List Value} (h:BG w x l aI) (hu:υ w w'):BG w' x l aI:=by
 obtain⟨⟨t,h1⟩,h2,h3⟩:=h;exact⟨⟨t,h1.still hu⟩,h2,fun i b ov a1 a2=>by obtain⟨t',h4⟩:=h3 i b ov a1 a2;exact⟨t',h4.still hu⟩⟩
theorem D4.rows {w:World} {x:Value} {l:List bL} {aI:List Value} (h:D4 w x l aI) (hl:l.length≤1000000):BG w x l aI :=
 ⟨⟨_,au.jK (cs:=ld l aI) (n:=l.length) (by rw[Ot];exact h.own) (Bj _ _ h.len) hl (Kr _ _)⟩,h.len,fun i b ov a1 a2=>⟨_,h.each i b ov a1 a2⟩⟩
theorem adk {w:World} {va vb:Value} {a b:List bL} {oa ob:List Value} (ha:BG w va a oa) (hb:BG w vb b ob) :
 ς 37 #[va,vb] w fun e w'=>e=ώ (.bool (decide (a=b)))∧υ w w':=by
 obtain⟨ta,hta⟩:=ha.row;obtain⟨tb,htb⟩:=hb.row;obtain⟨A,cap,bA,off,rfl,hcap,hl,hA,hat⟩:=hta.open_;obtain⟨B,eY,bB,off2,rfl,rT,hl2,hB,uM⟩:=htb.open_;rw[Bj _ _ ha.len] at hcap hl hA ⊢;rw[Bj _ _ hb.len] at rT hl2 hB ⊢;obtain⟨r,hr⟩:=κ (decide (a=b));rw[hr];have H:=o_ hat uM hr ha.each hb.each ha.len hb.len;clear hat uM ha hb hr hta htb;go_enter func37,ntmps37
 by_cases hn:a.length=b.length
 ·have hn':((a.length:Int) == (b.length:Int))=true:=by rw[kV];omega
  have hn2:((a.length:Int) != (b.length:Int))=false:=by rw[bne,hn'];rfl
  have HN:=δ hn;clear hn;go_wp2_with fail
  go_loopw [5] (fun i wr=>∃k:Nat,k≤a.length∧i=ι k∧υ w wr∧a.take k=b.take k) (fun i _=>a.length - (intOf i).toNat)
  case atStart=>exact⟨0,oM,rfl,ζ.refl _ _,rfl⟩
  case round =>
   obtain⟨k,hk,rfl,hu,dn⟩:=hrel;have HT:=aj dn hu hk;clear dn;by_cases hlt:k<a.length
   ·obtain rfl:=hA oM
    obtain rfl:=hB (oN HN.out);have bn:k<b.length:=by have:=HN.out;omega
    obtain⟨x,hx⟩:=κ (a[k]);obtain⟨y,hy⟩:=κ (b[k]'bn);have hx':a[k]? = some x:=by rw[bD hlt,hx]
    have hy':b[k]? = some y:=by rw[bD bn,hy]
    obtain⟨O1,gj⟩:∃O,oa[k]? = some O:=⟨_,bD (oN H.out.2.2.2.2.2.1)⟩;obtain⟨O2,bH⟩:∃O,ob[k]? = some O:=⟨_,bD (oN H.out.2.2.2.2.2.2)⟩;have hrow:=H.out.1 wr _ hu (fun _ _ e=>e) k _ (KB _ _ k x O1 hx' gj);have mG:=H.out.2.1 wr _ hu (fun _ _ e=>e) k _ (KB _ _ k y O2 hy' bH);obtain⟨t1,ht1⟩:=H.out.2.2.2.1 k x O1 hx' gj;obtain⟨t2,ht2⟩:=H.out.2.2.2.2.1 k y O2 hy' bH;have cX0:wr.cell? ⟨bA,off+k*3,none⟩=some (ι x.index):=hrow 0 _ rfl;have Tl:wr.cell? ⟨bA,off+k*3+1,none⟩=some (ι x.θ):=hrow 1 _ rfl;have Tm:wr.cell? ⟨bA,off+k*3+2,none⟩=some O1:=hrow 2 _ rfl;have cY0:wr.cell? ⟨bB,off2+k*3,none⟩=some (ι y.index):=mG 0 _ rfl;have Tn:wr.cell? ⟨bB,off2+k*3+1,none⟩=some (ι y.θ):=mG 1 _ rfl;have Tp:wr.cell? ⟨bB,off2+k*3+2,none⟩=some O2:=mG 2 _ rfl;have HS:=δ (agk (a:=x) (b:=y) (ht1.still hu.drew) (ht2.still hu.drew));have HX:=aD hx hy hlt bn;have j1:(k:Int)<(a.length:Int):=oM;have j2:(k:Int)<(b.length:Int):=oM
    have hwk:IntKind.i64.wrap ((k:Int)+1)=(k:Int)+1:=bX _ oM;clear hrow mG hx hy hx' hy' gj bH ht1 ht2;go_wp2_with fail
    go_still_tail 8,kR
    change wpList _ _ _ _ _ wr.drew;by_cases he:x=y
    ·rw[fe he] at HS
     have HE:=δ he;clear he;go_wp2_with (first
      |(go_at_call 83;refine HS.out.mono ?_;rintro e w2 ⟨rfl,π⟩;have H2:=δ (hu.drew.then π φ);clear π))
     go_roundw
     case rel =>
      refine⟨k+1,oM,sM,H2.out,?_⟩;refine Kh HX.out.2.2.1 HX.out.2.2.2 HT.out.1 ?_;exact(HX.out.1.trans HE.out).trans HX.out.2.1.symm
     case measure=>simp[intOf]<;>omega
    ·rw[gN he] at HS
     have hrf:r=false:=by
      rw[← H.out.2.2.1,nj];intro hab;apply he
      rw[← HX.out.1,← HX.out.2.1];simp only[hab]
     subst hrf;clear he;go_wp2_with (first
      |(go_at_call 83;refine HS.out.mono ?_;rintro e w2 ⟨rfl,π⟩;have H2:=δ (hu.drew.then π φ);clear π))
     go_ret
     exact⟨rfl,H2.out⟩
   ·have j1:¬((k:Int)<(a.length:Int)):=oM
    have xq:r=true:=by
     rw[← H.out.2.2.1,dR];have:=HT.out.1;rw[dH oM,dH (oN HN.out)] at this;exact this
    subst xq;go_wp2_with fail
    go_ret
    exact⟨rfl,hu⟩
 ·have hn':((a.length:Int) == (b.length:Int))=false:=by rw[eV];omega
  have hn2:((a.length:Int) != (b.length:Int))=true:=by rw[bne,hn'];rfl
  have hrf:r=false:=by
   rw[← H.out.2.2.1,nj];rintro rfl;exact hn rfl
  subst hrf;go_wp2_with fail
  go_ret
  exact⟨rfl,ζ.refl _ _⟩
instance:DecidableEq eo:=fun a b=>if h:a.m=b.m∧a.S=b.S∧a.at_=b.at_∧a.θ=b.θ∧a.rows=b.rows∧a.prev=b.prev∧a.key=b.key then isTrue (by obtain⟨h1,h2,h3,h4,h5,h6,h7⟩:=h;cases a;cases b;simp_all) else isFalse (by rintro rfl;exact h ⟨rfl,rfl,rfl,rfl,rfl,rfl,rfl⟩)
theorem zo {a b:eo} : a=b↔a.m=b.m∧a.S=b.S∧a.at_=b.at_∧a.θ=b.θ∧a.rows=b.rows∧a.prev=b.prev∧a.key=b.key:=⟨by rintro rfl;exact⟨rfl,rfl,rfl,rfl,rfl,rfl,rfl⟩,fun ⟨h1,h2,h3,h4,h5,h6,h7⟩=>by cases a;cases b;simp_all⟩
def gI (R:eo) (x:kr):eo × Int :=
 if x.fM=0∨x.fM=1 then j_ R (jk x R.at_ R.θ) else if x.fM=2 then lS R x.m else if x.fM=3 then jz R x.m x.l x.at_ x.ep else if x.fM=4 then rotateR R else (R,0)
def gr (w:World) (M:Nat→Prop) (k:Nat) (v:Value) (cs:List (List Value)):Prop:=au w gd k v cs∧(0<cs.length→∀q,v.ownBlock=some q→¬M q)
section
variable {w w':World} {M M':Nat→Prop} {k:Nat} {v:Value} {cs:List (List Value)}
theorem gr.act (h:gr w M k v cs) (s:iQ w w' M M'):gr w' M' k v cs:=by
 obtain⟨h1,h2⟩:=h;by_cases h0:0<cs.length
 ·refine⟨h1.tg s.ε (fun b hb _=>h2 h0 b hb),fun _ q hq hM=>?_⟩
  rcases s.sub q hM with e | e
  ·exact h2 h0 q hq e
  ·have:=h1.below h0 q hq
   omega
 ·exact⟨h1.none_ h0,fun e=>absurd e h0⟩
theorem gr.still (h:gr w M k v cs) (hu:υ w w'):gr w' M k v cs:=⟨h.1.still hu,h.2⟩
theorem gr.zi {t:TypeId} (h:au w t k v cs) {w0:World} (hn:∀q,v.ownBlock=some q→w0.heap.size≤q) (hM:∀q,M q→q<w0.heap.size):gr w M k v cs:=⟨h.any,fun _ q hq e=>by have:=hn q hq;have:=hM q e;omega⟩
theorem gr.P5 {t:TypeId} (h:au w t k v cs) {w0:World} (hn:0<cs.length→∀q,v.ownBlock=some q→q<w0.heap.size) (hM:∀q,M q→w0.heap.size≤q):gr w M k v cs:=⟨h.any,fun h0 q hq e=>by have:=hn h0 q hq;have:=hM q e;omega⟩
theorem gr.nil (w:World) (M:Nat→Prop) (k:Nat):gr w M k (.slice none 0 0) []:=⟨⟨none,0,rfl,bQ _,sM,fun h=>absurd h sM⟩,fun h=>absurd h sM⟩
end
structure eP (w:World) (M:Nat→Prop) (R:eo) (mv lv rv:Value) (aI:List Value):Prop where
 eD:gr w M 2 mv (R.m.aW.map ct)
 lI:gr w M 2 lv (R.S.map bz)
 rows:gr w M 3 rv (ld R.rows aI)
 len:aI.length=R.rows.length
 each:∀(i:Nat) (b:bL) (ov:Value),R.rows[i]? = some b→aI[i]? = some ov→gr w M 3 ov (b.ops.map bU)
def jM (R:eo) (mv lv rv:Value):Array Value:=ku R.m.role R.m.seen R.m.aG mv (str R.m.bu) lv R.at_ R.θ rv R.prev (R.key:Int)
section
variable {w w':World} {M M':Nat→Prop} {R:eo} {mv lv rv:Value} {aI:List Value}
theorem eP.act (h:eP w M R mv lv rv aI) (s:iQ w w' M M'):eP w' M' R mv lv rv aI:=⟨h.eD.act s,h.lI.act s,h.rows.act s,h.len,fun i b ov h1 h2=>(h.each i b ov h1 h2).act s⟩
theorem eP.still (h:eP w M R mv lv rv aI) (hu:υ w w'):eP w' M R mv lv rv aI:=⟨h.eD.still hu,h.lI.still hu,h.rows.still hu,h.len,fun i b ov h1 h2=>(h.each i b ov h1 h2).still hu⟩
theorem eP.bt (h:eP w M R mv lv rv aI):BG w rv R.rows aI:=⟨⟨_,h.rows.1⟩,h.len,fun i b ov h1 h2=>⟨_,(h.each i b ov h1 h2).1⟩⟩
theorem eP.one (h:eP w M R mv lv rv aI):mv.oneCell'=true∧lv.oneCell'=true∧rv.oneCell'=true:=⟨h.eD.1.one,h.lI.1.one,h.rows.1.one⟩
theorem eP.first (w:World) (M:Nat→Prop):eP w M R0 (.slice none 0 0) (.slice none 0 0) (.slice none 0 0) []:=⟨gr.nil _ _ _,gr.nil _ _ _,gr.nil _ _ _,rfl,fun i b ov h=>by simp[R0] at h⟩
end
structure Lz (R:eo):Prop where
 wj:fX R.S
 many:R.S.length≤1000
 each:∀q ∈ R.S,q.1.length≤1000000
 rows:R.rows.length≤24
 place:pT R.at_ R.θ
theorem aR.Qp {w:World} {p v:Nat} {d:Dk} {V:aV} {o:cR} {S0:List ai} {c:Nat} (h:aR w p v d V o) {d':Dk} (hg:ew d' V S0 c):Lz V.abs :=
 ⟨h.map.ok.wj,by have:=h.map.ok.len;show V.S.length≤1000;omega,fun q hq=>by have:=(h.map.each q hq).1;omega,hg.b_.many,hg.place⟩
theorem cK.Qp {w0 w:World} {p v:Nat} {R:eo} {μ c:Nat} {M:Nat→Prop} (h:cK w0 w p v R μ c M):Lz R:=by
 obtain⟨d,V,o,S0,h,rfl,-⟩:=h;exact h.at_.Qp h.g
theorem Vl:∀(l:List bL) (s:List Value) (b:bL) (o:Value),s.length=l.length→ld (l++[b]) (s++[o])=ld l s++[[ι b.index,ι b.θ,o]]
 | [],[],b,o,_=>rfl
 | [],_::_,_,_,h=>by simp at h
 | _::_,[],_,_,h=>by simp at h
 | x::l,y::s,b,o,h=>by
   have h2:=Vl l s b o (by simpa using h);show ld (x::(l++[b])) (y::(s++[o]))=_;unfold ld;rw[h2];rfl
theorem VZ:∀(l:List bL) (s:List Value),(∀o ∈ s,o.oneCell'=true)→∀c ∈ ld l s,∀u ∈ c,u.oneCell'=true
 | [],_,_,c,hc=>by simp[ld] at hc
 | _::_,[],_,c,hc=>by simp[ld] at hc
 | x :: l,y::s,h,c,hc=>by
   unfold ld at hc;rcases cn.1 hc with rfl | hc
   ·intro u hu
    simp only[cn,ue,uf] at hu;rcases hu with rfl | rfl | rfl
    ·rfl
    ·rfl
    ·exact h _ sM
   ·exact VZ l s (fun o ho=>h o (by simp[ho])) c hc
section
variable {w w':World} {M M':Nat→Prop} {R:eo} {mv lv rv:Value} {aI:List Value}
theorem eP.ones (h:eP w M R mv lv rv aI):∀o ∈ aI,o.oneCell'=true:=fun o ho=>by
 obtain⟨i,hi⟩:=AU ho;have hl:=(kT.1 hi).1;rw[h.len] at hl;exact(h.each i _ o (bD hl) hi).1.one
def wH (w w':World) (M:Nat→Prop) (R2:eo × Int) (r:Ending):Prop:=∃mv lv rv aI,r=ώ (.tuple #[.agg (jM R2.1 mv lv rv),ι R2.2])∧eP w' M R2.1 mv lv rv aI∧υ w w'
theorem eP.sW (h:eP w M R mv lv rv aI) (hk:Lz R) (b:bL) {ov:Value} (hO:gr w M 3 ov (b.ops.map bU)) (hs:qh b.ops) (hM:∀q,M q→q<w.heap.size) :
 ς 93 #[.agg (jM R mv lv rv),.agg (lP b.index b.θ ov)] w fun r w'=>wH w w' M (j_ R b) r:=by
 have hlen:=Bj R.rows aI h.len;have hrl:((ld R.rows aI).length=24)=(R.rows.length=24):=by rw[hlen]
 refine(adj h.eD.1.one h.rows.1 (by rw[hlen];exact hk.rows) (Kr _ _) (VZ _ _ h.ones) h.lI.1 hk.each hk.many hk.wj hO.1 hs b.index b.θ).mono ?_;intro r w' hr;have aiV:BQ R.S R.at_ R.θ b.index b.θ b.ops=(j_ R b).2:=by
  unfold BQ j_;by_cases h1:d_ b.index b.θ b.ops≠0
  ·rw[σ h1,σ h1]
  ·rw[ν h1,ν h1]
   by_cases h2:b.index≠R.at_+1∨b.θ<R.θ
   ·rw[σ h2,σ h2]
   ·rw[ν h2,ν h2]
    by_cases h3:fW R.S b.ops≠0
    ·rw[σ h3]
    ·rw[ν h3]
     exact Decidable.not_not.1 h3
 rw[aiV] at hr;rcases hr with ⟨h0,cD,yT,rfl,hC⟩ | ⟨h0,rfl,hU⟩
 ·have hU:=hC.ε
  have xU:gr w' M 2 cD ((cJ R.S b.ops).map bz):=⟨hC.lI,fun hn q hq Np=>by
   rcases hC.prl with e | e
   ·subst e
    exact h.lI.2 (by rw[(h.lI.1).XD hC.lI];exact hn) q hq Np
   ·have:=e q hq
    have:=hM q Np;omega⟩
  have hnew:∀q,yT.ownBlock=some q→¬M q:=fun q hq Np=>by
   have:=hC.ajP q hq;have:=hM q Np;omega
  have om:=hC.rows;have hR:(j_ R b).1 = { (if 24≤R.rows.length then R.Gw else R) with rows:=(if 24≤R.rows.length then R.Gw else R).rows++[b],S:=cJ R.S b.ops,at_:=b.index,θ:=b.θ } := by
   unfold j_ at h0 ⊢;by_cases h1:d_ b.index b.θ b.ops≠0
   ·rw[σ h1] at h0
    exact absurd h0 h1
   ·rw[ν h1] at h0 ⊢
    by_cases h2:b.index≠R.at_+1∨b.θ<R.θ
    ·rw[σ h2] at h0
     exact absurd h0 (show ¬(1:Int)=0 by decide)
    ·rw[ν h2] at h0 ⊢
     by_cases h3:fW R.S b.ops≠0
     ·rw[σ h3] at h0
      exact absurd h0 h3
     ·rw[ν h3]
  by_cases h24:R.rows.length=24
  ·rw[σ (by rw[hlen];exact h24)] at om ⊢
   rw[σ oM] at hR;refine⟨mv,cD,yT,[ov],by rw[h0,hR];rfl,?_,hU⟩
   rw[hR];exact⟨h.eD.still hU,xU,⟨om,fun _=>hnew⟩,rfl,fun i b' Fa h1 h2=>by
    cases i with
    | zero =>
      obtain rfl:b=b':=by simpa [eo.Gw] using h1
      obtain rfl:ov=Fa:=by simpa using h2
      exact hO.still hU
    | succ i=>simp at h2⟩
  ·rw[ν (by rw[hlen];exact h24)] at om ⊢
   rw[ν (oN hk.rows)] at hR;refine⟨mv,cD,yT,aI++[ov],by rw[h0,hR];rfl,?_,hU⟩
   rw[hR];refine⟨h.eD.still hU,xU,⟨by rw[Vl _ _ _ _ h.len];exact om,fun _=>hnew⟩,by simp[h.len],fun i b' Fa h1 h2=>?_⟩;by_cases hi:i<R.rows.length
   ·rw[pL hi] at h1
    rw[pL (by rw[h.len];exact hi)] at h2;exact(h.each i b' Fa h1 h2).still hU
   ·rw[lM oM] at h1
    rw[lM (by rw[h.len];omega),h.len] at h2;obtain⟨j,hj⟩:=κ (i - R.rows.length);rw[hj] at h1 h2;cases j with
    | zero =>
      obtain rfl:b=b':=by simpa using h1
      obtain rfl:ov=Fa:=by simpa using h2
      exact hO.still hU
    | succ j=>simp at h2
 ·have hR:(j_ R b).1=R:=by
   unfold j_ at h0 ⊢;by_cases h1:d_ b.index b.θ b.ops≠0
   ·rw[σ h1]
   ·rw[ν h1] at h0 ⊢
    by_cases h2:b.index≠R.at_+1∨b.θ<R.θ
    ·rw[σ h2]
    ·rw[ν h2] at h0 ⊢
     by_cases h3:fW R.S b.ops≠0
     ·rw[σ h3]
     ·rw[ν h3] at h0
      exact absurd rfl h0
  refine⟨mv,lv,rv,aI,by rw[hR];rfl,?_,hU⟩
  rw[hR];exact h.still hU
theorem eP.bE (h:eP w M R mv lv rv aI) (m:MetaM) {cv:Value} (dJ:gr w M 2 cv (m.aW.map ct)) (hs:∀x ∈ m.aW,x.name.length≤1000000) :
 ς 94 #[.agg (jM R mv lv rv),.agg (dy m cv)] w fun r w'=>wH w w' M (lS R m) r:=by
 obtain⟨o1,o2,o3⟩:=h.one;refine(ahs o1 o2 o3 m dJ.1 hs).mono ?_;rintro r w' ⟨rfl,hU⟩;unfold wH lS;cases hm:dS m
 ·simp only[oG,lK,vI]
  exact⟨mv,lv,rv,aI,rfl,h.still hU,hU⟩
 ·simp only[Bool.true_eq_false,lK,vI]
  exact⟨cv,lv,rv,aI,rfl,⟨dJ.still hU,h.lI.still hU,h.rows.still hU,h.len,fun i b ov h1 h2=>(h.each i b ov h1 h2).still hU⟩,hU⟩
theorem eP.install (h:eP w M R mv lv rv aI) (m:MetaM) {cv:Value} (dJ:gr w M 2 cv (m.aW.map ct)) (hs:∀x ∈ m.aW,x.name.length≤1000000) {l:List ai} {pv:Value} (hl:gr w M 2 pv (l.map bz)) (dP:∀q ∈ l,q.1.length≤1000000∧q.2.length≤1000000) (hM:∀q,M q→q<w.heap.size) (eF fE:Int) :
 ς 95 #[.agg (jM R mv lv rv),.agg (dy m cv),pv,ι eF,ι fE] w fun r w'=>wH w w' M (jz R m l eF fE) r:=by
 obtain⟨o1,o2,o3⟩:=h.one;refine(acs o1 o2 o3 m dJ.1 hs hl.1 dP eF fE).mono ?_;intro r w' hr;have he:BP m l eF fE=(jz R m l eF fE).2:=by
  unfold BP jz;by_cases h1:dS m=false∨mE eF fE=false
  ·rw[σ h1,σ h1]
  ·rw[ν h1,ν h1]
   by_cases h2:(fL l).2≠0
   ·rw[σ h2]
   ·rw[ν h2]
    exact Decidable.not_not.1 h2
 rw[he] at hr;rcases hr with ⟨h0,cD,rfl,hT,hU,hn⟩ | ⟨h0,rfl,hU⟩
 ·have hR:(jz R m l eF fE).1 = { R with m:=m,S:=(fL l).1,at_:=eF,θ:=fE,rows:=[],prev:=fE } := by
   unfold jz at h0 ⊢;by_cases h1:dS m=false∨mE eF fE=false
   ·rw[σ h1] at h0
    exact absurd h0 (show ¬(1:Int)=0 by decide)
   ·rw[ν h1] at h0 ⊢
    by_cases h2:(fL l).2≠0
    ·rw[σ h2] at h0
     exact absurd h0 h2
    ·rw[ν h2]
  refine⟨cv,cD,.slice none 0 0,[],by rw[h0,hR];rfl,?_,hU⟩
  rw[hR];exact⟨dJ.still hU,gr.zi hT hn hM,gr.nil _ _ _,rfl,fun i b ov h=>by simp at h⟩
 ·have hR:(jz R m l eF fE).1=R:=by
   unfold jz at h0 ⊢;by_cases h1:dS m=false∨mE eF fE=false
   ·rw[σ h1]
   ·rw[ν h1] at h0 ⊢
    by_cases h2:(fL l).2≠0
    ·rw[σ h2]
    ·rw[ν h2] at h0
     exact absurd rfl h0
  refine⟨mv,lv,rv,aI,by rw[hR];rfl,?_,hU⟩
  rw[hR];exact h.still hU
theorem eP.rotate (h:eP w M R mv lv rv aI) :
 ς 96 #[.agg (jM R mv lv rv)] w fun r w'=>wH w w' M (rotateR R) r:=by
 obtain⟨o1,o2,o3⟩:=h.one;refine(agn o1 o2 o3 oM).mono ?_;rintro r w' ⟨rfl,hU⟩;unfold wH rotateR;by_cases hk:1048576≤R.key
 ·rw[σ hk,ν oM,ν oM]
  exact⟨mv,lv,rv,aI,rfl,h.still hU,hU⟩
 ·rw[ν hk,σ oM,σ oM]
  exact⟨mv,lv,rv,aI,rfl,⟨h.eD.still hU,h.lI.still hU,h.rows.still hU,h.len,fun i b ov h1 h2=>(h.each i b ov h1 h2).still hU⟩,hU⟩
end
end
end Go.Proofs.YtbhjgfibhegddaaGreat
