/-
  Parts of the proof of VaultFalls: Ref13C, Ref13D, Ref13E, Ref12B, Ref13F, Ref17A, RefR, Ref17B.
-/
import Derived.Test.YtbhjgfibhegddaaGreatQVaultFalls21
set_option maxRecDepth 100000
set_option maxHeartbeats 16000000
namespace Go.Proofs.YtbhjgfibhegddaaGreat
abbrev agl:=@List.flatten_append
open Tryz
section
open Go Go.RowKit
theorem O6 {P:Prop} (h:P:=by rw[← hw1,← Hc.out];exact(η.new w _ _).alloc _):P:=h
theorem UO {P:Prop} (h:P:=by rw[← iz,← hg];exact η.new w2 _ _):P:=h
theorem O7 {P:Prop} (h:P:=by have:=HN.out;unfold maxLen;omega):P:=h
theorem Z_ {w:World} {b k:Nat} : ∀(cs:List (List Value)) (o:Nat),(∀i c,cs[i]? = some c→c.length=k∧w.rangeAt b (o+i*k) c)→∀j u,cs.flatten[j]? = some u→w.cell? ⟨b,o+j,none⟩=some u
 | [],_,_,j,u,hj=>by simp at hj
 | c :: r,o,h,j,u,hj=>by
   have h0:=h 0 c rfl;rw[Ms] at hj;by_cases hjc:j<c.length
   ·rw[qi hjc] at hj
    have:=h0.2 j u hj;rwa [Nat.zero_mul,sU] at this
   ·rw[mG oM] at hj
    have:=Z_ r (o+k) (fun i c' hc=>by
     have h2:=h (i+1) c' (by simpa using hc);rw[Mt,show o+(i*k+k)=o+k+i*k by omega] at h2;exact h2) (j - c.length) u hj
    rw[← this,h0.1];congr 2
    omega
theorem aaS {k:Nat} : ∀(cs:List (List Value)),(∀c ∈ cs,c.length=k)→cs.flatten.length=cs.length*k
 | [],_=>by simp
 | c::r,h=>by
   rw[Ms,aN,aaS r (fun x hx=>h x (Ye _ hx)),h c sM,eZ,Mt,XN]
theorem Src.abn {P:Program} {w:World} {xT t:TypeId} (ht:P.underlying xT=some (.slice t)) {A:Option Addr} {cap l h k b off:Nat} {cs:List (List Value)} (hA:l<h→A=some ⟨b,off,none⟩) (hlh:l≤h) (hh:h≤cap) (hn:h≤cs.length)
 (hcs:∀i c,cs[i]? = some c→c.length=k∧w.rangeAt b (off+i*k) c):Src P w xT k (sliced A l h cap k) (h - l) ((cs.drop l).take (h - l)).flatten:=by
 unfold sliced;by_cases e:l=h
 ·subst e
  rw[Ir,Fg];show Src P w xT k _ 0 [];generalize (if cap=l then A else A.map (·.add (l*k)):Option Addr)=X;rcases X with _ | a
  ·exact .of_nil ht _
  ·exact .vt ht a 0 _ sM (fun j u hj=>by simp at hj)
 ·have hlt:l<h:=oM
  rw[hA hlt,ν oM];have hrow:∀i c,((cs.drop l).take (h - l))[i]? = some c→c.length=k∧w.rangeAt b (off+l*k+i*k) c:=fun i c hc=>by
   rw[Mc] at hc;split at hc
   ·rw[Ml] at hc
    have:=hcs _ _ hc;rwa [XT,← Ip] at this
   ·cases hc
  have ju:∀m o,(⟨b,o,none⟩:Addr).add m=⟨b,o+m,none⟩:=fun m o=>by unfold Addr.add;split<;>simp_all
  refine .vt ht _ _ _ ?_ fun j u hj=>?_
  ·rw[aaS (k:=k) _ fun c hc=>?_]
   ·rw[iW,jC,xy oM]
   ·obtain⟨i,hi⟩:=CU hc
    exact(hrow i c hi).1
  ·show w.cell? (((⟨b,off,none⟩:Addr).add (l*k)).add j)=some u
   rw[ju,ju];exact Z_ _ _ hrow j u hj
theorem I8 (l:List ai):∀u ∈ (l.map bC).flatten,u.oneCell'=true:=by
 intro u hu;obtain⟨r,hr,WY⟩:=Yj.1 hu;obtain⟨q,-,rfl⟩:=cu.1 hr;unfold bC at WY;simp only[cC,vg,vh] at WY;rcases WY with rfl | rfl<;>rfl
def vG (w w':World) (c g:Nat) (lv v:Value) (n:Nat) (xs:List Value):Prop :=
 η w' c 93 #[lv]∧η w' (c+1) 93 #[.slice none 0 0]∧η w' g 93 #[v]∧Own w' 55 2 v n xs∧υ w w'∧(∀q,v.ownBlock=some q→g<q)
theorem vG.step {w w' wa w2 w3:World} {c g n n2:Nat} {lv v v2:Value} {xs Cp:List Value} (h:vG w w' c g lv v n xs) (hc:w.heap.size=c) (hg:c+1<g) (ha:υ w' wa) (hO:Own w2 55 2 v2 n2 Cp) (hU:ζ (fun k=>v.ownBlock=some k) wa w2) (hl:v2.ownBlock=v.ownBlock∨v2.ownBlock=some wa.heap.size) (hB:η w3 g 93 #[v2]) (χ:ζ (· = g) w2 w3):vG w w3 c g lv v2 n2 Cp:=by
 obtain⟨h1,h2,h3,h4,h5,h6⟩:=h;have EE:=(h3.ε ha id).lt;have Qb:∀q,v2.ownBlock=some q→g<q:=fun q hq=>by
  rcases hl with e | e
  ·exact h6 q ux
  ·rw[hq] at e
   have:=dM e;omega
 refine⟨((h1.ε ha id).ε hU (fun e=>?_)).ε χ (fun e=>?_),((h2.ε ha id).ε hU (fun e=>?_)).ε χ (fun e=>?_),hB,hO.ε χ (fun q hq e=>?_),((h5.then ha φ).then hU (fun q e=>.inr ?_)).then χ (fun q e=>.inr ?_),Qb⟩
 ·have:=h6 _ e;omega
 ·have e2:c=g:=e;omega
 ·have:=h6 _ e;omega
 ·have e2:c+1=g:=e;omega
 ·have:=Qb q hq;have e2:q=g:=e;omega
 ·have:=h6 _ e;omega
 ·have e2:q=g:=e;omega
theorem o_ {v:Value} (h:v.oneCell'=true):#[v].all (·.oneCell')=true:=by simp[h]
theorem aaT {w:World} {v8:Value} {S:List ai} {F l:Nat} {p v:ByteArray} (h:Own w 55 2 v8 (F+1+(S.length - l)) (((S.take F).map bC).flatten++[.string p,.string v]++((S.drop l).map bC).flatten)) (hF:F≤S.length) (hl:l≤S.length) (hS:S.length≤100000) :
 ax w 55 2 v8 ((S.take F++(p.data.toList,v.data.toList)::S.drop l).map bC):=by
 have e:bC (p.data.toList,v.data.toList)=[.string p,.string v]:=rfl;refine ax.ku (n:=F+1+(S.length - l)) ?_ ?_ oM ?_
 ·rw[lq,kO,agl,Ms,e,← eC]
  exact h
 ·simp
  omega
 ·intro c hc
  obtain⟨q,-,rfl⟩:=cu.1 hc;rfl
theorem abZ (w:World):(sizeOf 55).run prog w=.ok 2 w:=kR
theorem afj {P:Prop} (h:P:=by
 refine⟨sliced A l S.length cap 2,fun W=>?_,fun W hW=>?_⟩
 ·rw[run_slice_l (P:=prog) W _ _ _ _ underlying56 .i64 l oM oM]
  show ((sizeOf 55).run prog W).andThen _=_;rw[abZ];rfl
 ·have:=Src.abn (h:=S.length) (l:=l) (cap:=cap) (A:=A) underlying56 (fun h=>hA oM) hl hcap (by rw[bz];exact bO _) (hcs W hW)
  rw[dV sM,← QF] at this;exact this):P:=h
theorem afk {P:Prop} (h:P:=by
 refine cJ (jU rfl _ _ (c+1) _ _ _ _ rfl nG underlying93 rfl kR) rfl ⟨v8,rfl,?_,H9.out.2.2.2.2.1.then fE (fun q e=>.inr ?_),fun q e=>?_⟩
 ·have:=HX.out.ε fE (fun q ht e=>by
   have e2:q=c+1:=e;subst e2;exact absurd (H9.out.2.1.ty.inj ht) dC)
  simpa using this
 ·have e2:q=c+1:=e
  have:=Hc.out;omega
 ·have:=H9.out.2.2.2.2.2 q e
  have:=H3.out.2.2.2.2;have:=Hc.out;omega):P:=h
theorem afl {P:Prop} (h:P:=by
 have:=Src.abn (h:=F) (l:=0) (cap:=cap) (A:=A) underlying56 (fun h=>hA oM) oM oM Gq (hcs W hW);rw[List.drop_zero,Nat.sub_zero,← Ff] at this;exact this):P:=h
theorem afm {P:Prop} (h:P:=by
 rw[run_slice_h (P:=prog) W _ _ _ _ underlying56 .i64 F oM oM];show ((sizeOf 55).run prog W).andThen _=_;rw[abZ];rfl):P:=h
theorem afn {P:Prop} (h:P:=by
 have:=η.new (w.alloc (.cells #[.slice A S.length cap] 93)) 93 #[.slice none 0 0];rw[dx,Hc.out] at this;rw[← hw1];exact this):P:=h
theorem afo {P:Prop} (h:P:=by
 rw[← hB] at e;unfold iF at e;rw[hF,eD] at e;apply Nat.lt_of_not_le
 intro hc;rw[nv hc] at e;cases e):P:=h
theorem ab0 {w:World} {ty:TypeId} {lv:Value} {S:List ai} (hT:ax w ty 2 lv (S.map bC)) (hs:∀q ∈ S,q.1.length≤1000000) (hS:S.length≤100000) (p v:ByteArray) (hp:p.size≤1000000) :
 ς 203 #[.agg #[lv],.string p,.string v] w fun e w'=>∃fN,e=ώ (.agg #[fN])∧ax w' 55 2 fN ((jJ p.data.toList v.data.toList S).map bC)∧υ w w'∧(∀q,fN.ownBlock=some q→w.heap.size≤q):=by
 have hfind:=fun W (hW:υ w W)=>S8 (hT.still hW) hs p hp
 obtain⟨A,cap,b,off,rfl,hcap,hl,hA,hat⟩:=hT.open_;have hcs:∀W,υ w W→∀i c,(S.map bC)[i]? = some c→c.length=2∧W.rangeAt b (off+i*2) c:=fun W hW i c hc=>⟨by
  obtain⟨q,-,rfl⟩:=cu.1 (qO hc);rfl,hat W _ hW (fun _ _ e=>e) i c hc⟩
 simp only[bz] at hcap hl hA hfind;obtain⟨F,hF⟩:=μ (js p.data.toList S);obtain⟨B,hB⟩:=μ (iF p.data.toList S);have AK:=Sj p.data.toList S;have hBl:B=true→F+1≤S.length:=fun e=>by
  exact afo
 rw[hF] at AK;rw[hF,hB] at hfind;rw[ajy,hF,hB,bz];have Dv:∀W,υ w W→Src prog W 56 2 (sliced A 0 F cap 2) F ((S.take F).map bC).flatten:=fun W hW=>by
  exact afl
 have uu:∀W:World,(Instr.slice 56 (.slice A S.length cap) none (some (ι F)) none).run prog W=.ok (sliced A 0 F cap 2) W:=fun W=>by
  exact afm
 have dJ:∀l,l≤S.length→∃s2,(∀W:World,(Instr.slice 56 (.slice A S.length cap) (some (ι (l:Int))) none none).run prog W=.ok s2 W)∧∀W,υ w W→Src prog W 56 2 s2 (S.length - l) ((S.drop l).map bC).flatten:=fun l hl=>by
  exact afj
 obtain⟨s1,hs1⟩:=μ (sliced A 0 F cap 2);rw[hs1] at Dv uu;have HF:=p7 hfind Dv dJ uu AK hBl hS;have HN:=τ AK hS;obtain⟨c,hc⟩:=μ w.heap.size;have Hc:=δ hc;obtain⟨i0,bx,bU,bK,aY⟩:=jD Nl;have HI:=aF bx bU bK aY;clear hF hB hat hs hT hc hfind AK hA hcap hl hS bx bU bK aY Dv dJ uu hBl hs1 hcs;go_enter func203,ntmps203
 go_upto_region 1 with fail
 rw[Hc.out];generalize hw1:World.alloc (World.alloc _ _) _=w1;have aP:η w1 c 93 #[.slice A S.length cap]:=O6
 have pF:η w1 (c+1) 93 #[.slice none 0 0]:=by
  exact afn
 have az:υ w w1:=Gx
 have c0:w1.cell? ⟨c,0,none⟩=some (.slice A S.length cap):=aP.cell 0;have H1:=aq aP pF az;have HC:=δ (HF.out.1 w1 az);clear hw1 aP pF az;go_upto_region 3 with (first
  |(go_at_call 202
    refine HC.out.mono ?_;rintro e w2 ⟨rfl,σ⟩;have H2:=δ σ;clear σ))
 obtain⟨g,hg⟩:=μ w2.heap.size;rw[hg];generalize iz:World.alloc _ _=w3;have fC:c+1<g:=by have:=(H1.out.2.1.ε H2.out id).lt;omega
 have aC:η w3 c 93 #[.slice A S.length cap]:=by rw[← iz];exact(H1.out.1.ε H2.out id).alloc _
 have iR:η w3 (c+1) 93 #[.slice none 0 0]:=by rw[← iz];exact(H1.out.2.1.ε H2.out id).alloc _
 have gG:η w3 g 93 #[.slice none 0 0]:=UO
 have χ:υ w w3:=by rw[← iz];exact(H1.out.2.2.then H2.out φ).alloc _
 have H3:=cD aC iR gG χ fC;clear hg iz fC aC iR gG χ c0;refine dW ?_;refine eo (S:=fun w'=>η w' c 93 #[.slice A S.length cap]∧η w' g 93 #[.slice none 0 0]) (T:=fun i=>i == 8) kR ?_;have aE:η w3.drew c 93 #[.slice A S.length cap]∧η w3.drew g 93 #[.slice none 0 0]:=⟨H3.out.1.drew,H3.out.2.2.1.drew⟩;refine ξ 0 ?_;refine aX 1 (fun w' hSw=>hSw.2.cell 0) ?_;refine ξ 2 ?_;refine aX 3 (fun w' hSw=>hSw.1.cell 0) ?_;refine ξ 4 ?_;refine aX 5 (fun w' hSw=>HF.out.2.2.2.1 w') ?_;refine bf 6 (fun KK ο=>?_);refine qn ak _ _ _ _ ak 55 i0 _ 2 32 underlying56 HI.out.1 HI.out.2.1 HI.out.2.2.1 HI.out.2.2.2 rfl (.slice none 0 0) 0 [] ak (Own.nil _ _ _) s1 F ((S.take F).map bC).flatten ak (HF.out.2.1 _ H3.out.2.2.2.1.drew) (I8 _) O7 (oN HN.out) ?_;intro v4 w4 kH au nN dh;have dH:η w4 c 93 #[.slice A S.length cap]∧η w4 g 93 #[.slice none 0 0]:=⟨aE.1.ε au lV,aE.2.ε au lV⟩;refine ο.out _ _ dH ?_;clear ο;simp only[Act.put,jW]
 refine ξ 7 ?_;refine lG 8 (fun KK ο=>?_);rw[π (show Region.wanted _ _=true by rfl)];refine nw _ _ _ rfl g 0 v4 rfl rfl _ _ dH.2 sM kH.one kR (fun w5 aK ay iQ=>?_);refine ο.out _ _ ?_;clear ο;simp only[Act.put];refine dY ?_;refine dz ?_;have h5:vG w w5 c g (.slice A S.length cap) v4 F ((S.take F).map bC).flatten :=
  vG.step (v:=.slice none 0 0) (n:=0) (xs:=[]) ⟨H3.out.1,H3.out.2.1,H3.out.2.2.1,Own.nil _ _ _,H3.out.2.2.2.1,by simp[Value.ownBlock]⟩ Hc.out H3.out.2.2.2.2 ((ζ.refl _ w3).drewN 1) (by simpa using kH) au nN aK ay
 have H5:=δ h5;clear h5 aK ay iQ aE dH kH au nN dh;have c4:w5.cell? ⟨g,0,none⟩=some v4:=H5.out.2.2.1.cell 0;obtain⟨A4,BI,rfl,-,-⟩:=H5.out.2.2.2.1.shape;go_upto_region 5 with (first
  |(at_builtin
    refine kr rfl _ _ _ _ rfl 55 i0 _ 2 32 underlying56 HI.out.1 HI.out.2.1 HI.out.2.2.1 HI.out.2.2.2 rfl (.slice A4 F BI) F _ rfl (H5.out.2.2.2.1.alloc _) _ 1 [.string p,.string v] rfl (Src.rY underlying56 _ rfl) jN O7 (oN HN.out) ?_;intro v6 w6 rO aB wZ tO;have cY:η w6 g 93 #[.slice A4 F BI]:=(H5.out.2.2.1.alloc _).ε aB (fun e=>absurd (H5.out.2.2.2.2.2 _ e) (Mr _));have acT:=rO.one)
  |(refine gJ rfl 56 _ _ rfl g 0 v6 rfl rfl _ _ cY sM acT kR ?_
    intro w7 dI bI jf))
 have h7:=vG.step H5.out Hc.out H3.out.2.2.2.2 ((ζ.refl _ w5).alloc _) rO aB wZ dI bI;have H7:=δ h7;clear h7 dI bI jf rO aB wZ tO cY acT c4 H5;have hl:∀l,l≤S.length→F+1+(S.length - l)≤maxLen∧(F+1+(S.length - l))*32≤140737488355328:=fun l hl=>by
  have h1:=HF.out.2.2.2.2.2.2;have h2:=HF.out.2.2.2.2.1;unfold maxLen;omega
 have HL:=δ hl;clear hl;cases B
 ·obtain⟨s2,hr2,cn⟩:=HF.out.2.2.1 (F) HF.out.2.2.2.2.1
  have pn:=τ hr2 cn;clear hr2 cn;go_upto_region 7 with fail
  refine dW ?_;refine eo (S:=fun w'=>η w' c 93 #[.slice A S.length cap]∧η w' g 93 #[v6]) (T:=fun i=>i == 8) kR ?_;have aE:η w7.drew c 93 #[.slice A S.length cap]∧η w7.drew g 93 #[v6]:=⟨H7.out.1.drew,H7.out.2.2.1.drew⟩;refine ξ 0 ?_;refine aX 1 (fun w' hSw=>hSw.2.cell 0) ?_;refine ξ 2 ?_;refine aX 3 (fun w' hSw=>hSw.1.cell 0) ?_;refine ξ 4 ?_;refine aX 5 (fun w' hSw=>pn.out.1 w') ?_;refine bf 6 (fun KK ο=>?_);refine qn ak _ _ _ _ ak 55 i0 _ 2 32 underlying56 HI.out.1 HI.out.2.1 HI.out.2.2.1 HI.out.2.2.2 rfl v6 (F+1) _ ak H7.out.2.2.2.1.drew s2 (S.length - (F)) ((S.drop (F)).map bC).flatten ak (pn.out.2 _ H7.out.2.2.2.2.1.drew) (I8 _) (HL.out _ HF.out.2.2.2.2.1).1 (HL.out _ HF.out.2.2.2.2.1).2 ?_;intro v8 w8 rL cT sE kX;have iK:η w8 c 93 #[.slice A S.length cap]∧η w8 g 93 #[v6]:=⟨aE.1.ε cT (fun e=>oO (H7.out.2.2.2.2.2 _ e) H3.out.2.2.2.2),aE.2.ε cT (fun e=>absurd (H7.out.2.2.2.2.2 _ e) (Mr _))⟩;refine ο.out _ _ iK ?_;clear ο;simp only[Act.put,jW];refine ξ 7 ?_;refine lG 8 (fun KK ο=>?_)
  rw[π (show Region.wanted _ _=true by rfl)];refine nw _ _ _ rfl g 0 v8 rfl rfl _ _ iK.2 sM rL.one kR (fun w9 dy eW nP=>?_);refine ο.out _ _ ?_;clear ο;simp only[Act.put];refine dY ?_;refine dz ?_;have h9:=vG.step H7.out Hc.out H3.out.2.2.2.2 ((ζ.refl _ w7).drewN 1) rL cT sE dy eW;have H9:=δ h9;clear h9 dy eW nP aE iK rL cT sE kX;go_wp2_with (first
   |(refine lM rfl 93 _ rfl g rfl _ #[v8] _ H9.out.2.2.1 underlying93 rfl kR ?_)
   |(refine eN 93 (c+1) #[v8] H9.out.2.1 (o_ H9.out.2.2.2.1.one) ?_
     intro w10 nG fE BL))
  have HX:=δ (aaT H9.out.2.2.2.1 HN.out.1 HF.out.2.2.2.2.1 HN.out.2);exact afk
 ·have Ih:F+1≤S.length:=HF.out.2.2.2.2.2.1 rfl
  have Ii:=δ Ih;clear Ih;have hw:IntKind.i64.wrap ((F:Int)+1)=(F:Int)+1:=cZ _ (oO HF.out.2.2.2.2.1 HN.out);obtain⟨s2,hr2,cn⟩:=HF.out.2.2.1 (F+1) Ii.out;rw[show ((F+1:Nat):Int)=(F:Int)+1 by omega] at hr2;have pn:=τ hr2 cn;clear hr2 cn;go_upto_region 7 with fail
  refine dW ?_;refine eo (S:=fun w'=>η w' c 93 #[.slice A S.length cap]∧η w' g 93 #[v6]) (T:=fun i=>i == 8) kR ?_;have aE:η w7.drew c 93 #[.slice A S.length cap]∧η w7.drew g 93 #[v6]:=⟨H7.out.1.drew,H7.out.2.2.1.drew⟩;refine ξ 0 ?_;refine aX 1 (fun w' hSw=>hSw.2.cell 0) ?_;refine ξ 2 ?_;refine aX 3 (fun w' hSw=>hSw.1.cell 0) ?_;refine ξ 4 ?_;refine aX 5 (fun w' hSw=>pn.out.1 w') ?_;refine bf 6 (fun KK ο=>?_);refine qn ak _ _ _ _ ak 55 i0 _ 2 32 underlying56 HI.out.1 HI.out.2.1 HI.out.2.2.1 HI.out.2.2.2 rfl v6 (F+1) _ ak H7.out.2.2.2.1.drew s2 (S.length - (F+1)) ((S.drop (F+1)).map bC).flatten ak (pn.out.2 _ H7.out.2.2.2.2.1.drew) (I8 _) (HL.out _ Ii.out).1 (HL.out _ Ii.out).2 ?_;intro v8 w8 rL cT sE kX;have iK:η w8 c 93 #[.slice A S.length cap]∧η w8 g 93 #[v6]:=⟨aE.1.ε cT (fun e=>oO (H7.out.2.2.2.2.2 _ e) H3.out.2.2.2.2),aE.2.ε cT (fun e=>absurd (H7.out.2.2.2.2.2 _ e) (Mr _))⟩;refine ο.out _ _ iK ?_;clear ο;simp only[Act.put,jW];refine ξ 7 ?_;refine lG 8 (fun KK ο=>?_);rw[π (show Region.wanted _ _=true by rfl)]
  refine nw _ _ _ rfl g 0 v8 rfl rfl _ _ iK.2 sM rL.one kR (fun w9 dy eW nP=>?_);refine ο.out _ _ ?_;clear ο;simp only[Act.put];refine dY ?_;refine dz ?_;have h9:=vG.step H7.out Hc.out H3.out.2.2.2.2 ((ζ.refl _ w7).drewN 1) rL cT sE dy eW;have H9:=δ h9;clear h9 dy eW nP aE iK rL cT sE kX;go_wp2_with (first
   |(refine lM rfl 93 _ rfl g rfl _ #[v8] _ H9.out.2.2.1 underlying93 rfl kR ?_)
   |(refine eN 93 (c+1) #[v8] H9.out.2.1 (o_ H9.out.2.2.2.1.one) ?_
     intro w10 nG fE BL))
  have HX:=δ (aaT H9.out.2.2.2.1 HN.out.1 Ii.out HN.out.2);exact afk
theorem ajB {w:World} {v8:Value} {S:List ai} {F:Nat} (h:Own w 55 2 v8 (F+(S.length - (F+1))) (((S.take F).map bC).flatten++((S.drop (F+1)).map bC).flatten)) (hF:F+1≤S.length) (hS:S.length≤100000) :
 ax w 55 2 v8 ((S.take F++S.drop (F+1)).map bC):=by
 refine ax.ku (n:=F+(S.length - (F+1))) ?_ ?_ oM ?_
 ·rw[lq,agl]
  exact h
 ·simp
  omega
 ·intro c hc
  obtain⟨q,-,rfl⟩:=cu.1 hc;rfl
theorem ajC {w:World} {ty:TypeId} {lv:Value} {S:List ai} (hT:ax w ty 2 lv (S.map bC)) (hs:∀q ∈ S,q.1.length≤1000000) (hS:S.length≤100000) (hR:gx S) (p:ByteArray) (hp:p.size≤1000000) :
 ς 243 #[.agg #[lv],.string p] w fun e w'=>∃fN,e=ώ (.agg #[fN])∧ax w' gC 2 fN ((rB p.data.toList S).map bC)∧υ w w'∧(fN=lv∨∀q,fN.ownBlock=some q→w.heap.size≤q):=by
 have hfind:=fun W (hW:υ w W)=>S8 (hT.still hW) hs p hp
 obtain⟨A,cap,b,off,rfl,hcap,hl,hA,hat⟩:=hT.open_;have hcs:∀W,υ w W→∀i c,(S.map bC)[i]? = some c→c.length=2∧W.rangeAt b (off+i*2) c:=fun W hW i c hc=>⟨by
  obtain⟨q,-,rfl⟩:=cu.1 (qO hc);rfl,hat W _ hW (fun _ _ e=>e) i c hc⟩
 simp only[bz] at hcap hl hA hfind;obtain⟨F,hF⟩:=μ (js p.data.toList S);obtain⟨B,hB⟩:=μ (iF p.data.toList S);have AK:=Sj p.data.toList S;have hBl:B=true→F+1≤S.length:=fun e=>by
  exact afo
 rw[hF] at AK;rw[hF,hB] at hfind;rw[Z8 hR,hF,hB,bz];have Dv:∀W,υ w W→Src prog W 56 2 (sliced A 0 F cap 2) F ((S.take F).map bC).flatten:=fun W hW=>by
  exact afl
 have uu:∀W:World,(Instr.slice 56 (.slice A S.length cap) none (some (ι F)) none).run prog W=.ok (sliced A 0 F cap 2) W:=fun W=>by
  exact afm
 have dJ:∀l,l≤S.length→∃s2,(∀W:World,(Instr.slice 56 (.slice A S.length cap) (some (ι (l:Int))) none none).run prog W=.ok s2 W)∧∀W,υ w W→Src prog W 56 2 s2 (S.length - l) ((S.drop l).map bC).flatten:=fun l hl=>by
  exact afj
 obtain⟨s1,hs1⟩:=μ (sliced A 0 F cap 2);rw[hs1] at Dv uu;have HF:=p7 hfind Dv dJ uu AK hBl hS;have HN:=τ AK hS;have HTA:=δ hT.any;obtain⟨c,hc⟩:=μ w.heap.size;have Hc:=δ hc;obtain⟨i0,bx,bU,bK,aY⟩:=jD Nl;have HI:=aF bx bU bK aY;clear hR hF hB hat hs hT hc hfind AK hA hcap hl hS bx bU bK aY Dv dJ uu hBl hs1 hcs;go_enter func243,ntmps243
 go_upto_region 1 with fail
 rw[Hc.out];generalize hw1:World.alloc (World.alloc _ _) _=w1;have aP:η w1 c 93 #[.slice A S.length cap]:=O6
 have pF:η w1 (c+1) 93 #[.slice none 0 0]:=by
  exact afn
 have az:υ w w1:=Gx
 have c0:w1.cell? ⟨c,0,none⟩=some (.slice A S.length cap):=aP.cell 0;have H1:=aq aP pF az;have HC:=δ (HF.out.1 w1 az);clear hw1 aP pF az;go_upto_region 2 with (first
  |(go_at_call 202
    refine HC.out.mono ?_;rintro e w2 ⟨rfl,σ⟩;have H2:=δ σ;clear σ))
 cases B
 ·have aD:=H1.out.1.ε H2.out id
  have iP:=H1.out.2.1.ε H2.out id;go_wp2_with (first
   |(refine gp 93 c aD underlying93 ?_)
   |(refine eN 93 (c+1) #[.slice A S.length cap] iP (o_ rfl) ?_
     intro w3 aC χ fY))
  have zV:=(H1.out.2.2.then H2.out φ).then χ (fun q e=>.inr (oF e Hc.out));refine cJ (jU rfl _ _ (c+1) _ _ _ _ rfl aC underlying93 rfl kR) rfl ⟨.slice A S.length cap,rfl,?_,zV,.inl rfl⟩;have h3:=HTA.out.still zV;simpa using h3
 ·have Ih:F+1≤S.length:=HF.out.2.2.2.2.2.1 rfl
  obtain⟨s2,hr2,cn⟩:=HF.out.2.2.1 (F+1) Ih;rw[show ((F+1:Nat):Int)=(F:Int)+1 by omega] at hr2;have hw:IntKind.i64.wrap ((F:Int)+1)=(F:Int)+1:=cZ _ (oN HN.out);have HW:=δ hw;have pn:=τ hr2 cn;have Ii:=δ Ih;clear hr2 cn Ih hw;go_upto_region 5 with fail
  obtain⟨g,hg⟩:=μ w2.heap.size;rw[hg];generalize iz:World.alloc _ _=w3;have fC:c+1<g:=by have:=(H1.out.2.1.ε H2.out id).lt;omega
  have aC:η w3 c 93 #[.slice A S.length cap]:=by rw[← iz];exact(H1.out.1.ε H2.out id).alloc _
  have iR:η w3 (c+1) 93 #[.slice none 0 0]:=by rw[← iz];exact(H1.out.2.1.ε H2.out id).alloc _
  have gG:η w3 g 93 #[.slice none 0 0]:=UO
  have χ:υ w w3:=by rw[← iz];exact(H1.out.2.2.then H2.out φ).alloc _
  have H3:=cD aC iR gG χ fC;clear hg iz fC aC iR gG χ;refine dW ?_;refine eo (S:=fun w'=>η w' c 93 #[.slice A S.length cap]∧η w' g 93 #[.slice none 0 0]) (T:=fun i=>i == 8) kR ?_;have aE:η w3.drew c 93 #[.slice A S.length cap]∧η w3.drew g 93 #[.slice none 0 0]:=⟨H3.out.1.drew,H3.out.2.2.1.drew⟩;refine ξ 0 ?_;refine aX 1 (fun w' hSw=>hSw.2.cell 0) ?_;refine ξ 2 ?_;refine aX 3 (fun w' hSw=>hSw.1.cell 0) ?_;refine ξ 4 ?_;refine aX 5 (fun w' hSw=>HF.out.2.2.2.1 w') ?_;refine bf 6 (fun KK ο=>?_);refine qn ak _ _ _ _ ak 55 i0 _ 2 32 underlying56 HI.out.1 HI.out.2.1 HI.out.2.2.1 HI.out.2.2.2 rfl (.slice none 0 0) 0 [] ak (Own.nil _ _ _) s1 F ((S.take F).map bC).flatten ak (HF.out.2.1 _ H3.out.2.2.2.1.drew) (I8 _) O7 (oN HN.out) ?_;intro v4 w4 kH au nN dh;have dH:η w4 c 93 #[.slice A S.length cap]∧η w4 g 93 #[.slice none 0 0]:=⟨aE.1.ε au lV,aE.2.ε au lV⟩;refine ο.out _ _ dH ?_;clear ο;simp only[Act.put,jW]
  refine ξ 7 ?_;refine lG 8 (fun KK ο=>?_);rw[π (show Region.wanted _ _=true by rfl)];refine nw _ _ _ rfl g 0 v4 rfl rfl _ _ dH.2 sM kH.one kR (fun w5 aK ay iQ=>?_);refine ο.out _ _ ?_;clear ο;simp only[Act.put];refine dY ?_;refine dz ?_;have h5:vG w w5 c g (.slice A S.length cap) v4 F ((S.take F).map bC).flatten :=
   vG.step (v:=.slice none 0 0) (n:=0) (xs:=[]) ⟨H3.out.1,H3.out.2.1,H3.out.2.2.1,Own.nil _ _ _,H3.out.2.2.2.1,by simp[Value.ownBlock]⟩ Hc.out H3.out.2.2.2.2 ((ζ.refl _ w3).drewN 1) (by simpa using kH) au nN aK ay
  have H5:=δ h5;clear h5 aK ay iQ aE dH kH au nN dh;go_upto_region 6 with fail
  refine dW ?_;refine eo (S:=fun w'=>η w' c 93 #[.slice A S.length cap]∧η w' g 93 #[v4]) (T:=fun i=>i == 9) kR ?_;have aE:η w5.drew c 93 #[.slice A S.length cap]∧η w5.drew g 93 #[v4]:=⟨H5.out.1.drew,H5.out.2.2.1.drew⟩;refine KO 0 ?_;simp only[Act.put,agi,Mq,jW];refine aX 1 (fun w' hSw=>hSw.2.cell 0) ?_;refine ξ 2 ?_;refine aX 3 (fun w' hSw=>hSw.1.cell 0) ?_;refine ξ 4 ?_;refine aX 5 (fun w' hSw=>HW.out) ?_;refine aX 6 (fun w' hSw=>pn.out.1 w') ?_;refine bf 7 (fun KK ο=>?_);refine qn ak _ _ _ _ ak 55 i0 _ 2 32 underlying56 HI.out.1 HI.out.2.1 HI.out.2.2.1 HI.out.2.2.2 rfl v4 F _ ak H5.out.2.2.2.1.drew s2 (S.length - (F+1)) ((S.drop (F+1)).map bC).flatten ak (pn.out.2 _ H5.out.2.2.2.2.1.drew) (I8 _) O7 (oN HN.out) ?_;intro v8 w8 rL cT sE kX;have iK:η w8 c 93 #[.slice A S.length cap]∧η w8 g 93 #[v4]:=⟨aE.1.ε cT (fun e=>oO (H5.out.2.2.2.2.2 _ e) H3.out.2.2.2.2),aE.2.ε cT (fun e=>absurd (H5.out.2.2.2.2.2 _ e) (Mr _))⟩
  refine ο.out _ _ iK ?_;clear ο;simp only[Act.put,jW];refine ξ 8 ?_;refine lG 9 (fun KK ο=>?_);rw[π (show Region.wanted _ _=true by rfl)];refine nw _ _ _ rfl g 0 v8 rfl rfl _ _ iK.2 sM rL.one kR (fun w9 dy eW nP=>?_);refine ο.out _ _ ?_;clear ο;simp only[Act.put];refine dY ?_;refine dz ?_;have h9:=vG.step H5.out Hc.out H3.out.2.2.2.2 ((ζ.refl _ w5).drewN 1) rL cT sE dy eW;have H9:=δ h9;clear h9 dy eW nP aE iK rL cT sE kX;go_wp2_with (first
   |(refine lM rfl 93 _ rfl g rfl _ #[v8] _ H9.out.2.2.1 underlying93 rfl kR ?_)
   |(refine eN 93 (c+1) #[v8] H9.out.2.1 (o_ H9.out.2.2.2.1.one) ?_
     intro w10 nG fE BL))
  have HX:=δ (ajB H9.out.2.2.2.1 Ii.out HN.out.2);refine cJ (jU rfl _ _ (c+1) _ _ _ _ rfl nG underlying93 rfl kR) rfl ⟨v8,rfl,?_,H9.out.2.2.2.2.1.then fE (fun q e=>.inr ?_),Or.inr fun q e=>?_⟩
  ·have:=HX.out.ε fE (fun q ht e=>by
    have e2:q=c+1:=e;subst e2;exact absurd (H9.out.2.1.ty.inj ht) dC)
   simpa using this.any
  ·have e2:q=c+1:=e
   have:=Hc.out;omega
  ·have:=H9.out.2.2.2.2.2 q e
   have:=H3.out.2.2.2.2;have:=Hc.out;omega
theorem UQ {P:Prop} (h:P:=by rw[lf,bu h];rfl):P:=h
theorem ax.keep {w0 w w':World} {t0:TypeId} {k0 k:Nat} {lv:Value} {cs0 cs:List (List Value)} {Z:Nat→Prop} (h0:ax w0 t0 k0 lv cs0) (h:ax w gC k lv cs) (hu:ζ Z w w') (hz:∀q,Z q→w0.heap.size≤q):ax w' gC k lv cs:=by
 obtain⟨A0,afp,e0,-,-,h4⟩:=h0;obtain⟨A,cap,e1,e2,e3,g4⟩:=h;rw[e0] at e1;injection e1 with a1 a2 a3;refine⟨A,cap,by rw[e0,a1,a2,a3],e2,e3,fun hn=>?_⟩;obtain⟨b0,apt,apu,t0',fr0,f1,f2,-,-⟩:=h4 oM;obtain⟨b,off,cur,t',fr,g1,g2,g3,g5⟩:=g4 hn;rw[← a1,f1] at g1;injection g1 with g1;injection g1 with g1 g1';have hb:=(nZ.1 f2).1;refine⟨b,off,cur,t',fr,by rw[← a1,f1,g1,g1'],(hu.block b (nZ.1 g2).1 (fun hZ=>?_)).trans g2,g3,g5⟩;have:=hz b hZ;omega
theorem ajD {l:List dn} (hl:∀o ∈ l,o.path.length≤1000000):∀ {S:List ai},gx S→(∀q ∈ S,q.1.length≤1000000)→(∀q ∈ cH S l,q.1.length≤1000000)∧(cH S l).length≤S.length+l.length:=by
 induction l with
 | nil=>exact fun _ h=>⟨h,bO _⟩
 | cons o r ih =>
   intro S hR h;show (∀q ∈ cH (if o.kind=2 then rB o.path S else jJ o.path o.value S) r,_)∧(cH (if o.kind=2 then rB o.path S else jJ o.path o.value S) r).length≤_;have ih:=@ih (fun x hx=>hl x (Ye _ hx)) (if o.kind=2 then rB o.path S else jJ o.path o.value S) (by split;exact Rl hR;exact C9 hR) (by
    split
    ·exact fun q hq=>h q (AR.1 hq).1
    ·intro q hq
     rcases (Bd hR q).1 hq with rfl | ⟨hq,-⟩
     ·exact hl o sM
     ·exact h q hq)
   refine⟨ih.1,ic ih.2 ?_⟩;rw[eZ];split
   ·have:(rB o.path S).length≤S.length:=List.length_filter_le _ _
    omega
   ·have:=Sc o.path o.value S
    omega
theorem JO {w w2 w3:World} {ty:TypeId} {k c:Nat} {lv cI:Value} {cs0 cs:List (List Value)} (h0:ax w ty 2 lv cs0) (hT:ax w2 gC k cI cs) (hl:cI=lv∨∀q,cI.ownBlock=some q→c+1<q) (hc:w.heap.size=c) (hU:ζ (fun q=>q=c∨q=c+1) w2 w3):ax w3 gC k cI cs:=by
 rcases hl with rfl | hl
 ·exact h0.keep hT hU fun q e=>by omega
 ·exact hT.ym hU fun q hq _ e=>by have:=hl q hq;omega
def vH (w wr:World) (c:Nat) (lv eR:Value) (S:List ai):Prop :=
 υ w wr∧η wr c 93 #[eR]∧η wr (c+1) 93 #[.slice none 0 0]∧ax wr gC 2 eR (S.map bC)∧(eR=lv∨∀q,eR.ownBlock=some q→c+1<q)
theorem vH.step {w wr wa w2 w3:World} {ty:TypeId} {c:Nat} {lv eR cI:Value} {S S2:List ai} {cs0:List (List Value)} (h0:ax w ty 2 lv cs0) (h:vH w wr c lv eR S) (hc:w.heap.size=c) (ha:υ wr wa) (mC:ax w2 gC 2 cI (S2.map bC)) (σ:υ wa w2) (hl:cI=eR∨∀q,cI.ownBlock=some q→wa.heap.size≤q) (aC:η w3 c 93 #[cI]) (χ:ζ (· = c) w2 w3):vH w w3 c lv cI S2:=by
 obtain⟨h1,h2,h3,h4,h5⟩:=h;have h6:=(h3.ε ha id).lt;have hl2:cI=lv∨∀q,cI.ownBlock=some q→c+1<q:=by
  rcases hl with rfl | hl
  ·exact h5
  ·exact .inr fun q hq=>by have:=hl q hq;omega
 refine⟨((h1.then ha φ).then σ φ).then χ (fun q e=>.inr (oE e)),aC,((h3.ε ha id).ε σ id).ε χ (fun e=>oE e),JO h0 mC hl2 hc (χ.mono fun q (e:q=c)=>.inl (.inl e)),hl2⟩
theorem afq {P:Prop} (h:P:=by
 have aP:η w1 c 93 #[lv]:=O6
 have pF:η w1 (c+1) 93 #[.slice none 0 0]:=by
  have:=η.new (w.alloc (.cells #[lv] 93)) 93 #[.slice none 0 0];rw[dx,Hc.out] at this;rw[← hw1];exact this
 have az:υ w w1:=Gx
 exact⟨az,aP,pF,(HT.out.still az).any,.inl rfl⟩):P:=h
theorem afr {P:Prop} (h:P:=by
 have H3:=δ rJ;clear rJ aC χ mC σ hl2;go_wp2_with fail
 go_roundw
 case rel=>exact⟨k+1,cI,oM,sM,H3.out⟩
 case measure=>simp[intOf]<;>omega):P:=h
theorem alg {w:World} {ty L5:TypeId} {lv ov:Value} {S:List ai} {l:List dn} (hT:ax w ty 2 lv (S.map bC)) (hs:∀q ∈ S,q.1.length≤1000000) (hS:S.length≤1000) (hR:gx S) (hO:ax w L5 3 ov (l.map bY)) (jh:qo l) (hlo:l.length≤1000) :
 ς 201 #[.agg #[lv],ov] w fun e w'=>∃fN,e=ώ (.agg #[fN])∧ax w' gC 2 fN ((cH S l).map bC)∧υ w w'∧(fN=lv∨∀q,fN.ownBlock=some q→w.heap.size≤q):=by
 have hone:=hT.one;obtain⟨A,cap,b,off,rfl,hcap,hl,hA,hat⟩:=hO.open_;simp only[bz] at hcap hl hA ⊢;have hrow:∀W,υ w W→∀k (h:k<l.length),W.rangeAt b (off+k*3) (bY l[k]):=fun W hW k h=>hat W _ hW (fun _ _ e=>e) k (bY l[k]) UQ
 have gS:∀k,k≤l.length→(∀q ∈ cH S (l.take k),q.1.length≤1000000)∧(cH S (l.take k)).length≤100000∧gx (cH S (l.take k)):=fun k hk=>by
  have:=ajD (l:=l.take k) (fun o ho=>(jh o (Iw ho)).1) hR hs;rw[iW] at this;exact⟨this.1,oM,ZM hR _⟩
 have HT:=δ hT;have HF:=aF hrow gS jh hlo;obtain⟨c,hc⟩:=μ w.heap.size;have Hc:=δ hc;have HA:=δ hA;clear hs hS hR hO jh hlo hc hrow gS hat;go_enter func201,ntmps201
 go_upto_region 1 with fail
 rw[Hc.out];generalize hw1:World.alloc (World.alloc _ _) _=w1;have h1:vH w w1 c lv lv (cH S (l.take 0)):=by
  exact afq
 have H1:=δ h1;clear h1 hw1 hT;go_wp2_with fail
 go_loopw [5] (fun i wr=>∃(k:Nat) (eR:Value),k≤l.length∧i=ι (k:Int)∧vH w wr c lv eR (cH S (l.take k))) (fun i _=>l.length - (intOf i).toNat)
 case atStart=>exact⟨0,lv,oM,rfl,H1.out⟩
 case round =>
  obtain⟨k,eR,hk,rfl,hD⟩:=hrel;have HD:=τ hD hk;have hwk:IntKind.i64.wrap ((k:Int)+1)=(k:Int)+1:=cZ _ oM;clear hD;by_cases hlt:k<l.length
  ·obtain rfl:=hA oM
   have j1:(k:Int)<(l.length:Int):=oM;obtain⟨o,ho⟩:=μ (l[k]);have jh:=HF.out.2.2.1 _ (eE hlt);rw[ho] at jh;have hstep:=aaH (S:=S) hlt;rw[ho] at hstep;obtain⟨P,hP⟩:=μ (str o.path);obtain⟨V,hV⟩:∃P,str o.value=P:=⟨_,rfl⟩;obtain⟨K,hK⟩:∃K:Int,(o.kind.toNat:Int)=K:=⟨_,rfl⟩;have hrw:∀W,υ w W→W.rangeAt b (off+k*3) [ϋ K,.string P,.string V]:=fun W hW=>by
    have:=HF.out.1 W hW k hlt;rw[ho] at this;unfold bY at this;rwa [hP,hV,hK] at this
   have lX:P.data.toList=o.path:=DC
   have kV:V.data.toList=o.value:=by rw[← hV,cA]
   have jc:P.size≤1000000:=by rw[← hP,bR];exact jh.1
   obtain⟨T,hTk⟩:=μ (cH S (l.take k));have uO:=HF.out.2.1 k hk;have ck:wr.cell? ⟨b,off+k*3,none⟩=some (ϋ K):=hrw wr HD.out.1.1 0 _ rfl;have hD:=HD.out.1;rw[hTk] at hstep hD uO;have HX:=p7 hrw lX kV jc hstep uO hlt;have nX:=δ hD;clear jh hstep hrw lX kV jc hTk uO hP hV HD hD;by_cases uE:o.kind=2
   ·have Ij:K=2:=by rw[← hK,uE];rfl
    subst Ij;have hst:=HX.out.2.2.2.2.1;rw[π uE] at hst;have gl:=δ hst;clear hst uE hK ho;go_upto_region 5 with fail
    refine dW ?_;refine eo (S:=fun w'=>η w' c 93 #[eR]∧w'.cell? ⟨b,off+k*3+1,none⟩=some (.string P)) (T:=fun i=>i == 7) kR ?_;have aE:η wr.drew c 93 #[eR]∧wr.drew.cell? ⟨b,off+k*3+1,none⟩=some (.string P):=⟨nX.out.2.1.drew,HX.out.1 _ nX.out.1.drew 1 _ rfl⟩;refine iL 0 (.agg #[eR]) (lN rfl ak _ _ rfl c ak _ _ _ (fun w' hSw=>hSw.1) underlying93 rfl kR) ?_;refine ξ 1 ?_;refine ξ 2 ?_;refine ξ 3 ?_;refine ξ 4 ?_;refine aX 5 (fun w' hSw=>hSw.2) ?_;refine bf 6 (fun KK ο=>?_);go_simp
    refine(ajC (nX.out.2.2.2.1.still (ζ.refl _ wr).drew) HX.out.2.2.2.2.2.1.1 HX.out.2.2.2.2.2.1.2.1 HX.out.2.2.2.2.2.1.2.2 P HX.out.2.2.2.1).mono ?_;rintro e w2 ⟨cI,rfl,mC,σ,hl2⟩;have bn:η w2 c 93 #[eR]∧w2.cell? ⟨b,off+k*3+1,none⟩=some (.string P):=⟨aE.1.ε σ id,HX.out.1 _ (nX.out.1.drew.then σ φ) 1 _ rfl⟩;refine ο.out _ _ bn ?_;clear ο;refine lG 7 (fun KK ο=>?_);rw[π (show Region.wanted _ _=true by rfl)];refine IG _ _ _ rfl c #[cI] rfl rfl _ _ bn.1 rfl (o_ mC.one) kR (fun w3 aC χ fY=>?_);refine ο.out _ _ ?_;clear ο;simp only[Act.put];refine dY ?_;refine dz ?_;have rJ:=vH.step HT.out nX.out Hc.out ((ζ.refl _ wr).drewN 1) mC σ hl2 aC χ;rw[HX.out.2.1,← gl.out] at rJ;exact afr
   ·have Ij:(K == 2)=false:=by
     rw[iX,← hK];intro e;exact uE (xp.1 (show o.kind.toNat=2 by omega))
    have hst:=HX.out.2.2.2.2.1;rw[ν uE] at hst;have gl:=δ hst;clear hst uE hK ho;go_upto_region 6 with fail
    refine dW ?_;refine eo (S:=fun w'=>η w' c 93 #[eR]∧w'.cell? ⟨b,off+k*3+1,none⟩=some (.string P)∧w'.cell? ⟨b,off+k*3+2,none⟩=some (.string V)) (T:=fun i=>i == 12) kR ?_;have aE:η wr.drew c 93 #[eR]∧wr.drew.cell? ⟨b,off+k*3+1,none⟩=some (.string P)∧wr.drew.cell? ⟨b,off+k*3+2,none⟩=some (.string V):=⟨nX.out.2.1.drew,HX.out.1 _ nX.out.1.drew 1 _ rfl,HX.out.1 _ nX.out.1.drew 2 _ rfl⟩;refine iL 0 (.agg #[eR]) (lN rfl ak _ _ rfl c ak _ _ _ (fun w' hSw=>hSw.1) underlying93 rfl kR) ?_;refine ξ 1 ?_;refine ξ 2 ?_;refine ξ 3 ?_;refine ξ 4 ?_;refine aX 5 (fun w' hSw=>hSw.2.1) ?_;refine ξ 6 ?_;refine ξ 7 ?_;refine ξ 8 ?_;refine ξ 9 ?_;refine aX 10 (fun w' hSw=>hSw.2.2) ?_;refine bf 11 (fun KK ο=>?_);go_simp
    refine(ab0 (nX.out.2.2.2.1.still (ζ.refl _ wr).drew) HX.out.2.2.2.2.2.1.1 HX.out.2.2.2.2.2.1.2.1 P V HX.out.2.2.2.1).mono ?_;rintro e w2 ⟨cI,rfl,afs,σ,J0⟩;have mC:=afs.any;have hl2:cI=eR∨∀q,cI.ownBlock=some q→wr.drew.heap.size≤q:=.inr J0;have bn:η w2 c 93 #[eR]∧w2.cell? ⟨b,off+k*3+1,none⟩=some (.string P)∧w2.cell? ⟨b,off+k*3+2,none⟩=some (.string V):=⟨aE.1.ε σ id,HX.out.1 _ (nX.out.1.drew.then σ φ) 1 _ rfl,HX.out.1 _ (nX.out.1.drew.then σ φ) 2 _ rfl⟩;refine ο.out _ _ bn ?_;clear ο afs J0;refine lG 12 (fun KK ο=>?_);rw[π (show Region.wanted _ _=true by rfl)];refine IG _ _ _ rfl c #[cI] rfl rfl _ _ bn.1 rfl (o_ mC.one) kR (fun w3 aC χ fY=>?_);refine ο.out _ _ ?_;clear ο;simp only[Act.put];refine dY ?_;refine dz ?_;have rJ:=vH.step HT.out nX.out Hc.out ((ζ.refl _ wr).drewN 1) mC σ hl2 aC χ;rw[HX.out.2.1,HX.out.2.2.1,← gl.out] at rJ;exact afr
  ·obtain rfl:k=l.length:=oM
   have j1:¬(l.length:Int)<(l.length:Int):=oM;have hD:=HD.out.1;rw[sW] at hD;have nX:=τ hD (o_ hD.2.2.2.1.one);clear hD HD;go_wp2_with (first
    |(refine lM rfl 93 _ rfl c rfl _ #[eR] _ nX.out.1.2.1 underlying93 rfl kR ?_)
    |(refine eN 93 (c+1) #[eR] nX.out.1.2.2.1 nX.out.2 ?_
      intro w3 aC χ fY))
   refine cJ (jU rfl _ _ (c+1) _ _ _ _ rfl aC underlying93 rfl kR) rfl ⟨eR,rfl,JO HT.out nX.out.1.2.2.2.1 nX.out.1.2.2.2.2 Hc.out (χ.mono fun q (e:q=c+1)=>.inl (.inr e)),nX.out.1.1.then χ (fun q e=>.inr (oF e Hc.out)),nX.out.1.2.2.2.2.imp id fun h q e=>oO (h q e) Hc.out⟩
theorem amm (K:Int) (P V:ByteArray) (w:World) :
 ς 200 #[.agg #[ϋ K,.string P,.string V]] w fun e w'=>e=ώ (ι (if 32<V.size then 3 else if K=2∧V.size≠0 then 1 else 0))∧υ w w':=by
 obtain⟨E,hE⟩:∃E:Int,(if 32<V.size then 3 else if K=2∧V.size≠0 then 1 else 0)=E:=⟨_,rfl⟩;rw[hE];have HE:=δ hE;clear hE;go_enter func200,ntmps200
 go_upto_region 1 with fail
 obtain⟨q,hq⟩:=μ w.heap.size;rw[hq];generalize fk:World.alloc _ _=w5;have aK:η w5 q 32 #[ϋ K,.string P,.string V]:=Gc
 have ay:υ w w5:=DA
 obtain⟨c0,c1,c2⟩:=aK.gd;have dB:=δ ay;clear ay aK fk hq;by_cases h1:(32:Int)<(V.size:Int)
 ·obtain rfl:(3:Int)=E:=by rw[← HE.out,π oM]
  go_wp2_with fail
  go_ret
  exact⟨rfl,dB.out⟩
 ·by_cases h2:K=2
  ·subst h2
   by_cases h3:V.size=0
   ·obtain rfl:(0:Int)=E:=by rw[← HE.out,ν oM,ν (fun e=>e.2 h3)]
    have g3:V=ByteArray.empty:=by
     apply ByteArray.ext
     apply afX
     exact h3
    subst g3;clear h3 h1;go_wp2_with fail
    go_ret
    exact⟨rfl,dB.out⟩
   ·obtain rfl:(1:Int)=E:=by rw[← HE.out,ν oM,π ⟨rfl,h3⟩]
    have g4:(!V.toList.isEmpty)=true:=by
     rw[CV];have:V.data.toList≠[]:=fun e=>h3 (by have h:=aI List.length e;simpa using h)
     simpa using this
    clear h3;go_wp2_with fail
    go_ret
    exact⟨rfl,dB.out⟩
  ·obtain rfl:(0:Int)=E:=by rw[← HE.out,ν oM,ν (fun e=>h2 e.1)]
   have h4:(K == 2)=false:=by rw[iX];exact h2
   go_wp2_with fail
   go_ret
   exact⟨rfl,dB.out⟩
theorem aaa {w:World} {ty:TypeId} {ov:Value} {i ep:Int} {l:List dn} (hO:ax w ty 3 ov (l.map bY)) (hs:qo l) :
 ς 152 #[.agg (mm i ep ov)] w fun e w'=>e=ώ (ι (d_ i ep l))∧υ w w':=by
 obtain⟨A,cap,b,off,rfl,hcap,hl,hA,hat⟩:=hO.open_;simp only[bz] at hcap hl hA ⊢;have hrow:∀W,υ w W→vB W b off l:=fun W hW k h=>hat W _ hW (fun _ _ e=>e) k (bY l[k]) UQ
 obtain⟨E,hE⟩:=μ (d_ i ep l);rw[hE];unfold d_ at hE;have HE:=δ hE;have HF:=τ hrow hs;obtain⟨q,hq⟩:=μ w.heap.size;have Hq:=δ hq;clear hE hrow hs hat hq hO;unfold mm;go_enter func152,ntmps152
 go_upto_region 1 with fail
 rw[Hq.out];generalize fk:World.alloc _ _=w5;have aK:η w5 q 35 #[ι i,ι ep,.slice A l.length cap]:=by rw[← fk,← Hq.out];exact η.new w _ _
 have ay:υ w w5:=DA
 obtain⟨c0,c1,c2⟩:=aK.gd;have dB:=τ ay aK;clear ay aK fk;by_cases h1:i<1
 ·obtain rfl:(1:Int)=E:=by rw[← HE.out,π (.inl h1)]
  go_wp2_with fail
  go_ret
  exact⟨rfl,dB.out.1⟩
 by_cases h2:(4611686018427387904:Int)<i
 ·obtain rfl:(1:Int)=E:=by rw[← HE.out,π (.inr (.inl h2))]
  go_wp2_with fail
  go_ret
  exact⟨rfl,dB.out.1⟩
 by_cases h3:ep<1
 ·obtain rfl:(1:Int)=E:=by rw[← HE.out,π (.inr (.inr h3))]
  go_wp2_with fail
  go_ret
  exact⟨rfl,dB.out.1⟩
 by_cases h4:(4:Int)<(l.length:Int)
 ·obtain rfl:(3:Int)=E:=by rw[← HE.out,ν oM,π oM]
  go_wp2_with fail
  go_ret
  exact⟨rfl,dB.out.1⟩
 have CN:Hid (pP l=E):=δ (by rw[← HE.out,ν oM,ν oM]);clear HE;go_upto_region 5 with fail
 clear h1 h2 h3 c0 c1 c2;go_wp2_with fail
 go_loopw [3,4,5,6,7] (fun i _ _ _ _ wr=>∃k:Nat,k≤l.length∧i=ι (k:Int)∧υ w5 wr∧pP (l.drop k)=E) (fun i _ _ _ _ _=>l.length - (intOf i).toNat)
 case atStart=>exact⟨0,oM,rfl,ζ.refl _ _,CN.out⟩
 case round =>
  obtain⟨k,hk,rfl,hU,hE⟩:=hrel;have HU:=τ hU hk;have hwk:IntKind.i64.wrap ((k:Int)+1)=(k:Int)+1:=cZ _ oM;have c2:wr.cell? ⟨q,2,none⟩=some (.slice A l.length cap):=(dB.out.2.ε hU id).cell 2;clear hU;by_cases hlt:k<l.length
  ·obtain rfl:=hA oM
   have j1:(k:Int)<(l.length:Int):=oM;obtain⟨o,ho⟩:=μ (l[k]);have jh:=HF.out.2 _ (eE hlt);rw[YE hlt,ho] at hE;rw[ho] at jh;obtain⟨P,hP⟩:=μ (str o.path);obtain⟨V,hV⟩:∃P,str o.value=P:=⟨_,rfl⟩;obtain⟨K,hK⟩:∃K:Int,(o.kind.toNat:Int)=K:=⟨_,rfl⟩;have hrw:∀W,υ w5 W→W.rangeAt b (off+k*3) [ϋ K,.string P,.string V]:=fun W hW=>by
    have:=HF.out.1 W (dB.out.1.then hW φ) k hlt;rw[ho] at this;unfold bY at this;rwa [hP,hV,hK] at this
   have lX:P.data.toList=o.path:=DC
   have jc:P.size≤1000000:=by rw[← hP,bR];exact jh.1
   have kV:V.size=o.value.length:=JU
   have hcut:=fun W=>acR P jc W
   unfold Gy at hcut;obtain⟨a,ha⟩:=μ (str (nE P.data.toList).1);obtain⟨b',hb'⟩:∃a,str (nE P.data.toList).2.1=a:=⟨_,rfl⟩;obtain⟨B,hB⟩:∃a,(nE P.data.toList).2.2=a:=⟨_,rfl⟩;simp only[ha,hb',hB] at hcut;rw[lX] at hB;have aD:jF o.path=B:=hB;have e1:jr o=if K≠1∧K≠2 then 10 else if B=false then 20 else if 32<V.size then 3 else if K=2∧V.size≠0 then 1 else 0:=by
    have k1:K=1↔o.kind=1:=by rw[← hK];exact⟨fun e=>xp.1 (show o.kind.toNat=1 by omega),fun e=>by rw[e];rfl⟩
    have k2:K=2↔o.kind=2:=by rw[← hK];exact⟨fun e=>xp.1 (show o.kind.toNat=2 by omega),fun e=>by rw[e];rfl⟩
    unfold jr;simp only[AY,k1,k2,aD,kV,Mh]
   obtain⟨E1,l9⟩:=μ (jr o);rw[l9] at e1 hE;have WZ:wr.cell? ⟨b,off+k*3,none⟩=some (ϋ K):=hrw wr HU.out.1 0 _ rfl;have Qp:wr.cell? ⟨b,off+k*3+1,none⟩=some (.string P):=hrw wr HU.out.1 1 _ rfl;have HX:=aq hrw e1 hE;have L6:=δ hcut;have hv:=fun W=>amm K P V W
   obtain⟨F,hF⟩:∃F:Int,(if 32<V.size then 3 else if K=2∧V.size≠0 then 1 else 0)=F:=⟨_,rfl⟩;simp only[hF] at hv;have HFF:=δ hF;have HV:=δ hv;clear hF hv jh hrw lX jc kV hcut ha hb' hB aD e1 l9 hE ho hP hV hK;by_cases Gz:K≠1∧K≠2
   ·have k1:(K != 1)=true:=by rw[kq];exact Gz.1
    have k2:(K != 2)=true:=by rw[kq];exact Gz.2
    obtain rfl:(10:Int)=E:=by
     have h1:=HX.out.2.1;rw[π Gz] at h1;have h2:=HX.out.2.2;rw[h1,π dC] at h2;exact h2
    clear Gz;go_wp2_with fail
    go_ret
    exact⟨rfl,dB.out.1.then HU.out.1 φ⟩
   have P3:E1=if B=false then 20 else F:=by rw[HX.out.2.1,ν Gz,HFF.out]
   have KI:=δ P3;clear P3;have Oh:K=1∨K=2:=oM;clear Gz;rcases Oh with rfl | rfl
   all_goals
    cases B
    ·obtain rfl:(20:Int)=E:=by
      have h1:=KI.out;rw[π rfl] at h1;have h2:=HX.out.2.2;rw[h1,π dC] at h2;exact h2
     go_wp2_with (first
      |(go_at_call 199
        refine(L6.out _).mono ?_;rintro e w6 ⟨rfl,aB⟩;have H6:=δ (HU.out.1.then aB φ);clear aB))
     go_ret
     exact⟨rfl,dB.out.1.then H6.out φ⟩
    ·obtain rfl:E1=F:=by rw[KI.out,ν sM]
     clear KI;go_upto_region 13 with (first
      |(go_at_call 199
        refine(L6.out _).mono ?_;rintro e w6 ⟨rfl,aB⟩;have rE:=HU.out.1.then aB φ;have c26:w6.cell? ⟨q,2,none⟩=some (.slice (some ⟨b,off,none⟩) l.length cap):=(dB.out.2.ε rE id).cell 2;have H6:=δ rE;clear aB rE c2 WZ Qp))
     go_upto_region 14 with (first
      |(refine ve rfl _ _ rfl b (off+k*3) rfl _ _ (HX.out.1 _ H6.out) underlying32 rfl kR ?_)
      |(go_at_call 200
        refine(HV.out _).mono ?_;rintro e w7 ⟨rfl,bI⟩;have H7:=δ (H6.out.then bI φ);clear bI))
     by_cases h0:E1=0
     ·subst h0
      have Ac:Hid (pP (l.drop (k+1))=E):=δ (by have:=HX.out.2.2;simpa using this)
      go_wp2_with fail
      go_roundw
      case rel=>exact⟨k+1,oM,sM,H7.out,Ac.out⟩
      case measure=>simp[intOf]<;>omega
     ·have h0':(E1 != 0)=true:=by rw[kq];exact h0
      obtain rfl:E1=E:=by have:=HX.out.2.2;rwa [π h0] at this
      go_wp2_with fail
      go_ret
      exact⟨rfl,dB.out.1.then H7.out φ⟩
  ·obtain rfl:E=0:=by rw[← hE,qj oM];rfl
   obtain rfl:k=l.length:=oM;clear hE;go_wp2_with fail
   go_ret
   exact⟨rfl,dB.out.1.then HU.out.1 φ⟩
theorem vH.still {w wr wa:World} {c:Nat} {lv eR:Value} {S:List ai} (h:vH w wr c lv eR S) (ha:υ wr wa):vH w wa c lv eR S :=
 ⟨h.1.then ha φ,h.2.1.ε ha id,h.2.2.1.ε ha id,h.2.2.2.1.still ha,h.2.2.2.2⟩
theorem agX {i e:Int} {l:List dn} (h:d_ i e l=0):l.length≤4:=(ue h).2.2.2.1
theorem ang {w:World} {ty L5:TypeId} {lv ov:Value} {S:List ai} {l:List dn} (hT:ax w ty 2 lv (S.map bC)) (hs:∀q ∈ S,q.1.length≤1000000) (hS:S.length≤1000) (hR:gx S) (hO:ax w L5 3 ov (l.map bY)) (jh:qo l) :
 ς 153 #[.agg #[lv],ov] w fun e w'=>∃fN,e=ώ (.tuple #[.agg #[fN],ι (fD S l)])∧ax w' gC 2 fN ((if fD S l=0 then cH S l else S).map bC)∧υ w w'∧(fN=lv∨∀q,fN.ownBlock=some q→w.heap.size≤q):=by
 have hone:=hT.one;have eX:=fun W (hW:υ w W)=>aaa (i:=1) (ep:=1) (hO.still hW) jh
 have kM:=fun (h:d_ 1 1 l=0) W (hTW:ax W gC 2 lv (S.map bC)) (hW:υ w W)=>alg hTW hs hS hR (hO.still hW) jh (oN (agX h))
 obtain⟨A,cap,b,off,rfl,-,-,-,-⟩:=hO.open_;obtain⟨n,hn⟩:=μ (l.map bY).length;rw[hn] at eX kM ⊢;obtain⟨E,hE⟩:=μ (d_ 1 1 l);have hD:fD S l=if E≠0 then E else if 48<(cH S l).length then 6 else 0:=by unfold fD;rw[hE]
 rw[hE] at eX kM;obtain⟨D,Ik⟩:=μ (fD S l);rw[Ik] at hD ⊢;obtain⟨T,yy⟩:=μ (cH S l);rw[yy] at kM hD ⊢;have HT:=δ hT;have HF:=aq eX kM hD;have gR:=δ (o_ hone);obtain⟨c,hc⟩:=μ w.heap.size;have Hc:=δ hc;clear hs hS hR hO jh hc eX kM hD hE Ik yy hn hone;go_enter func153,ntmps153
 go_upto_region 1 with fail
 rw[Hc.out];generalize hw1:World.alloc (World.alloc _ _) _=w1;have h1:vH w w1 c lv lv S:=by
  exact afq
 have H1:=δ h1;clear h1 hw1 hT;go_upto_region 2 with (first
  |(refine qQ rfl _ _ rfl [(0,ι 1),(1,ι 1),(2,.slice A n cap)] _ zR (RP _ _ _) ?_)
  |(go_at_call 152
    refine(HF.out.1 _ H1.out.1).mono ?_;rintro e w2 ⟨rfl,σ⟩;have H2:=δ (H1.out.still σ);clear σ))
 by_cases hE:E=0
 ·subst hE
  go_upto_region 5 with (first
   |(refine lM rfl 93 _ rfl c rfl _ #[lv] _ H2.out.2.1 underlying93 rfl kR ?_)
   |(go_at_call 201
     refine(HF.out.2.1 rfl _ H2.out.2.2.2.1 H2.out.1).mono ?_;rintro e w3 ⟨cV,rfl,m_,χ,fV⟩;have W3:=H2.out.still χ;have oz:=o_ m_.one)
   |(refine eN 93 w3.heap.size #[cV] (η.new w3 _ _) oz ?_
     intro w5 aK ay iQ))
  obtain⟨g,hg⟩:=μ w3.heap.size;rw[hg] at aK ay ⊢;have fC:c+1<g:=by have:=W3.2.2.1.lt;omega
  have gj:υ w3 w5:=((ζ.refl _ w3).alloc _).then ay (fun q e=>.inr (oE e));have aft:cV=lv∨∀q,cV.ownBlock=some q→c+1<q:=fV.imp id fun h q e=>by have:=h q e;have:=H2.out.2.2.1.lt;omega
  have H5:=iw (W3.still gj) aK (m_.still gj) aft fC oz;clear W3 gj aft aK ay iQ hg fC χ fV oz;obtain⟨A3,BC,b3,apv,rfl,-,-,-,-⟩:=m_.open_;rw[bz] at H5 ⊢;have c5:w5.cell? ⟨g,0,none⟩=some (.slice A3 T.length BC):=H5.out.2.1.cell 0;have hD:=HF.out.2.2;simp only[AY,QI,jj] at hD;clear m_;by_cases h48:(48:Int)<(T.length:Int)
  ·rw[π oM] at hD
   subst hD;go_wp2_with (first
    |(refine lM rfl 93 _ rfl c rfl _ #[lv] _ H5.out.1.2.1 underlying93 rfl kR ?_)
    |(refine eN 93 (c+1) #[lv] H5.out.1.2.2.1 gR.out ?_
      intro w6 cY aB iT))
   refine cJ (jk rfl _ _ (c+1) _ _ _ _ rfl cY underlying93 rfl kR _ rfl) rfl ⟨lv,rfl,?_,H5.out.1.1.then aB (fun q e=>.inr (oF e Hc.out)),.inl rfl⟩;have:=JO HT.out H5.out.1.2.2.2.1 (.inl rfl) Hc.out (aB.mono fun q (e:q=c+1)=>.inl (.inr e));simpa using this
  ·rw[ν oM] at hD
   subst hD;go_wp2_with (first
    |(refine lM rfl 93 _ rfl g rfl _ #[.slice A3 T.length BC] _ H5.out.2.1 underlying93 rfl kR ?_)
    |(refine eN 93 (c+1) #[.slice A3 T.length BC] H5.out.1.2.2.1 H5.out.2.2.2.2.2 ?_
      intro w6 cY aB iT))
   refine cJ (jk rfl _ _ (c+1) _ _ _ _ rfl cY underlying93 rfl kR _ rfl) rfl ⟨.slice A3 T.length BC,rfl,?_,H5.out.1.1.then aB (fun q e=>.inr (oF e Hc.out)),H5.out.2.2.2.1.imp id fun h q e=>oO (h q e) Hc.out⟩;have:=JO HT.out H5.out.2.2.1 H5.out.2.2.2.1 Hc.out (aB.mono fun q (e:q=c+1)=>.inl (.inr e));simpa using this
 ·have hE':(E != 0)=true:=by rw[kq];exact hE
  obtain rfl:E=D:=by have:=HF.out.2.2;rw[π hE] at this;exact this.symm
  go_wp2_with (first
   |(refine lM rfl 93 _ rfl c rfl _ #[lv] _ H2.out.2.1 underlying93 rfl kR ?_)
   |(refine eN 93 (c+1) #[lv] H2.out.2.2.1 gR.out ?_
     intro w3 aC χ fY))
  refine cJ (jk rfl _ _ (c+1) _ _ _ _ rfl aC underlying93 rfl kR _ rfl) rfl ⟨lv,rfl,?_,H2.out.1.then χ (fun q e=>.inr (oF e Hc.out)),.inl rfl⟩;have:=JO HT.out H2.out.2.2.2.1 (.inl rfl) Hc.out (χ.mono fun q (e:q=c+1)=>.inl (.inr e));simpa [hE] using this
def j_ (a b c:Int) (mv:Value) (S:ByteArray) (lv:Value) (at_ ep:Int) (rv:Value) (pr ky:Int):Array Value:=#[ι a,ι b,ι c,mv,.string S,lv,ι at_,ι ep,rv,ι pr,ι ky]
theorem vq {a b c:Int} {mv:Value} {S:ByteArray} {lv:Value} {at_ ep:Int} {rv:Value} {pr ky:Int} (h1:mv.oneCell'=true) (h2:lv.oneCell'=true) (h3:rv.oneCell'=true):(j_ a b c mv S lv at_ ep rv pr ky).all (·.oneCell')=true:=by
 simp only[j_,Mv,sV,CZ,h1,h2,h3,AX];rfl
theorem acU (w:World) (C Z:Array Value) {c:Nat} (hc:w.heap.size=c):η ((w.alloc (.cells C 95)).alloc (.cells Z 95)) c 95 C∧η ((w.alloc (.cells C 95)).alloc (.cells Z 95)) (c+1) 95 Z∧υ w ((w.alloc (.cells C 95)).alloc (.cells Z 95)):=by
 refine⟨by rw[← hc];exact(η.new w _ _).alloc _,?_,((ζ.refl _ w).alloc _).alloc _⟩;have:=η.new (w.alloc (.cells C 95)) 95 Z;rw[dx,hc] at this;exact this
theorem Sk {w:World} {a b d:Int} {mv:Value} {S:ByteArray} {lv:Value} {at_ ep:Int} {rv:Value} {pr ky:Int} (h1:mv.oneCell'=true) (h2:lv.oneCell'=true) :
 ς 52 #[.agg (j_ a b d mv S lv at_ ep rv pr ky)] w fun e w'=>e=ώ (.agg (j_ a b d mv S lv at_ ep (.slice none 0 0) ep ky))∧υ w w':=by
 have gR:=δ (vq (a:=a) (b:=b) (c:=d) (S:=S) (at_:=at_) (ep:=ep) (rv:=.slice none 0 0) (pr:=ep) (ky:=ky) h1 h2 rfl);obtain⟨c,hc⟩:=μ w.heap.size;have Hc:=δ hc;clear hc h1 h2;unfold j_ at gR ⊢;go_enter func52,ntmps52
 go_upto_region 1 with fail
 rw[Hc.out];generalize hw1:World.alloc (World.alloc _ _) _=w1;have nO:=acU w #[ι a,ι b,ι d,mv,.string S,lv,ι at_,ι ep,rv,ι pr,ι ky] #[ι 0,ι 0,ι 0,.slice none 0 0,.string ⟨#[]⟩,.slice none 0 0,ι 0,ι 0,.slice none 0 0,ι 0,ι 0] Hc.out;rw[hw1] at nO;obtain⟨aP,qh,az⟩:=nO;have H1:=τ qh az;clear hw1 qh az;go_upto_region 2 with (first
  |(refine gJ rfl 38 _ _ rfl c 8 (.slice none 0 0) rfl rfl _ _ aP sM rfl kR ?_
    intro w2 aD σ aY))
 rw[show (#[ι a,ι b,ι d,mv,.string S,lv,ι at_,ι ep,rv,ι pr,ι ky]:Array Value).setIfInBounds 8 (.slice none 0 0)=#[ι a,ι b,ι d,mv,.string S,lv,ι at_,ι ep,.slice none 0 0,ι pr,ι ky] from rfl] at aD;have BW:υ w w2:=H1.out.2.then σ (fun q e=>.inr (oF e Hc.out));have H2:=τ (H1.out.1.ε σ (fun e=>oE e)) BW;have c7:w2.cell? ⟨c,7,none⟩=some (ι ep):=aD.cell 7;clear σ aY BW aP;go_upto_region 3 with (first
  |(refine gJ rfl 3 _ _ rfl c 9 (ι ep) rfl rfl _ _ aD sM rfl kR ?_
    intro w3 aC χ fY))
 rw[show (#[ι a,ι b,ι d,mv,.string S,lv,ι at_,ι ep,.slice none 0 0,ι pr,ι ky]:Array Value).setIfInBounds 9 (ι ep)=#[ι a,ι b,ι d,mv,.string S,lv,ι at_,ι ep,.slice none 0 0,ι ep,ι ky] from rfl] at aC;have zV:υ w w3:=H2.out.2.then χ (fun q e=>.inr (oF e Hc.out));have H3:=aq (H2.out.1.ε χ (fun e=>oE e)) zV aC;clear χ fY zV aD c7 aC;go_wp2_with (first
  |(refine gp 95 c H3.out.2.2 underlying95 ?_)
  |(refine eN 95 (c+1) #[ι a,ι b,ι d,mv,.string S,lv,ι at_,ι ep,.slice none 0 0,ι ep,ι ky] H3.out.1 gR.out ?_
    intro w4 aJ au dh))
 exact cJ (jU rfl _ _ (c+1) _ _ _ _ rfl aJ underlying95 rfl kR) rfl ⟨rfl,H3.out.2.1.then au (fun q e=>.inr (oF e Hc.out))⟩
theorem alh {w:World} {a b d:Int} {mv:Value} {S:ByteArray} {lv:Value} {at_ ep:Int} {rv:Value} {pr ky:Int} (h1:mv.oneCell'=true) (h2:lv.oneCell'=true) (h3:rv.oneCell'=true) (Ll:0≤ky) :
 ς 96 #[.agg (j_ a b d mv S lv at_ ep rv pr ky)] w fun e w'=>e=ώ (.tuple #[.agg (j_ a b d mv S lv at_ ep rv pr (if ky<1048576 then ky+1 else ky)),ι (if ky<1048576 then 0 else 6)])∧υ w w':=by
 have gR:=τ (vq (a:=a) (b:=b) (c:=d) (S:=S) (at_:=at_) (ep:=ep) (pr:=pr) (ky:=ky) h1 h2 h3) (vq (a:=a) (b:=b) (c:=d) (S:=S) (at_:=at_) (ep:=ep) (pr:=pr) (ky:=ky+1) h1 h2 h3);obtain⟨c,hc⟩:=μ w.heap.size;have Hc:=δ hc;obtain⟨K2,Ij⟩:=μ (if ky<1048576 then ky+1 else ky);obtain⟨E,hE⟩:∃E:Int,(if ky<1048576 then 0 else 6)=E:=⟨_,rfl⟩;rw[Ij,hE];have HE:=τ Ij hE;clear hc h1 h2 h3 Ij hE;unfold j_ at gR ⊢;go_enter func96,ntmps96
 go_upto_region 1 with fail
 rw[Hc.out];generalize hw1:World.alloc (World.alloc _ _) _=w1;have nO:=acU w #[ι a,ι b,ι d,mv,.string S,lv,ι at_,ι ep,rv,ι pr,ι ky] #[ι 0,ι 0,ι 0,.slice none 0 0,.string ⟨#[]⟩,.slice none 0 0,ι 0,ι 0,.slice none 0 0,ι 0,ι 0] Hc.out;rw[hw1] at nO;obtain⟨aP,qh,az⟩:=nO;have H1:=aq qh az aP;have c10:w1.cell? ⟨c,10,none⟩=some (ι ky):=aP.cell 10;clear hw1 qh az;by_cases hk:ky<1048576
 ·have e1:=HE.out.1
  have e2:=HE.out.2;rw[π hk] at e1 e2;subst e1 e2;have hwk:IntKind.i64.wrap (ky+1)=ky+1:=cZ _ oM;go_upto_region 4 with (first
   |(refine gJ rfl 3 _ _ rfl c 10 (ι (ky+1)) rfl rfl _ _ aP sM rfl kR ?_
     intro w2 aD σ aY))
  rw[show (#[ι a,ι b,ι d,mv,.string S,lv,ι at_,ι ep,rv,ι pr,ι ky]:Array Value).setIfInBounds 10 (ι (ky+1))=#[ι a,ι b,ι d,mv,.string S,lv,ι at_,ι ep,rv,ι pr,ι (ky+1)] from rfl] at aD;have BW:υ w w2:=H1.out.2.1.then σ (fun q e=>.inr (oF e Hc.out));have H2:=aq (H1.out.1.ε σ (fun e=>oE e)) BW aD;clear σ aY BW aP aD;go_wp2_with (first
   |(refine gp 95 c H2.out.2.2 underlying95 ?_)
   |(refine eN 95 (c+1) #[ι a,ι b,ι d,mv,.string S,lv,ι at_,ι ep,rv,ι pr,ι (ky+1)] H2.out.1 gR.out.2 ?_
     intro w4 aJ au dh))
  exact cJ (jk rfl _ _ (c+1) _ _ _ _ rfl aJ underlying95 rfl kR _ rfl) rfl ⟨rfl,H2.out.2.1.then au (fun q e=>.inr (oF e Hc.out))⟩
 ·have e1:=HE.out.1
  have e2:=HE.out.2;rw[ν hk] at e1 e2;subst e1 e2;clear aP;go_wp2_with (first
   |(refine gp 95 c H1.out.2.2 underlying95 ?_)
   |(refine eN 95 (c+1) #[ι a,ι b,ι d,mv,.string S,lv,ι at_,ι ep,rv,ι pr,ι ky] H1.out.1 gR.out.1 ?_
     intro w4 aJ au dh))
  exact cJ (jk rfl _ _ (c+1) _ _ _ _ rfl aJ underlying95 rfl kR _ rfl) rfl ⟨rfl,H1.out.2.1.then au (fun q e=>.inr (oF e Hc.out))⟩
theorem aab {w:World} {mv:Value} (m:MetaM) {ty:TypeId} (dK:ax w ty 2 mv (m.aZ.map cB)) (hs:∀x ∈ m.aZ,x.name.length≤1000000) :
 ς 42 #[.agg (dD m mv)] w fun e w'=>e=ώ (.bool (dF m))∧υ w w':=by
 obtain⟨A,cap,b,off,rfl,hcap,hl,hA,hat⟩:=dK.eS;obtain⟨B,hB⟩:=μ (dF m);obtain⟨O,hO⟩:=μ (qq m.aZ);obtain⟨S,hS⟩:=μ (str m.aW);obtain⟨n,hn⟩:=μ m.aZ.length;have nU:S.size=m.aW.length:=by rw[← hS,bR]
 rw[hB];have eX:=fun W (hW:υ w W)=>al4 (cap:=cap) hA (hat W (fun _=>False) hW (fun _ _ e=>e)) hl hs
 rw[hO,hn] at eX;have qF:B=((decide (n=0)|| O) && decide (0≤m.role∧m.role≤3∧0≤m.seen∧0≤m.aH∧S.size≤64)):=by
  rw[← hB,← hO,nU,← hn];unfold dF;congr 2
  rw[QX];exact Mh.symm
 obtain⟨c,hc⟩:=μ w.heap.size;obtain⟨C,hC⟩:=μ (dD m (.slice A m.aZ.length cap));rw[hC];have nS:=δ eX;have HB:=δ qF;have sN:=aF hc hC hn hS;clear eX qF hB hO hat hA dK hs nU hc hC hn hS;go_enter func42,ntmps42
 go_upto_region 1 with fail
 rw[sN.out.1];generalize hw1:World.alloc _ _=w1;have aP:η w1 c 79 (dD m (.slice A m.aZ.length cap)):=by rw[sN.out.2.1,← hw1,← sN.out.1];exact η.new w _ _
 have az:υ w w1:=ry
 unfold dD at aP;rw[sN.out.2.2.1,sN.out.2.2.2] at aP;have H1:=τ az aP;have Cw:=δ (nS.out w1 az);have c3:w1.cell? ⟨c,3,none⟩=some (.slice A n cap):=aP.cell 3;clear hw1 az aP;by_cases h0:n=0
 ·subst h0
  have qF:B=decide (0≤m.role∧m.role≤3∧0≤m.seen∧0≤m.aH∧S.size≤64):=DJ
  have kG:=δ qF;have c0:w1.cell? ⟨c,0,none⟩=some (ι m.role):=H1.out.2.cell 0;have c1:w1.cell? ⟨c,1,none⟩=some (ι m.seen):=H1.out.2.cell 1;have c2:w1.cell? ⟨c,2,none⟩=some (ι m.aH):=H1.out.2.cell 2;have c4:w1.cell? ⟨c,4,none⟩=some (.string S):=H1.out.2.cell 4;clear qF;by_cases r0:(0:Int)≤m.role<;>by_cases r3:m.role≤3<;>by_cases rs:(0:Int)≤m.seen<;>by_cases rg:(0:Int)≤m.aH<;>by_cases rc:(S.size:Int)≤64<;>
   first|(exfalso;omega)|(go_wp2_with fail;go_ret;exact⟨by rw[kG.out];congr 3;simp;omega,H1.out.1⟩)
 ·have hn0:(0:Int)<(n:Int):=oM
  cases O
  ·have hBf:B=false:=by rw[HB.out];simp[h0]
   subst hBf;go_wp2_with (first
    |(go_at_call 85;refine Cw.out.mono ?_;rintro e w2 ⟨rfl,σ⟩;have jP:=δ σ;clear σ))
   go_ret
   exact⟨rfl,H1.out.1.then jP.out φ⟩
  ·have qF:B=decide (0≤m.role∧m.role≤3∧0≤m.seen∧0≤m.aH∧S.size≤64):=by rw[HB.out];simp
   have kG:=δ qF;clear qF;go_upto_region 3 with (first
    |(go_at_call 85;refine Cw.out.mono ?_;rintro e w2 ⟨rfl,σ⟩
      have bM:=H1.out.2.ε σ id;have c0:w2.cell? ⟨c,0,none⟩=some (ι m.role):=bM.cell 0;have c1:w2.cell? ⟨c,1,none⟩=some (ι m.seen):=bM.cell 1;have c2:w2.cell? ⟨c,2,none⟩=some (ι m.aH):=bM.cell 2;have c4:w2.cell? ⟨c,4,none⟩=some (.string S):=bM.cell 4;have jP:=δ σ;clear σ bM))
   by_cases r0:(0:Int)≤m.role<;>by_cases r3:m.role≤3<;>by_cases rs:(0:Int)≤m.seen<;>by_cases rg:(0:Int)≤m.aH<;>by_cases rc:(S.size:Int)≤64<;>
    first|(exfalso;omega)|(go_wp2_with fail;go_ret;exact⟨by rw[kG.out];congr 3;simp;omega,H1.out.1.then jP.out φ⟩)
theorem ali (a b c:Int) (A:Option Addr) (n cap:Nat) (S:ByteArray):prog.built 79 [(0,ι a),(1,ι b),(2,ι c),(3,.slice A n cap),(4,.string S)]=some #[ι a,ι b,ι c,.slice A n cap,.string S]:=kR
theorem SJ {w:World} (m:MetaM) {ty:TypeId} {mv:Value} (dK:ax w ty 2 mv (m.aZ.map cB)) :
 ς 43 #[.agg (dD m mv)] w fun e w'=>e=ώ (.agg (dD m mv))∧υ w w':=by
 obtain⟨A,cap,b,off,rfl,-⟩:=dK.open_;obtain⟨c,hc⟩:=μ w.heap.size;have Hc:=δ hc;clear hc dK;unfold dD;obtain⟨S,hS⟩:=μ (str m.aW);obtain⟨n,hn⟩:=μ (m.aZ.map cB).length;rw[hS,hn];clear hS hn;have HB:=δ (ali m.role m.seen m.aH A n cap S);go_enter func43,ntmps43
 go_upto_region 1 with fail
 rw[Hc.out];generalize bp:World.alloc (World.alloc _ _) _=w2;have aD:η w2 c 50 #[ι m.role,ι m.seen,ι m.aH,.slice A n cap,.string S]:=by rw[← bp,← Hc.out];exact(η.new w _ _).alloc _
 have sP:∃z,z.size=5∧η w2 (c+1) 79 z:=by
  rw[← bp,← Hc.out];have:=η.new (w.alloc (.cells #[ι m.role,ι m.seen,ι m.aH,.slice A n cap,.string S] 50)) 79 #[ι 0,ι 0,ι 0,.slice none 0 0,.string ByteArray.empty];rw[dx] at this;exact⟨_,rfl,this⟩
 have σ:υ w w2:=ya
 clear bp;obtain⟨z,hzs,sP⟩:=sP;have c0:w2.cell? ⟨c,0,none⟩=some (ι m.role):=aD.cell 0;have c1:w2.cell? ⟨c,1,none⟩=some (ι m.seen):=aD.cell 1;have c2:w2.cell? ⟨c,2,none⟩=some (ι m.aH):=aD.cell 2;have c3:w2.cell? ⟨c,3,none⟩=some (.slice A n cap):=aD.cell 3;have c4:w2.cell? ⟨c,4,none⟩=some (.string S):=aD.cell 4;have H2:=aq sP σ hzs;clear aD sP σ hzs;go_wp2_with (first
  |(refine qQ rfl _ _ rfl [(0,ι m.role),(1,ι m.seen),(2,ι m.aH),(3,.slice A n cap),(4,.string S)] _ zR HB.out ?_)
  |(refine fG rfl 79 _ _ rfl (c+1) #[ι m.role,ι m.seen,ι m.aH,.slice A n cap,.string S] rfl rfl _ _ H2.out.1 ?_ ?_ ?_ ?_))
 ·rw[H2.out.2.2];rfl
 ·exact Fl _ _ _ rfl rfl
 ·kernel_rfl
 intro w5 aK ay hs5;go_wp2_with fail
 refine cJ (jU rfl _ _ (c+1) _ _ _ _ rfl aK underlying79 rfl kR) rfl ⟨rfl,H2.out.2.1.then ay (fun q e=>.inr ?_)⟩;have e2:q=c+1:=e;have:=Hc.out;omega
theorem ab1 (w:World) (C D Z:Array Value) {c:Nat} (hc:w.heap.size=c) (w1:World) (h:((w.alloc (.cells C 95)).alloc (.cells D 79)).alloc (.cells Z 95)=w1):η w1 c 95 C∧η w1 (c+1) 79 D∧η w1 (c+2) 95 Z∧υ w w1:=by
 subst h;refine⟨by rw[← hc];exact((η.new w _ _).alloc _).alloc _,?_,?_,(((ζ.refl _ w).alloc _).alloc _).alloc _⟩
 ·have:=(η.new (w.alloc (.cells C 95)) 79 D).alloc (.cells Z 95)
  rw[dx,hc] at this;exact this
 ·have:=η.new ((w.alloc (.cells C 95)).alloc (.cells D 79)) 95 Z
  rw[dx,dx,hc] at this;exact this
theorem abo {a b c:Int} {v:Value} {S:ByteArray} (h:v.oneCell'=true):(#[ι a,ι b,ι c,v,.string S]:Array Value).all (·.oneCell')=true:=by
 simp only[Mv,sV,CZ,h,AX];rfl
theorem amn {w:World} {a b d:Int} {mv:Value} {S:ByteArray} {lv:Value} {at_ ep:Int} {rv:Value} {pr ky:Int} (h1:mv.oneCell'=true) (h2:lv.oneCell'=true) (h3:rv.oneCell'=true) (m:MetaM) {ty:TypeId} {bW:Value} (dK:ax w ty 2 bW (m.aZ.map cB)) (hs:∀x ∈ m.aZ,x.name.length≤1000000) :
 ς 94 #[.agg (j_ a b d mv S lv at_ ep rv pr ky),.agg (dD m bW)] w fun e w'=>e=ώ (.tuple #[.agg (if dF m then j_ m.role m.seen m.aH bW (str m.aW) lv at_ ep rv pr ky else j_ a b d mv S lv at_ ep rv pr ky),ι (if dF m then 0 else 1)])∧υ w w':=by
 have eX:=fun W (hW:υ w W)=>aab m (dK.still hW) hs
 have hone:=dK.one;obtain⟨S2,bn⟩:=μ (str m.aW);obtain⟨B,hB⟩:=μ (dF m);unfold dD at eX ⊢;rw[bn,hB] at eX;rw[bn,hB];have gR:=aq (vq (a:=a) (b:=b) (c:=d) (S:=S) (at_:=at_) (ep:=ep) (pr:=pr) (ky:=ky) h1 h2 h3) (vq (a:=m.role) (b:=m.seen) (c:=m.aH) (S:=S2) (at_:=at_) (ep:=ep) (pr:=pr) (ky:=ky) hone h2 h3) (abo (a:=m.role) (b:=m.seen) (c:=m.aH) (S:=S2) hone);obtain⟨c,hc⟩:=μ w.heap.size;have Hc:=δ hc;have nS:=δ eX;clear hc h1 h2 h3 eX hone bn hB dK hs;unfold j_ at gR ⊢;go_enter func94,ntmps94
 go_upto_region 1 with fail
 rw[Hc.out];generalize hw1:World.alloc (World.alloc (World.alloc _ _) _) _=w1;obtain⟨aP,hM1,qh,az⟩:=ab1 w #[ι a,ι b,ι d,mv,.string S,lv,ι at_,ι ep,rv,ι pr,ι ky] #[ι m.role,ι m.seen,ι m.aH,bW,.string S2] #[ι 0,ι 0,ι 0,.slice none 0 0,.string ⟨#[]⟩,.slice none 0 0,ι 0,ι 0,.slice none 0 0,ι 0,ι 0] Hc.out w1 hw1;have H1:=aF aP hM1 qh az;clear hw1 aP hM1 qh az;cases B
 ·go_wp2_with (first
   |(refine gp 79 (c+1) H1.out.2.1 underlying79 ?_)
   |(go_at_call 42
     refine(nS.out _ H1.out.2.2.2).mono ?_;rintro e w2 ⟨rfl,σ⟩;have H2:=aF (H1.out.1.ε σ id) (H1.out.2.1.ε σ id) (H1.out.2.2.1.ε σ id) (H1.out.2.2.2.then σ φ);clear σ)
   |(refine gp 95 c H2.out.1 underlying95 ?_)
   |(refine eN 95 (c+2) #[ι a,ι b,ι d,mv,.string S,lv,ι at_,ι ep,rv,ι pr,ι ky] H2.out.2.2.1 gR.out.1 ?_
     intro w4 aJ au dh))
  exact cJ (jk rfl _ _ (c+2) _ _ _ _ rfl aJ underlying95 rfl kR _ rfl) rfl ⟨rfl,H2.out.2.2.2.then au (fun q e=>.inr (oF e Hc.out))⟩
 ·go_upto_region 4 with (first
   |(refine gp 79 (c+1) H1.out.2.1 underlying79 ?_)
   |(go_at_call 42
     refine(nS.out _ H1.out.2.2.2).mono ?_;rintro e w2 ⟨rfl,σ⟩;have H2:=aF (H1.out.1.ε σ id) (H1.out.2.1.ε σ id) (H1.out.2.2.1.ε σ id) (H1.out.2.2.2.then σ φ);clear σ)
   |(refine gp 79 (c+1) H2.out.2.1 underlying79 ?_)
   |(refine ze rfl 79 _ _ rfl c 0 #[ι m.role,ι m.seen,ι m.aH,bW,.string S2] rfl rfl _ _ #[ι m.role,ι m.seen,ι m.aH,bW,.string S2,lv,ι at_,ι ep,rv,ι pr,ι ky] H2.out.1 sM rfl gR.out.2.2 kR ?_
     intro w3 aC χ fY))
  have H3:=aq aC (H2.out.2.2.1.ε χ (fun e=>oE e)) (H2.out.2.2.2.then χ (fun q e=>.inr (oF e Hc.out)));clear aC χ fY;go_wp2_with (first
   |(refine gp 95 c H3.out.1 underlying95 ?_)
   |(refine eN 95 (c+2) #[ι m.role,ι m.seen,ι m.aH,bW,.string S2,lv,ι at_,ι ep,rv,ι pr,ι ky] H3.out.2.1 gR.out.2.1 ?_
     intro w4 aJ au dh))
  exact cJ (jk rfl _ _ (c+2) _ _ _ _ rfl aJ underlying95 rfl kR _ rfl) rfl ⟨rfl,H3.out.2.2.then au (fun q e=>.inr (oF e Hc.out))⟩
end
end Go.Proofs.YtbhjgfibhegddaaGreat
