/-
  Parts of the proof of VaultPlays: WVaultPlays, Facts.
-/
import Derived.Test.YtbhjgfibhegddaaGreatQVaultPlays24
import Derived.ProofKit
import Derived.Test.YtbhjgfibhegddaaGreatRows
set_option maxRecDepth 100000
set_option maxHeartbeats 16000000
namespace Go.Proofs.YtbhjgfibhegddaaGreat
open _root_.Go.Proofs.Tryz _root_.Go.Proofs.YtbhjgfibhegddaaGreat.Tryz
section
open Go Go.RowKit
def lf (w0 w:World) (p v g:Nat) (R:eo) (μ c:Nat):Prop:=∃M mv lv rv aI,cK w0 w p v R μ c M∧η w g 95 (jM R mv lv rv)∧eP w (fun q=>M q∨q=g) R mv lv rv aI∧w0.heap.size≤g
section
variable {w0 w w':World} {p v g μ c:Nat} {R:eo} {M:Nat→Prop}
theorem lf.ε (h:lf w0 w p v g R μ c):υ w0 w:=by
 obtain⟨M,mv,lv,rv,aI,h,-⟩:=h;exact h.ε
theorem lf.still (h:lf w0 w p v g R μ c) (hu:υ w w'):lf w0 w' p v g R μ c:=by
 obtain⟨M,mv,lv,rv,aI,h1,h2,h3,h4⟩:=h;exact⟨M,mv,lv,rv,aI,h1.still hu,h2.ε hu (fun e=>e),h3.still hu,h4⟩
theorem cK.BC (h:cK w0 w p v R μ c M) {T:TypeId} {q:Nat} (ht:Ty w T q) (hT:T ∉ oP):¬M q:=fun e=>ht.BC hT (h.yP e)
theorem lf.gS (h:lf w0 w p v g R μ c):ς 44 #[.pointer (some ⟨p,0,none⟩),.slice none 0 0] w fun r w'=>r=ώ (.tuple #[])∧lf w0 w' p v g R μ c:=by
 obtain⟨M,mv,lv,rv,aI,h1,h2,h3,h4⟩:=h;refine h1.aeI.mono ?_;rintro r w' ⟨rfl,M',h5,h6⟩;have hn:=h1.BC h2.ty Bp.1;exact⟨rfl,M',mv,lv,rv,aI,h5,h2.ε h6.ε hn,(h3.act (M':=fun q=>M' q∨q=g) ⟨h6.ε.mono (fun q e=>.inl (.inl e)),fun q e=>e.elim (fun e=>(h6.sub q e).imp .inl id) (fun e=>.inl (.inr e))⟩),h4⟩
theorem lf.open_ (h:lf w0 w p v g R μ c) (hc:c<98000):ς 16 #[.pointer (some ⟨p,0,none⟩),.string (str jI)] w fun r w'=>∃u,r=ώ (.tuple #[.pointer (some ⟨u,0,none⟩),ι 0])∧lf w0 w' p u g R (μ+1) (c+1):=by
 obtain⟨M,mv,lv,rv,aI,h1,h2,h3,h4⟩:=h;refine(h1.open_ oM).mono ?_;rintro r w' ⟨u,rfl,⟨M',h5,h6⟩,-⟩;have hn:=h1.BC h2.ty Bp.1;exact⟨u,rfl,M',mv,lv,rv,aI,h5,h2.ε h6.ε hn,(h3.act (M':=fun q=>M' q∨q=g) ⟨h6.ε.mono (fun q e=>.inl (.inl e)),fun q e=>e.elim (fun e=>(h6.sub q e).imp .inl id) (fun e=>.inl (.inr e))⟩),h4⟩
theorem lf.mono {c':Nat} (h:lf w0 w p v g R μ c) (hc:c≤c'):lf w0 w p v g R μ c':=by
 obtain⟨M,mv,lv,rv,aI,h1,h2⟩:=h;exact⟨M,mv,lv,rv,aI,h1.mono hc,h2⟩
structure xP (w0 w:World) (p v g b:Nat) (R:eo) (row:Array Value) (μ c:Nat):Prop where
 ex:∃M mv lv rv aI,cK w0 w p v R μ c M∧row=jM R mv lv rv∧eP w (fun q=>(M q∨q=g)∨q=b) R mv lv rv aI
 old:∃cs,η w g 95 cs∧cs.size=11
 low:w0.heap.size≤g∧w0.heap.size≤b
 ne:g≠b
theorem xP.tg {b:Nat} {row:Array Value} (h:xP w0 w p v g b R row μ c):υ w0 w:=by
 obtain⟨M,mv,lv,rv,aI,h1,-⟩:=h.ex;exact h1.ε
theorem xP.store {b:Nat} {row:Array Value} (h:xP w0 w p v g b R row μ c) (hu:ζ (· = b) w w') (ht:Ty w 95 b):xP w0 w' p v g b R row μ c:=by
 obtain⟨M,mv,lv,rv,aI,h1,h2,h3⟩:=h.ex;obtain⟨cs,h4,h5⟩:=h.old;exact⟨⟨M,mv,lv,rv,aI,h1.BR hu ht Bp h.low.2,h2,h3.act (M':=fun q=>(M q∨q=g)∨q=b) ⟨hu.mono (fun q e=>.inl (.inr e)),fun q e=>.inl e⟩⟩,⟨cs,h4.ε hu h.ne,h5⟩,h.low,h.ne⟩
theorem xP.put {b:Nat} {row:Array Value} (h:xP w0 w p v g b R row μ c) (hu:ζ (· = g) w w') (hB:η w' g 95 row):lf w0 w' p v g R μ c:=by
 obtain⟨M,mv,lv,rv,aI,h1,rfl,h3⟩:=h.ex;obtain⟨cs,h4,-⟩:=h.old;exact⟨M,mv,lv,rv,aI,h1.BR hu h4.ty Bp h.low.1,hB,(h3.act (M':=fun q=>(M q∨q=g)∨q=b) ⟨hu.mono (fun q e=>.inl (.inl (.inr e))),fun q e=>.inl e⟩).more (fun q e=>.inl (.inl e)),h.low.1⟩
theorem lf.does (h:lf w0 w p v g R μ c) (hc:c<98000) {x:kr} (hx:x.In w0) (hf:x.Jn):∃row,η w g 95 row∧row.size=11∧∀W,υ w W→∀X:Nat→Prop,(∀q,X q→w.heap.size≤q∧q<W.heap.size) →
 ς 49 #[.pointer (some ⟨v,0,none⟩),.agg row,.agg x.row.toArray] W fun r w'=>∃fA n M',r=ώ (.tuple #[.agg fA,ι n,ι n])∧(∃mv lv rv aI,cK w0 w' p v (gI R x).1 μ (c+3) M'∧fA=jM (gI R x).1 mv lv rv∧eP w' (fun q=>M' q∨(q=g∨X q)) (gI R x).1 mv lv rv aI)∧η w' g 95 row∧(∀q t cs,X q→η W q t cs→t ∉ oP→η w' q t cs)∧fA.all (·.oneCell')=true∧fA.size=11∧W.heap.size≤w'.heap.size∧w0.heap.size≤w.heap.size∧w0.heap.size≤g∧g<w.heap.size:=by
 obtain⟨M,mv,lv,rv,aI,h1,h2,h3,h4⟩:=h;refine⟨jM R mv lv rv,h2,rfl,fun W hW X hX=>?_⟩;have hs:=h1.ε.size;have gE:=h2.lt;refine(agq (X:=fun q=>q=g∨X q) (h1.aht oM hx hf) (h1.still hW) (fun q e=>?_) ((h3.more (fun q e=>?_)).still hW) (h1.Qp) hx hf).mono ?_
 ·have:=hW.size
  rcases e with rfl | e
  ·omega
  ·have:=hX q e
   omega
 ·rcases e with e | e | e
  ·exact .inl (.inl e)
  ·exact .inl (.inr e)
  ·exact .inr (hX q e).1
 ·rintro r w' ⟨n,M',cv,dA,jG,nK,rfl,h5,⟨rfl,h6⟩,h7⟩
  obtain⟨o1,o2⟩:=vR h5;exact⟨_,_,M',rfl,⟨cv,dA,jG,nK,h6,rfl,h5⟩,(h2.ε hW (fun e=>e)).ε h7.ε ((h1.still hW).BC (h2.ε hW (fun e=>e)).ty Bp.1),fun q t cs hq hB ht=>hB.ε h7.ε ((h1.still hW).BC hB.ty ht),o1,o2,h7.ε.size,hs,h4,gE⟩
theorem lf.look (h:lf w0 w p v g R μ c) (hc:c<98000):∃row,η w g 95 row∧row.size=11∧(∀W,υ w W→ς 50 #[.pointer (some ⟨v,0,none⟩),.agg row] W fun r w'=>r=ώ (.bool true)∧υ W w') ∧
 (∀W,υ w W→ς 13 #[.pointer (some ⟨v,0,none⟩)] W fun r w'=>r=ώ (ι (μ:Int))∧W=w'):=by
 obtain⟨M,mv,lv,rv,aI,h1,h2,h3,h4⟩:=h;refine⟨_,h2,rfl,fun W hW=>?_,fun W hW=>((h1.old oM).still hW).BM⟩;have:=aeJ ((h1.old oM).still hW) (h3.still hW);rw[fe rfl] at this;exact this
end
theorem aaI {P:Prop} (h:P:=by
 obtain⟨akt,kQ,yx,jS,vg⟩:=HS.out.look (oN HX.out.2.2.2.1);have pH:=aD kQ yx jS vg;have bb:((b2:Int) != (b2:Int))=false:=by simp
 clear kQ yx jS vg;go_wp2_with (first
  |(refine eL 95 g pH.out.1 underlying95 (by rw[pH.out.2.1];kernel_rfl) ?_)
  |(go_at_call 50;refine(pH.out.2.2.1 _ (ζ.refl _ _)).mono ?_;rintro r w9 ⟨rfl,hU⟩
    have HU9:=δ hU;clear hU)
  |(go_at_call 13;refine(pH.out.2.2.2 _ HU9.out).mono ?_;rintro r w10 ⟨rfl,rfl⟩))
 go_roundw
 case rel=>exact⟨k+1,b2,v2,R2,oM,by have:=HK.out;omega,sM,rfl,rfl,(HS.out.still HU9.out).mono oM⟩
 case measure=>simp[intOf]<;>omega):P:=h
theorem abj (w:World) {lv:Value} {l:List kr} (hA:Bo w lv l) :
 ς 9 #[lv] w fun e w'=>e=ώ (.bool true)∧υ w w':=by
 have HA:=δ hA;obtain⟨A,cap,bA,off,rfl,hcap,hm,mX,jJ⟩:=hA.rows.Vi;rw[bp] at hm mX hcap;have MZ:=δ mX;have E4:=δ jJ;clear hA mX jJ;rw[bp] at HA ⊢;go_enter func9,ntmps9
 go_wp2_with fail
 refine(aeo HA.out).mono ?_;rintro e w1 ⟨bg,rfl,ax,hq⟩;have nP:=δ ax;clear ax;cases bg
 rotate_left 1
 ·clear hq
  go_wp2_with (first
   |(go_at_call 26;refine(WA _).mono ?_;rintro e w9 ⟨rfl,hU⟩;have HE:=δ (nP.out.then hU φ);clear hU))
  go_ret
  exact⟨rfl,HE.out⟩
 have HF:=δ (hq rfl);have yj:=δ (HA.out.still nP.out);clear hq;go_upto_region 4 with (first
  |(go_at_call 11;refine(Wv w1).mono ?_;rintro e w2 ⟨p,v,rfl,M0,hV⟩
    have HV:=δ hV;clear hV))
 go_upto_region 8 with fail
 obtain⟨g,hg⟩:=κ w2.heap.size;rw[hg];generalize fJ:World.alloc _ _=w3;have aA:η w3 g 95 #[ι 0,ι 0,ι 0,.slice none 0 0,.string ⟨#[]⟩,.slice none 0 0,ι 0,ι 0,.slice none 0 0,ι 0,ι 0]:=by rw[← fJ,← hg];exact η.new w2 _ _
 have h3:lf w1 w3 p v g R0 1 1:=by
  have hu:υ w2 w3:=by rw[← fJ];exact(ζ.refl _ w2).alloc _
  have:=HV.out.ε.size;exact⟨M0,.slice none 0 0,.slice none 0 0,.slice none 0 0,[],HV.out.still hu,aA,eP.first _ _,oM⟩
 have H3:=δ h3;clear h3 aA fJ hg HV;go_wp2_with fail
 go_loopw [4,7,8] (fun vv bv i wr=>∃(k bt u:Nat) (R:eo),k≤l.length∧bt≤1+k∧i=ι k∧bv=ι bt∧vv=.pointer (some ⟨u,0,none⟩)∧lf w1 wr p u g R bt (1+3*k)) (fun _ _ i _=>l.length - (intOf i).toNat)
 case atStart=>exact⟨0,1,v,R0,oM,oM,rfl,rfl,rfl,H3.out⟩
 case round =>
  obtain⟨k,bt,u,R,hk,jt,rfl,rfl,rfl,hP⟩:=hrel;have H:=τ jt hP;have ajT:=HF.out.1;clear hP H3 jt;by_cases hlt:k<l.length
  ·obtain rfl:=MZ.out oM
   obtain⟨x,hx⟩:=κ (l[k]);obtain⟨D,hD⟩:∃D:Int,(x.fM.toNat:Int)=D:=⟨_,rfl⟩;obtain⟨SS,AO⟩:∃S,str x.m.bu=S:=⟨_,rfl⟩;have TP:x.row=[ϋ D,ι x.b.index,ι x.b.θ,x.ov,ι x.m.role,ι x.m.seen,ι x.m.aG,x.mv,.string SS,x.lv,ι x.at_,ι x.ep]:=by unfold kr.row;rw[hD,AO]
   have hcell:∀W,υ w1 W→W.rangeAt bA (off+k*12) [ϋ D,ι x.b.index,ι x.b.θ,x.ov,ι x.m.role,ι x.m.seen,ι x.m.aG,x.mv,.string SS,x.lv,ι x.at_,ι x.ep]:=fun W hW=>by
    have:=E4.out W (nP.out.then hW φ) k x.row (by rw[gu,bD hlt,hx];rfl)
    rwa [TP] at this
   have HX:=cx (yj.out.each x (hx ▸ eM hlt)) (HF.out.2 x (hx ▸ eM hlt)) (show x.row.toArray=#[ϋ D,ι x.b.index,ι x.b.θ,x.ov,ι x.m.role,ι x.m.seen,ι x.m.aG,x.mv,.string SS,x.lv,ι x.at_,ι x.ep] by rw[TP]) ajT hcell;have j1:(k:Int)<(l.length:Int):=oM;have hwk:IntKind.i64.wrap ((k:Int)+1)=(k:Int)+1:=bX _ oM;have d0:wr.cell? ⟨bA,off+k*12,none⟩=some (ϋ D):=hcell wr H.out.2.ε 0 _ rfl;clear hx hD AO TP hcell;by_cases h5:D=5
   ·subst h5
    have hwb:IntKind.i64.wrap ((bt:Int)+1)=(bt:Int)+1:=bX _ (oN H.out.1);go_upto_region 22 with (first
     |(go_at_call 44;refine H.out.2.gS.mono ?_;rintro r w5 ⟨rfl,h5⟩;have H5:=δ h5;clear h5)
     |(go_at_call 16;refine(H5.out.open_ (oN HX.out.2.2.2.1)).mono ?_;rintro r w7 ⟨v2,rfl,h7⟩;have H7:=δ h7;clear h7))
    obtain⟨b2,bn⟩:∃b2:Nat,bt+1=b2:=⟨_,rfl⟩;have nL:(bt:Int)+1=(b2:Int):=oM;rw[nL];have HS:Hid (lf w1 w7 p v2 g R b2 (1+3*k+3)):=δ ((bn ▸ H7.out).mono oM);have HK:Hid (b2≤1+(k+1)):=δ (oN H.out.1);obtain⟨R2,gl⟩:=κ R;rw[gl] at HS;clear d0 hwb bn nL gl;exact aaI
   ·have yE:(D == 5)=false:=by rw[eV];exact h5
    clear h5;obtain⟨row,hB,hz,Yw⟩:=H.out.2.does (oN HX.out.2.2.2.1) HX.out.1 HX.out.2.1;have HD:=aj hB hz Yw;clear hB hz Yw;go_upto_region 18 with fail
    refine dB ?_;refine dK (S:=fun w'=>η w' g 95 row∧w'.rangeAt bA (off+k*12) [ϋ D,ι x.b.index,ι x.b.θ,x.ov,ι x.m.role,ι x.m.seen,ι x.m.aG,x.mv,.string SS,x.lv,ι x.at_,ι x.ep]) (T:=fun _=>false) kR ?_;have aC:=And.intro HD.out.1.drew (HX.out.2.2.2.2 _ H.out.2.ε.drew);refine ξ 0 ?_;refine iq 1 (.agg row) (kX rfl (by rfl) _ _ rfl g (by rfl) _ _ _ (fun w' hSw=>hSw.1) underlying95 rfl (by rw[HD.out.2.1];kernel_rfl)) ?_
    refine ξ 2 ?_;refine ξ 3 ?_;refine ξ 4 ?_;refine iq 5 (.agg #[ϋ D,ι x.b.index,ι x.b.θ,x.ov,ι x.m.role,ι x.m.seen,ι x.m.aG,x.mv,.string SS,x.lv,ι x.at_,ι x.ep]) (sQ rfl (aaX (by rfl) _ _ rfl bA (off+k*12) (by rfl) [ϋ D,ι x.b.index,ι x.b.θ,x.ov,ι x.m.role,ι x.m.seen,ι x.m.aG,x.mv,.string SS,x.lv,ι x.at_,ι x.ep] _ (fun w' hSw=>hSw.2) underlying65 rfl kR)) ?_;refine uj (i:=6) (j:=11) kR rfl rfl (fun KK ο=>?ga) (fun KK ο=>?gb);case' gb =>
     go_simp
     have dh:=And.intro (HD.out.1.alloc (.cells #[ι 0,ι 0,ι 0,.slice none 0 0,.string ⟨#[]⟩,.slice none 0 0,ι 0,ι 0,.slice none 0 0,ι 0,ι 0] 95)).drew (HX.out.2.2.2.2 _ (H.out.2.ε.alloc (.cells #[ι 0,ι 0,ι 0,.slice none 0 0,.string ⟨#[]⟩,.slice none 0 0,ι 0,ι 0,.slice none 0 0,ι 0,ι 0] 95)).drew);refine ο.out _ _ dh ?_;clear ο;try simp only[ak]
     refine aY 6 (fun KK ο=>?_);obtain⟨b,hb⟩:=κ wr.heap.size;go_simp
     have jF:=HD.out.2.2 _ (((ζ.refl _ wr).alloc (.cells #[ι 0,ι 0,ι 0,.slice none 0 0,.string ⟨#[]⟩,.slice none 0 0,ι 0,ι 0,.slice none 0 0,ι 0,ι 0] 95)).drew) (fun q=>q=b) (fun q e=>by have e2:q=b:=e;have h1:(World.alloc wr (.cells #[ι 0,ι 0,ι 0,.slice none 0 0,.string ⟨#[]⟩,.slice none 0 0,ι 0,ι 0,.slice none 0 0,ι 0,ι 0] 95)).drew.heap.size=wr.heap.size+1:=cM _ _;omega);rw[HX.out.2.2.1] at jF;refine jF.mono ?_;rintro r w4 ⟨fA,n2,M2,rfl,⟨cv,dA,jG,nK,AQ,hr2,fc⟩,aE,Nu,TQ,kL,cG,hl0,yO,gE⟩;have Ad:=δ hr2;clear hr2;have wO:η w4 b 95 #[ι 0,ι 0,ι 0,.slice none 0 0,.string ⟨#[]⟩,.slice none 0 0,ι 0,ι 0,.slice none 0 0,ι 0,ι 0]:=Nu b _ _ rfl (by rw[← hb];exact(η.new wr _ _).drew) Bp.1;have hp:xP w1 w4 p u g b (gI R x).1 fA bt (1+3*k+3):=⟨⟨M2,cv,dA,jG,nK,AQ,Ad.out,fc.more (fun q e=>e.elim (fun e=>e.elim (fun e=>.inl (.inl e)) (fun e=>.inl (.inr (.inl e)))) (fun e=>.inl (.inr (.inr e))))⟩,⟨row,aE,HD.out.2.1⟩,⟨yO,oM⟩,oM⟩
     have ig:=And.intro aE (HX.out.2.2.2.2 _ AQ.ε);refine ο.out _ _ ig ?_;clear ο;try simp only[ak]
     refine ξ 7 ?_;refine ξ 8 ?_;refine ξ 9 ?_;refine ξ 10 ?_;try rw[hb]
     obtain⟨w5,cF⟩:=κ w4;rw[cF] at hp wO ig ⊢;have HP:=τ hp wO;have aC:=ig;clear hp wO cF ig dh AQ fc aE Nu cG hl0 yO gE hb jF
    case' ga =>
     go_simp
     have jF:=HD.out.2.2 _ (ζ.refl _ wr).drew (fun _=>False) (fun q e=>e.elim);rw[HX.out.2.2.1] at jF;refine jF.mono ?_;rintro r w4 ⟨fA,n2,M2,rfl,⟨cv,dA,jG,nK,AQ,hr2,fc⟩,aE,Nu,TQ,kL,cG,hl0,yO,gE⟩;have Ad:=δ hr2;clear hr2;have dh:=And.intro aE (HX.out.2.2.2.2 _ AQ.ε);refine ο.out _ _ dh ?_;clear ο;try simp only[ak]
     refine ξ 7 ?_;refine ξ 8 ?_;refine ξ 9 ?_;refine ξ 10 ?_;refine aY 11 (fun KK ο=>?_);go_simp
     have hdz:wr.drew.heap.size=wr.heap.size:=rfl;obtain⟨b,hb⟩:=κ w4.heap.size;have hp:xP w1 (w4.alloc (.cells #[ι 0,ι 0,ι 0,.slice none 0 0,.string ⟨#[]⟩,.slice none 0 0,ι 0,ι 0,.slice none 0 0,ι 0,ι 0] 95)) p u g b (gI R x).1 fA bt (1+3*k+3):=⟨⟨M2,cv,dA,jG,nK,AQ.still ((ζ.refl _ w4).alloc _),Ad.out,(fc.more (fun q e=>e.elim (fun e=>e.elim (fun e=>.inl (.inl e)) (fun e=>.inl (.inr (.inl e)))) (fun e=>.inr oM))).still ((ζ.refl _ w4).alloc _)⟩,⟨row,aE.alloc _,HD.out.2.1⟩,⟨yO,oM⟩,by have:=aE.lt;omega⟩;have wO:η (w4.alloc (.cells #[ι 0,ι 0,ι 0,.slice none 0 0,.string ⟨#[]⟩,.slice none 0 0,ι 0,ι 0,.slice none 0 0,ι 0,ι 0] 95)) b 95 #[ι 0,ι 0,ι 0,.slice none 0 0,.string ⟨#[]⟩,.slice none 0 0,ι 0,ι 0,.slice none 0 0,ι 0,ι 0]:=by rw[← hb];exact η.new w4 _ _
     have ig:=And.intro hp.old (HX.out.2.2.2.2 _ (AQ.ε.alloc (.cells #[ι 0,ι 0,ι 0,.slice none 0 0,.string ⟨#[]⟩,.slice none 0 0,ι 0,ι 0,.slice none 0 0,ι 0,ι 0] 95)));refine ο.out _ _ (And.intro (aE.alloc _) ig.2) ?_;clear ο;try simp only[ak]
     try rw[hb]
     obtain⟨w5,cF⟩:=κ (w4.alloc (.cells #[ι 0,ι 0,ι 0,.slice none 0 0,.string ⟨#[]⟩,.slice none 0 0,ι 0,ι 0,.slice none 0 0,ι 0,ι 0] 95));rw[cF] at hp wO ig ⊢;have HP:=τ hp wO;have aC:η w5 g 95 row∧w5.rangeAt bA (off+k*12) [ϋ D,ι x.b.index,ι x.b.θ,x.ov,ι x.m.role,ι x.m.seen,ι x.m.aG,x.mv,.string SS,x.lv,ι x.at_,ι x.ep]:=And.intro (by rw[← cF];exact aE.alloc _) ig.2;clear hp wO cF ig dh AQ fc aE Nu cG hl0 yO gE hb jF
    all_goals
     have HO:=τ TQ kL;clear TQ kL;refine aY 12 (fun KK ο=>?_);refine sO (by rfl) 95 _ _ (by rfl) b fA (by rfl) (by rfl) _ _ HP.out.2 (by rw[HO.out.2];rfl) HO.out.1 (by rw[HO.out.2];kernel_rfl) ?_
     intro w6 cI az iB;have Nv:=HP.out.1.store az HP.out.2.ty;have cH:=And.intro (aC.1.ε az HP.out.1.ne) (HX.out.2.2.2.2 _ Nv.tg);refine ο.out _ _ cH ?_;clear ο;simp only[Act.put];refine ξ 13 ?_;refine ξ 14 ?_;refine dF ?_;refine cZ ?_;have H6:=τ Nv cI;obtain⟨cs6,aaJ,aaK⟩:=Nv.old;have H6g:=τ aaJ aaK;clear Nv cI az iB cH aC aaJ aaK;have nn:(n2 != n2)=false:=by simp
     go_upto_region 22 with (first
      |(refine eL 95 b H6.out.2 underlying95 (by rw[HO.out.2];kernel_rfl) ?_)
      |(refine fk rfl 95 _ _ rfl g fA rfl rfl _ _ H6g.out.1 (by rw[HO.out.2];exact H6g.out.2) HO.out.1 (by rw[HO.out.2];kernel_rfl) ?_
        intro w7 dG bK jq))
     have TR:=H6.out.1.put bK dG;obtain⟨b2,bn⟩:=κ bt;obtain⟨v2,AA⟩:=κ u;obtain⟨R2,gl⟩:=κ (gI R x).1;rw[bn,AA,gl] at TR;rw[AA];try rw[bn]
     have HS:Hid (lf w1 w7 p v2 g R2 b2 (1+3*k+3)):=δ TR;have HK:Hid (b2≤1+(k+1)):=δ (oN H.out.1);clear TR dG bK jq nn bn AA gl;exact aaI
  ·have j1:¬((k:Int)<(l.length:Int)):=oM
   go_wp2_with (first
    |(go_at_call 26;refine(WA _).mono ?_;rintro e w9 ⟨rfl,hU⟩;have HE:=δ (nP.out.then (H.out.2.ε.then hU φ) φ);clear hU))
   go_ret
   exact⟨rfl,HE.out⟩
end
section
open Go Go.ChangeShapes Go.WideShapes Go.ChangeAt Go.RowKit Go.Proofs.YtbhjgfibhegddaaGreat
theorem W5:laidOutB pinned.checked.prog=true:=kR
theorem ahu:mapsRowed pinned.checked.prog=true:=kR
theorem ahv:(pinned.checked.prog.stops == [])=true:=kR
theorem ahw:(pinned.checked.prog.stopKnobs == [])=true:=kR
theorem ags:(Rows.vaultMetasRow.plainKeys == pinned.checked.prog.plainKeys)=true:=kR
theorem agt:pinned.checked.prog.stopsHeard=true:=kR
theorem agu:pinned.checked.prog.mayEnter=true:=kR
theorem agv:(Rows.vaultMetasRow.lifted == pinned.checked.prog.liftsFinal)=true:=kR
theorem agw:(pinned.checked.prog.make == some Rows.vaultMetasRow.make)=true:=kR
theorem g_ {a b:Bool} (ha:a=true) (hb:b=true):(a && b)=true:=by rw[ha,hb];rfl
end
end Go.Proofs.YtbhjgfibhegddaaGreat
