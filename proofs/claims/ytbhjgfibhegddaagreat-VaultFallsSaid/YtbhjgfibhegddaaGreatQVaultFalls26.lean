/-
  Parts of the proof of VaultFalls: WVaultFalls, Facts.
-/
import Derived.Test.YtbhjgfibhegddaaGreatQVaultFalls25
import Derived.ProofKit
import Derived.Test.YtbhjgfibhegddaaGreatRows
set_option maxRecDepth 100000
set_option maxHeartbeats 16000000
namespace Go.Proofs.YtbhjgfibhegddaaGreat
open _root_.Go.Proofs.Tryz _root_.Go.Proofs.YtbhjgfibhegddaaGreat.Tryz
section
open Go Go.RowKit
theorem JP {P:Prop} (h:P:=by rw[lF.out.2.1];kernel_rfl):P:=h
theorem Tu {row:Array Value} (h:row.size=11):∃a0 a1 a2 a3 a4 a5 a6 a7 a8 a9 a10,row=#[a0,a1,a2,a3,a4,a5,a6,a7,a8,a9,a10]:=by
 obtain⟨l⟩:=row;match l,h with
 | [a0,a1,a2,a3,a4,a5,a6,a7,a8,a9,a10],_=>exact⟨a0,a1,a2,a3,a4,a5,a6,a7,a8,a9,a10,rfl⟩
theorem η.Jt {w:World} {b:Nat} {t:TypeId} {a0 a1 a2 a3 a4 a5 a6 a7 a8 a9 a10:Value} (h:η w b t #[a0,a1,a2,a3,a4,a5,a6,a7,a8,a9,a10]):w.cell? ⟨b,0,none⟩=some a0∧w.cell? ⟨b,1,none⟩=some a1∧w.cell? ⟨b,2,none⟩=some a2∧w.cell? ⟨b,3,none⟩=some a3∧w.cell? ⟨b,4,none⟩=some a4∧w.cell? ⟨b,5,none⟩=some a5∧w.cell? ⟨b,6,none⟩=some a6∧w.cell? ⟨b,7,none⟩=some a7∧w.cell? ⟨b,8,none⟩=some a8∧w.cell? ⟨b,9,none⟩=some a9∧w.cell? ⟨b,10,none⟩=some a10:=⟨h.cell 0,h.cell 1,h.cell 2,h.cell 3,h.cell 4,h.cell 5,h.cell 6,h.cell 7,h.cell 8,h.cell 9,h.cell 10⟩
theorem U_ {P:Prop} (h:P:=by
 go_wp2_with (first
  |(go_at_call 26;refine(Sl _).mono ?_;rintro e w9 ⟨rfl,hU⟩;have HE:=δ (lJ.out.then hU φ);clear hU))
 go_ret
 exact⟨rfl,HE.out⟩):P:=h
theorem afL {P:Prop} (h:P:=by
 have EN:=δ ((dR.out.1.still BZ.out).alo Kw Im.out.2.1);clear Kw;go_roundw
 case rel=>exact⟨k+1,u2,R,oM,sM,rfl,EN.out.mono oM⟩
 case measure=>simp[intOf]<;>omega):P:=h
theorem afM {P:Prop} (h:P:=by
 go_wp2_with (first
  |(go_at_call 26;refine(Sl _).mono ?_;rintro e w9 ⟨rfl,hU⟩;have HE:=δ (jP.out.then hU φ);clear hU))
 go_ret
 exact⟨rfl,HE.out⟩):P:=h
theorem agr (w:World) {lv fv:Value} {l:List jM} {fl:List tu} (hA:Dd w lv l) (hF:Dg w fv fl) :
 ς 10 #[lv,fv] w fun e w'=>e=ώ (.bool true)∧υ w w':=by
 have HA:=δ hA;have Xn:=δ hF;obtain⟨A,cap,bA,off,rfl,hcap,hm,l_,jq⟩:=hA.rows.MM;rw[bz] at hm l_ hcap;obtain⟨FA,apy,fb,GF,rfl,anS,qH,U',abt⟩:=hF.rows.MM;rw[bz] at qH U' anS;have Hl:=τ l_ U';have Cw:=τ jq abt;clear hA l_ jq hF U' abt;rw[bz] at HA Xn ⊢;rw[bz];go_enter func10,ntmps10
 go_wp2_with fail
 refine(ajn HA.out).mono ?_;rintro e w1 ⟨bg,rfl,az,hq⟩;have lJ:=δ az;clear az;cases bg
 rotate_left 1
 ·clear hq
  exact U_
 have HF:=δ (hq rfl);have yx:=δ (HA.out.still lJ.out);have afO:=δ (Xn.out.still lJ.out);clear hq;by_cases h4:4<fl.length
 ·have h4i:(4:Int)<(fl.length:Int):=oM
  exact U_
 have h4i:¬(4:Int)<(fl.length:Int):=oM;have H4:=δ h4;clear h4;by_cases hl0:l.length=0
 ·have afP:((l.length:Int) == 0)=true:=by rw[jV];omega
  exact U_
 have afP:((l.length:Int) == 0)=false:=ru
 have HL0:=δ hl0;clear hl0;go_wp2_with fail
 clear h4i afP;go_loopw [5] (fun iv wr=>∃k:Nat,k≤fl.length∧iv=ι k∧υ w1 wr) (fun iv _=>fl.length - (intOf iv).toNat)
 case atStart=>exact⟨0,oM,rfl,ζ.refl _ _⟩
 case round =>
  obtain⟨k,hk,rfl,hu⟩:=hrel;have jP:=δ (lJ.out.then hu φ);have gr:=δ hu;clear hu;by_cases hlt:k<fl.length
  ·obtain rfl:=Hl.out.2 oM
   obtain⟨x,hx⟩:=μ (fl[k]);have Va:=Xn.out.each x (hx ▸ eE hlt);obtain⟨kA,kc,kb,ko,hkv,-,-,-⟩:=Va.keep.open_;obtain⟨mA,mc,mb,mo,dK,-,-,-⟩:=Va.more.open_;have hrow:wr.rangeAt fb (GF+k*6) x.row:=Cw.out.2 wr jP.out k x.row zS
   obtain⟨n1,nT⟩:∃n,x.keep.length=n:=⟨_,rfl⟩;obtain⟨n2,hn2⟩:∃n,x.more.length=n:=⟨_,rfl⟩;rw[nT] at hkv;rw[hn2] at dK;have c3:wr.cell? ⟨fb,GF+k*6+3,none⟩=some (.slice kA n1 kc):=by rw[← hkv];exact hrow 3 _ rfl
   have c4:wr.cell? ⟨fb,GF+k*6+4,none⟩=some (.slice mA n2 mc):=by rw[← dK];exact hrow 4 _ rfl
   have j1:(k:Int)<(fl.length:Int):=oM;have hwk:IntKind.i64.wrap ((k:Int)+1)=(k:Int)+1:=cZ _ oM;clear hx Va hkv dK hrow nT hn2;by_cases g1:(600:Int)<(n1:Int)
   ·exact afM
   ·by_cases g2:(600:Int)<(n2:Int)
    ·exact afM
    ·go_wp2_with fail
     go_roundw
     case rel=>exact⟨k+1,oM,sM,gr.out⟩
     case measure=>simp[intOf]<;>omega
  ·have j1 : ¬ ((k:Int)<(fl.length:Int)):=oM
   have Vb:=δ (afO.out.still gr.out);have sQ:=δ (yx.out.still gr.out);obtain⟨w1,hw1⟩:∃W,wr=W:=⟨_,rfl⟩;rw[hw1] at jP Vb sQ ⊢;clear lJ gr afO yx hw1;have lJ:=δ jP.out;have HFA:=τ Vb.out (by have:=H4.out;omega:fl.length≤4);clear j1 jP;go_upto_region 9 with (first
    |(go_at_call 11;refine(aaO _).mono ?_;rintro e w2 ⟨p,v,rfl,M0,hV⟩
      have HV:=δ hV;clear hV))
   go_upto_region 12 with fail
   obtain⟨g,hg⟩:=μ w2.heap.size;rw[hg];generalize iz:World.alloc _ _=w3;have aC:η w3 g 95 #[ι 0,ι 0,ι 0,.slice none 0 0,.string ⟨#[]⟩,.slice none 0 0,ι 0,ι 0,.slice none 0 0,ι 0,ι 0]:=UO
   have h3:o4 w1 w3 p v g R0 1 false:=by
    have hu:υ w2 w3:=Ou
    have:=HV.out.ε.size;exact⟨1,M0,.slice none 0 0,.slice none 0 0,.slice none 0 0,[],.inl ⟨rfl,HV.out.still hu⟩,aC,eL.first _ _,oM⟩
   have H3:=δ h3;clear h3 aC iz hg HV;go_wp2_with fail
   go_loopw [7,10] (fun vv iv wr=>∃(k u:Nat) (R:bq),k≤l.length∧iv=ι k∧vv=.pointer (some ⟨u,0,none⟩)∧o4 w1 wr p u g R (1+6*k) false) (fun _ iv _=>l.length - (intOf iv).toNat)
   case atStart=>exact⟨0,v,R0,oM,rfl,rfl,H3.out⟩
   case round =>
    obtain⟨k,u,R,hk,rfl,rfl,hP⟩:=hrel;have H:=δ hP;have aoT:=HF.out.1;clear hP H3;by_cases hlt:k<l.length
    ·obtain rfl := Hl.out.1 oM
     obtain⟨x,hx⟩:=μ (l[k]);obtain⟨D,hD⟩:∃D:Int,(x.fR.toNat:Int)=D:=⟨_,rfl⟩;obtain⟨SS,CS⟩:∃S,str x.m.aW=S:=⟨_,rfl⟩;have Xo:x.row=[ϋ D,ι x.b.index,ι x.b.θ,x.ov,ι x.m.role,ι x.m.seen,ι x.m.aH,x.mv,.string SS,x.lv,ι x.at_,ι x.ep]:=by unfold jM.row;rw[hD,CS]
     have hcell:∀W,υ w1 W→W.rangeAt bA (off+k*12) [ϋ D,ι x.b.index,ι x.b.θ,x.ov,ι x.m.role,ι x.m.seen,ι x.m.aH,x.mv,.string SS,x.lv,ι x.at_,ι x.ep]:=fun W hW=>by
      have:=Cw.out.1 W (lJ.out.then hW φ) k x.row zS
      rwa [Xo] at this
     have HX:=cD (sQ.out.each x (hx ▸ eE hlt)) (HF.out.2 x (hx ▸ eE hlt)) (show x.row.toArray=#[ϋ D,ι x.b.index,ι x.b.θ,x.ov,ι x.m.role,ι x.m.seen,ι x.m.aH,x.mv,.string SS,x.lv,ι x.at_,ι x.ep] by rw[Xo]) aoT hcell;have j1:(k:Int)<(l.length:Int):=oM;have hwk:IntKind.i64.wrap ((k:Int)+1)=(k:Int)+1:=cZ _ oM;clear hx hD CS Xo hcell;go_wp2_with fail
     go_loopw [11] (fun jv wr=>∃(j:Nat) (hit:Bool),j≤fl.length∧jv=ι j∧o4 w1 wr p u g R (1+6*k) hit∧(hit=true→∃f ∈ fl,vI f.at_ (l.length:Int)=(k:Int))) (fun jv _=>fl.length - (intOf jv).toNat)
     case atStart=>exact⟨0,false,oM,rfl,H.out,fun e=>by simp at e⟩
     case round =>
      obtain⟨j,hit,hj,rfl,hQ,hht⟩:=hrel;have HQ:=δ hQ;have HHT:=δ hht;clear hQ hht;by_cases hjl:j<fl.length
      ·obtain rfl:=Hl.out.2 oM
       obtain⟨y,hy⟩:=μ (fl[j]);have afQ:=Vb.out.each y (hy ▸ eE hjl);have hrow:wr.rangeAt fb (GF+j*6) y.row:=Cw.out.2 wr (lJ.out.then HQ.out.ε φ) j y.row (by rw[lf,bu hjl,hy];rfl)
       have c0:wr.cell? ⟨fb,GF+j*6,none⟩=some (ι y.at_):=hrow 0 _ rfl;have c1:wr.cell? ⟨fb,GF+j*6+1,none⟩=some (ι y.bP):=hrow 1 _ rfl;have j2:(j:Int)<(fl.length:Int):=oM;have hwj:IntKind.i64.wrap ((j:Int)+1)=(j:Int)+1:=cZ _ oM;have HT:=δ (fun W=>aaV y.at_ (l.length:Int) oM oM W);obtain⟨t,ht⟩:=μ (vI y.at_ (l.length:Int));rw[ht] at HT;have HY:=aq afQ ht (show y ∈ fl from hy ▸ eE hjl);clear hrow afQ hy ht;by_cases cU:t=(k:Int)
       ·have hte:(t == (k:Int))=true:=by rw[jV];exact cU
        have HTK:=δ cU;clear cU;go_wp2_with (first
         |(go_at_call 45;refine(HT.out _).mono ?_;rintro r w4 ⟨rfl,rfl⟩)
         |(go_at_call 29;refine(abq y.bP HY.out.1.bP _).mono ?_;rintro r w5 ⟨sm,rfl,hs0,hs1,rfl⟩)
         |(go_at_call 28;refine(HQ.out.bP sm oM).mono ?_;rintro r w6 ⟨rfl,h6⟩;have H6:=δ h6;clear h6))
        go_roundw
        case rel=>exact⟨j+1,true,oM,sM,H6.out,fun _=>⟨y,HY.out.2.2,HY.out.2.1.trans HTK.out⟩⟩
        case measure=>simp[intOf]<;>omega
       ·have hte:(t == (k:Int))=false:=by rw[iX];exact cU
        clear cU;go_wp2_with (first
         |(go_at_call 45;refine(HT.out _).mono ?_;rintro r w4 ⟨rfl,rfl⟩))
        go_roundw
        case rel=>exact⟨j+1,hit,oM,sM,HQ.out,HHT.out⟩
        case measure=>simp[intOf]<;>omega
      ·have j2 : ¬((j:Int)<(fl.length:Int)):=oM
       go_upto_region 20 with fail
       clear j2 hj hjl;obtain⟨row,hB,hz,acZ⟩:=HQ.out.does (oN HX.out.2.2.2.1) HX.out.1 HX.out.2.1;have HD:=aq hB hz acZ;clear hB hz acZ;obtain⟨E2,dQ⟩:∃e,(eH R x).2=e:=⟨_,rfl⟩;have CN:=δ dQ;refine dW ?_;refine eo (S:=fun w'=>η w' g 95 row∧w'.rangeAt bA (off+k*12) [ϋ D,ι x.b.index,ι x.b.θ,x.ov,ι x.m.role,ι x.m.seen,ι x.m.aH,x.mv,.string SS,x.lv,ι x.at_,ι x.ep]) (T:=fun _=>false) kR ?_;have aE:=And.intro HD.out.1.drew (HX.out.2.2.2.2 _ HQ.out.ε.drew);refine ξ 0 ?_;refine iL 1 (.agg row) (lN rfl ak _ _ rfl g ak _ _ _ (fun w' hSw=>hSw.1) underlying95 rfl (by rw[HD.out.2.1];kernel_rfl)) ?_
       refine ξ 2 ?_;refine ξ 3 ?_;refine ξ 4 ?_;refine iL 5 (.agg #[ϋ D,ι x.b.index,ι x.b.θ,x.ov,ι x.m.role,ι x.m.seen,ι x.m.aH,x.mv,.string SS,x.lv,ι x.at_,ι x.ep]) (uf rfl (af7 ak _ _ rfl bA (off+k*12) ak [ϋ D,ι x.b.index,ι x.b.θ,x.ov,ι x.m.role,ι x.m.seen,ι x.m.aH,x.mv,.string SS,x.lv,ι x.at_,ι x.ep] _ (fun w' hSw=>hSw.2) underlying65 rfl kR)) ?_;refine vn (i:=6) (j:=11) kR rfl rfl (fun KK ο=>?ga) (fun KK ο=>?gb);case' gb =>
        go_simp
        have dH:=And.intro (HD.out.1.alloc (.cells #[ι 0,ι 0,ι 0,.slice none 0 0,.string ⟨#[]⟩,.slice none 0 0,ι 0,ι 0,.slice none 0 0,ι 0,ι 0] 95)).drew (HX.out.2.2.2.2 _ (HQ.out.ε.alloc (.cells #[ι 0,ι 0,ι 0,.slice none 0 0,.string ⟨#[]⟩,.slice none 0 0,ι 0,ι 0,.slice none 0 0,ι 0,ι 0] 95)).drew);refine ο.out _ _ dH ?_;clear ο;try simp only[av]
        refine bf 6 (fun KK ο=>?_);obtain⟨b,hb⟩:=μ wr.heap.size;go_simp
        have kM:=HD.out.2.2 _ (((ζ.refl _ wr).alloc (.cells #[ι 0,ι 0,ι 0,.slice none 0 0,.string ⟨#[]⟩,.slice none 0 0,ι 0,ι 0,.slice none 0 0,ι 0,ι 0] 95)).drew) (fun q=>q=b) (fun q e=>by have e2:q=b:=e;have h1:(World.alloc wr (.cells #[ι 0,ι 0,ι 0,.slice none 0 0,.string ⟨#[]⟩,.slice none 0 0,ι 0,ι 0,.slice none 0 0,ι 0,ι 0] 95)).drew.heap.size=wr.heap.size+1:=dx _ _;omega);rw[HX.out.2.2.1,dQ] at kM;refine kM.mono ?_;rintro r w4 ⟨cF,n2,M2,rfl,Av,⟨Xp,Xq,Xr,Vc,wm,l7⟩,⟨bW,cI,fT,jb,hr2,fL⟩,aJ,Xm,Xs,kf,dh,hl0,CQ,fX⟩;have Ci:=δ hr2;have yQ:=δ wm;clear wm hr2;have En:η w4 b 95 #[ι 0,ι 0,ι 0,.slice none 0 0,.string ⟨#[]⟩,.slice none 0 0,ι 0,ι 0,.slice none 0 0,ι 0,ι 0]:=Xm b _ _ rfl (by rw[← hb];exact(η.new wr _ _).drew) vr.1;have hp:Od w1 w4 p u g b R (eH R x) row cF (1+6*k) hit M2 n2:=⟨Av,⟨Xp,Xq,Xr,Vc,yQ.out,l7.more (fun q e=>e.elim (fun e=>e.elim (fun e=>.inl (.inl e)) (fun e=>.inl (.inr (.inl e)))) (fun e=>.inl (.inr (.inr e))))⟩,⟨bW,cI,fT,jb,Ci.out,fL.more (fun q e=>e.elim (fun e=>e.elim (fun e=>.inl (.inl e)) (fun e=>.inl (.inr (.inl e)))) (fun e=>.inl (.inr (.inr e))))⟩,aJ,⟨CQ,oM⟩,oM⟩
        have jO:=And.intro aJ (HX.out.2.2.2.2 _ Av.ε);refine ο.out _ _ jO ?_;clear ο;try simp only[av]
        refine ξ 7 ?_;refine ξ 8 ?_;refine ξ 9 ?_;refine ξ 10 ?_;try rw[hb]
        obtain⟨w5,fk⟩:=μ w4
        rw[fk] at hp En jO ⊢;have HP:=τ hp En;have aE:=jO;clear hp En fk jO dH Av l7 fL aJ Xm dh hl0 CQ fX hb kM
       case' ga =>
        go_simp
        have kM:=HD.out.2.2 _ (ζ.refl _ wr).drew (fun _=>False) (fun q e=>e.elim);rw[HX.out.2.2.1,dQ] at kM;refine kM.mono ?_;rintro r w4 ⟨cF,n2,M2,rfl,Av,⟨Xp,Xq,Xr,Vc,wm,l7⟩,⟨bW,cI,fT,jb,hr2,fL⟩,aJ,Xm,Xs,kf,dh,hl0,CQ,fX⟩;have Ci:=δ hr2;have yQ:=δ wm;clear wm hr2;have dH:=And.intro aJ (HX.out.2.2.2.2 _ Av.ε);refine ο.out _ _ dH ?_;clear ο;try simp only[av]
        refine ξ 7 ?_;refine ξ 8 ?_;refine ξ 9 ?_;refine ξ 10 ?_;refine bf 11 (fun KK ο=>?_);go_simp
        have hdz:wr.drew.heap.size=wr.heap.size:=rfl;obtain⟨b,hb⟩:=μ w4.heap.size;have hp:Od w1 (w4.alloc (.cells #[ι 0,ι 0,ι 0,.slice none 0 0,.string ⟨#[]⟩,.slice none 0 0,ι 0,ι 0,.slice none 0 0,ι 0,ι 0] 95)) p u g b R (eH R x) row cF (1+6*k) hit M2 n2:=⟨Av.still ((ζ.refl _ w4).alloc _),⟨Xp,Xq,Xr,Vc,yQ.out,(l7.more (fun q e=>e.elim (fun e=>e.elim (fun e=>.inl (.inl e)) (fun e=>.inl (.inr (.inl e)))) (fun e=>.inr oM))).still ((ζ.refl _ w4).alloc _)⟩,⟨bW,cI,fT,jb,Ci.out,(fL.more (fun q e=>e.elim (fun e=>e.elim (fun e=>.inl (.inl e)) (fun e=>.inl (.inr (.inl e)))) (fun e=>.inr oM))).still ((ζ.refl _ w4).alloc _)⟩,aJ.alloc _,⟨CQ,oM⟩,by have:=aJ.lt;omega⟩;have En:η (w4.alloc (.cells #[ι 0,ι 0,ι 0,.slice none 0 0,.string ⟨#[]⟩,.slice none 0 0,ι 0,ι 0,.slice none 0 0,ι 0,ι 0] 95)) b 95 #[ι 0,ι 0,ι 0,.slice none 0 0,.string ⟨#[]⟩,.slice none 0 0,ι 0,ι 0,.slice none 0 0,ι 0,ι 0]:=by rw[← hb];exact η.new w4 _ _
        have jO:=And.intro hp.blk (HX.out.2.2.2.2 _ (Av.ε.alloc (.cells #[ι 0,ι 0,ι 0,.slice none 0 0,.string ⟨#[]⟩,.slice none 0 0,ι 0,ι 0,.slice none 0 0,ι 0,ι 0] 95)));refine ο.out _ _ jO ?_;clear ο;try simp only[av]
        try rw[hb]
        obtain⟨w5,fk⟩:=μ (w4.alloc (.cells #[ι 0,ι 0,ι 0,.slice none 0 0,.string ⟨#[]⟩,.slice none 0 0,ι 0,ι 0,.slice none 0 0,ι 0,ι 0] 95))
        rw[fk] at hp En jO ⊢;have HP:=τ hp En;have aE:=jO;clear hp En fk jO dH Av l7 fL aJ Xm dh hl0 CQ fX hb kM
       all_goals
        have HO:=τ Xs kf;clear Xs kf dQ;refine bf 12 (fun KK ο=>?_);refine ud ak 95 _ _ ak b cF ak ak _ _ HP.out.2 (by rw[HO.out.2];rfl) HO.out.1 (by rw[HO.out.2];kernel_rfl) ?_
        intro w6 cY aB iT;obtain⟨hp6,E5⟩:=HP.out.1.store aB HP.out.2.ty cY;have cW:=And.intro E5.blk (HX.out.2.2.2.2 _ hp6.ε);refine ο.out _ _ cW ?_;clear ο;simp only[Act.put];refine ξ 13 ?_;refine ξ 14 ?_;refine dY ?_;refine dz ?_;have Im:=τ E5 HP.out.1.low;clear cY aB iT cW aE E5;rcases hp6 with ⟨hn,bt,hV⟩ | ⟨hh,hn,a,e,S,hN⟩
        ·have HV:=δ hV
         clear hV;obtain rfl:n2=E2:=hn.trans CN.out;clear hn;have nn:(n2 != n2)=false:=gZ
         go_upto_region 25 with (first
          |(go_at_call 33;refine HV.out.xZ.mono ?_;rintro r w10 ⟨rfl,rfl⟩)
          |(go_at_call 28;refine HV.out.ab4.mono ?_;rintro r w11 ⟨rfl,Xk,h11,s11⟩
            have ez:=τ h11 (Im.out.1.act s11 (fun q=>HV.out.oP));clear h11 s11))
         obtain⟨⟨y1,y2⟩,y3,y4⟩:=ez.out.2.sizes;have lF:=aF y1 y2 y3 y4;clear y1 y2 y3 y4;go_wp2_with (first
          |(refine eA 95 b ez.out.2.zY underlying95 (by rw[lF.out.2.2.2];kernel_rfl) ?_)
          |(refine fG rfl 95 _ _ rfl g cF rfl rfl _ _ ez.out.2.blk (by rw[lF.out.2.1,lF.out.2.2.2]) lF.out.2.2.1 (by rw[lF.out.2.2.2];kernel_rfl) ?_
            intro w7 dI bI jf;have H7:=δ (ez.out.2.aaW ez.out.1 Im.out.2.1 bI dI);clear dI bI jf))
         go_roundw
         case rel=>exact⟨k+1,u,(eH R x).1,oM,sM,rfl,H7.out.mono oM⟩
         case measure=>simp[intOf]<;>omega
        ·have HN := δ hN
         have HH:=δ hh;clear hN hh;subst hn;go_upto_region 31 with (first
          |(go_at_call 33;refine HN.out.xZ.mono ?_;rintro r w10 ⟨rfl,rfl⟩)
          |(go_at_call 34;refine HN.out.rotate.mono ?_;rintro r w11 ⟨rfl,Xk,h11,s11⟩
            have ez:=τ h11 (Im.out.1.act s11 (fun q=>HN.out.oP));clear h11 s11)
          |(go_at_call 51;refine(ajE ez.out.1 (oN HX.out.2.2.2.1) HFA.out.1 HFA.out.2 (by constructor<;>omega) (HHT.out HH.out)).mono ?_
            rintro r w12 ⟨u2,rfl,R3,bt,M12,h12,q12,s12⟩;have dU:=aq h12 (ez.out.2.act s12 (fun q=>ez.out.1.oP)) q12;clear h12 q12 s12))
         obtain⟨zZ,f1,f2,f3,f4,f5⟩:=dU.out.2.1.amp (w0:=w1) (p:=p);obtain⟨⟨y1,y2⟩,y3,y4⟩:=dU.out.2.1.sizes;obtain⟨rA,rc,Pz⟩:=dU.out.2.1.aoS;have lF:=cD y1 y2 y3 y4 Pz;have rP:=cD f1 f2 f3 @f4 @f5;clear f1 f2 f3 f4 f5;have HV3:=δ (dU.out.1.old (oN HX.out.2.2.2.1));obtain⟨Xt,Xu,Xv,Xw,Xx,Xy,Xz,XA,ra8,XB,Vd,Er⟩:=Tu y2;obtain⟨rb0,rb1,rb2,rb3,rb4,rb5,rb6,rb7,rb8,rb9,aoU,hrb⟩:=Tu y4;subst Er hrb;obtain rfl:ra8=.slice rA R.rows.length rc:=by simpa using Pz
         clear y1 y2 y3 y4 Pz;by_cases z1:E2=0∧R3=(eH R x).1
         ·obtain⟨z0,z1⟩:=z1
          have e0:(E2 == 0)=true:=by rw[jV];exact z0
          have fW:=dU.out.2.1.aad HV3.out;rw[fo z1] at fW;have QA:=τ fW z1;clear fW z0 z1;obtain⟨LJ,Ww,Wx,cb3,cb4,cb5,cb6,cb7,cb8,cb9,afR⟩:=dU.out.2.1.zY.Jt;go_wp2_with (first
           |(refine eA 95 b dU.out.2.1.zY underlying95 (by rw[lF.out.2.2.2.1];kernel_rfl) ?_)
           |(go_at_call 50;refine QA.out.1.mono ?_;rintro r w13 ⟨rfl,hU⟩
             have dR:=τ (dU.out.2.1.still hU) (dU.out.1.still hU);clear hU)
           |(refine eA 95 b dR.out.1.zY underlying95 (by rw[lF.out.2.2.2.1];kernel_rfl) ?_)
           |(refine eN 95 g #[rb0,rb1,rb2,rb3,rb4,rb5,rb6,rb7,rb8,rb9,aoU] dR.out.1.blk lF.out.2.2.1 ?_
             intro w7 dI bI jf;have H7:=δ (dR.out.1.aaW (QA.out.2 ▸ dR.out.2) Im.out.2.1 bI dI);clear dI bI jf))
          go_roundw
          case rel=>exact⟨k+1,u2,(eH R x).1,oM,sM,rfl,H7.out.mono oM⟩
          case measure=>simp[intOf]<;>omega
         ·have qD:R3=R∨(R.rows.length=24∧R3=R.mq):=by
           have hq:R3=R∨((eH R x).2=0∧R3=(eH R x).1)∨(R.rows.length=24∧R3=R.mq):=dU.out.2.2;rw[CN.out] at hq;rcases hq with e | e | e
           ·exact .inl e
           ·exact absurd e z1
           ·exact .inr e
          have PE:=δ qD;clear qD;by_cases z0:E2=0
          case' neg =>
           have e0:(E2 == 0)=false:=by rw[iX];exact z0
           go_upto_region 34 with fail
           obtain⟨w13,afS⟩:∃W,w12=W:=⟨_,rfl⟩;have dR:=τ dU.out.2.1 dU.out.1;rw[afS] at dR ⊢;clear e0 z0 z1 afS
          case' pos =>
           have e0:(E2 == 0)=true:=by rw[jV];exact z0
           have z2:R3≠(eH R x).1:=fun e=>z1 ⟨z0,e⟩
           have fW:=dU.out.2.1.aad HV3.out;rw[gI z2] at fW;have QA:=δ fW;clear fW z2 z0 z1;obtain⟨LJ,Ww,Wx,cb3,cb4,cb5,cb6,cb7,cb8,cb9,afR⟩:=dU.out.2.1.zY.Jt;go_upto_region 34 with (first
            |(refine eA 95 b dU.out.2.1.zY underlying95 (by rw[lF.out.2.2.2.1];kernel_rfl) ?_)
            |(go_at_call 50;refine QA.out.mono ?_;rintro r w13 ⟨rfl,hU⟩
              have dR:=τ (dU.out.2.1.still hU) (dU.out.1.still hU);clear hU))
           clear e0;clear LJ Ww Wx cb3 cb4 cb5 cb6 cb7 cb8 cb9 afR
          all_goals
           have Pa:=δ (dR.out.2.old (oN HX.out.2.2.2.1));have c8:w13.cell? ⟨g,8,none⟩=some (.slice rA R.rows.length rc):=dR.out.1.blk.cell 8;have sD:=δ (fun (W:World) (hW:υ w13 W)=>(dR.out.1.still hW).blk);have Gh:=δ (ζ.refl (fun _=>False) w13);by_cases z24:R.rows.length=24
           ·have e24:((R.rows.length:Int) == 24)=true:=by rw[jV];omega
            have apz:=δ z24;clear z24;by_cases zf:R3=R.mq
            ·have fW:∀W,υ w13 W→ς 50 #[.pointer (some ⟨u2,0,none⟩),.agg zZ] W fun r W'=>r=ώ (.bool true)∧υ W W':=fun W hW=>by
              have:=rP.out.2.2.2.1 (dR.out.1.still hW) (Pa.out.still hW);rw[fo zf] at this;exact this
             have AM:=τ fW zf;clear fW zf;obtain⟨XC,XD,XE,XF,XG,XH,XI,XJ,XK,XL,Ve⟩:=dR.out.1.blk.Jt;go_upto_region 35 with (first
              |(refine eA 95 g dR.out.1.blk underlying95 JP ?_)
              |(go_at_call 52;refine(rP.out.2.2.1 _).mono ?_;rintro r w15 ⟨rfl,hU⟩
                have Ky:=δ hU;clear hU)
              |(go_at_call 50;refine(AM.out.1 _ Ky.out).mono ?_;rintro r w16 ⟨rfl,hU⟩
                have GG:=δ (Ky.out.then hU φ);clear hU))
             clear c8 XC XD XE XF XG XH XI XJ XK XL Ve;go_wp2_with (first
              |(refine eA 95 g (sD.out _ GG.out) underlying95 JP ?_)
              |(go_at_call 52;refine(rP.out.2.2.1 _).mono ?_;rintro r w17 ⟨rfl,hU⟩
                have BZ:=δ (GG.out.then hU φ);clear hU)
              |(refine fG rfl 95 _ _ rfl g zZ rfl rfl _ _ (sD.out _ BZ.out) (by rw[rP.out.2.1];rfl) rP.out.1 (by rw[rP.out.2.1];kernel_rfl) ?_
                intro w18 afT vP aoV;have EN:=δ (rP.out.2.2.2.2 (dR.out.1.still BZ.out) (AM.out.2 ▸ dR.out.2.still BZ.out) Im.out.2.1 vP afT);clear afT vP aoV))
             go_roundw
             case rel=>exact⟨k+1,u2,R.mq,oM,sM,rfl,EN.out.mono oM⟩
             case measure=>simp[intOf]<;>omega
            ·have hR:R3=R:=by
              rcases PE.out with e | ⟨e1,e2⟩
              ·exact e
              ·exact absurd e2 zf
             have fW:∀W,υ w13 W→ς 50 #[.pointer (some ⟨u2,0,none⟩),.agg zZ] W fun r W'=>r=ώ (.bool false)∧υ W W':=fun W hW=>by
              have:=rP.out.2.2.2.1 (dR.out.1.still hW) (Pa.out.still hW);rw[gI zf] at this;exact this
             have hol:∀W,υ w13 W→ς 50 #[.pointer (some ⟨u2,0,none⟩),.agg #[Xt,Xu,Xv,Xw,Xx,Xy,Xz,XA,.slice rA R.rows.length rc,XB,Vd]] W fun r W'=>r=ώ (.bool true)∧υ W W':=fun W hW=>by
              have:=(dR.out.1.still hW).aae (Pa.out.still hW);rw[fo hR] at this;exact this
             have AM:=aq fW hol hR;clear fW hol zf hR;obtain⟨XC,XD,XE,XF,XG,XH,XI,XJ,XK,XL,Ve⟩:=dR.out.1.blk.Jt;go_upto_region 36 with (first
              |(refine eA 95 g dR.out.1.blk underlying95 JP ?_)
              |(go_at_call 52;refine(rP.out.2.2.1 _).mono ?_;rintro r w15 ⟨rfl,hU⟩
                have Ky:=δ hU;clear hU)
              |(go_at_call 50;refine(AM.out.1 _ Ky.out).mono ?_;rintro r w16 ⟨rfl,hU⟩
                have GG:=δ (Ky.out.then hU φ);clear hU))
             clear c8 XC XD XE XF XG XH XI XJ XK XL Ve;go_wp2_with (first
              |(refine eA 95 g (sD.out _ GG.out) underlying95 JP ?_)
              |(go_at_call 50;refine(AM.out.2.1 _ GG.out).mono ?_;rintro r w17 ⟨rfl,hU⟩
                have BZ:=δ (GG.out.then hU φ);clear hU))
             have Kw:=dR.out.2.still BZ.out;rw[AM.out.2.2] at Kw;exact afL
           ·have e24:((R.rows.length:Int) == 24)=false:=by rw[iX];omega
            have hR:R3=R:=by
             rcases PE.out with e | ⟨e1,e2⟩
             ·exact e
             ·exact absurd e1 z24
            have hol:∀W,υ w13 W→ς 50 #[.pointer (some ⟨u2,0,none⟩),.agg #[Xt,Xu,Xv,Xw,Xx,Xy,Xz,XA,.slice rA R.rows.length rc,XB,Vd]] W fun r W'=>r=ώ (.bool true)∧υ W W':=fun W hW=>by
             have:=(dR.out.1.still hW).aae (Pa.out.still hW);rw[fo hR] at this;exact this
            have AM:=τ hol hR;clear hol hR z24;go_wp2_with (first
             |(refine eA 95 g dR.out.1.blk underlying95 JP ?_)
             |(go_at_call 50;refine(AM.out.1 _ Gh.out).mono ?_;rintro r w17 ⟨rfl,hU⟩
               have BZ:=δ (Gh.out.then hU φ);clear hU))
            have Kw:=dR.out.2.still BZ.out;rw[AM.out.2] at Kw;exact afL
    ·have j1:¬((k:Int)<(l.length:Int)):=oM
     obtain⟨row,hz,hop⟩:=H.out.open_ oM;obtain⟨Xt,Xu,Xv,Xw,Xx,Xy,Xz,XA,ra8,XB,Vd,Er⟩:=Tu hz;subst Er;have EH:=τ hz hop;clear hz hop;go_upto_region 39 with (first
      |(go_at_call 16;refine EH.out.2.mono ?_;rintro r w5 ⟨z,rfl,Hg,mU,ha5⟩
        have H5:=aq Hg mU ha5;clear Hg mU ha5))
     obtain⟨ce0,ce1,ce2,ce3,ce4,ce5,ce6,ce7,ce8,ce9,apA⟩:=H5.out.2.1.Jt;go_wp2_with (first
      |(go_at_call 50;refine(H5.out.2.2 _ (ζ.refl _ _)).mono ?_;rintro r w6 ⟨rfl,hU⟩
        have gD:=δ (lJ.out.then (H5.out.1.then hU φ) φ);clear hU)
      |(go_at_call 26;refine(Sl _).mono ?_;rintro e w9 ⟨rfl,hU⟩;have HE:=δ (gD.out.then hU φ);clear hU))
     go_ret
     exact⟨rfl,HE.out⟩
end
section
open Go Go.ChangeShapes Go.WideShapes Go.ChangeAt Go.RowKit Go.Proofs.YtbhjgfibhegddaaGreat
theorem abu:laidOutB pinned.checked.prog=true:=kR
theorem amq:mapsRowed pinned.checked.prog=true:=kR
theorem amr:(pinned.checked.prog.stops == [])=true:=kR
theorem ams:(pinned.checked.prog.stopKnobs == [])=true:=kR
theorem alp:(Rows.vaultMetasRow.plainKeys == pinned.checked.prog.plainKeys)=true:=kR
theorem alq:pinned.checked.prog.stopsHeard=true:=kR
theorem alr:pinned.checked.prog.mayEnter=true:=kR
theorem als:(Rows.vaultMetasRow.lifted == pinned.checked.prog.liftsFinal)=true:=kR
theorem alu:(pinned.checked.prog.make == some Rows.vaultMetasRow.make)=true:=kR
theorem iG {a b:Bool} (ha:a=true) (hb:b=true):(a && b)=true:=by rw[ha,hb];rfl
end
end Go.Proofs.YtbhjgfibhegddaaGreat
