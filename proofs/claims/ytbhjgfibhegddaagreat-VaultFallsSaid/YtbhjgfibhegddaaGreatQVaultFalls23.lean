/-
  Parts of the proof of VaultFalls: Ref17D, Ref13G, Ref17C, Ref17E, SameB.
-/
import Derived.Test.YtbhjgfibhegddaaGreatQVaultFalls22
set_option maxRecDepth 100000
set_option maxHeartbeats 16000000
namespace Go.Proofs.YtbhjgfibhegddaaGreat
open Tryz
section
open Go Go.RowKit
instance:DecidableEq MetaM:=fun a b=>if h:a.role=b.role∧a.seen=b.seen∧a.aH=b.aH∧a.aZ=b.aZ∧a.aW=b.aW then isTrue (by obtain⟨h1,h2,h3,h4,h5⟩:=h;cases a;cases b;simp_all) else isFalse (by rintro rfl;exact h ⟨rfl,rfl,rfl,rfl,rfl⟩)
theorem alj {a b:MetaM} : a=b↔a.role=b.role∧a.seen=b.seen∧a.aH=b.aH∧a.aZ=b.aZ∧a.aW=b.aW:=⟨by rintro rfl;exact⟨rfl,rfl,rfl,rfl,rfl⟩,fun ⟨h1,h2,h3,h4,h5⟩=>by cases a;cases b;simp_all⟩
theorem aih {w:World} {a b:MetaM} {ta tb:TypeId} {va vb:Value} (ha:ax w ta 2 va (a.aZ.map cB)) (hb:ax w tb 2 vb (b.aZ.map cB)) :
 ς 97 #[.agg (dD a va),.agg (dD b vb)] w fun e w'=>e=ώ (.bool (decide (a=b)))∧υ w w':=by
 obtain⟨a1,a2,a3,l1,s1⟩:=a;obtain⟨b1,b2,b3,l2,s2⟩:=b;simp only at ha hb
 obtain⟨A,cap,bA,off,rfl,hcap,hl,hA,hat⟩:=ha.open_;obtain⟨B,fJ,bB,off2,rfl,th,hl2,hB,vT⟩:=hb.open_;simp only[bz] at hcap hl hA th hl2 hB;obtain⟨S1,cz⟩:∃S,str s1=S:=⟨_,rfl⟩;obtain⟨S2,bn⟩:∃S,str s2=S:=⟨_,rfl⟩;obtain⟨r,hr⟩:=μ (decide ((⟨a1,a2,a3,l1,s1⟩:MetaM)=⟨b1,b2,b3,l2,s2⟩));rw[hr];have hr2:decide (a1=b1∧a2=b2∧a3=b3∧l1=l2∧s1=s2)=r:=by rw[← hr,QX,alj]
 unfold dD;simp only[bz];rw[cz,bn];obtain⟨c,hc⟩:=μ w.heap.size;have H:=iw hat vT hr2 hc cz bn;clear hat vT ha hb hr hr2 hc cz bn;go_enter func97,ntmps97
 go_upto_region 1 with fail
 rw[H.out.2.2.2.1];generalize hw1:World.alloc (World.alloc _ _) _=w1;have aP:η w1 c 79 #[ι a1,ι a2,ι a3,.slice A l1.length cap,.string S1]:=by rw[← hw1,← H.out.2.2.2.1];exact(η.new w _ _).alloc _
 have aD:η w1 (c+1) 79 #[ι b1,ι b2,ι b3,.slice B l2.length fJ,.string S2]:=by
  have:=η.new (w.alloc (.cells #[ι a1,ι a2,ι a3,.slice A l1.length cap,.string S1] 79)) 79 #[ι b1,ι b2,ι b3,.slice B l2.length fJ,.string S2];rw[dx,H.out.2.2.2.1] at this;rw[← hw1];exact this
 have az:υ w w1:=Gx
 clear hw1;have HB:=aq aP aD az;have x3:w1.cell? ⟨c,3,none⟩=some (.slice A l1.length cap):=aP.cell 3;have y3:w1.cell? ⟨c+1,3,none⟩=some (.slice B l2.length fJ):=aD.cell 3;clear aP aD az;by_cases hn:l1.length=l2.length
 ·have q0:((l1.length:Int) != (l2.length:Int))=false:=by rw[hn];simp
  have HN:=δ hn;clear hn;go_wp2_with fail
  go_loopw [5] (fun i wr=>∃k:Nat,k≤l1.length∧i=ι k∧υ w1 wr∧l1.take k=l2.take k) (fun i _=>l1.length - (intOf i).toNat)
  case atStart=>exact⟨0,oM,rfl,ζ.refl _ _,rfl⟩
  case round =>
   obtain⟨k,hk,rfl,hu,cU⟩:=hrel;have L7:=HB.out.2.2.then hu φ;have HT:=aq cU hu hk;have HU:=τ hu L7;clear cU x3 y3;have x3:wr.cell? ⟨c,3,none⟩=some (.slice A l1.length cap):=(HB.out.1.ε hu id).cell 3;have y3:wr.cell? ⟨c+1,3,none⟩=some (.slice B l2.length fJ):=(HB.out.2.1.ε hu id).cell 3;by_cases hlt:k<l1.length
   ·obtain rfl:=hA oM
    obtain rfl:=hB (oN HN.out);have bM:k<l2.length:=by have:=HN.out;omega
    obtain⟨x,hx⟩:=μ (l1[k]);obtain⟨y,hy⟩:=μ (l2[k]'bM);have hrow:=H.out.1 wr _ L7 (fun _ _ e=>e) k (cB x) zS
    have nB:=H.out.2.1 wr _ L7 (fun _ _ e=>e) k (cB y) UN
    obtain⟨X1,qg⟩:∃X,str x.name=X:=⟨_,rfl⟩;obtain⟨X2,me⟩:∃X,x.yh=X:=⟨_,rfl⟩;obtain⟨Y1,wX⟩:∃X,str y.name=X:=⟨_,rfl⟩;obtain⟨Y2,wY⟩:∃X,y.yh=X:=⟨_,rfl⟩;have WR:wr.cell? ⟨bA,off+k*2,none⟩=some (.string X1):=hrow 0 _ (by rw[← qg];rfl)
    have WS:wr.cell? ⟨bA,off+k*2+1,none⟩=some (.bool X2):=hrow 1 _ (by rw[← me];rfl)
    have WT:wr.cell? ⟨bB,off2+k*2,none⟩=some (.string Y1):=nB 0 _ (by rw[← wX];rfl)
    have WU:wr.cell? ⟨bB,off2+k*2+1,none⟩=some (.bool Y2):=nB 1 _ (by rw[← wY];rfl)
    have DZ:∀W,(binOp .neq 46 (.agg #[.string X1,.bool X2]) (.agg #[.string Y1,.bool Y2])).run prog W=.ok (.bool (!decide (x=y))) W:=fun W=>by
     have:=ajw x y W;unfold cB at this;rw[qg,me,wX,wY] at this;exact this
    have HX:=aF hx hy hlt bM;have j1:(k:Int)<(l1.length:Int):=oM;have hwk:IntKind.i64.wrap ((k:Int)+1)=(k:Int)+1:=cZ _ oM;clear hrow nB hx hy qg me wX wY hu L7;by_cases he:x=y
    ·rw[fo he] at DZ
     have HE:=δ he;clear he;go_wp2_with fail
     go_quiet (fail)
     go_wp2_with fail
     go_roundw
     case rel =>
      refine⟨k+1,oM,sM,HU.out.1.drewN _,?_⟩;exact Tr
     case measure=>simp[intOf]<;>omega
    ·rw[gI he] at DZ
     have hrf:r=false:=by
      rw[← H.out.2.2.1,oc];intro hab;apply he
      rw[← HX.out.1,← HX.out.2.1];simp only[hab.2.2.2.1]
     subst hrf;clear he;go_wp2_with fail
     go_quiet (fail)
     go_wp2_with fail
     go_ret
     exact⟨rfl,HU.out.2.drewN _⟩
   ·have j1:¬(k:Int)<(l1.length:Int):=oM
    have v1:=HB.out.1.ε hu id;have v2:=HB.out.2.1.ε hu id;have e0:wr.cell? ⟨c,0,none⟩=some (ι a1):=v1.cell 0;have e1:wr.cell? ⟨c,1,none⟩=some (ι a2):=v1.cell 1;have e2:wr.cell? ⟨c,2,none⟩=some (ι a3):=v1.cell 2;have e4:wr.cell? ⟨c,4,none⟩=some (.string S1):=v1.cell 4;have f0:wr.cell? ⟨c+1,0,none⟩=some (ι b1):=v2.cell 0;have f1:wr.cell? ⟨c+1,1,none⟩=some (ι b2):=v2.cell 1;have f2:wr.cell? ⟨c+1,2,none⟩=some (ι b3):=v2.cell 2;have f4:wr.cell? ⟨c+1,4,none⟩=some (.string S2):=v2.cell 4;clear v1 v2 hu L7;have yX:r=(decide (a1=b1) && decide (a2=b2) && decide (a3=b3) && decide (s1=s2)):=by
     rw[← H.out.2.2.1,y9];simp only[gV,eD];have hl:l1=l2:=by
      have:=HT.out.1;rwa [dV oM,dV (oN HN.out)] at this
     exact⟨fun h=>⟨⟨⟨h.1,h.2.1⟩,h.2.2.1⟩,h.2.2.2.2⟩,fun h=>⟨h.1.1.1,h.1.1.2,h.1.2,hl,h.2⟩⟩
    have Qq:=δ yX;clear yX;by_cases z1:a1=b1
    ·have q1:(a1 == b1)=true:=by rw[jV];exact z1
     have Z1:=δ z1;clear z1;by_cases z2:a2=b2
     ·have q2:(a2 == b2)=true:=by rw[jV];exact z2
      have Z2:=δ z2;clear z2;by_cases z3:a3=b3
      ·have q3:(a3 == b3)=true:=by rw[jV];exact z3
       have Z3:=δ z3;clear z3;have q4:(S1.toList == S2.toList)=decide (s1=s2):=by rw[← H.out.2.2.2.2.1,← H.out.2.2.2.2.2];exact Nu _ _
       obtain rfl:r=decide (s1=s2):=by rw[Qq.out,fo Z1.out,fo Z2.out,fo Z3.out];simp
       go_wp2_with fail
       go_ret
       exact⟨rfl,HU.out.2⟩
      ·have q3:(a3 == b3)=false:=by rw[iX];exact z3
       have hrf:r=false:=by rw[Qq.out,gI z3];simp
       subst hrf;go_wp2_with fail
       go_ret
       exact⟨rfl,HU.out.2⟩
     ·have q2:(a2 == b2)=false:=by rw[iX];exact z2
      have hrf:r=false:=by rw[Qq.out,gI z2];simp
      subst hrf;go_wp2_with fail
      go_ret
      exact⟨rfl,HU.out.2⟩
    ·have q1:(a1 == b1)=false:=by rw[iX];exact z1
     have hrf:r=false:=by rw[Qq.out,gI z1];simp
     subst hrf;go_wp2_with fail
     go_ret
     exact⟨rfl,HU.out.2⟩
 ·have hrf:r=false:=by
   rw[← H.out.2.2.1,oc];rintro⟨-,-,-,rfl,-⟩;exact hn rfl
  have q0:((l1.length:Int) != (l2.length:Int))=true:=by rw[kq];omega
  subst hrf;go_wp2_with fail
  go_ret
  exact⟨rfl,HB.out.2.2⟩
theorem ax.Oa (w:World) (t:TypeId) (k:Nat):ax w t k (.slice none 0 0) []:=⟨none,0,rfl,bO _,sM,fun h=>absurd h sM⟩
def zA (w wr:World) (c:Nat) (eR:Value) (S:List ai):Prop :=
 υ w wr∧η wr c 93 #[.slice none 0 0]∧η wr (c+1) 93 #[eR]∧ax wr gC 2 eR (S.map bC)∧(∀q,eR.ownBlock=some q→c+1<q)∧w.heap.size=c
theorem zA.still {w wr wa:World} {c:Nat} {eR:Value} {S:List ai} (h:zA w wr c eR S) (ha:υ wr wa):zA w wa c eR S :=
 ⟨h.1.then ha φ,h.2.1.ε ha id,h.2.2.1.ε ha id,h.2.2.2.1.still ha,h.2.2.2.2.1,h.2.2.2.2.2⟩
theorem zA.step {w wr w2 w3:World} {c:Nat} {eR cI:Value} {S S2:List ai} (h:zA w wr c eR S) (mC:ax w2 gC 2 cI (S2.map bC)) (σ:υ wr w2) (hl:∀q,cI.ownBlock=some q→wr.heap.size≤q) (aC:η w3 (c+1) 93 #[cI]) (χ:ζ (· = c+1) w2 w3):zA w w3 c cI S2:=by
 obtain⟨h1,h2,h3,h4,h5,h6⟩:=h;have h7:=h3.lt;refine⟨(h1.then σ φ).then χ (fun q e=>.inr (oE e)),(h2.ε σ id).ε χ (fun e=>oE e),aC,mC.ym χ fun q hq _ e=>?_,fun q hq=>?_,h6⟩
 ·have:=hl q hq
  have e2:q=c+1:=e;omega
 ·have:=hl q hq
  omega
theorem anh {w:World} {ty:TypeId} {pv:Value} {l:List ai} (hO:ax w ty 2 pv (l.map bC)) (hs:∀q ∈ l,q.1.length≤1000000∧q.2.length≤1000000) :
 ς 154 #[pv] w fun e w'=>∃fN,e=ώ (.tuple #[.agg #[fN],ι (fM l).2])∧ax w' gC 2 fN ((fM l).1.map bC)∧υ w w'∧(∀q,fN.ownBlock=some q→w.heap.size≤q):=by
 obtain⟨A,cap,b,off,rfl,hcap,hl,hA,hat⟩:=hO.open_;simp only[bz] at hcap hl hA ⊢;have hrow:∀W,υ w W→Sz W b off l:=fun W hW k h=>hat W _ hW (fun _ _ e=>e) k (bC l[k]) UQ
 obtain⟨R,hR⟩:=μ (fM l);rw[hR];have hR0:R=if 48<l.length then ([],6) else lI [] l:=hR.symm
 have HF:=aq hrow hs hR0;obtain⟨c,hc⟩:=μ w.heap.size;have Hc:=δ hc;clear hrow hs hat hc hO hR hR0;go_enter func154,ntmps154
 go_upto_region 2 with fail
 rw[Hc.out];generalize hw1:World.alloc (World.alloc _ _) _=w1;have h1:zA w w1 c (.slice none 0 0) []:=by
  have aP:η w1 c 93 #[.slice none 0 0]:=O6
  have pF:η w1 (c+1) 93 #[.slice none 0 0]:=by
   have:=η.new (w.alloc (.cells #[.slice none 0 0] 93)) 93 #[.slice none 0 0];rw[dx,Hc.out] at this;rw[← hw1];exact this
  have az:υ w w1:=Gx
  exact⟨az,aP,pF,ax.Oa _ _ _,by simp[Value.ownBlock],Hc.out⟩
 have H1:=δ h1;clear h1 hw1;by_cases h48:(48:Int)<(l.length:Int)
 ·have hR:R=([],6):=by rw[HF.out.2.2,π oM]
  subst hR;go_wp2_with (first
   |(refine lM rfl 93 _ rfl (c+1) rfl _ #[.slice none 0 0] _ H1.out.2.2.1 underlying93 rfl kR ?_)
   |(refine eN 93 c #[.slice none 0 0] H1.out.2.1 (o_ rfl) ?_
     intro w3 aC χ fY))
  exact cJ (jk rfl _ _ c _ _ _ _ rfl aC underlying93 rfl kR _ rfl) rfl ⟨.slice none 0 0,rfl,ax.Oa _ _ _,H1.out.1.then χ (fun q e=>.inr (oF e Hc.out)),by simp[Value.ownBlock]⟩
 have hR:lI [] l=R:=by rw[HF.out.2.2,ν oM]
 have HR:=δ hR;clear hR;go_wp2_with fail
 go_loopw [5,6,7,8,9,10] (fun i _ _ _ _ _ wr=>∃(k:Nat) (eR:Value) (T:List ai),k≤l.length∧i=ι (k:Int)∧zA w wr c eR T∧lI T (l.drop k)=R∧gx T∧(∀q ∈ T,q.1.length≤1000000)∧T.length≤k) (fun i _ _ _ _ _ _=>l.length - (intOf i).toNat)
 case atStart=>exact⟨0,.slice none 0 0,[],oM,rfl,H1.out,HR.out,List.Pairwise.nil,sM,bO _⟩
 case round =>
  obtain⟨k,eR,T,hk,rfl,hD,hE,hT,uO,iN⟩:=hrel;have HD:=cD hD hT uO iN (by omega:T.length≤1000);have hwk:IntKind.i64.wrap ((k:Int)+1)=(k:Int)+1:=cZ _ oM;clear hD hT uO;by_cases hlt:k<l.length
  ·obtain rfl:=hA oM
   have j1:(k:Int)<(l.length:Int):=oM;obtain⟨o,ho⟩:=μ (l[k]);have jh:=HF.out.2.1 _ (eE hlt);rw[vc hlt,ho] at hE;rw[ho] at jh;obtain⟨P,hP⟩:=μ (str o.1);obtain⟨V,hV⟩:∃P,str o.2=P:=⟨_,rfl⟩;have hrw:∀W,υ w W→W.rangeAt b (off+k*2) [.string P,.string V]:=fun W hW=>by
    have:=HF.out.1 W hW k hlt;rw[ho] at this;unfold bC at this;rwa [hP,hV] at this
   have lX:P.data.toList=o.1:=DC
   have kV:V.data.toList=o.2:=by rw[← hV,cA]
   have jc:P.size≤1000000:=by rw[← hP,bR];exact jh.1
   have sC:V.size=o.2.length:=JU
   have hcut:=fun W=>acR P jc W
   unfold Gy at hcut;obtain⟨a,ha⟩:=μ (str (nE P.data.toList).1);obtain⟨b',hb'⟩:∃a,str (nE P.data.toList).2.1=a:=⟨_,rfl⟩;obtain⟨B,hB⟩:∃a,(nE P.data.toList).2.2=a:=⟨_,rfl⟩;simp only[ha,hb',hB] at hcut;rw[lX] at hB;have aD:jF o.1=B:=hB;have WZ:wr.cell? ⟨b,off+k*2,none⟩=some (.string P):=hrw wr HD.out.1.1 0 _ rfl;have HX:=p7 hrw lX kV jc aD sC hE;have L6:=δ hcut;clear jh hrw lX kV jc hcut ha hb' hB aD hE ho hP hV sC;by_cases jI:B=false∨(32:Int)<(V.size:Int)
   ·have pF:R=([],1):=by rw[← HX.out.2.2.2.2.2.2];exact SA (by rw[HX.out.2.2.2.2.1,← HX.out.2.2.2.2.2.1];exact jI.imp id fun h=>by omega)
    subst pF;have OK:=δ jI;cases B
    all_goals
     clear jI;first
     |(have h32:(32:Int)<(V.size:Int):=by have:=OK.out;simpa using this)
     | skip
     go_wp2_with (first
      |(go_at_call 199
        refine(L6.out _).mono ?_;rintro e w6 ⟨rfl,aB⟩;have H6:=δ (HD.out.1.still aB);have Qp:w6.cell? ⟨b,off+k*2+1,none⟩=some (.string V):=HX.out.1 _ H6.out.1 1 _ rfl;clear aB)
      |(refine eN 93 c #[.slice none 0 0] H6.out.2.1 (o_ rfl) ?_
        intro w7 dI bI jf))
     exact cJ (jk rfl _ _ c _ _ _ _ rfl dI underlying93 rfl kR _ rfl) rfl ⟨.slice none 0 0,rfl,ax.Oa _ _ _,H6.out.1.then bI (fun q e=>.inr (oF e Hc.out)),by simp[Value.ownBlock]⟩
   ·obtain rfl:B=true:=by cases B<;>simp_all
    have h32:¬(32:Int)<(V.size:Int):=fun h=>jI (.inr h)
    have JH:¬(jF o.1=false∨32<o.2.length):=by rw[HX.out.2.2.2.2.1,← HX.out.2.2.2.2.2.1];simp;omega
    have HG:=δ JH;clear jI JH;go_upto_region 10 with (first
     |(go_at_call 199
       refine(L6.out _).mono ?_;rintro e w6 ⟨rfl,aB⟩;have E5:=HD.out.1.still aB;have Qp:w6.cell? ⟨b,off+k*2+1,none⟩=some (.string V):=HX.out.1 _ E5.1 1 _ rfl;have H6:=δ E5;clear aB E5))
    clear WZ Qp;obtain⟨F,hF⟩:=μ (js P.data.toList T);obtain⟨TH,W4⟩:=μ (iF P.data.toList T);have W5:=ajz (k:=P.data.toList) HD.out.2.1;rw[W4] at W5;have ED:=aq hF W4 W5;clear hF W4 W5;refine dW ?_;refine eo (S:=fun w'=>η w' (c+1) 93 #[eR]∧w'.cell? ⟨b,off+k*2,none⟩=some (.string P)) (T:=fun _=>false) kR ?_;have aE:η w6.drew (c+1) 93 #[eR]∧w6.drew.cell? ⟨b,off+k*2,none⟩=some (.string P):=⟨H6.out.2.2.1.drew,HX.out.1 _ H6.out.1.drew 0 _ rfl⟩;refine iL 0 (.agg #[eR]) (lN rfl ak _ _ rfl (c+1) ak _ _ _ (fun w' hSw=>hSw.1) underlying93 rfl kR) ?_;refine ξ 1 ?_;refine ξ 2 ?_;refine ξ 3 ?_;refine ξ 4 ?_;refine aX 5 (fun w' hSw=>hSw.2) ?_;refine bf 6 (fun KK ο=>?_);go_simp
    refine(S8 (H6.out.2.2.2.1.still (ζ.refl _ w6).drew) HD.out.2.2.1 P HX.out.2.2.2.1).mono ?_;rw[ED.out.1,ED.out.2.1];rintro e w7 ⟨rfl,bI⟩;have Qr:=(H6.out.still (ζ.refl _ w6).drew).still bI;have mB:η w7 (c+1) 93 #[eR]∧w7.cell? ⟨b,off+k*2,none⟩=some (.string P):=⟨Qr.2.2.1,HX.out.1 _ Qr.1 0 _ rfl⟩;have H7:=δ Qr;refine ο.out _ _ mB ?_;clear ο Qr bI;refine ξ 7 ?_;refine ξ 8 ?_;refine ξ 9 ?_;refine ξ 10 ?_;refine ξ 11 ?_;refine dY ?_;refine dz ?_;clear aE mB;cases TH
    ·have cy:=aaI (r:=l.drop (k+1)) HG.out (by rw[← HX.out.2.1];exact ED.out.2.2)
     have mQ:=δ (cy.symm.trans HX.out.2.2.2.2.2.2);clear cy;go_upto_region 13 with fail
     refine dW ?_;refine eo (S:=fun w'=>η w' (c+1) 93 #[eR]∧w'.cell? ⟨b,off+k*2,none⟩=some (.string P)∧w'.cell? ⟨b,off+k*2+1,none⟩=some (.string V)) (T:=fun i=>i == 12) kR ?_;have aE:η w7.drew (c+1) 93 #[eR]∧w7.drew.cell? ⟨b,off+k*2,none⟩=some (.string P)∧w7.drew.cell? ⟨b,off+k*2+1,none⟩=some (.string V):=⟨H7.out.2.2.1.drew,HX.out.1 _ H7.out.1.drew 0 _ rfl,HX.out.1 _ H7.out.1.drew 1 _ rfl⟩;refine iL 0 (.agg #[eR]) (lN rfl ak _ _ rfl (c+1) ak _ _ _ (fun w' hSw=>hSw.1) underlying93 rfl kR) ?_;refine ξ 1 ?_;refine ξ 2 ?_;refine ξ 3 ?_;refine ξ 4 ?_;refine aX 5 (fun w' hSw=>hSw.2.1) ?_;refine ξ 6 ?_;refine ξ 7 ?_;refine ξ 8 ?_;refine ξ 9 ?_;refine aX 10 (fun w' hSw=>hSw.2.2) ?_;refine bf 11 (fun KK ο=>?_);go_simp
     refine(ab0 (H7.out.2.2.2.1.still (ζ.refl _ w7).drew) HD.out.2.2.1 (oN HD.out.2.2.2.2) P V HX.out.2.2.2.1).mono ?_;rintro e w8 ⟨lv8,rfl,afu,Kt,sE⟩;have W6:=afu.any;have cT:υ w7 w8:=(ζ.refl _ w7).drew.then Kt φ;have iK:η w8 (c+1) 93 #[eR]∧w8.cell? ⟨b,off+k*2,none⟩=some (.string P)∧w8.cell? ⟨b,off+k*2+1,none⟩=some (.string V):=⟨aE.1.ε Kt id,HX.out.1 _ (H7.out.1.drew.then Kt φ) 0 _ rfl,HX.out.1 _ (H7.out.1.drew.then Kt φ) 1 _ rfl⟩;refine ο.out _ _ iK ?_;clear ο afu Kt;refine lG 12 (fun KK ο=>?_);rw[π (show Region.wanted _ _=true by rfl)];refine IG _ _ _ rfl (c+1) #[lv8] rfl rfl _ _ iK.1 rfl (o_ W6.one) kR (fun w9 dy eW nP=>?_);refine ο.out _ _ ?_;clear ο;simp only[Act.put];refine dY ?_;refine dz ?_;have L8:=zA.step H7.out W6 cT sE dy eW;rw[HX.out.2.1,HX.out.2.2.1] at L8;have H8:=δ L8;clear L8 W6 cT sE dy eW;go_wp2_with fail
     go_roundw
     case rel =>
      refine⟨k+1,lv8,jJ o.1 o.2 T,oM,sM,H8.out,mQ.out,C9 HD.out.2.1,fun q hq=>?_,ic (Sc _ _ _) oM⟩;rcases (Bd HD.out.2.1 q).1 hq with rfl | ⟨hq,-⟩
      ·rw[← HX.out.2.1]
       have:=HX.out.2.2.2.1;simpa using this
      ·exact HD.out.2.2.1 q hq
     case measure=>simp[intOf]<;>omega
    ·have pF:R=([],5):=by rw[← HX.out.2.2.2.2.2.2];exact ZN HG.out (by rw[← HX.out.2.1];exact ED.out.2.2)
     subst pF;go_wp2_with (first
      |(refine eN 93 c #[.slice none 0 0] H7.out.2.1 (o_ rfl) ?_
        intro w8 jB cT kX))
     exact cJ (jk rfl _ _ c _ _ _ _ rfl jB underlying93 rfl kR _ rfl) rfl ⟨.slice none 0 0,rfl,ax.Oa _ _ _,H7.out.1.then cT (fun q e=>.inr (oF e Hc.out)),by simp[Value.ownBlock]⟩
  ·obtain rfl:k=l.length:=oM
   have hRT:R=(T,0):=by rw[← hE,qj oM];rfl
   subst hRT;have j1:¬(l.length:Int)<(l.length:Int):=oM;have HO1:=δ (o_ HD.out.1.2.2.2.1.one);clear hE;go_wp2_with (first
    |(refine lM rfl 93 _ rfl (c+1) rfl _ #[eR] _ HD.out.1.2.2.1 underlying93 rfl kR ?_)
    |(refine eN 93 c #[eR] HD.out.1.2.1 HO1.out ?_
      intro w3 aC χ fY))
   refine cJ (jk rfl _ _ c _ _ _ _ rfl aC underlying93 rfl kR _ rfl) rfl ⟨eR,rfl,HD.out.1.2.2.2.1.ym χ (fun q hq _ e=>?_),HD.out.1.1.then χ (fun q e=>.inr (oF e Hc.out)),fun q hq=>?_⟩
   ·have:=HD.out.1.2.2.2.2.1 q hq
    have e2:q=c:=e;omega
   ·have:=HD.out.1.2.2.2.2.1 q hq
    have:=Hc.out;omega
theorem O8 {P:Prop} (h:P:=by have hu:=H2.out.2.2.2.then au (fun q e=>.inr (oF e Hc.out));first| exact .inr ⟨dC,rfl,hu⟩ | exact⟨rfl,hu⟩):P:=h
theorem afv {P:Prop} (h:P:=by have hu:=H5.out.2.2.2.1.then au (fun q e=>.inr (oF e Hc.out));first| exact .inr ⟨h0,rfl,hu⟩ | exact⟨rfl,hu⟩):P:=h
def Dw (m:MetaM) (l:List ai) (at_ ep:Int):Int:=if dF m=false∨mK at_ ep=false then 1 else (fM l).2
theorem Qs {P:Prop} (h:P:=by
 clear hp2;go_wp2_with (first
  |(refine gp 95 c H2.out.1 underlying95 ?_)
  |(refine eN 95 (c+2) #[ι a,ι b,ι d,mv,.string S,lv,ι at_,ι ep,rv,ι pr,ι ky] H2.out.2.2.1 gR.out.1 ?_
    intro w4 aJ au dh))
 refine cJ (jk rfl _ _ (c+2) _ _ _ _ rfl aJ underlying95 rfl kR _ rfl) rfl O8):P:=h
theorem ahu {w:World} {a b d:Int} {mv:Value} {S:ByteArray} {lv:Value} {at_ ep:Int} {rv:Value} {pr ky:Int} (h1:mv.oneCell'=true) (h2:lv.oneCell'=true) (h3:rv.oneCell'=true) (m:MetaM) {ty:TypeId} {bW:Value} (dK:ax w ty 2 bW (m.aZ.map cB)) (hs:∀x ∈ m.aZ,x.name.length≤1000000) {typ:TypeId} {pv:Value} {l:List ai} (hO:ax w typ 2 pv (l.map bC)) (dJ:∀q ∈ l,q.1.length≤1000000∧q.2.length≤1000000) (eY fS:Int) :
 ς 95 #[.agg (j_ a b d mv S lv at_ ep rv pr ky),.agg (dD m bW),pv,ι eY,ι fS] w fun e w' =>
  (Dw m l eY fS=0∧∃cV,e=ώ (.tuple #[.agg (j_ m.role m.seen m.aH bW (str m.aW) cV eY fS (.slice none 0 0) fS ky),ι 0])∧ax w' gC 2 cV ((fM l).1.map bC)∧υ w w'∧(∀q,cV.ownBlock=some q→w.heap.size≤q)) ∨
  (Dw m l eY fS≠0∧e=ώ (.tuple #[.agg (j_ a b d mv S lv at_ ep rv pr ky),ι (Dw m l eY fS)])∧υ w w'):=by
 have eX:=fun W (hW:υ w W)=>aab m (dK.still hW) hs
 have mE:=fun W (hW:υ w W)=>anh (hO.still hW) dJ
 have hone:=dK.one;have aoM:=hO.one;obtain⟨S2,bn⟩:=μ (str m.aW);obtain⟨B,hB⟩:=μ (dF m);obtain⟨R1,R2,hR⟩:∃R1 R2,fM l=(R1,R2):=⟨_,_,rfl⟩;obtain⟨E,hE⟩:=μ (Dw m l eY fS);have dQ:E=if B=false∨mK eY fS=false then 1 else R2:=by rw[← hE];unfold Dw;rw[hB,hR]
 unfold dD at eX ⊢;rw[bn,hB] at eX;rw[bn,hE];simp only[hR] at mE ⊢;have gR:=aq (vq (a:=a) (b:=b) (c:=d) (S:=S) (at_:=at_) (ep:=ep) (pr:=pr) (ky:=ky) h1 h2 h3) h3 (abo (a:=m.role) (b:=m.seen) (c:=m.aH) (S:=S2) hone);have HM2:=δ hone;obtain⟨c,hc⟩:=μ w.heap.size;have Hc:=δ hc;have nS:=τ eX mE;have HE:=δ dQ;clear hc h1 h2 h3 eX hone bn hB dK hs hO dJ mE hR hE dQ aoM;unfold j_ at gR ⊢;go_enter func95,ntmps95
 go_upto_region 1 with fail
 rw[Hc.out];generalize hw1:World.alloc (World.alloc (World.alloc _ _) _) _=w1;obtain⟨aP,hM1,qh,az⟩:=ab1 w #[ι a,ι b,ι d,mv,.string S,lv,ι at_,ι ep,rv,ι pr,ι ky] #[ι m.role,ι m.seen,ι m.aH,bW,.string S2] #[ι 0,ι 0,ι 0,.slice none 0 0,.string ⟨#[]⟩,.slice none 0 0,ι 0,ι 0,.slice none 0 0,ι 0,ι 0] Hc.out w1 hw1;have H1:=aF aP hM1 qh az;clear hw1 aP hM1 qh az;cases B
 ·obtain rfl:E=1:=by rw[HE.out,π (.inl rfl)]
  go_wp2_with (first
   |(refine gp 79 (c+1) H1.out.2.1 underlying79 ?_)
   |(go_at_call 42
     refine(nS.out.1 _ H1.out.2.2.2).mono ?_;rintro e w2 ⟨rfl,σ⟩;have H2:=aF (H1.out.1.ε σ id) (H1.out.2.1.ε σ id) (H1.out.2.2.1.ε σ id) (H1.out.2.2.2.then σ φ);clear σ)
   |(refine gp 95 c H2.out.1 underlying95 ?_)
   |(refine eN 95 (c+2) #[ι a,ι b,ι d,mv,.string S,lv,ι at_,ι ep,rv,ι pr,ι ky] H2.out.2.2.1 gR.out.1 ?_
     intro w4 aJ au dh))
  refine cJ (jk rfl _ _ (c+2) _ _ _ _ rfl aJ underlying95 rfl kR _ rfl) rfl O8
 go_upto_region 3 with (first
  |(refine gp 79 (c+1) H1.out.2.1 underlying79 ?_)
  |(go_at_call 42
    refine(nS.out.1 _ H1.out.2.2.2).mono ?_;rintro e w2 ⟨rfl,σ⟩;have H2:=aF (H1.out.1.ε σ id) (H1.out.2.1.ε σ id) (H1.out.2.2.1.ε σ id) (H1.out.2.2.2.then σ φ);clear σ))
 cases hp:mK eY fS
 ·obtain rfl:E=1:=by rw[HE.out,π (.inr hp)]
  have hp2:¬(eY=0∧fS=0)∧¬(1≤eY∧eY≤4611686018427387904∧1≤fS):=by
   unfold mK at hp;rw[Bool.or_eq_false_iff,oc,oc] at hp;exact hp
  clear hp;by_cases z0:eY=0
  ·subst z0
   have hne:(fS != 0)=true:=by rw[kq];intro e;exact hp2.1 ⟨rfl,e⟩
   exact Qs
  ·have bK:(eY == 0)=false:=by rw[iX];exact z0
   have aY:(eY != 0)=true:=by rw[kq];exact z0
   have apw:=δ hp2;by_cases l1:eY<1
   ·exact Qs
   ·by_cases g1:(4611686018427387904:Int)<eY
    ·exact Qs
    ·have e1:fS<1:=oM
     exact Qs
 ·have B7:E=R2:=by rw[HE.out,ν (by rw[hp];simp)]
  have Ac:=δ B7;have hp2:(eY=0∧fS=0)∨(1≤eY∧eY≤4611686018427387904∧1≤fS):=by
   unfold mK at hp;rw[IA,eD,eD] at hp;exact hp
  clear B7 hp;have hb:((eY == 0)=true∧(eY != 0)=false∧(fS != 0)=false)∨((eY == 0)=false∧(eY != 0)=true∧¬eY<1∧¬(4611686018427387904:Int)<eY∧¬fS<1):=by
   rcases hp2 with ⟨rfl,rfl⟩ | ⟨x1,x2,x3⟩
   ·exact .inl ⟨rfl,rfl,rfl⟩
   ·exact .inr ⟨by rw[iX];omega,by rw[kq];omega,oM,oM,oM⟩
  clear hp2;rcases hb with ⟨b1,b2,b3⟩ | ⟨b1,b2,b3,b4,b5⟩
  all_goals
   go_upto_region 5 with fail
   go_upto_region 6 with (first
    |(go_at_call 154
      refine(nS.out.2 _ H2.out.2.2.2).mono ?_;rintro e w3 ⟨cV,rfl,m_,χ,fV⟩;have oz:=o_ m_.one)
    |(refine eN 93 w3.heap.size #[cV] (η.new w3 _ _) oz ?_
      intro w5 aK ay iQ))
   obtain⟨g,hg⟩:=μ w3.heap.size;rw[hg] at aK ay ⊢;have fC:c+2<g:=by have:=(H2.out.2.2.1.ε χ id).lt;omega
   have vU:υ w2 w5:=(χ.alloc _).then ay (fun q e=>.inr (oF e χ.size));have gj:υ w3 w5:=((ζ.refl _ w3).alloc _).then ay (fun q e=>.inr (oE e));have H5:=δ (And.intro (H2.out.1.ε vU id) (And.intro (H2.out.2.1.ε vU id) (And.intro (H2.out.2.2.1.ε vU id) (And.intro (H2.out.2.2.2.then vU φ) (And.intro aK (And.intro (m_.still gj) (And.intro fV (And.intro fC (H2.out.2.2.2.size)))))))));clear vU gj aK ay iQ hg fC χ m_ b1 b2 b3;by_cases h0:R2=0
   ·subst h0
    obtain rfl:E=0:=Ac.out;go_upto_region 9 with (first
     |(refine gp 79 (c+1) H5.out.2.1 underlying79 ?_)
     |(refine ze rfl 79 _ _ rfl c 0 #[ι m.role,ι m.seen,ι m.aH,bW,.string S2] rfl rfl _ _ #[ι m.role,ι m.seen,ι m.aH,bW,.string S2,lv,ι at_,ι ep,rv,ι pr,ι ky] H5.out.1 sM rfl gR.out.2.2 kR ?_
       intro w6 cY aB iT))
    have H6:=aF cY (H5.out.2.2.2.2.1.ε aB (fun e=>oF e H5.out.2.2.2.2.2.2.2.1)) aB (o_ H5.out.2.2.2.2.2.1.one);clear cY aB iT;go_upto_region 10 with (first
     |(refine gp 93 g H6.out.2.1 underlying93 ?_)
     |(refine ze rfl 93 _ _ rfl c 5 #[cV] rfl rfl _ _ #[ι m.role,ι m.seen,ι m.aH,bW,.string S2,cV,ι at_,ι ep,rv,ι pr,ι ky] H6.out.1 sM rfl H6.out.2.2.2 kR ?_
       intro w7 dI bI jf))
    have H7:=τ dI bI;clear dI bI jf;go_upto_region 11 with (first
     |(refine gJ rfl 3 _ _ rfl c 6 (ι eY) rfl rfl _ _ H7.out.1 sM rfl kR ?_
       intro w8 jB cT kX))
    rw[show (#[ι m.role,ι m.seen,ι m.aH,bW,.string S2,cV,ι at_,ι ep,rv,ι pr,ι ky]:Array Value).setIfInBounds 6 (ι eY)=#[ι m.role,ι m.seen,ι m.aH,bW,.string S2,cV,ι eY,ι ep,rv,ι pr,ι ky] from rfl] at jB;have H8:=τ jB cT;clear jB cT kX;go_upto_region 12 with (first
     |(refine gJ rfl 3 _ _ rfl c 7 (ι fS) rfl rfl _ _ H8.out.1 sM rfl kR ?_
       intro w9 dy eW nP))
    rw[show (#[ι m.role,ι m.seen,ι m.aH,bW,.string S2,cV,ι eY,ι ep,rv,ι pr,ι ky]:Array Value).setIfInBounds 7 (ι fS)=#[ι m.role,ι m.seen,ι m.aH,bW,.string S2,cV,ι eY,ι fS,rv,ι pr,ι ky] from rfl] at dy;have UR:ζ (· = c) w5 w9:=((H6.out.2.2.1.then H7.out.2 (fun _ e=>.inl e)).then H8.out.2 (fun _ e=>.inl e)).then eW (fun _ e=>.inl e);have hfg:=fun W=>Sk (w:=W) (a:=m.role) (b:=m.seen) (d:=m.aH) (S:=S2) (at_:=eY) (ep:=fS) (rv:=rv) (pr:=pr) (ky:=ky) HM2.out H5.out.2.2.2.2.2.1.one
    unfold j_ at hfg;have H9:=aq dy (H5.out.2.2.1.ε UR (fun e=>oE e)) UR;have rP:=δ hfg;have acV:=δ (vq (a:=m.role) (b:=m.seen) (c:=m.aH) (S:=S2) (at_:=eY) (ep:=fS) (rv:=.slice none 0 0) (pr:=fS) (ky:=ky) HM2.out H5.out.2.2.2.2.2.1.one rfl);unfold j_ at acV;clear dy eW nP UR hfg;go_wp2_with (first
     |(refine gp 95 c H9.out.1 underlying95 ?_)
     |(go_at_call 52
       refine(rP.out _).mono ?_;rintro e w10 ⟨rfl,fE⟩;have gT:=τ (H9.out.2.1.ε fE id) fE;clear fE)
     |(refine eN 95 (c+2) #[ι m.role,ι m.seen,ι m.aH,bW,.string S2,cV,ι eY,ι fS,.slice none 0 0,ι fS,ι ky] gT.out.1 acV.out ?_
       intro w11 gA qy JV))
    have afw:ζ (fun q=>q=c∨q=c+2) w5 w11:=((H9.out.2.2.mono fun q (e:q=c)=>.inl (.inl e)).then gT.out.2 φ).then qy (fun q e=>.inl (.inr e));have kZ:υ w w11:=H5.out.2.2.2.1.then afw (fun q e=>.inr (oN Hc.out));have afx:ax w11 gC 2 cV (R1.map bC):=H5.out.2.2.2.2.2.1.ym afw fun q hq _ e=>by
     have h1:=H5.out.2.2.2.2.2.2.1 q hq;have h2:=H2.out.2.2.1.lt;omega
    have vS:∀q,cV.ownBlock=some q→w.heap.size≤q:=fun q hq=>by
     have h1:=H5.out.2.2.2.2.2.2.1 q hq;have h2:=H2.out.2.2.1.lt;have:=Hc.out;omega
    refine cJ (jk rfl _ _ (c+2) _ _ _ _ rfl gA underlying95 rfl kR _ rfl) rfl ?_;first
     | exact .inl ⟨rfl,cV,rfl,afx,kZ,vS⟩
     | exact⟨cV,rfl,afx,kZ,vS⟩
   ·have h0':(R2 != 0)=true:=by rw[kq];exact h0
    obtain rfl:E=R2:=Ac.out;go_wp2_with (first
     |(refine gp 95 c H5.out.1 underlying95 ?_)
     |(refine eN 95 (c+2) #[ι a,ι b,ι d,mv,.string S,lv,ι at_,ι ep,rv,ι pr,ι ky] H5.out.2.2.1 gR.out.1 ?_
       intro w4 aJ au dh))
    refine cJ (jk rfl _ _ (c+2) _ _ _ _ rfl aJ underlying95 rfl kR _ rfl) rfl afv
theorem D3 {P:Prop} (h:P:=by have:=HA.out.yW;unfold maxLen;omega):P:=h
theorem US {P:Prop} (h:P:=by have:=gR.out.2.1;simp[Value.oneCell'];exact this):P:=h
def Dx (T:List ai) (at_ ep:Int) (i e:Int) (l:List dn):Int:=if d_ i e l≠0 then d_ i e l else if i≠at_+1∨e<ep then 1 else fD T l
theorem ax.below {w:World} {t:TypeId} {k:Nat} {v:Value} {cs:List (List Value)} (h:ax w t k v cs) (h0:0<cs.length):∀q,v.ownBlock=some q→q<w.heap.size:=by
 obtain⟨A,cap,h1,h2,h3,h4⟩:=h;obtain⟨b,off,cur,t',fr,e1,e2,e4,e3⟩:=h4 h0;exact aeD
theorem ax.none_ {w w':World} {t:TypeId} {k:Nat} {v:Value} {cs:List (List Value)} (h:ax w t k v cs) (h0:¬0<cs.length):ax w' gC k v cs:=by
 obtain⟨A,cap,h1,h2,h3,-⟩:=h;exact⟨A,cap,h1,h2,h3,fun e=>absurd e h0⟩
theorem ax.afy {w w':World} {t:TypeId} {k:Nat} {v:Value} {cs:List (List Value)} {Y:Nat→Prop} (h:ax w t k v cs) (hu:ζ Y w w') (hz:0<cs.length→∀q,v.ownBlock=some q→¬Y q):ax w' gC k v cs:=by
 by_cases h0:0<cs.length
 ·exact h.any.ym hu (fun b hb _=>hz h0 b hb)
 ·exact h.none_ h0
theorem ax.ab2 {w w':World} {t t':TypeId} {k k':Nat} {v:Value} {cs cs':List (List Value)} (h:ax w t k v cs) (h':ax w' t' k' v cs'):cs.length=cs'.length:=by
 obtain⟨A,cap,rfl,-⟩:=h;obtain⟨A',cap',e,-⟩:=h';injection e
structure Nw (W w':World) (v:Value) (n:Nat) (xs:List Value):Prop where
 own:Own w' 35 3 v n xs
 ε:υ W w'
 new:∀q,v.ownBlock=some q→W.heap.size≤q
theorem Nw.empty (W:World):Nw W ((W.alloc (.cells #[] 35)).drew) (.slice (some ⟨W.heap.size,0,none⟩) 0 0) 0 []:=by
 refine⟨⟨rfl,.inr ⟨_,0,#[],(0,0),rfl,(η.new W 35 #[]).drew,.inl rfl,bO _,dC,rfl,rfl⟩⟩,((ζ.refl _ W).alloc _).drew,fun q hq=>?_⟩
 ·have:W.heap.size=q:=by simpa [Value.ownBlock] using hq
  omega
theorem Nw.ani (W:World):Nw W (W.alloc (.cells #[] 35)) (.slice (some ⟨W.heap.size,0,none⟩) 0 0) 0 []:=⟨(Nw.empty W).own,(ζ.refl _ W).alloc _,(Nw.empty W).new⟩
theorem Nw.append {W w1 w2:World} {v v2:Value} {n n2:Nat} {xs Cp:List Value} (h:Nw W w1 v n xs) (hO:Own w2 35 3 v2 n2 Cp) (hU:ζ (fun k=>v.ownBlock=some k) w1 w2) (hl:v2.ownBlock=v.ownBlock∨v2.ownBlock=some w1.heap.size):Nw W w2 v2 n2 Cp:=by
 refine⟨hO,h.ε.then hU (fun q e=>.inr (h.new q e)),fun q hq=>?_⟩;rcases hl with e | e
 ·exact h.new q ux
 ·rw[hq] at e
  have:=dM e;have:=h.ε.size;omega
theorem Nw.alloc {W w1:World} {v:Value} {n:Nat} {xs:List Value} (h:Nw W w1 v n xs) (o:Obj):Nw W (w1.alloc o) v n xs:=⟨h.own.alloc o,h.ε.alloc o,h.new⟩
theorem Nw.base {W0 W w1:World} {v:Value} {n:Nat} {xs:List Value} (h:Nw W w1 v n xs) (hu:υ W0 W):Nw W0 w1 v n xs:=⟨h.own,hu.then h.ε φ,fun q hq=>ic hu.size (h.new q hq)⟩
theorem Src.S9 {P:Program} {w:World} {xT t e:TypeId} {b size n:Nat} {cs:Array Value} (ht:P.underlying xT=some (.slice t)) (hB:η w b e cs) (hn:cs.toList.length=n*size):Src P w xT size (.slice (some ⟨b,0,none⟩) n n) n cs.toList :=
 .vt ht _ _ _ hn fun j u hu=>by
  have ju:(⟨b,0,none⟩:Addr).add j=⟨b,j,none⟩:=KA
  rw[ju];rw[hB.cell j];simpa using hu
structure ab3 (w w':World) (lv cV AL:Value) (D:List ai) (rows:List (List Value)) (x:List Value):Prop where
 kL:ax w' gC 2 cV (D.map bC)
 prl:cV=lv∨∀q,cV.ownBlock=some q→w.heap.size≤q
 rows:ax w' gC 3 AL (rows++[x])
 aoN:∀q,AL.ownBlock=some q→w.heap.size≤q
 ε:υ w w'
structure GC (w W:World) (c g h:Nat) (C Z BT:Array Value) (cV pH:Value) (D:List ai) (m:Nat) (nC:List (List Value)):Prop where
 hB:η W h 95 C
 hM:η W (c+1) 35 BT
 hZ:η W (c+2) 95 Z
 hG:η W g 93 #[cV]
 ε:υ w W
 UT:ax W gC 2 cV (D.map bC)
 src:∀W',υ W W'→Src prog W' 38 3 pH m nC.flatten
 one:∀u ∈ nC.flatten,u.oneCell'=true
 three:∀x ∈ nC,x.length=3
 yW:m≤24
 len:nC.length=m
 cg:c+2<g
 gh:g<h
 size:w.heap.size=c
 low:0<D.length→∀q,cV.ownBlock=some q→q≠h∧q≠c+2
theorem GC.fin {w W w1 w9 w12 w13:World} {c g h:Nat} {C Z BT:Array Value} {cV pH v6:Value} {D:List ai} {m:Nat} {nC:List (List Value)} {x:List Value} (hA:GC w W c g h C Z BT cV pH D m nC) (n6:Nw W w1 v6 (0+m+1) ([]++nC.flatten++x)) (hx:x.length=3) (h9:ζ (· = h) w1 w9) (h12:ζ (· = h) w9 w12) (h13:ζ (· = c+2) w12 w13) :
 ax w13 gC 2 cV (D.map bC)∧ax w13 gC 3 v6 (nC++[x])∧(∀q,v6.ownBlock=some q→w.heap.size≤q)∧υ w w13:=by
 have hU:ζ (fun q=>q=h∨q=c+2) w1 w13:=((h9.then h12 (fun _ e=>.inl e)).mono (fun q e=>.inl (.inl e))).then h13 (fun q e=>.inl (.inr e));have hW:=hA.hB.lt;have hs:=hA.ε.size;have hc:=hA.size;have u9:=hA.gh;have fC:=hA.cg;refine⟨(hA.UT.still n6.ε).afy hU (fun h0 q hq e=>?_),?_,fun q hq=>?_,(hA.ε.then n6.ε φ).then hU (fun q e=>.inr ?_)⟩
 ·have:=hA.low (by rw[bz] at h0;exact h0) q hq
  rcases e with e | e
  ·exact this.1 e
  ·exact this.2 e
 ·have h1:ax w1 35 3 v6 (nC++[x]):=by
   refine ax.ku (n:=m+1) ?_ (by rw[aN,hA.len];rfl) (oN hA.yW) (fun r hr=>?_)
   ·have:=n6.own
    rw[oR,lK] at this;rw[agl];simpa using this
   ·rcases jX.1 hr with e | e
    ·exact hA.three r e
    ·rw[xB.1 e];exact hx
  refine(h1.any).ym hU (fun q hq _ e=>?_);have:=n6.new q hq;rcases e with e | e<;>omega
 ·have:=n6.new q hq
  omega
 ·rcases e with e | e<;>omega
theorem anj (w:World) (C D Z:Array Value) {c:Nat} (hc:w.heap.size=c) (w1:World) (h:((w.alloc (.cells C 95)).alloc (.cells D 35)).alloc (.cells Z 95)=w1):η w1 c 95 C∧η w1 (c+1) 35 D∧η w1 (c+2) 95 Z∧υ w w1:=by
 subst h;refine⟨by rw[← hc];exact((η.new w _ _).alloc _).alloc _,?_,?_,(((ζ.refl _ w).alloc _).alloc _).alloc _⟩
 ·have:=(η.new (w.alloc (.cells C 95)) 35 D).alloc (.cells Z 95)
  rw[dx,hc] at this;exact this
 ·have:=η.new ((w.alloc (.cells C 95)).alloc (.cells D 35)) 95 Z
  rw[dx,dx,hc] at this;exact this
theorem afz {P:Prop} (h:P:=by
 exact(Qt.out.1.still aoO.out).afy jd (fun h0 q hq e=>oF e (Qt.out.2 (by rw[bz] at h0;exact h0) q hq))):P:=h
theorem aii {w:World} {a b d:Int} {mv:Value} {S:ByteArray} {lv:Value} {at_ ep:Int} {rv:Value} {pr ky:Int} (h1:mv.oneCell'=true) {tyr:TypeId} {rq:List (List Value)} (tW:ax w tyr 3 rv rq) (UU:rq.length≤24) (W_:∀x ∈ rq,x.length=3) (hk1:∀x ∈ rq,∀u ∈ x,u.oneCell'=true) {ty L5:TypeId} {T:List ai} (hT:ax w ty 2 lv (T.map bC)) (hs:∀q ∈ T,q.1.length≤1000000) (hS:T.length≤1000) (hR:gx T) {ov:Value} {l:List dn} (hO:ax w L5 3 ov (l.map bY)) (jh:qo l) (i e:Int) :
 ς 93 #[.agg (j_ a b d mv S lv at_ ep rv pr ky),.agg (mm i e ov)] w fun r w' =>
  (Dx T at_ ep i e l=0∧∃cV AL,r=ώ (.tuple #[.agg (j_ a b d mv S cV i e AL (if rq.length=24 then ep else pr) ky),ι 0])∧ab3 w w' lv cV AL (cH T l) (if rq.length=24 then [] else rq) [ι i,ι e,ov]) ∨
  (Dx T at_ ep i e l≠0∧r=ώ (.tuple #[.agg (j_ a b d mv S lv at_ ep rv pr ky),ι (Dx T at_ ep i e l)])∧υ w w'):=by
 have qf:Hid (∀(W:World) (x:Value) (D:List ai),ax W gC 2 x (D.map bC)→0<D.length→x=lv→∀q,x.ownBlock=some q→q<w.heap.size):=δ fun W x D hx h0 e q hq=>by
  subst e;have h1:=hT.ab2 hx;simp only[bz] at h1;exact hT.below Gq q hq
 have h2:=hT.one;have h3:=tW.one;have hone:=hO.one;have eX:=fun W (hW:υ w W)=>aaa (i:=i) (ep:=e) (hO.still hW) jh
 have kM:=fun W (hW:υ w W)=>ang (hT.still hW) hs hS hR (hO.still hW) jh
 obtain⟨E,hE⟩:=μ (Dx T at_ ep i e l);obtain⟨E1,l9⟩:=μ (d_ i e l);obtain⟨E2,dQ⟩:=μ (fD T l);have rN:E=if E1≠0 then E1 else if i≠at_+1∨e<ep then 1 else E2:=by rw[← hE];unfold Dx;rw[l9,dQ]
 have hi1:E1=0→1≤i∧i≤4611686018427387904:=fun h=>by have:=ue (l9.trans h);exact⟨this.1,this.2.1⟩
 rw[l9] at eX;rw[dQ] at kM;rw[hE];unfold mm at eX ⊢;have gR:=aF (vq (a:=a) (b:=b) (c:=d) (S:=S) (at_:=at_) (ep:=ep) (pr:=pr) (ky:=ky) h1 h2 h3) hone h1 h3;have hsrc:∀W,υ w W→Src prog W 38 3 rv rq.length rq.flatten:=fun W hW=>(tW.still hW).src underlying38 W_
 have oz:∀u ∈ rq.flatten,u.oneCell'=true:=fun u hu=>by
  obtain⟨x,hx,hux⟩:=Yj.1 hu;exact hk1 x hx u hux
 obtain⟨RA,nH,rb,apx,rfl,hrc,-,-,-⟩:=tW.open_;obtain⟨n,hn⟩:=μ rq.length;rw[hn] at hrc UU gR hsrc ⊢;have L9:=cD hsrc oz W_ UU hn;obtain⟨DL,Xa⟩:=μ (cH T l);rw[Xa] at kM ⊢;obtain⟨PR,Xb⟩:∃x,(if n=24 then ep else pr)=x:=⟨_,rfl⟩;obtain⟨RW,Xc⟩:∃x,(if n=24 then [] else rq)=x:=⟨_,rfl⟩;rw[Xb,Xc];have CD:=τ Xb Xc;clear Xb Xc;have HDL:=δ Xa;obtain⟨i0,bx,bU,bK,aY⟩:=jD RR;have jT:=aF bx bU bK aY;clear hrc hsrc oz W_ hk1 UU hn tW Xa bx bU bK aY;obtain⟨c,hc⟩:=μ w.heap.size;have Hc:=δ hc;have HLV:=δ h2;have nS:=τ eX kM;have HE:=τ rN hi1;clear hc h1 h2 h3 hone eX kM hE l9 dQ rN hi1 hT hs hS hR hO jh;unfold j_ at gR ⊢;go_enter func93,ntmps93
 go_upto_region 1 with fail
 rw[Hc.out];generalize hw1:World.alloc (World.alloc (World.alloc _ _) _) _=w1;obtain⟨aP,hM1,qh,az⟩:=anj w #[ι a,ι b,ι d,mv,.string S,lv,ι at_,ι ep,.slice RA n nH,ι pr,ι ky] #[ι i,ι e,ov] #[ι 0,ι 0,ι 0,.slice none 0 0,.string ⟨#[]⟩,.slice none 0 0,ι 0,ι 0,.slice none 0 0,ι 0,ι 0] Hc.out w1 hw1;have H1:=aF aP hM1 qh az;clear hw1 aP hM1 qh az;go_upto_region 2 with (first
  |(refine gp 35 (c+1) H1.out.2.1 underlying35 ?_)
  |(go_at_call 152
    refine(nS.out.1 _ H1.out.2.2.2).mono ?_;rintro r w2 ⟨rfl,σ⟩;have H2:=aF (H1.out.1.ε σ id) (H1.out.2.1.ε σ id) (H1.out.2.2.1.ε σ id) (H1.out.2.2.2.then σ φ);clear σ))
 by_cases h0:E1=0
 ·subst h0
  have HI:=δ (HE.out.2 rfl);go_upto_region 4 with fail
  have m0:w2.cell? ⟨c+1,0,none⟩=some (ι i):=H2.out.2.1.cell 0;have m1:w2.cell? ⟨c+1,1,none⟩=some (ι e):=H2.out.2.1.cell 1;have v6:w2.cell? ⟨c,6,none⟩=some (ι at_):=H2.out.1.cell 6;have v7:w2.cell? ⟨c,7,none⟩=some (ι ep):=H2.out.1.cell 7;have hwi:IntKind.i64.wrap (i - 1)=i - 1:=cZ _ (oN HI.out);by_cases ha:i - 1=at_
  ·have ha':(i - 1 != at_)=false:=by rw[bne_eq_false_iff_eq];exact ha
   have HA:=δ ha;clear ha;by_cases he:e<ep
   ·obtain rfl:E=1:=by rw[HE.out.1,ν sM,π (.inr he)]
    go_wp2_with (first
   |(refine gp 95 c H2.out.1 underlying95 ?_)
   |(refine eN 95 (c+2) #[ι a,ι b,ι d,mv,.string S,lv,ι at_,ι ep,.slice RA n nH,ι pr,ι ky] H2.out.2.2.1 gR.out.1 ?_
     intro w4 aJ au dh))
    refine cJ (jk rfl _ _ (c+2) _ _ _ _ rfl aJ underlying95 rfl kR _ rfl) rfl O8
   ·obtain rfl:E=E2:=by rw[HE.out.1,ν sM,ν (oN HA.out)]
    go_upto_region 6 with fail
    clear m0 m1 v6 v7;have m2:w2.cell? ⟨c+1,2,none⟩=some ov:=H2.out.2.1.cell 2;go_upto_region 7 with (first
     |(refine rV rfl 93 _ rfl c 5 rfl _ _ [lv] _ H2.out.1 (fun j u hj=>by cases j with | zero=>simpa using hj | succ j=>simp at hj) underlying93 rfl kR ?_)
     |(go_at_call 153
       refine(nS.out.2 _ H2.out.2.2.2).mono ?_;rintro r w3 ⟨cV,rfl,m_,χ,fV⟩;have oz:=o_ m_.one)
     |(refine eN 93 w3.heap.size #[cV] (η.new w3 _ _) oz ?_
       intro w5 aK ay iQ))
    clear m2;obtain⟨g,hg⟩:=μ w3.heap.size;rw[hg] at aK ay ⊢;have fC:c+2<g:=by have:=(H2.out.2.2.1.ε χ id).lt;omega
    have vU:υ w2 w5:=(χ.alloc _).then ay (fun q e=>.inr (oF e χ.size));have gj:υ w3 w5:=((ζ.refl _ w3).alloc _).then ay (fun q e=>.inr (oE e));have acW:0<(if E=0 then DL else T).length→∀q,cV.ownBlock=some q→q<g∧q≠c+2:=fun h0 q hq=>by
     have h1:=m_.below (by rw[bz];exact h0) q hq;refine⟨oM,?_⟩;rcases fV with e | e
     ·have:=qf.out w3 cV _ m_ h0 e q hq
      have:=Hc.out;omega
     ·have:=e q hq
      have:=H2.out.2.2.1.lt;omega
    have Gu:cV=lv∨∀q,cV.ownBlock=some q→w.heap.size≤q:=fV.imp id (fun e q hq=>oO (e q hq) H2.out.2.2.2.size);have HLW:=τ acW Gu;clear acW Gu;have H5:=δ (And.intro (H2.out.1.ε vU id) (And.intro (H2.out.2.1.ε vU id) (And.intro (H2.out.2.2.1.ε vU id) (And.intro (H2.out.2.2.2.then vU φ) (And.intro aK (And.intro (m_.still gj) (And.intro fV (And.intro fC (H2.out.2.2.2.size)))))))));clear vU gj aK ay iQ hg fC χ m_;by_cases h0:E=0
    ·subst h0
     have afA:0<DL.length→∀q,cV.ownBlock=some q→q<g∧q≠c+2:=by have h1:=HLW.out.1;rw[π rfl] at h1;exact h1
     have ht5:ax w5 gC 2 cV (DL.map bC):=by have h1:=H5.out.2.2.2.2.2.1;rw[π rfl] at h1;exact h1
     have Qt:=τ ht5 afA;clear afA ht5;go_upto_region 10 with (first
      |(refine gp 95 c H5.out.1 underlying95 ?_)
      |(refine eN 95 w5.heap.size #[ι a,ι b,ι d,mv,.string S,lv,ι at_,ι ep,.slice RA n nH,ι pr,ι ky] (η.new w5 _ _) gR.out.1 ?_
        intro w6 cY aB iT))
     obtain⟨h,hh⟩:=μ w5.heap.size;rw[hh] at cY aB ⊢;have u9:g<h:=by have:=H5.out.2.2.2.2.1.lt;omega
     have rE:υ w5 w6:=((ζ.refl _ w5).alloc _).then aB (fun q e=>.inr (oE e));have H6:=B0 (H5.out.1.ε rE id) (H5.out.2.1.ε rE id) (H5.out.2.2.1.ε rE id) (H5.out.2.2.2.1.then rE φ) (H5.out.2.2.2.2.1.ε rE id) (H5.out.2.2.2.2.2.1.still rE) cY u9;have c8:w6.cell? ⟨c,8,none⟩=some (.slice RA n nH):=H6.out.1.cell 8;have Ob:=δ (vq (a:=a) (b:=b) (c:=d) (S:=S) (at_:=at_) (ep:=ep) (rv:=.slice none 0 0) (pr:=ep) (ky:=ky) gR.out.2.2.1 HLV.out rfl);have hfg:=fun W=>Sk (w:=W) (a:=a) (b:=b) (d:=d) (S:=S) (at_:=at_) (ep:=ep) (rv:=.slice RA n nH) (pr:=pr) (ky:=ky) gR.out.2.2.1 HLV.out
     unfold j_ at hfg Ob;have rP:=δ hfg;have aoO:=δ rE;clear hfg rE cY aB iT hh u9;by_cases h24:n=24
     case' neg =>
      have Kn:((n:Int) == 24)=false:=ru
      have E6:=δ h24;clear h24;go_upto_region 12 with fail
      have jd:ζ (· = h) w6 w6:=ζ.refl _ _;have u9:=H6.out.2.2.2.2.2.2.2;have fC:=H5.out.2.2.2.2.2.2.2.1;have Il:υ w w6:=H6.out.2.2.2.1.then jd (fun q e=>.inr (oF e Hc.out));have hA:GC w w6 c g h #[ι a,ι b,ι d,mv,.string S,lv,ι at_,ι ep,.slice RA n nH,ι pr,ι ky] #[ι 0,ι 0,ι 0,.slice none 0 0,.string ⟨#[]⟩,.slice none 0 0,ι 0,ι 0,.slice none 0 0,ι 0,ι 0] #[ι i,ι e,ov] cV (.slice RA n nH) DL n rq:=by
       refine⟨H6.out.2.2.2.2.2.2.1,H6.out.2.1.ε jd (fun e=>oE e),H6.out.2.2.1.ε jd (fun e=>oE e),H6.out.2.2.2.2.1.ε jd (fun e=>oE e),Il,?_,?_,?_,?_,?_,?_,fC,u9,Hc.out,fun h0 q hq=>by have h1:=Qt.out.2 h0 q hq;omega⟩
       ·exact afz
       ·exact fun W' Qu=>L9.out.1 W' (Il.then Qu φ)
       ·exact L9.out.2.1
       ·exact L9.out.2.2.1
       ·exact L9.out.2.2.2.1
       ·exact L9.out.2.2.2.2
      have nh:RW=rq:=by rw[← CD.out.2];exact ν E6.out
      have E7:PR=pr:=by rw[← CD.out.1];exact ν E6.out
      obtain⟨W,hW⟩:=μ w6;rw[hW] at hA ⊢;obtain⟨pH,Ku⟩:∃x:Value,(.slice RA n nH)=x:=⟨_,rfl⟩;obtain⟨qM,D4⟩:∃x,pr=x:=⟨_,rfl⟩;obtain⟨m,hm⟩:∃x:Nat,n=x:=⟨_,rfl⟩;obtain⟨nC,Dn⟩:∃x:List (List Value),rq=x:=⟨_,rfl⟩;have nJ:GC w W c g h #[ι a,ι b,ι d,mv,.string S,lv,ι at_,ι ep,pH,ι qM,ι ky] #[ι 0,ι 0,ι 0,.slice none 0 0,.string ⟨#[]⟩,.slice none 0 0,ι 0,ι 0,.slice none 0 0,ι 0,ι 0] #[ι i,ι e,ov] cV pH DL m nC:=by
       rw[← Ku,← D4,← hm,← Dn];exact hA
      rw[Dn] at nh;rw[D4] at E7;have HA:=δ nJ;have L3:=τ nh E7;clear jd u9 fC Il hA nJ nh E7 hW Ku D4 hm Dn Kn;clear rP Ob E6 c8;have CS:∀w',υ W w'→(fun w'=>η w' h 95 #[ι a,ι b,ι d,mv,.string S,lv,ι at_,ι ep,pH,ι qM,ι ky]∧η w' (c+1) 35 #[ι i,ι e,ov]) w':=fun w' hu=>⟨HA.out.hB.ε hu id,HA.out.hM.ε hu id⟩
      have fQ:=δ CS;clear CS;refine dW ?_;refine eo (S:=(fun w'=>η w' h 95 #[ι a,ι b,ι d,mv,.string S,lv,ι at_,ι ep,pH,ι qM,ι ky]∧η w' (c+1) 35 #[ι i,ι e,ov])) (T:=fun i=>i == 8) kR ?_;have aE:=fQ.out _ (ζ.refl _ W).drew;refine ξ 1 ?_;refine aX 2 (fun w' hSw=>hSw.1.cell 8) ?_;refine iL 4 (.agg #[ι i,ι e,ov]) (lN rfl ak _ _ rfl (c+1) ak _ _ _ (fun w' hSw=>hSw.2) underlying35 rfl kR) ?_;refine vn (i:=0) (j:=5) kR rfl rfl (fun KK ο=>?ga1) (fun KK ο=>?gb1);case' gb1 =>
       go_simp
       have u5:υ W (W.alloc (.cells #[ι i,ι e,ov] 35)).drew:=((ζ.refl _ W).alloc _).drew;have mU:=η.new W 35 #[ι i,ι e,ov];refine ο.out _ _ (fQ.out _ u5) ?_;clear ο;refine bf 0 (fun KK ο=>?_);go_simp
       have n1:Nw W (((W.alloc (.cells #[ι i,ι e,ov] 35)).alloc (.cells #[] 35)).drew) (.slice (some ⟨W.heap.size+1,0,none⟩) 0 0) 0 []:=by have h:=(Nw.ani ((W.alloc (.cells #[ι i,ι e,ov] 35)).drew)).base u5;rw[show ((W.alloc (.cells #[ι i,ι e,ov] 35)).drew).heap.size=W.heap.size+1 from dx _ _] at h;exact h
       refine ο.out _ _ (fQ.out _ n1.ε) ?_;clear ο;refine bf 3 (fun KK ο=>?_);refine qn ak _ _ _ _ ak 35 i0 _ 3 40 underlying38 jT.out.1 jT.out.2.1 jT.out.2.2.1 jT.out.2.2.2 rfl _ 0 [] ak n1.own pH m nC.flatten ak (HA.out.src _ n1.ε) HA.out.one D3 (oN HA.out.yW) ?_;intro v3 W9 gG χ fV fY;have n3:=n1.append gG χ fV;have hs5:=Src.S9 (n:=1) (size:=3) underlying38 ((mU.alloc (.cells #[] 35)).drew.ε χ lV) rfl;refine ο.out _ _ (fQ.out _ n3.ε) ?_;clear ο;refine bf 6 (fun KK ο=>?_);refine qn ak _ _ _ _ ak 35 i0 _ 3 40 underlying38 jT.out.1 jT.out.2.1 jT.out.2.2.1 jT.out.2.2.2 rfl v3 (0+m) ([]++nC.flatten) ak n3.own _ 1 [ι i,ι e,ov] ak hs5 US D3 (oN HA.out.yW) ?_;intro v6 w7a rO aB wZ iT;have n6:=n3.append rO aB wZ;have cW:=fQ.out _ n6.ε;refine ο.out _ _ cW ?_;clear ο;simp only[Act.put,jW];refine ξ 7 ?_;refine lG 8 (fun KK ο=>?_)
       rw[π (show Region.wanted _ _=true by rfl)];refine nw _ _ _ rfl h 8 v6 rfl rfl _ _ cW.1 sM n6.own.one kR (fun w9 dy eW nP=>?_);refine ο.out _ _ ?_;clear ο;simp only[Act.put];refine dY ?_;refine dz ?_;have N6:=aq n6 dy eW;clear n6 dy eW nP rO aB wZ iT cW aE gG χ fV fY hs5;clear n1 n3 u5 mU
      case' ga1 =>
       go_simp
       have n1:=Nw.empty W;refine ο.out _ _ (fQ.out _ n1.ε) ?_;clear ο;refine vn (i:=3) (j:=5) kR rfl rfl (fun KK ο=>?gc1) (fun KK ο=>?gd1);case' gd1 =>
        go_simp
        have n5:=n1.alloc (.cells #[ι i,ι e,ov] 35);have mU:=η.new ((W.alloc (.cells #[] 35)).drew) 35 #[ι i,ι e,ov];rw[show ((W.alloc (.cells #[] 35)).drew).heap.size=W.heap.size+1 from dx _ _] at mU;refine ο.out _ _ (fQ.out _ n5.ε) ?_;clear ο;refine bf 3 (fun KK ο=>?_);refine qn ak _ _ _ _ ak 35 i0 _ 3 40 underlying38 jT.out.1 jT.out.2.1 jT.out.2.2.1 jT.out.2.2.2 rfl _ 0 [] ak n5.own pH m nC.flatten ak (HA.out.src _ n5.ε) HA.out.one D3 (oN HA.out.yW) ?_;intro v3 W9 gG χ fV fY;have n3:=n5.append gG χ fV;have hs5:=Src.S9 (n:=1) (size:=3) underlying38 (mU.ε χ lV) rfl;refine ο.out _ _ (fQ.out _ n3.ε) ?_;clear ο;refine bf 6 (fun KK ο=>?_);refine qn ak _ _ _ _ ak 35 i0 _ 3 40 underlying38 jT.out.1 jT.out.2.1 jT.out.2.2.1 jT.out.2.2.2 rfl v3 (0+m) ([]++nC.flatten) ak n3.own _ 1 [ι i,ι e,ov] ak hs5 US D3 (oN HA.out.yW) ?_
        intro v6 w7a rO aB wZ iT;have n6:=n3.append rO aB wZ;have cW:=fQ.out _ n6.ε;refine ο.out _ _ cW ?_;clear ο;simp only[Act.put,jW];refine ξ 7 ?_;refine lG 8 (fun KK ο=>?_);rw[π (show Region.wanted _ _=true by rfl)];refine nw _ _ _ rfl h 8 v6 rfl rfl _ _ cW.1 sM n6.own.one kR (fun w9 dy eW nP=>?_);refine ο.out _ _ ?_;clear ο;simp only[Act.put];refine dY ?_;refine dz ?_;have N6:=aq n6 dy eW;clear n6 dy eW nP rO aB wZ iT cW aE gG χ fV fY hs5;clear n1 n3 n5 mU
       case' gc1 =>
        refine qn ak _ _ _ _ ak 35 i0 _ 3 40 underlying38 jT.out.1 jT.out.2.1 jT.out.2.2.1 jT.out.2.2.2 rfl _ 0 [] ak n1.own pH m nC.flatten ak (HA.out.src _ n1.ε) HA.out.one D3 (oN HA.out.yW) ?_
        intro v3 W9 gG χ fV fY;have n3:=n1.append gG χ fV;refine ο.out _ _ (fQ.out _ n3.ε) ?_;clear ο;refine bf 5 (fun KK ο=>?_);go_simp
        have hs5:=Src.S9 (n:=1) (size:=3) underlying38 (η.new W9 35 #[ι i,ι e,ov]) rfl;have n5:=n3.alloc (.cells #[ι i,ι e,ov] 35);refine ο.out _ _ (fQ.out _ n5.ε) ?_;clear ο;refine bf 6 (fun KK ο=>?_);refine qn ak _ _ _ _ ak 35 i0 _ 3 40 underlying38 jT.out.1 jT.out.2.1 jT.out.2.2.1 jT.out.2.2.2 rfl v3 (0+m) ([]++nC.flatten) ak n5.own _ 1 [ι i,ι e,ov] ak hs5 US D3 (oN HA.out.yW) ?_;intro v6 w7a rO aB wZ iT;have n6:=n5.append rO aB wZ;have cW:=fQ.out _ n6.ε;refine ο.out _ _ cW ?_;clear ο;simp only[Act.put,jW];refine ξ 7 ?_;refine lG 8 (fun KK ο=>?_);rw[π (show Region.wanted _ _=true by rfl)];refine nw _ _ _ rfl h 8 v6 rfl rfl _ _ cW.1 sM n6.own.one kR (fun w9 dy eW nP=>?_);refine ο.out _ _ ?_;clear ο;simp only[Act.put];refine dY ?_;refine dz ?_;have N6:=aq n6 dy eW;clear n6 dy eW nP rO aB wZ iT cW aE gG χ fV fY hs5
        clear n1 n3 n5
     case' pos =>
      have Kn:((n:Int) == 24)=true:=by rw[jV];omega
      have E6:=δ h24;clear h24;go_upto_region 12 with (first
       |(refine gp 95 c H6.out.1 underlying95 ?_)
       |(go_at_call 52
         refine(rP.out _).mono ?_;rintro r w7 ⟨rfl,bI⟩;have H7:=τ (H6.out.2.2.2.2.2.2.1.ε bI id) bI;clear bI)
       |(refine eN 95 h _ H7.out.1 Ob.out ?_
         intro w8 jB cT kX))
      have jd:ζ (· = h) w6 w8:=((H7.out.2.mono φ).then cT (fun _ e=>.inl e));have u9:=H6.out.2.2.2.2.2.2.2;have fC:=H5.out.2.2.2.2.2.2.2.1;have Il:υ w w8:=H6.out.2.2.2.1.then jd (fun q e=>.inr (oF e Hc.out));have hA:GC w w8 c g h #[ι a,ι b,ι d,mv,.string S,lv,ι at_,ι ep,.slice none 0 0,ι ep,ι ky] #[ι 0,ι 0,ι 0,.slice none 0 0,.string ⟨#[]⟩,.slice none 0 0,ι 0,ι 0,.slice none 0 0,ι 0,ι 0] #[ι i,ι e,ov] cV (.slice none 0 0) DL 0 []:=by
       refine⟨jB,H6.out.2.1.ε jd (fun e=>oE e),H6.out.2.2.1.ε jd (fun e=>oE e),H6.out.2.2.2.2.1.ε jd (fun e=>oE e),Il,?_,?_,?_,?_,?_,?_,fC,u9,Hc.out,fun h0 q hq=>by have h1:=Qt.out.2 h0 q hq;omega⟩
       ·exact afz
       ·exact fun W' Qu=>Src.of_nil underlying38 0
       ·simp
       ·simp
       ·omega
       ·rfl
      have nh:RW=[]:=by rw[← CD.out.2];exact π E6.out
      have E7:PR=ep:=by rw[← CD.out.1];exact π E6.out
      obtain⟨W,hW⟩:=μ w8;rw[hW] at hA ⊢;obtain⟨pH,Ku⟩:∃x:Value,(.slice none 0 0)=x:=⟨_,rfl⟩;obtain⟨qM,D4⟩:∃x,ep=x:=⟨_,rfl⟩;obtain⟨m,hm⟩:∃x:Nat,0=x:=⟨_,rfl⟩;obtain⟨nC,Dn⟩:∃x:List (List Value),[]=x:=⟨_,rfl⟩;have nJ:GC w W c g h #[ι a,ι b,ι d,mv,.string S,lv,ι at_,ι ep,pH,ι qM,ι ky] #[ι 0,ι 0,ι 0,.slice none 0 0,.string ⟨#[]⟩,.slice none 0 0,ι 0,ι 0,.slice none 0 0,ι 0,ι 0] #[ι i,ι e,ov] cV pH DL m nC:=by
       rw[← Ku,← D4,← hm,← Dn];exact hA
      rw[Dn] at nh;rw[D4] at E7;have HA:=δ nJ;have L3:=τ nh E7;clear jd u9 fC Il hA nJ nh E7 hW Ku D4 hm Dn Kn;clear jB cT kX H7;clear rP Ob E6 c8;have CS:∀w',υ W w'→(fun w'=>η w' h 95 #[ι a,ι b,ι d,mv,.string S,lv,ι at_,ι ep,pH,ι qM,ι ky]∧η w' (c+1) 35 #[ι i,ι e,ov]) w':=fun w' hu=>⟨HA.out.hB.ε hu id,HA.out.hM.ε hu id⟩
      have fQ:=δ CS;clear CS;refine dW ?_;refine eo (S:=(fun w'=>η w' h 95 #[ι a,ι b,ι d,mv,.string S,lv,ι at_,ι ep,pH,ι qM,ι ky]∧η w' (c+1) 35 #[ι i,ι e,ov])) (T:=fun i=>i == 8) kR ?_;have aE:=fQ.out _ (ζ.refl _ W).drew;refine ξ 1 ?_;refine aX 2 (fun w' hSw=>hSw.1.cell 8) ?_;refine iL 4 (.agg #[ι i,ι e,ov]) (lN rfl ak _ _ rfl (c+1) ak _ _ _ (fun w' hSw=>hSw.2) underlying35 rfl kR) ?_;refine vn (i:=0) (j:=5) kR rfl rfl (fun KK ο=>?ga2) (fun KK ο=>?gb2);case' gb2 =>
       go_simp
       have u5:υ W (W.alloc (.cells #[ι i,ι e,ov] 35)).drew:=((ζ.refl _ W).alloc _).drew;have mU:=η.new W 35 #[ι i,ι e,ov];refine ο.out _ _ (fQ.out _ u5) ?_;clear ο;refine bf 0 (fun KK ο=>?_);go_simp
       have n1:Nw W (((W.alloc (.cells #[ι i,ι e,ov] 35)).alloc (.cells #[] 35)).drew) (.slice (some ⟨W.heap.size+1,0,none⟩) 0 0) 0 []:=by have h:=(Nw.ani ((W.alloc (.cells #[ι i,ι e,ov] 35)).drew)).base u5;rw[show ((W.alloc (.cells #[ι i,ι e,ov] 35)).drew).heap.size=W.heap.size+1 from dx _ _] at h;exact h
       refine ο.out _ _ (fQ.out _ n1.ε) ?_;clear ο;refine bf 3 (fun KK ο=>?_);refine qn ak _ _ _ _ ak 35 i0 _ 3 40 underlying38 jT.out.1 jT.out.2.1 jT.out.2.2.1 jT.out.2.2.2 rfl _ 0 [] ak n1.own pH m nC.flatten ak (HA.out.src _ n1.ε) HA.out.one D3 (oN HA.out.yW) ?_;intro v3 W9 gG χ fV fY;have n3:=n1.append gG χ fV;have hs5:=Src.S9 (n:=1) (size:=3) underlying38 ((mU.alloc (.cells #[] 35)).drew.ε χ lV) rfl;refine ο.out _ _ (fQ.out _ n3.ε) ?_;clear ο;refine bf 6 (fun KK ο=>?_);refine qn ak _ _ _ _ ak 35 i0 _ 3 40 underlying38 jT.out.1 jT.out.2.1 jT.out.2.2.1 jT.out.2.2.2 rfl v3 (0+m) ([]++nC.flatten) ak n3.own _ 1 [ι i,ι e,ov] ak hs5 US D3 (oN HA.out.yW) ?_;intro v6 w7a rO aB wZ iT;have n6:=n3.append rO aB wZ;have cW:=fQ.out _ n6.ε;refine ο.out _ _ cW ?_;clear ο;simp only[Act.put,jW];refine ξ 7 ?_;refine lG 8 (fun KK ο=>?_)
       rw[π (show Region.wanted _ _=true by rfl)];refine nw _ _ _ rfl h 8 v6 rfl rfl _ _ cW.1 sM n6.own.one kR (fun w9 dy eW nP=>?_);refine ο.out _ _ ?_;clear ο;simp only[Act.put];refine dY ?_;refine dz ?_;have N6:=aq n6 dy eW;clear n6 dy eW nP rO aB wZ iT cW aE gG χ fV fY hs5;clear n1 n3 u5 mU
      case' ga2 =>
       go_simp
       have n1:=Nw.empty W;refine ο.out _ _ (fQ.out _ n1.ε) ?_;clear ο;refine vn (i:=3) (j:=5) kR rfl rfl (fun KK ο=>?gc2) (fun KK ο=>?gd2);case' gd2 =>
        go_simp
        have n5:=n1.alloc (.cells #[ι i,ι e,ov] 35);have mU:=η.new ((W.alloc (.cells #[] 35)).drew) 35 #[ι i,ι e,ov];rw[show ((W.alloc (.cells #[] 35)).drew).heap.size=W.heap.size+1 from dx _ _] at mU;refine ο.out _ _ (fQ.out _ n5.ε) ?_;clear ο;refine bf 3 (fun KK ο=>?_);refine qn ak _ _ _ _ ak 35 i0 _ 3 40 underlying38 jT.out.1 jT.out.2.1 jT.out.2.2.1 jT.out.2.2.2 rfl _ 0 [] ak n5.own pH m nC.flatten ak (HA.out.src _ n5.ε) HA.out.one D3 (oN HA.out.yW) ?_;intro v3 W9 gG χ fV fY;have n3:=n5.append gG χ fV;have hs5:=Src.S9 (n:=1) (size:=3) underlying38 (mU.ε χ lV) rfl;refine ο.out _ _ (fQ.out _ n3.ε) ?_;clear ο;refine bf 6 (fun KK ο=>?_);refine qn ak _ _ _ _ ak 35 i0 _ 3 40 underlying38 jT.out.1 jT.out.2.1 jT.out.2.2.1 jT.out.2.2.2 rfl v3 (0+m) ([]++nC.flatten) ak n3.own _ 1 [ι i,ι e,ov] ak hs5 US D3 (oN HA.out.yW) ?_
        intro v6 w7a rO aB wZ iT;have n6:=n3.append rO aB wZ;have cW:=fQ.out _ n6.ε;refine ο.out _ _ cW ?_;clear ο;simp only[Act.put,jW];refine ξ 7 ?_;refine lG 8 (fun KK ο=>?_);rw[π (show Region.wanted _ _=true by rfl)];refine nw _ _ _ rfl h 8 v6 rfl rfl _ _ cW.1 sM n6.own.one kR (fun w9 dy eW nP=>?_);refine ο.out _ _ ?_;clear ο;simp only[Act.put];refine dY ?_;refine dz ?_;have N6:=aq n6 dy eW;clear n6 dy eW nP rO aB wZ iT cW aE gG χ fV fY hs5;clear n1 n3 n5 mU
       case' gc2 =>
        refine qn ak _ _ _ _ ak 35 i0 _ 3 40 underlying38 jT.out.1 jT.out.2.1 jT.out.2.2.1 jT.out.2.2.2 rfl _ 0 [] ak n1.own pH m nC.flatten ak (HA.out.src _ n1.ε) HA.out.one D3 (oN HA.out.yW) ?_
        intro v3 W9 gG χ fV fY;have n3:=n1.append gG χ fV;refine ο.out _ _ (fQ.out _ n3.ε) ?_;clear ο;refine bf 5 (fun KK ο=>?_);go_simp
        have hs5:=Src.S9 (n:=1) (size:=3) underlying38 (η.new W9 35 #[ι i,ι e,ov]) rfl;have n5:=n3.alloc (.cells #[ι i,ι e,ov] 35);refine ο.out _ _ (fQ.out _ n5.ε) ?_;clear ο;refine bf 6 (fun KK ο=>?_);refine qn ak _ _ _ _ ak 35 i0 _ 3 40 underlying38 jT.out.1 jT.out.2.1 jT.out.2.2.1 jT.out.2.2.2 rfl v3 (0+m) ([]++nC.flatten) ak n5.own _ 1 [ι i,ι e,ov] ak hs5 US D3 (oN HA.out.yW) ?_;intro v6 w7a rO aB wZ iT;have n6:=n5.append rO aB wZ;have cW:=fQ.out _ n6.ε;refine ο.out _ _ cW ?_;clear ο;simp only[Act.put,jW];refine ξ 7 ?_;refine lG 8 (fun KK ο=>?_);rw[π (show Region.wanted _ _=true by rfl)];refine nw _ _ _ rfl h 8 v6 rfl rfl _ _ cW.1 sM n6.own.one kR (fun w9 dy eW nP=>?_);refine ο.out _ _ ?_;clear ο;simp only[Act.put];refine dY ?_;refine dz ?_;have N6:=aq n6 dy eW;clear n6 dy eW nP rO aB wZ iT cW aE gG χ fV fY hs5
        clear n1 n3 n5
     all_goals
      have Hx:v6.oneCell'=true:=N6.out.1.own.one;have hc9:(#[ι a,ι b,ι d,mv,.string S,lv,ι at_,ι ep,pH,ι qM,ι ky]:Array Value).setIfInBounds 8 v6=#[ι a,ι b,ι d,mv,.string S,lv,ι at_,ι ep,v6,ι qM,ι ky]:=rfl;have dy:=N6.out.2.1;rw[hc9] at dy;have hWs:=HA.out.hB.lt;have u9:=HA.out.gh;have fC:=HA.out.cg;have hM9:=(HA.out.hM.ε N6.out.1.ε id).ε N6.out.2.2 (fun e=>oE e);have hZ9:=(HA.out.hZ.ε N6.out.1.ε id).ε N6.out.2.2 (fun e=>oE e);have hG9:=(HA.out.hG.ε N6.out.1.ε id).ε N6.out.2.2 (fun e=>oE e);have H9:=aF dy hM9 hZ9 hG9;have HV6:=τ Hx (o_ HA.out.UT.one);have Xd:=τ u9 fC;clear Hx hc9 dy hWs u9 fC hM9 hZ9 hG9;go_upto_region 14 with (first
       |(refine gp 93 g H9.out.2.2.2 underlying93 ?_)
       |(refine ze rfl 93 _ _ rfl h 5 #[cV] rfl rfl _ _ #[ι a,ι b,ι d,mv,.string S,cV,ι at_,ι ep,v6,ι qM,ι ky] H9.out.1 sM rfl HV6.out.2 kR ?_
         intro w10 nG fE BL))
      have UW:=H9.out.2.1.ε fE (fun e=>oF e Xd.out);have m0:w10.cell? ⟨c+1,0,none⟩=some (ι i):=UW.cell 0;have gT:=aq nG fE UW;clear nG fE BL UW;go_upto_region 15 with (first
       |(refine gJ rfl 3 _ _ rfl h 6 (ι i) rfl rfl _ _ gT.out.1 sM rfl kR ?_
         intro w11 gA qy JV))
      rw[show (#[ι a,ι b,ι d,mv,.string S,cV,ι at_,ι ep,v6,ι qM,ι ky]:Array Value).setIfInBounds 6 (ι i)=#[ι a,ι b,ι d,mv,.string S,cV,ι i,ι ep,v6,ι qM,ι ky] from rfl] at gA;have afB:=gT.out.2.2.ε qy (fun e=>oF e Xd.out);have m1:w11.cell? ⟨c+1,1,none⟩=some (ι e):=afB.cell 1;have ez:=τ gA qy;clear gA qy JV afB m0;go_upto_region 16 with (first
       |(refine gJ rfl 3 _ _ rfl h 7 (ι e) rfl rfl _ _ ez.out.1 sM rfl kR ?_
         intro w12 pX iq DK))
      rw[show (#[ι a,ι b,ι d,mv,.string S,cV,ι i,ι ep,v6,ι qM,ι ky]:Array Value).setIfInBounds 7 (ι e)=#[ι a,ι b,ι d,mv,.string S,cV,ι i,ι e,v6,ι qM,ι ky] from rfl] at pX;have Ts:ζ (· = h) w9 w12:=(gT.out.2.1.then ez.out.2 (fun _ e=>.inl e)).then iq (fun _ e=>.inl e);have dU:=aq pX Ts (H9.out.2.2.1.ε Ts (fun e=>oF e Xd.out));have mg:=δ (vq (a:=a) (b:=b) (c:=d) (S:=S) (at_:=i) (ep:=e) (pr:=qM) (ky:=ky) gR.out.2.2.1 HA.out.UT.one HV6.out.1);clear pX iq DK Ts m1;go_wp2_with (first
       |(refine gp 95 h dU.out.1 underlying95 ?_)
       |(refine eN 95 (c+2) #[ι a,ι b,ι d,mv,.string S,cV,ι i,ι e,v6,ι qM,ι ky] dU.out.2.2 mg.out ?_
         intro w13 mO sj Gf))
      refine cJ (jk rfl _ _ (c+2) _ _ _ _ rfl mO underlying95 rfl kR _ rfl) rfl ?_;rw[L3.out.1,L3.out.2];have de:=HA.out.fin N6.out.1 rfl N6.out.2.2 dU.out.2.1 sj;have hres:=ab3.mk (lv:=lv) de.1 HLW.out.2 de.2.1 de.2.2.1 de.2.2.2;first
       | exact .inl ⟨rfl,cV,v6,rfl,hres⟩
       | exact⟨cV,v6,rfl,hres⟩
    ·have h0':(E != 0)=true:=by rw[kq];exact h0
     go_wp2_with (first
   |(refine gp 95 c H5.out.1 underlying95 ?_)
   |(refine eN 95 (c+2) #[ι a,ι b,ι d,mv,.string S,lv,ι at_,ι ep,.slice RA n nH,ι pr,ι ky] H5.out.2.2.1 gR.out.1 ?_
     intro w4 aJ au dh))
     refine cJ (jk rfl _ _ (c+2) _ _ _ _ rfl aJ underlying95 rfl kR _ rfl) rfl afv
  ·have ha':(i - 1 != at_)=true:=by rw[kq];exact ha
   obtain rfl:E=1:=by rw[HE.out.1,ν sM,π (.inl oM)]
   go_wp2_with (first
   |(refine gp 95 c H2.out.1 underlying95 ?_)
   |(refine eN 95 (c+2) #[ι a,ι b,ι d,mv,.string S,lv,ι at_,ι ep,.slice RA n nH,ι pr,ι ky] H2.out.2.2.1 gR.out.1 ?_
     intro w4 aJ au dh))
   refine cJ (jk rfl _ _ (c+2) _ _ _ _ rfl aJ underlying95 rfl kR _ rfl) rfl O8
 ·have h0':(E1 != 0)=true:=by rw[kq];exact h0
  obtain rfl:E=E1:=by rw[HE.out.1,π h0]
  go_wp2_with (first
   |(refine gp 95 c H2.out.1 underlying95 ?_)
   |(refine eN 95 (c+2) #[ι a,ι b,ι d,mv,.string S,lv,ι at_,ι ep,.slice RA n nH,ι pr,ι ky] H2.out.2.2.1 gR.out.1 ?_
     intro w4 aJ au dh))
  refine cJ (jk rfl _ _ (c+2) _ _ _ _ rfl aJ underlying95 rfl kR _ rfl) rfl (by have hu:=H2.out.2.2.2.then au (fun q e=>.inr (oF e Hc.out));first| exact .inr ⟨h0,rfl,hu⟩ | exact⟨rfl,hu⟩)
structure Dp (w:World) (x:Value) (l:List bQ) (aG:List Value):Prop where
 row:∃t,ax w t 3 x (lR l aG)
 len:aG.length=l.length
 each:∀(i:Nat) (b:bQ) (ov:Value),l[i]? = some b→aG[i]? = some ov→∃t,ax w t 3 ov (b.ops.map bY)
theorem Dp.still {w w':World} {x:Value} {l:List bQ} {aG:List Value} (h:Dp w x l aG) (hu:υ w w'):Dp w' x l aG:=by
 obtain⟨⟨t,h1⟩,h2,h3⟩:=h;exact⟨⟨t,h1.still hu⟩,h2,fun i b ov a1 a2=>by obtain⟨t',h4⟩:=h3 i b ov a1 a2;exact⟨t',h4.still hu⟩⟩
theorem FY.rows {w:World} {x:Value} {l:List bQ} {aG:List Value} (h:FY w x l aG) (hl:l.length≤1000000):Dp w x l aG :=
 ⟨⟨_,ax.ku (cs:=lR l aG) (n:=l.length) (by rw[Ru];exact h.own) (Ba _ _ h.len) hl (MN _ _)⟩,h.len,fun i b ov a1 a2=>⟨_,h.each i b ov a1 a2⟩⟩
theorem aij {w:World} {va vb:Value} {a b:List bQ} {oa ob:List Value} (ha:Dp w va a oa) (hb:Dp w vb b ob) :
 ς 37 #[va,vb] w fun e w'=>e=ώ (.bool (decide (a=b)))∧υ w w':=by
 obtain⟨ta,hta⟩:=ha.row;obtain⟨tb,htb⟩:=hb.row;obtain⟨A,cap,bA,off,rfl,hcap,hl,hA,hat⟩:=hta.open_;obtain⟨B,fJ,bB,off2,rfl,th,hl2,hB,vT⟩:=htb.open_;rw[Ba _ _ ha.len] at hcap hl hA ⊢;rw[Ba _ _ hb.len] at th hl2 hB ⊢;obtain⟨r,hr⟩:=μ (decide (a=b));rw[hr];have H:=p7 hat vT hr ha.each hb.each ha.len hb.len;clear hat vT ha hb hr hta htb;go_enter func37,ntmps37
 by_cases hn:a.length=b.length
 ·have hn':((a.length:Int) == (b.length:Int))=true:=by rw[jV];omega
  have hn2:((a.length:Int) != (b.length:Int))=false:=by rw[bne,hn'];rfl
  have HN:=δ hn;clear hn;go_wp2_with fail
  go_loopw [5] (fun i wr=>∃k:Nat,k≤a.length∧i=ι k∧υ w wr∧a.take k=b.take k) (fun i _=>a.length - (intOf i).toNat)
  case atStart=>exact⟨0,oM,rfl,ζ.refl _ _,rfl⟩
  case round =>
   obtain⟨k,hk,rfl,hu,cU⟩:=hrel;have HT:=aq cU hu hk;clear cU;by_cases hlt:k<a.length
   ·obtain rfl:=hA oM
    obtain rfl:=hB (oN HN.out);have bM:k<b.length:=by have:=HN.out;omega
    obtain⟨x,hx⟩:=μ (a[k]);obtain⟨y,hy⟩:=μ (b[k]'bM);have hx':a[k]? = some x:=by rw[bu hlt,hx]
    have hy':b[k]? = some y:=by rw[bu bM,hy]
    obtain⟨O1,gE⟩:∃O,oa[k]? = some O:=⟨_,bu (oN H.out.2.2.2.2.2.1)⟩;obtain⟨O2,bL⟩:∃O,ob[k]? = some O:=⟨_,bu (oN H.out.2.2.2.2.2.2)⟩;have hrow:=H.out.1 wr _ hu (fun _ _ e=>e) k _ (MY _ _ k x O1 hx' gE);have nB:=H.out.2.1 wr _ hu (fun _ _ e=>e) k _ (MY _ _ k y O2 hy' bL);obtain⟨t1,ht1⟩:=H.out.2.2.2.1 k x O1 hx' gE;obtain⟨t2,ht2⟩:=H.out.2.2.2.2.1 k y O2 hy' bL;have cX0:wr.cell? ⟨bA,off+k*3,none⟩=some (ι x.index):=hrow 0 _ rfl;have WR:wr.cell? ⟨bA,off+k*3+1,none⟩=some (ι x.θ):=hrow 1 _ rfl;have WS:wr.cell? ⟨bA,off+k*3+2,none⟩=some O1:=hrow 2 _ rfl;have cY0:wr.cell? ⟨bB,off2+k*3,none⟩=some (ι y.index):=nB 0 _ rfl;have WT:wr.cell? ⟨bB,off2+k*3+1,none⟩=some (ι y.θ):=nB 1 _ rfl;have WU:wr.cell? ⟨bB,off2+k*3+2,none⟩=some O2:=nB 2 _ rfl;have HS:=δ (ale (a:=x) (b:=y) (ht1.still hu.drew) (ht2.still hu.drew));have HX:=aF hx hy hlt bM;have j1:(k:Int)<(a.length:Int):=oM;have j2:(k:Int)<(b.length:Int):=oM
    have hwk:IntKind.i64.wrap ((k:Int)+1)=(k:Int)+1:=cZ _ oM;clear hrow nB hx hy hx' hy' gE bL ht1 ht2;go_wp2_with fail
    go_still_tail 8,kR
    change wpList _ _ _ _ _ wr.drew;by_cases he:x=y
    ·rw[fo he] at HS
     have HE:=δ he;clear he;go_wp2_with (first
      |(go_at_call 83;refine HS.out.mono ?_;rintro e w2 ⟨rfl,σ⟩;have H2:=δ (hu.drew.then σ φ);clear σ))
     go_roundw
     case rel =>
      refine⟨k+1,oM,sM,H2.out,?_⟩;exact Tr
     case measure=>simp[intOf]<;>omega
    ·rw[gI he] at HS
     have hrf:r=false:=by
      rw[← H.out.2.2.1,oc];intro hab;apply he
      rw[← HX.out.1,← HX.out.2.1];simp only[hab]
     subst hrf;clear he;go_wp2_with (first
      |(go_at_call 83;refine HS.out.mono ?_;rintro e w2 ⟨rfl,σ⟩;have H2:=δ (hu.drew.then σ φ);clear σ))
     go_ret
     exact⟨rfl,H2.out⟩
   ·have j1:¬((k:Int)<(a.length:Int)):=oM
    have yX:r=true:=by
     rw[← H.out.2.2.1,eD];have:=HT.out.1;rw[dV oM,dV (oN HN.out)] at this;exact this
    subst yX;go_wp2_with fail
    go_ret
    exact⟨rfl,hu⟩
 ·have hn':((a.length:Int) == (b.length:Int))=false:=by rw[iX];omega
  have hn2:((a.length:Int) != (b.length:Int))=true:=by rw[bne,hn'];rfl
  have hrf:r=false:=by
   rw[← H.out.2.2.1,oc];rintro rfl;exact hn rfl
  subst hrf;go_wp2_with fail
  go_ret
  exact⟨rfl,ζ.refl _ _⟩
end
end Go.Proofs.YtbhjgfibhegddaaGreat
