/-
  Parts of the proof of VaultFalls: Alike17, Wakes, WVaultDown, VlFall, FallIn, Again17, FallOn.
-/
import Derived.Test.YtbhjgfibhegddaaGreatQVaultFalls24
set_option maxRecDepth 100000
set_option maxHeartbeats 16000000
namespace Go.Proofs.YtbhjgfibhegddaaGreat
open Tryz
section
open Go Go.RowKit
section
variable {P:Program} {ops:Array Oper} {Q:Exit→Act→World→Prop} {md:Region.Mode} {S:World→Prop} {T:Nat→Bool}
theorem bT (i:Nat) {oi:Oper} {fuel:Nat} {listed:Array Bool} {a:Act} {w:World} (h:eu P md ops Q S T fuel (listed.setIfInBounds i true) (a.put oi.dst undef) w)
 (hi:ops[i]? = some oi:=by rfl) (hS:S w:=by assumption) (iJ:Region.wanted oi (yielded ops a.tmps)=false:=by rfl)
 (hc:(Region.noSelect ops && Region.free md ops listed i && (Region.ready md ops listed).contains i && zn md ops T listed i && ops.size == listed.size)=true:=by kernel_rfl) (hQ:∀c a w,Q (.panic c) (a.put oi.dst undef) w→Q (.panic c) a w:=by exact fun _ _ _ h=>h):eu P md ops Q S T (fuel+1) listed a w:=by
 simp only[gV,jV] at hc;exact Q5 hi hc.1.1.1.1 hc.1.1.1.2 hc.1.1.2 hc.1.2 hQ (uf hi (Or.inr ⟨iJ,rfl⟩)) hS hc.2 h
end
theorem zz1 {P:Prop} (h:P:=by
 refine ξ 9 ?_;refine ξ 10 ?_;refine bT 11 ?_;simp only[av];refine bT 12 ?_;simp only[av];refine bT 13 ?_;simp only[av];refine bT 14 ?_;simp only[av];refine bT 15 ?_;simp only[av];refine ξ 16 ?_;refine ξ 17 ?_;refine bT 18 ?_;simp only[av];refine bT 19 ?_;simp only[av];refine bT 20 ?_;simp only[av];refine bT 21 ?_;simp only[av];refine bT 22 ?_;simp only[av];refine bT 23 ?_;simp only[av];refine ξ 24 ?_;refine ξ 25 ?_;refine bT 26 ?_;simp only[av];refine bT 27 ?_;simp only[av];refine bT 28 ?_;simp only[av];refine bT 29 ?_;simp only[av];refine bT 30 ?_;simp only[av];refine bT 31 ?_;simp only[av];refine bT 32 ?_;simp only[av];refine ξ 33 ?_;refine ξ 34 ?_;refine bT 35 ?_;simp only[av];refine bT 36 ?_;simp only[av];refine bT 37 ?_;simp only[av];refine bT 38 ?_;simp only[av];refine ξ 39 ?_;refine ξ 40 ?_;refine bT 41 ?_;simp only[av];refine bT 42 ?_;simp only[av];refine bT 43 ?_;simp only[av];refine bT 44 ?_;simp only[av];refine ξ 45 ?_;refine ξ 46 ?_;refine dY ?_;refine dz ?_;go_wp2_with fail
 go_ret
 exact⟨rfl,(iO.out.then Xh.out φ)⟩):P:=h
theorem zz5 {P:Prop} (h:P:=by
 refine ξ 45 ?_;refine ξ 46 ?_;refine dY ?_;refine dz ?_;go_wp2_with fail
 go_ret
 exact⟨rfl,(iO.out.then Qz.out φ)⟩):P:=h
theorem afF {P:Prop} (h:P:=by
 refine ξ 44 ?_;exact zz5):P:=h
theorem MZ {w:World} {p v κ:Nat} {R W:bq} {M:Nat→Prop} {mv lv rv:Value} {aG:List Value} (h:mh w p v R κ) (hd:eL w M W mv lv rv aG) :
 ς 50 #[.pointer (some ⟨v,0,none⟩),.agg (fO W mv lv rv)] w fun e w'=>e=ώ (.bool (decide (R=W)))∧υ w w':=by
 obtain⟨c,hc⟩:=μ w.heap.size;obtain⟨r,hr⟩:=μ (decide (R=W));rw[hr];obtain⟨S,hS⟩:=μ (str W.m.aW);obtain⟨at_,hat⟩:∃x,W.at_=x:=⟨_,rfl⟩;obtain⟨ep,eV⟩:∃x,W.θ=x:=⟨_,rfl⟩;obtain⟨pr,pq⟩:∃x,W.prev=x:=⟨_,rfl⟩;obtain⟨ky,AH⟩:∃x:Int,(W.key:Int)=x:=⟨_,rfl⟩;obtain⟨a,ha⟩:∃x,W.m.role=x:=⟨_,rfl⟩;obtain⟨b,hb⟩:∃x,W.m.seen=x:=⟨_,rfl⟩;obtain⟨d,tN⟩:∃x,W.m.aH=x:=⟨_,rfl⟩;have hme:dD W.m mv=[ι a,ι b,ι d,mv,.string S].toArray:=by rw[← hS,← ha,← hb,← tN];rfl
 have hrow:fO W mv lv rv=#[ι a,ι b,ι d,mv,.string S,lv,ι at_,ι ep,rv,ι pr,ι ky]:=by unfold fO j_;rw[hS,hat,eV,pq,AH,ha,hb,tN]
 rw[hrow];have afG:=δ hd.eS.1;have afH:=δ hd.kL.1;have afI:=δ hd.bt;have D_:=δ h;have HME:=δ hme;have HL:=aF hat eV pq AH;have HR:=δ hr;have Hc:=δ hc;have zz:=h.many;have HMN:=δ zz;clear h hd hc hr hS hat eV pq AH ha hb tN hme hrow zz;go_enter func50,ntmps50
 go_upto_region 1 with fail
 rw[Hc.out];generalize hw1:World.alloc _ _=w1;have aP:η w1 c 95 #[ι a,ι b,ι d,mv,.string S,lv,ι at_,ι ep,rv,ι pr,ι ky]:=Up
 have az:υ w w1:=ry
 have H1:=τ aP az;clear hw1 aP az;go_upto_region 3 with (first
  |(go_at_call 12
    refine(D_.out.still H1.out.2).place.mono ?_;rintro e w2 ⟨rfl,σ⟩;have H2:=δ (H1.out.2.then σ φ);have kG:=δ (H1.out.1.ε σ id);clear σ)
  |(go_at_call 17
    refine(D_.out.still H2.out).ami.mono ?_;rintro e w3 ⟨vx,ovx,rfl,tL,-,χ⟩;have HX:=δ (tL.rows (oN HMN.out));have iO:=δ (H2.out.then χ φ);have HB:=δ (kG.out.ε χ id);clear tL χ))
 have HMT:=δ (afG.out.still iO.out);have CD:=δ (afH.out.still iO.out);have WX:=δ (afI.out.still iO.out);have HV:=δ (D_.out.still iO.out);have Xh:=δ ((ζ.refl (fun _=>False) w3).drew);clear afG afH afI D_ H1 H2 kG;refine dW ?_;refine eo (S:=fun w'=>η w' c 95 #[ι a,ι b,ι d,mv,.string S,lv,ι at_,ι ep,rv,ι pr,ι ky]) (T:=fun _=>false) kR ?_;have aE:=HB.out.drew;refine ξ 0 ?_;refine ξ 1 ?_;refine aX 2 (fun w' hSw=>hSw.cell 6) ?_;by_cases z1:R.at_=W.at_
 ·have q1 : (R.at_ == at_)=true:=by rw[jV,z1];exact HL.out.1
  have Z1:=δ z1;clear z1;refine ξ 3 ?_;refine ξ 4 ?_;refine ξ 5 ?_;refine ξ 6 ?_;refine aX 7 (fun w' hSw=>hSw.cell 7) ?_;by_cases z2:R.θ=W.θ
  ·have q2:(R.θ == ep)=true:=by rw[jV,z2];exact HL.out.2.1
   have Z2:=δ z2;clear z2;refine ξ 8 ?_;refine ξ 9 ?_;refine ξ 10 ?_;refine ξ 11 ?_;refine ξ 13 ?_;refine aX 14 (fun w' hSw=>hSw.cell 10) ?_;refine bf 12 (fun KK ο=>?_);go_simp
   refine((HV.out.still Xh.out).key).mono ?_;rintro e w1b ⟨rfl,aoR⟩;subst aoR;have hU:=ζ.refl (fun _=>False) w3.drew;have lJ:=δ (Xh.out.then hU φ);have cz:=HB.out.ε lJ.out id;refine ο.out _ _ cz ?_;clear ο hU aE;try simp only[av]
   by_cases z3:R.key=W.key
   ·have q3:((R.key:Int) == ky)=true:=by rw[jV,← HL.out.2.2.2];omega
    have Z3:=δ z3;clear z3;refine ξ 15 ?_;refine ξ 16 ?_;refine ξ 17 ?_;refine ξ 18 ?_;refine ξ 21 ?_;refine iL 22 (.agg [ι a,ι b,ι d,mv,.string S].toArray) (C0 rfl ak _ _ rfl c 0 ak _ _ [ι a,ι b,ι d,mv,.string S] _ (fun w' hSw=>hSw) (fun j u hj=>og (cs:=#[ι a,ι b,ι d,mv,.string S,lv,ι at_,ι ep,rv,ι pr,ι ky]) (i:=0) (n:=5) rfl j u hj) underlying79 rfl kR) ?_;refine bf 19 (fun KK ο=>?_);go_simp
    refine((HV.out.still lJ.out).anP).mono ?_;rintro e w2 ⟨mvR,rfl,Xi,hU⟩;have jP:=δ (lJ.out.then hU φ);have bn:=HB.out.ε jP.out id;refine ο.out _ _ bn ?_;clear ο hU cz;try simp only[av]
    refine bf 20 (fun KK ο=>?_);go_simp
    refine(SJ R.m Xi).mono ?_;rintro e w3b ⟨rfl,hU⟩;have HMR:=δ (Xi.still hU);have gr:=δ (jP.out.then hU φ);have kg:=HB.out.ε gr.out id;refine ο.out _ _ kg ?_;clear ο hU bn;try simp only[av]
    clear Xi;refine bf 23 (fun KK ο=>?_);go_simp
    have gS:=aih HMR.out (HMT.out.still gr.out);rw[HME.out] at gS;refine gS.mono ?_;rintro e w4 ⟨rfl,hU⟩;by_cases z4:R.m=W.m
    ·rw[fo z4]
     have oH:=δ (gr.out.then hU φ);have dH:=HB.out.ε oH.out id;refine ο.out _ _ dH ?_;clear ο hU kg;try simp only[av]
     have Z4:=δ z4;clear z4 gS;refine ξ 24 ?_;refine ξ 25 ?_;refine ξ 26 ?_;refine ξ 29 ?_;refine ξ 30 ?_;refine aX 31 (fun w' hSw=>hSw.cell 5) ?_;refine bf 27 (fun KK ο=>?_);go_simp
     refine((HV.out.still oH.out).DX).mono ?_;rintro e w5 ⟨m5,mb5,rfl,Aw,-,-,hU⟩;have dB:=δ (oH.out.then hU φ);have jO:=HB.out.ε dB.out id;refine ο.out _ _ jO ?_;clear ο hU dH;try simp only[av]
     refine bf 28 (fun KK ο=>?_);go_simp
     refine(abQ Aw).mono ?_;rintro e w6 ⟨wv,rfl,rO,-,hU⟩;have HT6:=δ (ak' rO Aw);have gD:=δ (dB.out.then hU φ);have cW:=HB.out.ε gD.out id;refine ο.out _ _ cW ?_;clear ο hU jO;try simp only[av]
     clear Aw rO;refine bf 32 (fun KK ο=>?_);go_simp
     refine(ald HT6.out (CD.out.still gD.out)).mono ?_;rintro e w7 ⟨rfl,hU⟩;by_cases z5:R.S=W.S
     ·rw[fo z5]
      have wL:=δ (gD.out.then hU φ);have mB:=HB.out.ε wL.out id;refine ο.out _ _ mB ?_;clear ο hU cW;try simp only[av]
      have Z5:=δ z5;clear z5;refine ξ 33 ?_;refine ξ 34 ?_;refine ξ 35 ?_;refine ξ 36 ?_;refine aX 37 (fun w' hSw=>hSw.cell 8) ?_;refine bf 38 (fun KK ο=>?_);go_simp
      refine(aij (HX.out.still wL.out) (WX.out.still wL.out)).mono ?_;rintro e w8 ⟨rfl,hU⟩;by_cases z6:R.rows=W.rows
      ·rw[fo z6]
       have Qz:=δ (wL.out.then hU φ);have iK:=HB.out.ε Qz.out id;refine ο.out _ _ iK ?_;clear ο hU mB;try simp only[av]
       have Z6:=δ z6;clear z6;refine ξ 39 ?_;refine ξ 40 ?_;refine ξ 41 ?_;refine ξ 42 ?_;refine aX 43 (fun w' hSw=>hSw.cell 9) ?_;by_cases z7:R.prev=pr
       ·have q7:(R.prev == pr)=true:=by rw[jV];exact z7
        have yX:r=true:=by
         rw[← HR.out,eD,Bp];exact⟨Z4.out,Z5.out,Z1.out,Z2.out,Z6.out,z7.trans HL.out.2.2.1.symm,Z3.out⟩
        subst yX;exact afF
       ·have q7:(R.prev == pr)=false:=by rw[iX];exact z7
        have hrf:r=false:=by
         rw[← HR.out,oc,Bp];exact fun h=>z7 (h.2.2.2.2.2.1.trans HL.out.2.2.1)
        subst hrf;exact afF
      ·rw[gI z6]
       have Qz:=δ (wL.out.then hU φ);have iK:=HB.out.ε Qz.out id;refine ο.out _ _ iK ?_;clear ο hU mB;try simp only[av]
       have hrf:r=false:=by
        rw[← HR.out,oc,Bp];exact fun h=>z6 h.2.2.2.2.1
       subst hrf;refine ξ 39 ?_;refine ξ 40 ?_;refine bT 41 ?_;simp only[av];refine bT 42 ?_;simp only[av];refine bT 43 ?_;simp only[av];refine bT 44 ?_;simp only[av];exact zz5
     ·rw[gI z5]
      have wL:=δ (gD.out.then hU φ);have mB:=HB.out.ε wL.out id;refine ο.out _ _ mB ?_;clear ο hU cW;try simp only[av]
      have hrf:r=false:=by
       rw[← HR.out,oc,Bp];exact fun h=>z5 h.2.1
      subst hrf;refine ξ 33 ?_;refine ξ 34 ?_;refine bT 35 ?_;simp only[av];refine bT 36 ?_;simp only[av];refine bT 37 ?_;simp only[av];refine bT 38 ?_;simp only[av];refine ξ 39 ?_;refine ξ 40 ?_;refine bT 41 ?_;simp only[av];refine bT 42 ?_;simp only[av];refine bT 43 ?_;simp only[av];refine bT 44 ?_;simp only[av];refine ξ 45 ?_;refine ξ 46 ?_;refine dY ?_;refine dz ?_;go_wp2_with fail
      go_ret
      exact⟨rfl,(iO.out.then wL.out φ)⟩
    ·rw[gI z4]
     have oH:=δ (gr.out.then hU φ);have dH:=HB.out.ε oH.out id;refine ο.out _ _ dH ?_;clear ο hU kg;try simp only[av]
     have hrf:r=false:=by
      rw[← HR.out,oc,Bp];exact fun h=>z4 h.1
     subst hrf;refine ξ 24 ?_;refine ξ 25 ?_;refine bT 26 ?_;simp only[av];refine bT 27 ?_;simp only[av];refine bT 28 ?_;simp only[av];refine bT 29 ?_;simp only[av];refine bT 30 ?_;simp only[av];refine bT 31 ?_;simp only[av];refine bT 32 ?_;simp only[av];refine ξ 33 ?_;refine ξ 34 ?_;refine bT 35 ?_;simp only[av];refine bT 36 ?_;simp only[av];refine bT 37 ?_;simp only[av];refine bT 38 ?_;simp only[av];refine ξ 39 ?_;refine ξ 40 ?_;refine bT 41 ?_;simp only[av];refine bT 42 ?_;simp only[av];refine bT 43 ?_;simp only[av];refine bT 44 ?_;simp only[av];refine ξ 45 ?_;refine ξ 46 ?_;refine dY ?_;refine dz ?_;go_wp2_with fail
     go_ret
     exact⟨rfl,(iO.out.then oH.out φ)⟩
   ·have q3:((R.key:Int) == ky)=false:=by rw[iX,← HL.out.2.2.2];omega
    have hrf:r=false:=by
     rw[← HR.out,oc,Bp];exact fun h=>z3 h.2.2.2.2.2.2
    subst hrf;refine ξ 15 ?_;refine ξ 16 ?_;refine ξ 17 ?_;refine bT 18 ?_;simp only[av];refine bT 19 ?_;simp only[av];refine bT 20 ?_;simp only[av];refine bT 21 ?_;simp only[av];refine bT 22 ?_;simp only[av];refine bT 23 ?_;simp only[av];refine ξ 24 ?_;refine ξ 25 ?_;refine bT 26 ?_;simp only[av];refine bT 27 ?_;simp only[av];refine bT 28 ?_;simp only[av];refine bT 29 ?_;simp only[av];refine bT 30 ?_;simp only[av];refine bT 31 ?_;simp only[av];refine bT 32 ?_;simp only[av];refine ξ 33 ?_;refine ξ 34 ?_;refine bT 35 ?_;simp only[av];refine bT 36 ?_;simp only[av];refine bT 37 ?_;simp only[av];refine bT 38 ?_;simp only[av];refine ξ 39 ?_;refine ξ 40 ?_;refine bT 41 ?_;simp only[av];refine bT 42 ?_;simp only[av];refine bT 43 ?_;simp only[av];refine bT 44 ?_;simp only[av];refine ξ 45 ?_;refine ξ 46 ?_;refine dY ?_;refine dz ?_;go_wp2_with fail
    go_ret
    exact⟨rfl,(iO.out.then lJ.out φ)⟩
  ·have q2:(R.θ == ep)=false:=by rw[iX,← HL.out.2.1];exact z2
   have hrf:r=false:=by
    rw[← HR.out,oc,Bp];exact fun h=>z2 h.2.2.2.1
   subst hrf;refine ξ 8 ?_;exact zz1
 ·have q1:(R.at_ == at_)=false:=by rw[iX,← HL.out.1];exact z1
  have hrf:r=false:=by
   rw[← HR.out,oc,Bp];exact fun h=>z1 h.2.2.1
  subst hrf;refine ξ 3 ?_;refine ξ 4 ?_;refine bT 5 ?_;simp only[av];refine bT 6 ?_;simp only[av];refine bT 7 ?_;simp only[av];refine bT 8 ?_;simp only[av];exact zz1
theorem ax.new {w:World} {t:TypeId} {k n:Nat} {cells:Array Value} {cs:List (List Value)} (hn:cs.length=n) (hm:n≤1000000) (hc:∀i c,cs[i]? = some c→∀j u,c[j]? = some u→cells[i*k+j]? = some u):ax (w.alloc (.cells cells t)) t k (.slice (some ⟨w.heap.size,0,none⟩) n n) cs:=by
 refine⟨_,n,by rw[hn],oM,oM,fun _=>⟨w.heap.size,0,cells,t,(0,0),rfl,η.new w t cells,fun _=>rfl,fun i c h j u hj=>?_⟩⟩;rw[lK];exact hc i c h j u hj
theorem ax.nil (w:World) (t:TypeId) (k:Nat):ax w t k (.slice none 0 0) []:=⟨none,0,rfl,sM,sM,fun h=>by simp at h⟩
def opW:dn:=⟨1,[97,112,112,47,97],[49]⟩
def Kv:bQ:=⟨1,1,[opW]⟩
theorem alm:∃R,iZ R0 Kv=(R,0)∧R.at_=1∧R.θ=1∧R.S=[([97,112,112,47,97],[49])]∧R.rows.length=1∧R.m=NP∧R.key=0∧R.prev=0:=⟨_,rfl,rfl,rfl,rfl,rfl,rfl,rfl,rfl⟩
theorem Sl (w:World):ς 26 #[] w fun e w'=>e=ώ (.bool true)∧υ w w':=by
 have HF:=δ (aaO w);obtain⟨R,hR,r1,r2,r3,-⟩:=alm;have iP:iZ R ⟨3,1,[]⟩=(R,1):=by
  unfold iZ;rw[ν dC,π (.inl (by rw[r1];decide))]
 have HR:=cD hR iP r1 r2 r3;clear hR iP r1 r2 r3;go_enter func26,ntmps26
 go_upto_region 4 with (first
  |(go_at_call 11;refine HF.out.mono ?_;rintro e w1 ⟨p,v,rfl,hV⟩
    have H1:=δ hV;clear hV))
 go_upto_region 5 with (first
  |(go_at_call 15
    have hu:=(ζ.refl (fun _=>False) w1).alloc (.cells #[ϋ 1,.string ⟨#[97,112,112,47,97]⟩,.string ⟨#[49]⟩] 32);refine((H1.out.still hu).q_ oM Kv (ax.new (w:=w1) (t:=32) (k:=3) (n:=1) (cells:=#[ϋ 1,.string ⟨#[97,112,112,47,97]⟩,.string ⟨#[49]⟩]) (cs:=Kv.ops.map bY) rfl oM (by
     intro i c h j u hj;match i,h with
     | 0,h =>
       cases h
       match j,hj with
       | 0,hj=>exact hj
       | 1,hj=>exact hj
       | 2,hj=>exact hj
       | n+3,hj=>simp[bY] at hj
     | n+1,h=>simp[Kv] at h)) (.inl dC) (by intro o ho;simp[Kv] at ho;subst ho;decide) dC).mono ?_
    rintro e w2 ⟨rfl,hV,-⟩;rw[HR.out.1] at hV ⊢;have H2:=δ hV;clear hu hV))
 go_upto_region 6 with (first
  |(go_at_call 15
    refine(H2.out.q_ oM ⟨3,1,[]⟩ (ax.nil _ 32 _) (.inl dC) (fun o ho=>by simp at ho) dC).mono ?_;rintro e w3 ⟨rfl,hV,-⟩;rw[HR.out.2.1] at hV ⊢;have H3:=δ hV;clear hV))
 go_upto_region 7 with (first
  |(go_at_call 16;refine(H3.out.open_ oM).mono ?_;rintro e w4 ⟨u,rfl,hV,-⟩
    have H4:=δ hV;clear hV))
 go_upto_region 9 with (first
  |(go_at_call 12;refine H4.out.place.mono ?_;rintro e w5 ⟨rfl,hV,-⟩
    rw[HR.out.2.2.1,HR.out.2.2.2.1];have H5:=δ hV;clear hV)
  |(go_at_call 18;refine H5.out.DX.mono ?_;rintro e w6 ⟨m,mb,rfl,hm,-,-,hV,-⟩
    rw[HR.out.2.2.2.2] at hm;have H6:=τ hV hm;clear hV hm)
  |(go_at_call 19;refine(amY H6.out.2 ⟨#[97,112,112,47,97]⟩).mono ?_;rintro e w7 ⟨rfl,rfl⟩
    rw[show Uc [([97,112,112,47,97],[49])] (⟨#[97,112,112,47,97]⟩:ByteArray).data.toList=.tuple #[.string ⟨#[49]⟩,.bool true] from rfl]))
 have HB:=δ (H6.out.1.F_ oM);go_wp2_with (first
  |(go_at_call 13;refine HB.out.mono ?_;rintro e w8 ⟨rfl,rfl⟩))
 go_ret
 exact⟨rfl,H6.out.1.ε⟩
section
variable {w0 w w':World} {p v:Nat} {R:bq} {κ c:Nat} {M:Nat→Prop} {Q:bq→Prop}
theorem abq (n:Int) (hn:uB n) (w:World):ς 29 #[ι n] w fun e w'=>∃m,e=ώ (ι m)∧0≤m∧m≤40∧w=w':=by
 obtain⟨k,hk⟩:=μ (n.tmod 41);have hkr:-41<k∧k<41:=by
  rw[← hk];exact⟨by have:=QU n (show (0:Int)<41 by decide);omega,Yf n dC⟩
 obtain⟨nT,hn2⟩:=hn;go_enter func29,ntmps29
 by_cases h0:k<0
 ·go_wp2_with fail
  go_ret
  exact⟨-k,by first| rfl |(congr 2;go_num),oM,oM,rfl⟩
 ·go_wp2_with fail
  go_ret
  exact⟨k,by first| rfl |(congr 2;go_num),oM,oM,rfl⟩
theorem dZ.bP (h:dZ w0 w p v R κ c M) (m:Int) (hm:m≤9223372036854775807):ς 28 #[.pointer (some ⟨p,0,none⟩),ι m] w fun r w'=>r=ώ (.tuple #[])∧∃M',dZ w0 w' p v R κ c M'∧dL w w' M M':=by
 obtain⟨d,V,o,S0,hB,ho,hg,hR⟩:=h;refine(SQ hB.at_.bH m hm).mono ?_;rintro r w' ⟨rfl,hL⟩;obtain⟨h1,h2⟩:=hB.at_.N7 hL;obtain⟨a1,a2⟩:=hB.step h1 h2;exact⟨rfl,_,⟨d.Jl m,V,_,S0,a1,ho,hg,hR⟩,a2⟩
theorem dZ.oP (h:dZ w0 w p v R κ c M) {q:Nat} (hq:M q):wW w q:=by
 obtain⟨_,_,_,_,h,_⟩:=h;exact h.at_.oP ((h.turns q).1 hq)
theorem kN.oP {a e:Int} {S:List ai} (h:kN w0 w p v a e S Q c M) {q:Nat} (hq:M q):wW w q:=by
 obtain⟨_,_,_,h,_⟩:=h;exact h.at_.oP ((h.turns q).1 hq)
end
section
variable {w0 w:World} {p v c:Nat} {M:Nat→Prop} {Q:bq→Prop} {a e:Int} {S:List ai}
end
structure sR (w0 w:World) (p:Nat) (R:bq) (c:Nat) (M:Nat→Prop) (fused:Bool):Prop where
 ex:∃d F,bG w p d F∧d.off=false∧(fused=false→d.free=d)∧Rest d.free R c∧∀q,M q↔q ∈ F
 low:∀q,M q→w0.heap.size≤q
 ε:υ w0 w
structure Xj (w0 w:World) (p:Nat) (R:bq) (c:Nat) (M:Nat→Prop):Prop where
 ex:∃d F,bG w p d F∧d.off=true∧(∀keep,d.wf→Rest (d.eT keep) R c)∧∀q,M q↔q ∈ F
 low:∀q,M q→w0.heap.size≤q
 ε:υ w0 w
theorem Rest.abr {d:Dk} {R:bq} {c:Nat} (h:Rest d R c):d.off=false∧d.free=d:=by
 obtain⟨V,S0,h,-⟩:=h;exact⟨h.aL.good.off,Dk.Sf h.aL.good.bP h.aL.good.off⟩
section
variable {w0 w w':World} {p v:Nat} {R:bq} {κ c:Nat} {M:Nat→Prop} {Q:bq→Prop} {a e:Int} {S:List ai} {fl:Bool}
theorem M4 {d':Dk} {F F':List Nat} (h0:∀q,M q↔q ∈ F) (hl:∀q,M q→w0.heap.size≤q) (hu:υ w0 w) (hL:Left w w' p d' F F'):(∀q,q ∈ F'→w0.heap.size≤q)∧υ w0 w'∧dL w w' M (· ∈ F'):=by
 refine⟨fun q hq=>?_,hu.then hL.ε (fun q e=>.inr (hl q ((h0 q).2 e))),hL.ε.mono (fun q e=>.inl ((h0 q).2 e)),fun q hq=>(hL.sub q hq).imp (h0 q).2 id⟩;rcases hL.sub q hq with e | e
 ·exact hl q ((h0 q).2 e)
 ·have:=hu.size
  omega
theorem kN.eT (h:kN w0 w p v a e S Q c M) {kv:Value} {keep:List Int} (hk:Bl w0 kv keep):ς 44 #[.pointer (some ⟨p,0,none⟩),kv] w fun r w'=>r=ώ (.tuple #[])∧∃R2 M',sR w0 w' p R2 c M' false∧Q R2∧dL w w' M M':=by
 obtain⟨d,V,o,hB,ho,-,-,-,hq⟩:=h;refine(aa_ hB.at_.bH (Jw.aa9 (fun q hq=>hB.low q (.inr (.inl hq))) hk hB.ε)).mono ?_;rintro r w' ⟨rfl,F',hL⟩;obtain⟨R2,h1,h2⟩:=hq keep hB.at_.bH.wf;obtain⟨f1,f2⟩:=h1.abr;obtain⟨g1,g2,g3⟩:=M4 (M:=(· ∈ o.F)) (fun _=>ua) (fun q hq=>hB.low q (.inr (.inl hq))) hB.ε hL;exact⟨rfl,R2,_,⟨⟨_,F',hL.bH,f1,fun _=>f2,by rw[f2];exact h1,fun _=>ua⟩,g1,g2⟩,h2,g3.ε.mono (fun q e=>.inl ((hB.turns q).2 (.inr (.inl e)))),fun q hq=>(g3.sub q hq).imp (fun e=>(hB.turns q).2 (.inr (.inl e))) id⟩
theorem Xj.eT (h:Xj w0 w p R c M) {kv:Value} {keep:List Int} (hk:Bl w0 kv keep):ς 44 #[.pointer (some ⟨p,0,none⟩),kv] w fun r w'=>r=ώ (.tuple #[])∧∃M',sR w0 w' p R c M' false∧dL w w' M M':=by
 obtain⟨d,F,hD,ho,hq,hm⟩:=h.ex;refine(aa_ hD (Jw.aa9 (fun q hq=>h.low q ((hm q).2 hq)) hk h.ε)).mono ?_;rintro r w' ⟨rfl,F',hL⟩;have h1:=hq keep hD.wf;obtain⟨f1,f2⟩:=h1.abr;obtain⟨g1,g2,g3⟩:=M4 hm h.low h.ε hL;exact⟨rfl,_,⟨⟨_,F',hL.bH,f1,fun _=>f2,by rw[f2];exact h1,fun _=>ua⟩,g1,g2⟩,g3⟩
theorem sR.bP (h:sR w0 w p R c M false) (m:Int) (hm:m≤9223372036854775807):ς 28 #[.pointer (some ⟨p,0,none⟩),ι m] w fun r w'=>r=ώ (.tuple #[])∧∃M',sR w0 w' p R c M' true∧dL w w' M M':=by
 obtain⟨d,F,hD,ho,hf,hr,hM⟩:=h.ex;refine(SQ hD m hm).mono ?_;rintro r w' ⟨rfl,hL⟩;obtain⟨g1,g2,g3⟩:=M4 hM h.low h.ε hL;exact⟨rfl,_,⟨⟨_,F,hL.bH,ho,fun e=>by simp at e,hr,fun _=>ua⟩,g1,g2⟩,g3⟩
theorem cE.bH (h:cE w0 w p v R κ c M):∃M',sR w0 w p R c M' false∧∀q,M' q→M q:=by
 obtain⟨d,V,o,S0,h,h1,h2,hm⟩:=h;exact⟨(· ∈ o.F),⟨⟨d,o.F,h.at_.bH,h.g.aL.good.off,fun _=>Dk.Sf h.g.aL.good.bP h.g.aL.good.off,⟨V,S0,h.g.free,h1⟩,fun _=>ua⟩,fun q hq=>h.low q (.inr (.inl hq)),h.ε⟩,fun q hq=>(hm q).2 (.inr (.inl hq))⟩
theorem dZ.ab4 (h:dZ w0 w p v R κ c M):ς 28 #[.pointer (some ⟨p,0,none⟩),ι (-1)] w fun r w'=>r=ώ (.tuple #[])∧∃M',cE w0 w' p v R κ c M'∧dL w w' M M':=by
 obtain⟨d,V,o,S0,hB,ho,hg,hR,hb⟩:=h;refine(SQ hB.at_.bH (-1) dC).mono ?_;rintro r w' ⟨rfl,hL⟩;obtain⟨h1,h2⟩:=hB.at_.N7 hL;obtain⟨a1,a2⟩:=hB.step h1 h2;have hd:d.Jl (-1)=d.free:=by
  unfold Dk.Jl Dk.free;rw[ho];rfl
 rw[hd] at a1;exact⟨rfl,_,⟨d.free,V,_,S0,⟨a1.at_,hg,a1.low,a1.ε⟩,hR,hb,a1.turns⟩,a2⟩
theorem sR.open_ (h:sR w0 w p R c M false) (hc:c<99000):ς 16 #[.pointer (some ⟨p,0,none⟩),.string (str jo)] w fun r w'=>∃u κ M',r=ώ (.tuple #[.pointer (some ⟨u,0,none⟩),ι 0])∧cE w0 w' p u R κ (c+1) M'∧dL w w' M M':=by
 obtain⟨d,F,hD,ho,hf,⟨V,S0,hg,hR⟩,hM⟩:=h.ex;rw[hf rfl] at hg;refine(ND hD (hg.free.FZ hc ho)).mono ?_;intro r w' hO;obtain⟨D,V',q1,q2,q3,q4⟩:=eP.opens hg hc;rw[q1] at hO;obtain⟨u,o',rfl,hL⟩:=hO.yes rfl;refine⟨u,_,_,rfl,⟨D,V',o',S0,⟨hL.at_,q2,fun q hq=>?_,h.ε.then hL.ε (fun q hq=>.inr (h.low q ((hM q).2 hq)))⟩,q3.trans hR,q4,fun _=>ua⟩,hL.ε.mono (fun q hq=>.inl ((hM q).2 hq)),fun q hq=>(hL.sub q hq).imp (hM q).2 id⟩;rcases hL.sub q hq with e | e
 ·exact h.low q ((hM q).2 e)
 ·have:=h.ε.size
  omega
theorem sR.aik (h:sR w0 w p R c M true) (hc:c<99000):ς 16 #[.pointer (some ⟨p,0,none⟩),.string (str jo)] w fun r w' =>
 (∃u κ M',r=ώ (.tuple #[.pointer (some ⟨u,0,none⟩),ι 0])∧dZ w0 w' p u R κ (c+1) M'∧dL w w' M M')∨(∃M',r=ώ (.tuple #[.pointer none,ι 14])∧Xj w0 w' p R (c+1) M'∧dL w w' M M'):=by
 obtain⟨d,F,hD,ho,hf,⟨V,S0,hg,hR⟩,hM⟩:=h.ex;refine(ND hD (hg.FZ hc ho)).mono ?_;intro r w' hO;obtain⟨D,V',q1,q2,q3,q4⟩:=eP.opens hg hc;rcases hg.ala hc ho with ⟨t1,t2,t3⟩ | ⟨t1,t2,t3⟩
 ·rw[q1] at t2 t3
  have e3:(vE d V).2.2=0:=aI Prod.snd t3;have e4:(vE d V).2.1=V':=aI Prod.fst t3;obtain⟨u,o',rfl,hL⟩:=hO.yes e3;have hat:=hL.at_;rw[e4] at hat;refine .inl ⟨u,_,_,rfl,⟨(vE d V).1,V',o',S0,⟨hat,fun _=>ua,fun q hq=>?_,h.ε.then hL.ε (fun q hq=>.inr (h.low q ((hM q).2 hq)))⟩,t1,by rw[t2];exact q2,q3.trans hR,q4⟩,hL.ε.mono (fun q hq=>.inl ((hM q).2 hq)),fun q hq=>(hL.sub q hq).imp (hM q).2 id⟩;rcases hL.sub q hq with e | e
  ·exact h.low q ((hM q).2 e)
  ·have:=h.ε.size
   omega
 ·obtain⟨rfl,F',hL⟩:=hO.no (by rw[t2];decide)
  obtain⟨g1,g2,g3⟩:=M4 hM h.low h.ε hL;rw[t2];exact .inr ⟨_,rfl,⟨⟨_,F',hL.bH,t1,fun keep hwf=>hR ▸ t3 keep hwf,fun _=>ua⟩,g1,g2⟩,g3⟩
end
end
section
open Go Go.RowKit Go.ChangeShapes Go.WideShapes Go.ChangeAt Go.Deep
structure tu where
 at_:Int
 bP:Int
 Dy:Int
 kv:Value
 keep:List Int
 mv:Value
 more:List Int
 again:Bool
def tu.row (f:tu):List Value:=[ι f.at_,ι f.bP,ι f.Dy,f.kv,f.mv,.bool f.again]
structure tu.In (w:World) (f:tu):Prop where
 at_:uB f.at_
 bP:uB f.bP
 Dy:uB f.Dy
 keep:Bl w f.kv f.keep
 more:Bl w f.mv f.more
theorem tu.In.still {w w':World} {f:tu} (h:f.In w) (hu:υ w w'):f.In w':=⟨h.at_,h.bP,h.Dy,⟨h.keep.1.ε hu,h.keep.2⟩,⟨h.more.1.ε hu,h.more.2⟩⟩
structure Dg (w:World) (v:Value) (l:List tu):Prop where
 rows:nV w 6 v (l.map tu.row)
 each:∀f ∈ l,f.In w
theorem Dg.still {w w':World} {v:Value} {l:List tu} (h:Dg w v l) (hu:υ w w'):Dg w' v l:=⟨h.rows.still hu,fun f hf=>(h.each f hf).still hu⟩
section
variable {H:Type} {enc:TypeId × Value→H} {w:World} {base:Nat} {spare:Nat→Bool} {held:Bool}
theorem amo {fuel:Nat} {cs:List Value} {x:DataW H × List MemPlace} (h:DataW.trod enc prog w base spare held fuel 102 cs=some x):∃f:tu,cs=f.row∧f.In w:=by
 have hU:=underlying102;obtain⟨xs,n,_,_,hl,-,-⟩:=Yh hU h;rw[show prog.cellsOf 102=6 by kernel_rfl] at hl;obtain⟨n0,y0,t0⟩:=uq hU h 0 _ rfl 1 kR 3 rfl 0 rfl;obtain⟨n1,y1,t1⟩:=uq hU h 1 _ rfl 1 kR 3 rfl 1 rfl;obtain⟨n2,y2,t2⟩:=uq hU h 2 _ rfl 1 kR 3 rfl 2 rfl;obtain⟨n3,y3,t3⟩:=uq hU h 3 _ rfl 1 kR 100 rfl 3 rfl;obtain⟨n4,y4,t4⟩:=uq hU h 4 _ rfl 1 kR 100 rfl 4 rfl;obtain⟨n5,y5,t5⟩:=uq hU h 5 _ rfl 1 kR 4 rfl 5 rfl;match cs,hl with
 | [c0,c1,c2,c3,c4,c5],_ =>
   simp only[QB,List.drop_zero,y8,Fg] at t0 t1 t2 t3 t4 t5;obtain⟨k0,q0,_,w0⟩:=xD underlying3 t0;obtain⟨k1,q1,_,w1⟩:=xD underlying3 t1;obtain⟨k2,q2,_,w2⟩:=xD underlying3 t2;obtain⟨z3,w3⟩:=aa8 underlying100 underlying3 kR t3;obtain⟨z4,w4⟩:=aa8 underlying100 underlying3 kR t4;obtain⟨k5,q5,_⟩:=DataW.trod_bool underlying4 t5;simp only[qP,qN] at q0 q1 q2 q5;subst q0 q1 q2 q5;exact⟨⟨k0,k1,k2,c3,z3,c4,z4,k5⟩,rfl,xK w0,xK w1,xK w2,w3,w4⟩
theorem aln {fuel:Nat} {v:Value} {x:DataW H × List MemPlace} (h:DataW.trod enc prog w base spare held fuel 99 [v]=some x):∃l,Dg w v l:=by
 obtain⟨cs,h1,h2⟩:=Jx (k:=6) (fun c=>∃f:tu,c=f.row∧f.In w) underlying99 kR oM (fun n cs y hy=>amo hy) h;obtain⟨l,h3,h4⟩:=I5 h2;subst h3;exact⟨l,h1,h4⟩
end
end
section
open Go Go.RowKit
def vI (n m:Int):Int:=if n.tmod m<0 then n.tmod m+m else n.tmod m
theorem ahv {n m:Int} (hm:0<m):0≤vI n m∧vI n m<m:=by
 have h1:=QU n hm;have h2:=Yf n hm;unfold vI;split<;>omega
theorem afJ {P:Prop} (h:P:=by
 go_wp2_with fail
 go_ret
 exact⟨by first|(rw[ht];done)|(rw[← ht];done)|(congr 2;done)|(congr 2;omega)|(congr 2;go_num),rfl⟩):P:=h
theorem aaV (n m:Int) (hm:0<m) (hm2:m≤1000) (w:World):ς 45 #[ι n,ι m] w fun e w'=>e=ώ (ι (vI n m))∧w=w':=by
 have h1:=QU n hm;have h2:=Yf n hm;have hr:=@ahv n m hm;obtain⟨t,ht⟩:=μ (vI n m);rw[ht] at hr ⊢;obtain⟨k,hk⟩:=μ (n.tmod m);have hk2:IntKind.i64.wrap k=k:=cZ _ oM;have hm0:(m == 0)=false:=ru
 have B9:m≠0:=oM;unfold vI at ht;rw[hk] at ht h1 h2;go_enter func45,ntmps45
 by_cases h0:k<0
 ·rw[π h0] at ht
  have hw:IntKind.i64.wrap (k+m)=k+m:=cZ _ oM;exact afJ
 ·rw[ν h0] at ht
  exact afJ
section
variable {w0 w w':World} {p v:Nat} {R:bq} {c:Nat} {M:Nat→Prop} {Q:bq→Prop} {a e:Int} {S:List ai}
structure Again17 (w0 w wr:World) (p:Nat) (c:Nat) (M:Nat→Prop) (Q:bq→Prop):Prop where
 ex:∃R2 M',sR w0 wr p R2 c M' false∧Q R2∧dL w wr M M'
theorem Again17.open_ {wr:World} (h:Again17 w0 w wr p c M Q) (hc:c<99000):ς 16 #[.pointer (some ⟨p,0,none⟩),.string (str jo)] wr fun r w'=>∃u,r=ώ (.tuple #[.pointer (some ⟨u,0,none⟩),ι 0])∧∃R2 κ M',cE w0 w' p u R2 κ (c+1) M'∧Q R2∧dL w w' M M':=by
 obtain⟨R2,M',h1,h2,h3⟩:=h.ex;refine(h1.open_ hc).mono ?_;rintro r w' ⟨u,κ,M2,rfl,h4,h5⟩;exact⟨u,rfl,R2,κ,M2,h4,h2,h3.then h5⟩
theorem sR.mono {fl:Bool} {c':Nat} (h:sR w0 w p R c M fl) (hc:c≤c'):sR w0 w p R c' M fl:=by
 obtain⟨d,F,h1,h2,h3,h4,h5⟩:=h.ex;exact⟨⟨d,F,h1,h2,h3,h4.mono hc,h5⟩,h.low,h.ε⟩
theorem U7 {P:Prop} (h:P:=by
 go_wp2_with (first
  |(go_at_call 16;refine(HG.out.open_ (oN H.out.2.1)).mono ?_;rintro r w6 ⟨u,rfl,R3,b3,M6,h6,LL,tO⟩;have H6:=aq h6 LL tO;clear h6 LL tO))
 go_ret2
 exact⟨u,rfl,R3,b3,M6,H6.out.1.mono oM,H6.out.2.1,H6.out.2.2⟩):P:=h
theorem ajE (h:kN w0 w p v a e S Q c M) (hc:c<98000) {fv:Value} {l:List tu} (hF:Dg w0 fv l) (nN:l.length≤4) {i n:Int} (hn:0<n∧n≤1000) (hit:∃f ∈ l,vI f.at_ n=i) :
 ς 51 #[.pointer (some ⟨p,0,none⟩),fv,ι i,ι n] w fun r w'=>∃u,r=ώ (.tuple #[.pointer (some ⟨u,0,none⟩),.bool true])∧∃R2 κ M',cE w0 w' p u R2 κ (c+3) M'∧Q R2∧dL w w' M M':=by
 obtain⟨A,cap,bA,off,rfl,hcap,hm,l_,jq⟩:=hF.rows.MM;rw[bz] at hm l_ hcap ⊢;have HR:=δ jq;have HE:=δ hF.each;have H:=aF h hc hn hit;clear jq hF h hc hit;go_enter func51,ntmps51
 go_wp2_with fail
 go_loopw [10] (fun iv wr=>∃k:Nat,k≤l.length∧iv=ι k∧υ w wr∧∀f ∈ l.take k,vI f.at_ n≠i) (fun iv _=>l.length - (intOf iv).toNat)
 case atStart=>exact⟨0,oM,rfl,ζ.refl _ _,sM⟩
 case round =>
  obtain⟨k,hk,rfl,hu,hno⟩:=hrel;have HK:=τ hu hno;clear hu hno;by_cases hlt:k<l.length
  ·obtain rfl:=l_ oM
   obtain⟨x,hx⟩:=μ (l[k]);have hN:=H.out.1.still HK.out.1;have hcell:∀W,υ w0 W→W.rangeAt bA (off+k*6) x.row:=fun W hW=>HR.out W hW k x.row zS
   have HX:=cD (HE.out x (hx ▸ eE hlt)) hcell hN hx hlt;have j1:(k:Int)<(l.length:Int):=oM;have hwk:IntKind.i64.wrap ((k:Int)+1)=(k:Int)+1:=cZ _ oM;have c0:wr.cell? ⟨bA,off+k*6,none⟩=some (ι x.at_):=hcell wr hN.ε 0 _ rfl;have HT:=δ (fun W=>aaV x.at_ n H.out.2.2.1.1 H.out.2.2.1.2 W);clear hcell hN hx;obtain⟨t,ht⟩:=μ (vI x.at_ n);rw[ht] at HT;have Ee:=δ ht;clear ht;by_cases Cz:t=i
   ·have hne:(t != i)=false:=by rw[Cz];simp
    clear Cz;obtain⟨ag,LY⟩:∃b,x.again=b:=⟨_,rfl⟩;go_upto_region 6 with (first
     |(go_at_call 45;refine(HT.out _).mono ?_;rintro r w4 ⟨rfl,rfl⟩
       have c3:wr.cell? ⟨bA,off+k*6+3,none⟩=some x.kv:=HX.out.2.1 wr HX.out.2.2.1.ε 3 _ rfl)
     |(go_at_call 44;refine(HX.out.2.2.1.eT HX.out.1.keep).mono ?_;rintro r w5 ⟨rfl,R2,M5,h5,hq5,hs5⟩
       have H5:=aq h5 hq5 ((dL.still HK.out.1).then hs5);have c5:w5.cell? ⟨bA,off+k*6+5,none⟩=some (.bool ag):=HX.out.2.1 w5 h5.ε 5 _ (by rw[← LY];rfl)
       clear h5 hq5 hs5))
    clear c0 hne;cases ag
    ·have HG:Hid (Again17 w0 w w5 p (c+1) M Q):=δ ⟨R2,M5,H5.out.1.mono oM,H5.out.2.1,H5.out.2.2⟩
     exact U7
    ·have c2:w5.cell? ⟨bA,off+k*6+2,none⟩=some (ι x.Dy):=HX.out.2.1 w5 H5.out.1.ε 2 _ rfl
     go_upto_region 9 with (first
      |(go_at_call 29;refine(abq x.Dy HX.out.1.Dy _).mono ?_;rintro r w6 ⟨sm,rfl,hs0,hs1,rfl⟩)
      |(go_at_call 28;refine(H5.out.1.bP sm oM).mono ?_;rintro r w7 ⟨rfl,M7,h7,s7⟩
        have H7:=τ h7 (H5.out.2.2.then s7);clear h7 s7)
      |(go_at_call 16;refine(H7.out.1.aik (oN H.out.2.1)).mono ?_
        rintro r w8 (⟨u8,b8,M8,rfl,h8,s8⟩ | ⟨M8,rfl,h8,s8⟩)))
     ·have H8:=τ h8 (H7.out.2.then s8)
      clear h8 s8 c2 c5;go_upto_region 14 with (first
       |(go_at_call 33;refine H8.out.1.xZ.mono ?_;rintro r w9 ⟨rfl,rfl⟩)
       |(go_at_call 28;refine H8.out.1.ab4.mono ?_;rintro r w10 ⟨rfl,M10,h10,s10⟩
         have gT:=τ h10 (H8.out.2.then s10);clear h10 s10))
      have hg:Again17 w0 w w10 p (c+1) M Q:=by
       obtain⟨Xk,g1,g2⟩:=gT.out.1.bH;exact⟨R2,Xk,g1,H5.out.2.1,gT.out.2.ε,fun q hq=>gT.out.2.sub q (g2 q hq)⟩
      have HG:=δ hg;clear hg;exact U7
     ·have H8:=τ h8 (H7.out.2.then s8)
      have c4:w8.cell? ⟨bA,off+k*6+4,none⟩=some x.mv:=HX.out.2.1 w8 h8.ε 4 _ rfl;clear h8 s8 c2 c5;go_upto_region 14 with (first
       |(go_at_call 44;refine(H8.out.1.eT HX.out.1.more).mono ?_;rintro r w9 ⟨rfl,M9,h9,s9⟩
         have H9:=τ h9 (H8.out.2.then s9);clear h9 s9))
      have HG:Hid (Again17 w0 w w9 p (c+1) M Q):=δ ⟨R2,M9,H9.out.1,H5.out.2.1,H9.out.2⟩;exact U7
   ·have hne:(t != i)=true:=by rw[kq];exact Cz
    have HTI:=δ Cz;clear Cz;go_wp2_with (first
     |(go_at_call 45;refine(HT.out _).mono ?_;rintro r w4 ⟨rfl,rfl⟩))
    go_roundw
    case rel =>
     refine⟨k+1,oM,sM,HK.out.1,fun f hf=>?_⟩;rw[ia HX.out.2.2.2.2,HX.out.2.2.2.1] at hf;rcases jX.1 hf with hf | hf
     ·exact HK.out.2 f hf
     ·rw[xB.1 hf,Ee.out]
      exact HTI.out
    case measure=>simp[intOf]<;>omega
  ·exfalso
   obtain⟨f,hf,he⟩:=H.out.2.2.2;rw[dV oM] at HK;exact HK.out.2 f hf he
end
theorem Bq.post {w0:World} {v:Nat} {R:bq} {x:jM} {M:Nat→Prop} {I:World→Prop} {Post Post':World→(Nat→Prop)→Int→Prop} (h:Bq w0 v R x M I Post) (hp:∀w M' n,Post w M' n→Post' w M' n)
 (ha:∀ {w w' M' n c},Post' w M' n→ζ (· = c) w w'→Ty w 95 c→w0.heap.size≤c→Post' w' M' n):Bq w0 v R x M I Post' :=
 ⟨h.still,h.ε,h.lt,h.low,fun a b=>(h.q_ a b).mono (fun _ _ ⟨n,M',e,s,q⟩=>⟨n,M',e,s,hp _ _ _ q⟩),fun a b=>(h.bE a b).mono (fun _ _ ⟨n,M',e,s,q⟩=>⟨n,M',e,s,hp _ _ _ q⟩),fun a b=>(h.install a b).mono (fun _ _ ⟨n,M',e,s,q⟩=>⟨n,M',e,s,hp _ _ _ q⟩),fun a b=>(h.rotate a b).mono (fun _ _ ⟨n,M',e,s,q⟩=>⟨n,M',e,s,hp _ _ _ q⟩),fun a b=>hp _ _ _ (h.none_ a b),ha⟩
def anR (R:bq) (r2:bq × Int):bq→Prop:=fun R2=>R2=R∨(r2.2=0∧R2=r2.1)∨(R.rows.length=24∧R2=R.mq)
def qW (w0:World) (p v:Nat) (R:bq) (r2:bq × Int) (c:Nat) (hit:Bool) (w':World) (M':Nat→Prop) (n:Int):Prop :=
 (n=r2.2∧∃κ,dZ w0 w' p v r2.1 κ (c+3) M')∨(hit=true∧n=14∧∃a e S,kN w0 w' p v a e S (anR R r2) (c+3) M')
def u_ (w0 w:World) (p v:Nat) (R:bq) (κ c:Nat) (M:Nat→Prop) (hit:Bool):Prop:=(hit=false∧cE w0 w p v R κ c M)∨(hit=true∧dZ w0 w p v R κ c M)
section
variable {w0 w w':World} {p v κ c b:Nat} {R:bq} {r2:bq × Int} {M:Nat→Prop} {hit:Bool}
theorem qW.nD {n:Int} (h:qW w0 p v R r2 c hit w M n) (hu:ζ (· = b) w w') (ht:Ty w 95 b) (hb:w0.heap.size≤b):qW w0 p v R r2 c hit w' M n:=by
 rcases h with ⟨h1,bt,h2⟩ | ⟨h1,h2,a,e,S,h3⟩
 ·exact .inl ⟨h1,bt,h2.nD hu ht vr hb⟩
 ·exact .inr ⟨h1,h2,a,e,S,h3.nD hu ht vr hb⟩
theorem qW.ε {n:Int} (h:qW w0 p v R r2 c hit w M n):υ w0 w:=by
 rcases h with ⟨h1,bt,h2⟩ | ⟨h1,h2,a,e,S,h3⟩
 ·exact h2.ε
 ·exact h3.ε
theorem qW.still {n:Int} (h:qW w0 p v R r2 c hit w M n) (hu:υ w w'):qW w0 p v R r2 c hit w' M n:=by
 rcases h with ⟨h1,bt,h2⟩ | ⟨h1,h2,a,e,S,h3⟩
 ·exact .inl ⟨h1,bt,h2.still hu⟩
 ·exact .inr ⟨h1,h2,a,e,S,h3.still hu⟩
theorem dZ.lt (h:dZ w0 w p v R κ c M) {q:Nat} (hq:M q):q<w.heap.size:=by
 rcases h.oP hq with ⟨t,_,cur,fr,e⟩ | ⟨es,cc,e⟩<;>exact(nZ.1 e).1
theorem dZ.low (h:dZ w0 w p v R κ c M) {q:Nat} (hq:M q):w0.heap.size≤q:=by
 obtain⟨_,_,_,_,h,_⟩:=h;exact h.low q ((h.turns q).1 hq)
theorem dZ.Tt (h:dZ w0 w p v R κ c M):Oc R:=by
 obtain⟨d,V,o,S0,h,-,hg,rfl,-⟩:=h;exact h.at_.Tt hg
theorem u7.NI {r:Ending} {r2:bq × Int} {k:Nat} (hk:k≤3) (h:u7 w0 w w' p v r R r2 κ (c+k) M):∃n M',r=ώ (ι n)∧dL w w' M M'∧qW w0 p v R r2 c true w' M' n:=by
 rcases h with ⟨M',h1,h2,h3⟩ | ⟨M',a,e,S,h1,h2,h3⟩
 ·exact⟨_,M',h1,h3,.inl ⟨rfl,κ,h2.mono oM⟩⟩
 ·exact⟨_,M',h1,h3,.inr ⟨rfl,rfl,a,e,S,h2.mono oM (fun _ e=>e)⟩⟩
theorem dZ.Js (hc:c<99000) {x:jM} (hx:x.In w0) (hf:x.ER) (h0:dZ w0 w p v R κ c M):Bq w0 v R x M (fun w=>dZ w0 w p v R κ c M) (qW w0 p v R (eH R x) c true):=by
 have ho:(gP x R.at_ R.θ).ops=x.b.ops:=by unfold gP;split<;>rfl
 have eV:(gP x R.at_ R.θ).θ≤9223372036854775807:=by
  have e1:=hx.AA.θ.2;have e2:=h0.Sh.P6;unfold gP;split
  ·exact e1
  ·show max _ _≤_
   omega
 refine⟨fun h hu=>h.still hu,fun h=>h.ε,fun h q hq=>h.lt hq,fun h q hq=>h.low hq,fun h hd=>?_,fun h hd=>?_,fun h hd=>?_,fun h hd=>?_,fun h hd=>?_,fun h hu ht hb=>h.nD hu ht hb⟩
 ·refine(h.RT hc (gP x R.at_ R.θ) (ov:=x.ov) (by rw[ho];exact hx.AA.ops) (by rw[ho];exact hf.ops) eV).mono ?_
  intro r w' h6;have e:eH R x=iZ R (gP x R.at_ R.θ):=by unfold eH;rw[π hd]
  rw[e];exact u7.NI oM h6
 ·refine(h.S6 hc hx.met hf.met).mono ?_
  intro r w' h6;have e:eH R x=kE R x.m:=by unfold eH;rw[ν UX,π hd]
  rw[e];exact u7.NI oM h6
 ·refine(h.Rv hc hx.met hf.met hx.kL hf.kL x.at_ x.ep hx.ep.2).mono ?_
  intro r w' h6;have e:eH R x=iD R x.m x.l x.at_ x.ep:=afE
  rw[e];exact u7.NI oM h6
 ·refine(h.rotate hc).mono ?_
  intro r w' h6;have e:eH R x=rotateR R:=acY
  rw[e];exact u7.NI oM h6
 ·have hne:∀n:UInt8,n≤4→x.fR≠n:=fun n hn e=>by
   exact U1
  have e:eH R x=(R,0):=by
   exact UZ
  rw[e];exact .inl ⟨rfl,κ,h.mono oM⟩
theorem u_.fused (h:u_ w0 w p v R κ c M hit):dZ w0 w p v R κ c M:=h.elim (fun h=>h.2.fused) (fun h=>h.2)
theorem u_.still (h:u_ w0 w p v R κ c M hit) (hu:υ w w'):u_ w0 w' p v R κ c M hit:=h.imp (fun h=>⟨h.1,h.2.still hu⟩) (fun h=>⟨h.1,h.2.still hu⟩)
theorem afK {P:Prop} (h:P:=by
 exact⟨fun a hu=>a.still hu,fun a=>(e _ a).ε,fun a q=>(e _ a).lt,fun a q=>(e _ a).low,fun a=>h.q_ (e _ a),fun a=>h.bE (e _ a),fun a=>h.install (e _ a),fun a=>h.rotate (e _ a),fun a=>h.none_ (e _ a),fun a=>a.nD⟩):P:=h
theorem u_.Js (hc:c<99000) {x:jM} (hx:x.In w0) (hf:x.ER) (h0:u_ w0 w p v R κ c M hit):Bq w0 v R x M (fun w=>u_ w0 w p v R κ c M hit) (qW w0 p v R (eH R x) c hit):=by
 rcases h0 with ⟨rfl,h0⟩ | ⟨rfl,h0⟩
 ·have h:=(cE.Js hc hx hf h0).post (Post':=qW w0 p v R (eH R x) c false) (fun w M' n h=>.inl ⟨h.1,κ,h.2.fused⟩) (fun h hu ht hb=>h.nD hu ht hb)
  have e:∀w,u_ w0 w p v R κ c M false→cE w0 w p v R κ c M:=fun w h=>h.elim (·.2) (fun e=>by simp at e)
  exact afK
 ·have h:=dZ.Js hc hx hf h0
  have e:∀w,u_ w0 w p v R κ c M true→dZ w0 w p v R κ c M:=fun w h=>h.elim (fun e=>by simp at e) (·.2)
  exact afK
end
def o4 (w0 w:World) (p v g:Nat) (R:bq) (c:Nat) (hit:Bool):Prop:=∃κ M mv lv rv aG,u_ w0 w p v R κ c M hit∧η w g 95 (fO R mv lv rv)∧eL w (fun q=>M q∨q=g) R mv lv rv aG∧w0.heap.size≤g
structure lS (w:World) (M:Nat→Prop) (g b:Nat) (R R2:bq) (row cF:Array Value):Prop where
 old:∃mv lv rv aG,row=fO R mv lv rv∧eL w (fun q=>(M q∨q=g)∨q=b) R mv lv rv aG
 new:∃mv lv rv aG,cF=fO R2 mv lv rv∧eL w (fun q=>(M q∨q=g)∨q=b) R2 mv lv rv aG
 blk:η w g 95 row
 zY:η w b 95 cF
 ne:g≠b
section
variable {w0 w w':World} {p v κ c g b:Nat} {R R2:bq} {M M':Nat→Prop} {hit:Bool} {row cF:Array Value}
theorem lS.act (h:lS w M g b R R2 row cF) (s:dL w w' M M') (hz:∀q,M q→wW w q):lS w' M' g b R R2 row cF:=by
 have s2:dL w w' (fun q=>(M q∨q=g)∨q=b) (fun q=>(M' q∨q=g)∨q=b):=⟨s.ε.mono (fun q e=>.inl (.inl (.inl e))),fun q e=>by
  rcases e with (e | e)| e
  ·exact(s.sub q e).imp (fun e=>.inl (.inl e)) id
  ·exact .inl (.inl (.inr e))
  ·exact .inl (.inr e)⟩
 obtain⟨mv,lv,rv,aG,h1,h2⟩:=h.old;obtain⟨bW,cI,fT,jb,h3,h4⟩:=h.new;exact⟨⟨mv,lv,rv,aG,h1,h2.act s2⟩,⟨bW,cI,fT,jb,h3,h4.act s2⟩,h.blk.ε s.ε (fun e=>h.blk.ty.Dm vr.1 (hz _ e)),h.zY.ε s.ε (fun e=>h.zY.ty.Dm vr.1 (hz _ e)),h.ne⟩
theorem lS.still (h:lS w M g b R R2 row cF) (hu:υ w w'):lS w' M g b R R2 row cF:=by
 obtain⟨mv,lv,rv,aG,h1,h2⟩:=h.old;obtain⟨bW,cI,fT,jb,h3,h4⟩:=h.new;exact⟨⟨mv,lv,rv,aG,h1,h2.still hu⟩,⟨bW,cI,fT,jb,h3,h4.still hu⟩,h.blk.ε hu id,h.zY.ε hu id,h.ne⟩
theorem lS.sizes (h:lS w M g b R R2 row cF):(row.all (·.oneCell')=true∧row.size=11)∧(cF.all (·.oneCell')=true∧cF.size=11):=by
 obtain⟨mv,lv,rv,aG,rfl,h2⟩:=h.old;obtain⟨bW,cI,fT,jb,rfl,h4⟩:=h.new;exact⟨sX h2,sX h4⟩
theorem lS.aoS (h:lS w M g b R R2 row cF):∃A cap,row[8]? = some (.slice A R.rows.length cap):=by
 obtain⟨mv,lv,rv,aG,rfl,h2⟩:=h.old;obtain⟨A,cap,h3,-⟩:=h2.rows.1;rw[Ba _ _ h2.len] at h3;exact⟨A,cap,by rw[h3];rfl⟩
theorem lS.aaW (h:lS w M g b R R2 row cF) (hv:cE w0 w p v R2 κ c M) (hg:w0.heap.size≤g) (hu:ζ (· = g) w w') (hB:η w' g 95 cF):o4 w0 w' p v g R2 c false:=by
 obtain⟨bW,cI,fT,jb,rfl,h4⟩:=h.new;exact⟨κ,M,bW,cI,fT,jb,.inl ⟨rfl,hv.nD hu h.blk.ty vr hg⟩,hB,(h4.act (M':=fun q=>(M q∨q=g)∨q=b) ⟨hu.mono (fun q e=>.inl (.inl (.inr e))),fun q e=>.inl e⟩).more (fun q e=>.inl (.inl e)),hg⟩
theorem lS.alo (h:lS w M g b R R2 row cF) (hv:cE w0 w p v R κ c M) (hg:w0.heap.size≤g):o4 w0 w p v g R c false:=by
 obtain⟨mv,lv,rv,aG,rfl,h2⟩:=h.old;exact⟨κ,M,mv,lv,rv,aG,.inl ⟨rfl,hv⟩,h.blk,h2.more (fun q e=>.inl (.inl e)),hg⟩
theorem lS.amp (h:lS w M g b R R2 row cF):∃zZ,zZ.all (·.oneCell')=true∧zZ.size=11∧(∀W,ς 52 #[.agg row] W fun r W'=>r=ώ (.agg zZ)∧υ W W') ∧
 (∀ {W:World} {M':Nat→Prop} {u bt:Nat} {R3:bq},lS W M' g b R R2 row cF→mh W p u R3 bt→ς 50 #[.pointer (some ⟨u,0,none⟩),.agg zZ] W fun r W'=>r=ώ (.bool (decide (R3=R.mq)))∧υ W W') ∧
 (∀ {W W':World} {u bt cc:Nat},lS W M g b R R2 row cF→cE w0 W p u R.mq bt cc M→w0.heap.size≤g→ζ (· = g) W W'→η W' g 95 zZ→o4 w0 W' p u g R.mq cc false):=by
 obtain⟨mv,lv,rv,aG,hr,h2⟩:=h.old;refine⟨fO R.mq mv lv (.slice none 0 0),(sX h2.mq).1,rfl,fun W=>?_,fun {W M' u bt R3} hd hv=>?_,fun {W W' u bt cc} hd hv hg hu hB=>?_⟩
 ·rw[hr]
  exact Sk h2.one.1 h2.one.2.1
 ·obtain⟨di,fN,ng,zU,hr',Xl⟩:=hd.old
  have e:fO R mv lv rv=fO R di fN ng:=hr.symm.trans hr';obtain⟨rfl,rfl,rfl⟩:mv=di∧lv=fN∧rv=ng:=by
   unfold fO j_ at e;simp at e
   exact e
  exact MZ hv Xl.mq
 ·obtain⟨di,fN,ng,zU,hr',Xl⟩:=hd.old
  have e:fO R mv lv rv=fO R di fN ng:=hr.symm.trans hr';obtain⟨rfl,rfl,rfl⟩:mv=di∧lv=fN∧rv=ng:=by
   unfold fO j_ at e;simp at e
   exact e
  exact⟨bt,M,mv,lv,.slice none 0 0,[],.inl ⟨rfl,hv.nD hu hd.blk.ty vr hg⟩,hB,((Xl.mq).act (M':=fun q=>(M q∨q=g)∨q=b) ⟨hu.mono (fun q e=>.inl (.inl (.inr e))),fun q e=>.inl e⟩).more (fun q e=>.inl (.inl e)),hg⟩
theorem lS.aad {u bt:Nat} {R3:bq} (h:lS w M g b R R2 row cF) (hv:mh w p u R3 bt):ς 50 #[.pointer (some ⟨u,0,none⟩),.agg cF] w fun r w'=>r=ώ (.bool (decide (R3=R2)))∧υ w w':=by
 obtain⟨bW,cI,fT,jb,rfl,h4⟩:=h.new;exact MZ hv h4
theorem lS.aae {u bt:Nat} {R3:bq} (h:lS w M g b R R2 row cF) (hv:mh w p u R3 bt):ς 50 #[.pointer (some ⟨u,0,none⟩),.agg row] w fun r w'=>r=ώ (.bool (decide (R3=R)))∧υ w w':=by
 obtain⟨bW,cI,fT,jb,rfl,h4⟩:=h.old;exact MZ hv h4
theorem o4.ε (h:o4 w0 w p v g R c hit):υ w0 w:=by
 obtain⟨κ,M,mv,lv,rv,aG,h,-⟩:=h;exact h.fused.ε
theorem o4.mono {c':Nat} (h:o4 w0 w p v g R c hit) (hc:c≤c'):o4 w0 w p v g R c' hit:=by
 obtain⟨κ,M,mv,lv,rv,aG,h1,h2⟩:=h;exact⟨κ,M,mv,lv,rv,aG,h1.imp (fun h=>⟨h.1,h.2.mono hc⟩) (fun h=>⟨h.1,h.2.mono hc⟩),h2⟩
theorem o4.bP (h:o4 w0 w p v g R c hit) (m:Int) (hm:m≤9223372036854775807):ς 28 #[.pointer (some ⟨p,0,none⟩),ι m] w fun r w'=>r=ώ (.tuple #[])∧o4 w0 w' p v g R c true:=by
 obtain⟨κ,M,mv,lv,rv,aG,h1,h2,h3,h4⟩:=h;have hF:=h1.fused;refine(hF.bP m hm).mono ?_;rintro r w' ⟨rfl,M',h5,h6⟩;exact⟨rfl,κ,M',mv,lv,rv,aG,.inr ⟨rfl,h5⟩,h2.ε h6.ε (fun e=>h2.ty.Dm vr.1 (hF.oP e)),h3.act (M':=fun q=>M' q∨q=g) ⟨h6.ε.mono (fun q e=>.inl (.inl e)),fun q e=>e.elim (fun e=>(h6.sub q e).imp .inl id) (fun e=>.inl (.inr e))⟩,h4⟩
theorem o4.open_ (h:o4 w0 w p v g R c false) (hc:c<98000):∃row,row.size=11∧ς 16 #[.pointer (some ⟨p,0,none⟩),.string (str jo)] w fun r w'=>∃u,r=ώ (.tuple #[.pointer (some ⟨u,0,none⟩),ι 0])∧υ w0 w'∧η w' g 95 row∧(∀W,υ w' W→ς 50 #[.pointer (some ⟨u,0,none⟩),.agg row] W fun r W'=>r=ώ (.bool true)∧υ W W'):=by
 obtain⟨κ,M,mv,lv,rv,aG,h1,h2,h3,h4⟩:=h;have hV:cE w0 w p v R κ c M:=h1.elim (·.2) (fun e=>by simp at e);refine⟨fO R mv lv rv,rfl,(hV.open_ oM).mono ?_⟩;rintro r w' ⟨u,rfl,⟨M',h5,h6⟩,-⟩;have hd:=h3.act (M':=fun q=>M' q∨q=g) ⟨h6.ε.mono (fun q e=>.inl (.inl e)),fun q e=>e.elim (fun e=>(h6.sub q e).imp .inl id) (fun e=>.inl (.inr e))⟩;refine⟨u,rfl,h5.ε,h2.ε h6.ε (fun e=>h2.ty.Dm vr.1 (hV.oP e)),fun W hW=>?_⟩;have:=MZ ((h5.old oM).still hW) (hd.still hW);rw[fo rfl] at this;exact this
structure Od (w0 w:World) (p v g b:Nat) (R:bq) (r2:bq × Int) (row cF:Array Value) (c:Nat) (hit:Bool) (M:Nat→Prop) (n:Int):Prop where
 post:qW w0 p v R r2 c hit w M n
 old:∃mv lv rv aG,row=fO R mv lv rv∧eL w (fun q=>(M q∨q=g)∨q=b) R mv lv rv aG
 new:∃mv lv rv aG,cF=fO r2.1 mv lv rv∧eL w (fun q=>(M q∨q=g)∨q=b) r2.1 mv lv rv aG
 blk:η w g 95 row
 low:w0.heap.size≤g∧w0.heap.size≤b
 ne:g≠b
theorem Od.store {r2:bq × Int} {n:Int} (h:Od w0 w p v g b R r2 row cF c hit M n) (hu:ζ (· = b) w w') (ht:Ty w 95 b) (hB:η w' b 95 cF):qW w0 p v R r2 c hit w' M n∧lS w' M g b R r2.1 row cF:=by
 obtain⟨mv,lv,rv,aG,h1,h2⟩:=h.old;obtain⟨bW,cI,fT,jb,h3,h4⟩:=h.new;have s:dL w w' (fun q=>(M q∨q=g)∨q=b) (fun q=>(M q∨q=g)∨q=b):=⟨hu.mono (fun q e=>.inl (.inr e)),fun q e=>.inl e⟩;exact⟨h.post.nD hu ht h.low.2,⟨mv,lv,rv,aG,h1,h2.act s⟩,⟨bW,cI,fT,jb,h3,h4.act s⟩,h.blk.ε hu h.ne,hB,h.ne⟩
theorem o4.does (h:o4 w0 w p v g R c hit) (hc:c<98000) {x:jM} (hx:x.In w0) (hf:x.ER):∃row,η w g 95 row∧row.size=11∧∀W,υ w W→∀X:Nat→Prop,(∀q,X q→w.heap.size≤q∧q<W.heap.size) →
 ς 49 #[.pointer (some ⟨v,0,none⟩),.agg row,.agg x.row.toArray] W fun r w'=>∃cF n M',r=ώ (.tuple #[.agg cF,ι n,ι (eH R x).2])∧qW w0 p v R (eH R x) c hit w' M' n∧(∃mv lv rv aG,row=fO R mv lv rv∧eL w' (fun q=>M' q∨(q=g∨X q)) R mv lv rv aG)∧(∃mv lv rv aG,cF=fO (eH R x).1 mv lv rv∧eL w' (fun q=>M' q∨(q=g∨X q)) (eH R x).1 mv lv rv aG)∧η w' g 95 row∧(∀q t cs,X q→η W q t cs→t ∉ qs→η w' q t cs)∧cF.all (·.oneCell')=true∧cF.size=11∧W.heap.size≤w'.heap.size∧w0.heap.size≤w.heap.size∧w0.heap.size≤g∧g<w.heap.size:=by
 obtain⟨κ,M,mv,lv,rv,aG,h1,h2,h3,h4⟩:=h;have hF:=h1.fused;have hs:=hF.ε.size;have fX:=h2.lt;refine⟨fO R mv lv rv,h2,rfl,fun W hW X hX=>?_⟩;have hm:=(h3.more (N:=fun q=>M q∨(q=g∨X q)) (fun q e=>?_)).still hW;refine(alk (X:=fun q=>q=g∨X q) (u_.Js oM hx hf h1) (h1.still hW) (fun q e=>?_) hm (hF.Tt) hx hf).mono ?_
 ·have:=hW.size
  rcases e with rfl | e
  ·omega
  ·have:=hX q e
   omega
 ·rintro r w' ⟨n,M',bW,cI,fT,jb,rfl,h5,h6,h7⟩
  obtain⟨o1,o2⟩:=sX h5;have hz:∀q,M q→wW W q:=fun q e=>(hF.still hW).oP e
  have tS:=h2.ε hW id;refine⟨_,n,M',rfl,h6,⟨mv,lv,rv,aG,rfl,hm.act (M':=fun q=>M' q∨(q=g∨X q)) ⟨h7.ε.mono (fun q e=>.inl (.inl e)),fun q e=>e.elim (fun e=>(h7.sub q e).imp .inl id) (fun e=>.inl (.inr e))⟩⟩,⟨bW,cI,fT,jb,rfl,h5⟩,tS.ε h7.ε (fun e=>tS.ty.Dm vr.1 (hz _ e)),fun q t cs hq hB ht=>hB.ε h7.ε (fun e=>hB.ty.Dm ht (hz _ e)),o1,o2,h7.ε.size,hs,h4,fX⟩
 ·rcases e with e | e | e
  ·exact .inl (.inl e)
  ·exact .inl (.inr e)
  ·exact .inr (hX q e).1
end
end
end Go.Proofs.YtbhjgfibhegddaaGreat
