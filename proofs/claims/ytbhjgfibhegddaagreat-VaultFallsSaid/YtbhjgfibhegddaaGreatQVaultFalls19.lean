/-
  Parts of the proof of VaultFalls: VatR, VatS, VatT, VatU, VatV, VatW, VatX, VatY, OpnP.
-/
import Derived.Test.YtbhjgfibhegddaaGreatQVaultFalls18
set_option maxRecDepth 100000
set_option maxHeartbeats 16000000
namespace Go.Proofs.YtbhjgfibhegddaaGreat
abbrev agj:=@List.take_add_one
open Tryz
section
open Go Go.RowKit
theorem RR:(prog.info? 35).map (fun i=>(i.zero,i.size,i.bytes))=some (some (.agg #[ι 0,ι 0,.slice none 0 0]),3,40):=kR
theorem Rt:∀(l:List bQ) (s:List Value),s.length=l.length→∀(b:bQ) (ov:Value),uv (l++[b]) (s++[ov])=uv l s++[ι b.index,ι b.θ,ov]
 | [],[],_,_,_=>rfl
 | a::r,x::s,h,b,ov=>by
   have:=Rt r s vW b ov;show _::_::_::uv (r++[b]) (s++[ov])=_;rw[this];rfl
theorem Src.agW {P:Program} {w:World} {xT t e:TypeId} {size n:Nat} (ht:P.underlying xT=some (.slice t)) (news:List Value) (hn:news.length=n*size) :
 Src P (w.alloc (.cells news.toArray e)).drew xT size (.slice (some ⟨w.heap.size,0,none⟩) n n) n news :=
 .vt ht _ _ _ hn fun j u hu=>by
  have ju:(⟨w.heap.size,0,none⟩:Addr).add j=⟨w.heap.size,j,none⟩:=KA
  rw[ju];show (w.alloc _).cell? _=_;rw[af1];simpa using hu
theorem ZW {a b:Int} {v:Value} (h:v.oneCell'=true):∀u ∈ [Value.int .i64 a,ι b,v],u.oneCell'=true:=by
 intro u hu;simp only[cC,vg,vh] at hu;rcases hu with rfl | rfl | rfl
 ·rfl
 ·rfl
 ·exact h
section
variable {w w':World} {p v:Nat} {d d':Dk} {V V':aQ} {o o':cR}
theorem aT.anM {Z:Nat→Prop} (h:aT w p v d V o) (hu:ζ Z w w') (hz:∀q,Z q→o.cl v 0 q∨o.cl v 6 q∨o.cl v 6 q) {ng:Value} {zU:List Value} (hB:η w' v 117 (fI V' p { o with rv:=ng,aG:=zU })) (hk:V'.kp=V.kp) (hl:V'.lg=V.lg) (hS:V'.S=V.S) (hc:V'.cur=V.cur) (hn:V'.n=V.n) (hst:V'.st=V.st)
 (oZ:Own w' 35 3 ng V'.rows.length (uv V'.rows zU)) (jS:zU.length=V'.rows.length) (Ti:∀(i:Nat) (b:bQ) (ov:Value),V'.rows[i]? = some b→zU[i]? = some ov→ax w' 32 3 ov (b.ops.map bY)) (hsub:∀q,ng.ownBlock=some q→o.rv.ownBlock=some q∨w.heap.size≤q) :
 aT w' p v d V' { o with rv:=ng,aG:=zU } ∧ dc w w' v o { o with rv:=ng,aG:=zU } := by
 have hm:∀q,Z q→o.mut v q:=fun q e=>(hz q e).elim cR.r8 fun e=>e.elim cR.r8 cR.r8
 refine⟨⟨h.bH.ε hu (fun q e=>h.off hz (j:=1) dC e),hB,?_,?_,?_,h.sep,?_,h.yV,?_,h.qL,h.uY,oZ,jS,Ti,?_⟩,dc.ES (hu.mono fun q e=>.inl (hm q e)) _ rfl (fun q e=>.inl e) (.inl rfl) (.inl rfl) (fun q e=>.inl e) (fun q e=>.inl e) hsub⟩
 ·rw[hk];exact h.kept.ε hu (h.off hz (j:=2) dC rfl)
 ·rw[hl];exact h.log.ε hu (h.off hz (j:=3) dC rfl)
 ·rw[hl];exact h.recs.ε hu (fun q e=>h.off hz (j:=4) dC e)
 ·rw[hc,hn,hst];exact h.ring.move hu (fun q e=>h.off hz (j:=5) dC e)
 ·rw[hS];exact h.FG hu hm
 ·rw[hst];exact h.Dc hu hm
theorem abV (h:aT w p v d V o) (b:bQ) {ty:TypeId} {ov:Value} (jS:ax w ty 3 ov (b.ops.map bY)) (hl:b.ops.length≤1000) (hr:V.rows.length≤1000) :
 ς 60 #[.pointer (some ⟨v,0,none⟩),.agg #[ι b.index,ι b.θ,ov]] w fun e w'=>e=ώ (.tuple #[])∧∃o',aT w' p v d { V with rows:=V.rows++[b],at_:=b.index,θ:=b.θ } o'∧dc w w' v o o'∧o'.m=o.m∧o'.mb=o.mb∧o'.F=o.F:=by
 obtain⟨c,hc⟩:=μ w.heap.size;obtain⟨i0,bx,bU,bK,aY⟩:=jD RR;have HI:=aF bx bU bK aY;have hone:=jS.one;have H:=iw h jS hl hr hc hone;clear h jS hl hr hc bx bU bK aY hone;go_enter func60,ntmps60
 go_upto_region 1 with fail
 rw[H.out.2.2.2.2.1];generalize hw1:World.alloc _ _=w1;have aP:η w1 c 35 #[ι b.index,ι b.θ,ov]:=by rw[← hw1,← H.out.2.2.2.2.1];exact η.new w _ _
 have az:υ w w1:=ry
 have c2:=aP.cell 2;have mZ:=δ (ajq (H.out.2.1.still az) (aaM _) (by rw[bz];exact H.out.2.2.1));have H1:=τ aP az;clear aP az hw1;go_upto_region 2 with (first
  |(go_at_call 68
    refine mZ.out.mono ?_;rintro e w2 ⟨ji,rfl,iP,σ⟩;have Tl:=iP.one;have aD:=H1.out.1.ε σ id;have H2:=τ iP σ;clear iP σ)
  |(refine gJ rfl 33 _ _ rfl c 2 ji rfl rfl _ _ aD sM Tl kR ?_
    intro w3 aC χ fY))
 rw[show (#[Value.int .i64 b.index,ι b.θ,ov]:Array Value).setIfInBounds 2 ji=#[ι b.index,ι b.θ,ji] from rfl] at aC;have zV:υ w w3:=(H1.out.2.then H2.out.2 (fun _ e=>.inl e)).then χ (fun q e=>.inr (oF e H.out.2.2.2.2.1));have iR:ax w3 32 3 ji (b.ops.map bY):=H2.out.1.ε χ (fun q ht e=>by
  have e2:q=c:=e;subst e2;exact absurd (aD.ty.inj ht) dC)
 have h3:=H.out.1.still zV;have H3:=aF h3 iR aC zV;have hcv:c≠v:=by have:=H.out.1.blk.lt;have:=H.out.2.2.2.2.1;omega
 have Wv:=δ hcv;have lW:=δ Tl;clear h3 iR aC zV χ fY aD hcv Tl c2;refine dW ?_;refine eo (S:=fun w'=>η w' c 35 #[ι b.index,ι b.θ,ji]∧w'.cell? ⟨v,3,none⟩=some o.rv) (T:=fun i=>i == 12) kR ?_;have aE:η w3.drew c 35 #[ι b.index,ι b.θ,ji]∧w3.drew.cell? ⟨v,3,none⟩=some o.rv:=⟨H3.out.2.2.1.drew,H3.out.1.blk.cell 3⟩;refine ξ 0 ?_;refine ξ 1 ?_;refine ξ 2 ?_;refine ξ 3 ?_;refine ξ 4 ?_;refine aX 5 (fun w' hSw=>hSw.2) ?_;refine iL 6 (.agg #[ι b.index,ι b.θ,ji]) (lN rfl ak _ _ rfl c ak _ _ _ (fun w' hSw=>hSw.1) underlying35 rfl kR) ?_;refine bf 7 (fun KK ο=>?_);go_simp
 have cz:η ((w3.alloc (.cells #[ι b.index,ι b.θ,ji] 35)).drew) c 35 #[ι b.index,ι b.θ,ji]∧((w3.alloc (.cells #[ι b.index,ι b.θ,ji] 35)).drew).cell? ⟨v,3,none⟩=some o.rv:=⟨(H3.out.2.2.1.alloc _).drew,(H3.out.1.blk.alloc _).drew.cell 3⟩;refine ο.out _ _ cz ?_;clear ο;refine bf 8 (fun KK ο=>?_);refine qn ak _ _ _ _ ak 35 i0 _ 3 40 underlying38 HI.out.1 HI.out.2.1 HI.out.2.2.1 HI.out.2.2.2 rfl o.rv V.rows.length (uv V.rows o.aG) ak (H3.out.1.rows.alloc _).drew _ 1 [ι b.index,ι b.θ,ji] ak (Src.agW (e:=35) (n:=1) (size:=3) underlying38 [ι b.index,ι b.θ,ji] rfl) (ZW lW.out) (by have:=H.out.2.2.2.1;unfold maxLen;omega) (oN H.out.2.2.2.1) ?_;intro ng w4 kH au nN dh;have UB:o.rv.ownBlock≠some v:=fun e=>H3.out.1.apart (i:=6) (j:=0) dC dC dC e rfl
 have OW:o.rv.ownBlock≠some c:=fun e=>by have e1:=H.out.1.lt (i:=6) dC e;have e2:=H.out.2.2.2.2.1;omega
 have aJ:η w4 v 117 (fI V p o):=(H3.out.1.blk.alloc _).drew.ε au UB;have dH:η w4 c 35 #[ι b.index,ι b.θ,ji]∧w4.cell? ⟨v,3,none⟩=some o.rv:=⟨cz.1.ε au OW,aJ.cell 3⟩;refine ο.out _ _ dH ?_;clear ο;simp only[Act.put,jW];refine ξ 9 ?_;refine ξ 10 ?_;refine ξ 11 ?_;refine lG 12 (fun KK ο=>?_);rw[π (show Region.wanted _ _=true by rfl)];refine nw _ _ _ rfl v 3 ng rfl rfl _ _ aJ (by simp[fI]) kH.one kR (fun w5 aK ay iQ=>?_);refine ο.out _ _ ?_;clear ο;simp only[Act.put];refine dY ?_;refine dz ?_;clear aE cz dH;rw[show (fI V p o).setIfInBounds 3 ng=fI V p { o with rv:=ng } from rfl] at aK;have oZ:Own w4 35 3 ng (V.rows.length+1) (uv (V.rows++[b]) (o.aG++[ji])):=by rw[Rt _ _ H3.out.1.rM];exact kH
 have sw:ζ (fun k=>o.rv.ownBlock=some k) w3 w4:=(((ζ.refl _ w3).alloc _).drew).then au (fun q e=>.inl e);have H5:=B0 aK ay oZ sw nN aJ OW UB;have aeQ:η w5 c 35 #[ι b.index,ι b.θ,ji]:=((H3.out.2.2.1.ε sw OW)).ε ay (fun e=>Wv.out e);have aeR:=δ aeQ;clear aK ay oZ sw nN aJ iQ kH au dh OW UB aeQ;go_upto_region 3 with fail
 refine dW ?_;refine eo (S:=fun w'=>η w' c 35 #[ι b.index,ι b.θ,ji]) (T:=fun _=>false) kR ?_;have aE:η w5.drew c 35 #[ι b.index,ι b.θ,ji]:=aeR.out.drew;refine KO 0 ?_;simp only[Act.put,agi,Mq,jW];refine ξ 1 ?_;refine ξ 2 ?_;refine aX 3 (fun w' hSw=>hSw.cell 0) ?_;refine ξ 4 ?_;refine aX 5 (fun w' hSw=>hSw.cell 1) ?_;refine ξ 6 ?_;refine ξ 7 ?_;refine ξ 8 ?_;refine bf 9 (fun KK ο=>?_);rw[π (show Region.wanted _ _=true by rfl)];refine nw _ _ _ rfl v 1 (ι b.index) rfl rfl _ _ H5.out.1.drew (by simp[fI]) rfl kR (fun w6 cY aB iT=>?_);have cW:η w6 c 35 #[ι b.index,ι b.θ,ji]:=aeR.out.drew.ε aB (fun e=>Wv.out e);refine ο.out _ _ cW ?_;clear ο;simp only[Act.put];refine ξ 10 ?_;refine ξ 11 ?_;refine ξ 12 ?_;refine bf 13 (fun KK ο=>?_);rw[π (show Region.wanted _ _=true by rfl)];refine nw _ _ _ rfl v 2 (ι b.θ) rfl rfl _ _ cY (by simp[fI]) rfl kR (fun w7 dI bI jf=>?_);have mB:η w7 c 35 #[ι b.index,ι b.θ,ji]:=cW.ε bI (fun e=>Wv.out e)
 refine ο.out _ _ mB ?_;clear ο;simp only[Act.put];refine dY ?_;refine dz ?_;clear aE cW mB;rw[show ((fI V p { o with rv:=ng }).setIfInBounds 1 (ι b.index)).setIfInBounds 2 (ι b.θ)=fI { V with rows:=V.rows++[b],at_:=b.index,θ:=b.θ } p { o with rv:=ng,aG:=o.aG++[ji] } from rfl] at dI;have aeS:ζ (· = v) w5 w7:=((ζ.refl (fun q=>q=v) w5).drew.then aB (fun q e=>.inl e)).then bI (fun q e=>.inl e);have HE:=τ dI aeS;clear dI aeS cY aB bI iT jf;go_wp2_with fail
 go_end0
 have UC:ζ (fun q=>q=v∨o.rv.ownBlock=some q) w3 w7:=((H5.out.2.2.2.1.mono (fun q e=>.inl (.inr e))).then H5.out.2.1 (fun q e=>.inl (.inl e))).then HE.out.2 (fun q e=>.inl (.inl e));have aoy:ζ (· = v) w4 w7:=H5.out.2.1.then HE.out.2 (fun q e=>.inl e);have hz:∀q,(q=v∨o.rv.ownBlock=some q)→o.cl v 0 q∨o.cl v 6 q∨o.cl v 6 q:=fun q e=>e.imp id .inl
 have hm:∀q,(q=v∨o.rv.ownBlock=some q)→o.mut v q:=fun q e=>(hz q e).elim cR.r8 fun e=>e.elim cR.r8 cR.r8
 have hnew:∀q,ng.ownBlock=some q→o.rv.ownBlock=some q∨w3.heap.size≤q:=fun q hq=>by
  rcases H5.out.2.2.2.2.1 with e | e
  ·exact .inl ux
  ·rw[e] at hq
   have:=dM hq;right
   have e2:((w3.alloc (.cells #[ι b.index,ι b.θ,ji] 35)).drew).heap.size=w3.heap.size+1:=by
    show (w3.alloc _).heap.size=_;simp
   omega
 have hx:=H3.out.1.anM (V' := { V with rows:=V.rows++[b],at_:=b.index,θ:=b.θ }) (ng:=ng) (zU:=o.aG++[ji]) UC hz HE.out.1 rfl rfl rfl rfl rfl rfl
  (by rw[show (V.rows++[b]).length=V.rows.length+1 by simp];exact H5.out.2.2.1.ε aoy (fun q hq e=>by
    have e2:q=v:=e;subst e2;rcases hnew q hq with e | e
    ·exact H5.out.2.2.2.2.2.2.2 e
    ·have:=H3.out.1.blk.lt;omega))
  (by simp[H3.out.1.rM])
  (fun i x Hy h1 h2=>by
    have hold:=H3.out.1.C' UC hm;have jS:=H3.out.1.rM;by_cases hi:i<V.rows.length
    ·rw[qi hi] at h1
     rw[qi oM] at h2;exact hold i x Hy h1 h2
    ·rw[mG oM] at h1
     rw[mG oM] at h2;have bx:i - V.rows.length=0:=by
      have:=(mF.1 h1).1;simpa using this
     rw[bx] at h1;rw[show i - o.aG.length=0 by omega] at h2;cases h1
     cases h2
     exact H3.out.2.1.ε UC (fun q ht e=>H3.out.1.sZ ht dC (hm q e)))
  hnew
 exact⟨rfl,_,hx.1,(dc.mk (H3.out.2.2.2.mono φ) (fun q e=>.inl e)).trans hx.2,rfl,rfl,rfl⟩
theorem abW (h:aT w p v d V o) (b:bQ) {ty:TypeId} {ov:Value} (jS:ax w ty 3 ov (b.ops.map bY)) (hl:b.ops.length≤1000) (hr:V.rows.length≤1000) :
 ς 60 #[.pointer (some ⟨v,0,none⟩),.agg #[ι b.index,ι b.θ,ov]] w fun e w'=>e=ώ (.tuple #[])∧∃o',aT w' p v d { V with rows:=V.rows++[b],at_:=b.index,θ:=b.θ } o'∧dc w w' v o o' :=
 (abV h b jS hl hr).mono fun _ _ ⟨h1,o',h2,h3,_⟩=>⟨h1,o',h2,h3⟩
end
section
variable {w w':World} {p v:Nat} {d d':Dk} {V V':aQ} {o o':cR}
theorem Zj (h:aT w p v d V o) (hst:mz V.st) (hf:xQ d V) (hn:V.n+1<4611686018427387904) (hp:d.pend+300<1000000) (hl:d.ψ.length=500) (sy:V.st.log<1000000)
 (m:MetaM) {ty:TypeId} {mv:Value} (dK:ax w ty 2 mv (m.aZ.map cB)) (hmn:m.seen≤9223372036854775807∧m.aH≤9223372036854775807) (hml:∀x ∈ m.aZ,x.name.length≤1000000)
 (l:List ai) {tl:TypeId} {lv:Value} (hlv:ax w tl 2 lv (l.map bC)) (hls:∀p ∈ l,p.1.length≤1000000∧p.2.length≤1000000) (at_ ep:Int) (eV:ep≤9223372036854775807) :
 ς 21 #[.pointer (some ⟨v,0,none⟩),.agg (dD m mv),lv,ι at_,ι ep] w fun e w'=>e=ώ (ι (zm d V m l at_ ep).2.2)∧∃o',aT w' p v (zm d V m l at_ ep).1 (zm d V m l at_ ep).2.1 o'∧dc w w' v o o':=by
 obtain⟨A,cap,mb,mo,uC,vQ,vR,pY,tG⟩:=dK.eS;obtain⟨LA,aoz,lb,lo,UD,UE,Gu,UF,aeT⟩:=hlv.open_;rw[bz] at UD UE Gu UF;obtain⟨c,hc⟩:=μ w.heap.size;obtain⟨C,hC⟩:=μ (dD m mv);have kJ:C.size=5:=DT
 have H:=p7 h hst hf hn hp hl sy;have HM:=B0 dK hmn hml uC vQ vR pY tG;have HL:=iw UD UE Gu UF aeT hls;have HC:=aq hc hC kJ;have HEP:=δ eV;rw[hC];clear h hst hf hn hp hl sy dK hmn hml uC vQ vR pY tG hlv UD UE Gu UF aeT hls hc hC kJ eV;go_enter func21,ntmps21
 go_upto_region 1 with fail
 rw[HC.out.1];generalize hw1:World.alloc _ _=w1;have aP:η w1 c 50 C:=Uq
 have az:υ w w1:=ry
 have H1:=aq aP az (H.out.1.still az);have HO:=δ (JL (H.out.1.still az));clear aP az hw1;have tE:zm d V m l at_ ep=if iI d V then (d,{ V with down:=true },14) else if dF m=false∨mK at_ ep=false then (d,V,1) else if (fM l).2≠0 then (d,V,(fM l).2) else gX d V m (fM l).1 at_ ep:=rfl
 have HS:=δ tE;clear tE;have uK:=δ (dc.mk (o:=o) (o':=o) (v:=v) (H1.out.2.1.mono φ) (fun q e=>.inl e));cases hoff:iI d V
 ·rw[hoff] at HS HO
  simp only[mH,jj,Yk] at HO;have eX:=Sg (w:=w1) (A:=A) (cap:=cap) (b:=mb) (off:=mo) m HM.out.2.2.2.2.2.2.1 (fun w' hu=>HM.out.2.2.2.2.2.2.2 w' (fun _=>False) (H1.out.2.1.then hu (fun _ e=>.inl e)) (fun _ _ e=>e)) HM.out.2.2.2.2.2.1 HM.out.2.2.2.2.1 HM.out.2.2.1;rw[← HM.out.2.2.2.1,HC.out.2.1] at eX;have HR:=δ eX;clear eX hoff;go_upto_region 4 with (first
   |(go_at_call 53;refine HO.out.mono ?_;rintro e w2 ⟨rfl,-,-,bp⟩;subst bp))
  obtain⟨B1,aP⟩:∃B,decide (at_=0∧ep=0)=B:=⟨_,rfl⟩;obtain⟨B2,aD⟩:∃B,decide (1≤at_∧at_≤4611686018427387904∧1≤ep)=B:=⟨_,rfl⟩;have rG:=δ aP;have kG:=δ aD;clear aP aD;go_cut [12] (fun t12 wx=>t12=.bool B1∧w1=wx)
  case first =>
   cases h1:(at_ == 0)
   ·go_wp2_with fail
    go_meet
    refine⟨?_,rfl⟩;rw[← rG.out];have h1':at_≠0:=yc
    simp[h1']
   ·go_wp2_with fail
    go_meet
    refine⟨?_,rfl⟩;rw[← rG.out];have h1':at_=0:=yc
    simp[h1',Bool.beq_eq_decide_eq]
  case rest =>
   obtain⟨rfl,rfl⟩:=hcut;go_upto_region 5 with fail
   go_cut [13] (fun t13 wx=>t13=.bool B2∧w1=wx)
   case first =>
    by_cases h1:1≤at_<;>by_cases h2:at_≤4611686018427387904<;>by_cases h3:1≤ep<;>
    (go_wp2_with fail
     go_meet
     refine⟨?_,rfl⟩;rw[← kG.out];first
      | exact aI Value.bool (fo oM).symm
      | exact aI Value.bool (gI oM).symm)
   case rest =>
    obtain⟨rfl,rfl⟩:=hcut;go_upto_region 6 with fail
    have abX:mK at_ ep=(B1 || B2):=by rw[← rG.out,← kG.out];rfl
    obtain⟨B3,aC⟩:∃B,(dF m && mK at_ ep)=B:=⟨_,rfl⟩;have yG:=τ aC abX;clear aC abX;go_cut [47] (fun t47 wx=>t47=.bool (!B3)∧υ w1 wx)
    case first =>
     obtain⟨Z,hZ⟩:=μ (dF m);have fY:=yG.out;rw[hZ] at HR fY;have HZ3:=δ fY;clear fY hZ;cases Z<;>cases B1<;>cases B2<;>
     (go_wp2_with (first
       |(refine eA _ c H1.out.1 underlying50 (by rw[HC.out.2.2];kernel_rfl) ?_)
       |(go_at_call 41;refine HR.out.mono ?_;rintro e w3 ⟨rfl,χ⟩;have H3:=δ χ;clear χ))
      go_meet
      refine⟨?_,H3.out⟩;rw[← HZ3.out.1,HZ3.out.2];rfl)
    case rest =>
     obtain⟨rfl,χ⟩:=hcut;have h3:=H1.out.2.2.still χ;have m_:=uK.out.still χ;have Kh:=H1.out.2.1.then χ (fun _ e=>.inl e);have aeU:=H1.out.1.ε χ id;have H3:=aF h3 m_ Kh aeU;clear h3 m_ Kh aeU χ;cases hb:B3
     ·have hno:dF m=false∨mK at_ ep=false:=by
       have:=yG.out.1;rw[hb] at this;cases hr:dF m
       ·exact .inl rfl
       ·rw[hr] at this;exact .inr (by simpa using this)
      have EV:=δ hno;clear hno hb;go_wp2_with fail
      go_ret
      rw[HS.out,ν sM,π EV.out];exact⟨rfl,o,H3.out.1,H3.out.2.1⟩
     ·have hyes:dF m=true∧mK at_ ep=true:=by
       have:=yG.out.1;rw[hb] at this;simpa using this
      have HY:=δ hyes;have mE:=acw (w:=wc) (A:=LA) (cap:=aoz) (b:=lb) (off:=lo) (l:=l) HL.out.2.2.2.1 (fun w' hu i hi=>HL.out.2.2.2.2.1 w' (fun _=>False) (H3.out.2.2.1.then hu (fun _ e=>.inl e)) (fun _ _ e=>e) i (bC l[i]) (by simp[hi])) HL.out.2.2.2.2.2 HL.out.2.2.1;rw[← HL.out.1] at mE;have Cy:=δ mE;clear hyes hb mE;obtain⟨R,hR⟩:=μ (fM l);rw[hR] at HS;by_cases h0:R.2=0
      ·have HE:=τ hR h0
       clear hR h0;go_upto_region 9 with (first
        |(go_at_call 75;refine Cy.out.mono ?_;intro e w4 EW
          obtain⟨m2,fu,rfl,wA,uZ,EX⟩:=EW.yes (by rw[HE.out.1];exact HE.out.2);have H4:=aF wA uZ EX EW.ε;clear wA uZ EX EW))
       have hwc:w.heap.size≤wc.heap.size:=H3.out.2.2.1.size;have h4:=H3.out.1.still H4.out.2.2.2;have pY:=(HM.out.1.still H3.out.2.2.1).still H4.out.2.2.2;have hown:=acE m pY (zg HY.out.1).eS;rw[HC.out.2.1] at hown;have HOW:=δ hown;have aJ:=H3.out.2.2.2.ε H4.out.2.2.2 id;have Ki:mz (V.st.whole m at_ ep):=by
        have hst:=H.out.2.1;have hpk:=HY.out.2;have he:=HEP.out;unfold mK at hpk;simp only[IA,eD] at hpk;refine⟨HY.out.1,⟨?_,?_,?_,?_⟩,?_,?_,hst.key,hst.κ,HM.out.2.1⟩
        ·show 0≤at_;omega
        ·show at_≤_;omega
        ·show 0≤ep;omega
        ·show ep≤_;omega
        ·show 1+V.st.slot % 2≤2;omega
        ·show V.st.log+1≤1000000
         have:=H.out.2.2.2.2.2.2;omega
       have pG:fu ∉ o.F:=fun e=>by
        have h1:=H.out.1.lt (i:=1) dC e;have h2:=H4.out.2.2.1;omega
       have hmk:fu≠o.rk:=fun e=>by
        have h1:=H.out.1.lt (i:=5) (q:=o.rk) dC (.inr (.inl rfl));have h2:=H4.out.2.2.1;omega
       have HW:=δ (fun (w5:World) (di:Value) (mT:ax w5 46 2 di (m.aZ.map cB)) (ay:υ w4 w5)=>abj (h4.still ay) m mT (fM l).1 (H4.out.1.still ay) pG hmk at_ ep Ki H.out.2.2.1 H.out.2.2.2.1 H.out.2.2.2.2.1 H.out.2.2.2.2.2.1 H.out.2.2.2.2.2.2 H.out.2.1.slot);have je:=δ aJ;clear h4 pY hown aJ Ki pG hmk hwc;go_wp2_with (first
        |(refine eA _ c je.out underlying50 (by rw[HC.out.2.2];kernel_rfl) ?_)
        |(go_at_call 76
          refine HOW.out.mono ?_;rintro e w5 ⟨di,rfl,mT,ay⟩;have H5:=τ mT ay;clear mT ay)
        |(go_at_call 56
          refine(HW.out _ _ H5.out.1 H5.out.2).mono ?_;rintro e w6 ⟨rfl,o6,h6,k6,km⟩;have H6:=aq h6 k6 km;clear h6 k6 km))
       go_ret
       rw[HS.out,ν sM,ν (by rw[HY.out.1,HY.out.2];simp),ν (by rw[HE.out.2];simp),← HE.out.1]
       refine⟨rfl,o6,H6.out.1,(((H3.out.2.1.still H4.out.2.2.2).still H5.out.2).trans H6.out.2.1).re (m:=o6.m) (mb:=o6.mb) ?_⟩;rcases H6.out.2.2 with e | e | e
       ·exact .inl e
       ·rw[e]
        exact .inr (ic H3.out.2.1.ε.size H4.out.2.2.1)
       ·exact .inr (ic ((H3.out.2.1.still H4.out.2.2.2).still H5.out.2).ε.size e)
      ·obtain⟨E,hE⟩:=μ R.2
       have HE:=τ hR hE;rw[hE] at h0;have eU:(E != 0)=true:=by simpa using h0
       have H0:=δ h0;clear hR hE h0;go_wp2_with (first
        |(go_at_call 75;refine Cy.out.mono ?_;intro e w4 EW
          obtain rfl:=EW.no (by rw[HE.out.1,HE.out.2];exact H0.out);rw[HE.out.1,HE.out.2];have H4:=δ EW.ε;clear EW))
       go_ret
       rw[HS.out,ν sM,ν (by rw[HY.out.1,HY.out.2];simp),HE.out.2,π H0.out]
       exact⟨rfl,o,H3.out.1.still H4.out,H3.out.2.1.still H4.out⟩
 ·exact Uu
end
structure x8 (g:Lg):Prop where
 from_:g.from_≤5000
 dS:g.dS≤5000
 used:g.used≤g.dS
 len:g.l.length≤g.used
 θ:g.θ<18446744073709551616
 last:g.last<18446744073709551616
 af:g.af<18446744073709551616
theorem ZX:∀(n:Nat) (g:Lg) (row:List Lp),x8 g→g.used+row.length≤g.dS→(∀q ∈ row,q.af<18446744073709551616)→x8 (se n g row)
 | 0,_,_,h,_,_=>h
 | n + 1,g,row,h,hu,hs=>by
   unfold se;split
   ·rename_i hf
    obtain⟨h1,h2,h3,h4⟩:=Q6 hf;refine ZX n _ _ ⟨h.from_,h.dS,?_,?_,h.θ,?_,h.af⟩ ?_ (fun q hq=>hs q (CY hq))
    ·show g.used+_≤g.dS
     omega
    ·show (g.l++[_]).length≤g.used+_
     have:=h.len;rw[aN,y_];omega
    ·show (row.headD _).af<_
     cases row with
     | nil=>simp at h1
     | cons a r=>exact hs a sM
    ·show g.used+_+(row.drop _).length≤g.dS
     rw[jC];omega
   ·exact h
theorem ZY {d:Dk} {f n e:Nat} {g:Lg} (hf:f≤5000) (hn:n≤5000) (he:e<18446744073709551616) (h:nA d f n e=some g):x8 g:=by
 unfold nA at h;split at h
 ·cases h
 ·cases h
  have h1:=Rn d f n;have h2:=ZB d f n;exact ZX _ _ _ ⟨hf,hn,by show 0≤n;omega,sM,he,by show 0<_;omega,h2.2⟩ (by show 0+_≤n;omega) (fun q hq=>(h2.1 q hq).2.2)
theorem abk {w:World} {p b:Nat} {d:Dk} {F:List Nat} {g:Lg} {v:Value} (hD:bG w p d F) (hB:η w b 199 (g.cells p v)) (hO:Own w 9 1 v g.l.length (strs g.l)) (hsep:∀q,v.ownBlock=some q→q ∉ F) (s:ByteArray)
 (hg:x8 g) (hp:d.pend+40<1000000) :
 ς 58 #[.pointer (some ⟨b,0,none⟩),.string s] w fun e w'=>e=ώ (ι (jK d g s).2.2)∧Jq w w' p b (jK d g s).1 (jK d g s).2.1 F v:=by
 have hlen:=hg.len;have Bv:=hg.used;have rC:=hg.dS;have xW:=hg.af;by_cases h:g.broken=true∨1024<s.size∨g.dS - g.used<partsOf s.size∨g.af=18446744073709551615
 ·refine(ag' (p:=p) ⟨v,hB,hO⟩ s hg.used hg.dS h).mono ?_
  rintro e w' ⟨rfl,hu⟩;have hno:Jq w w' p b d g F v:=⟨⟨F,v,hD.ε hu (fun _ _ e=>e),fun q e=>.inl e,hB.ε hu id,hO.ε hu (fun _ _ e=>e),fun q e=>.inl e,hsep⟩,hu.mono φ⟩;unfold jK;by_cases h1:g.broken=true
  ·rw[π h1,π h1];exact⟨rfl,hno⟩
  ·rw[ν h1,ν h1]
   by_cases h2:1024<s.size
   ·rw[π h2,π h2];exact⟨rfl,hno⟩
   ·rw[ν h2,ν h2,π (by rcases h with h | h | h;exact absurd h h1;exact absurd h h2;exact h)];exact⟨rfl,hno⟩
 ·simp only[ql] at h
  exact akk hD hB hO hsep s (by simpa using h.1) oM oM oM hg.from_ hg.dS hg.used oM hg.θ hg.last hp
theorem Dk.ak2 {d:Dk} (h:d.sync.2=0):d.sync.1.pend=0:=by
 unfold Dk.sync at h ⊢;split at h
 ·simp at h
 ·rename_i ho
  rw[ν ho];split at h
  ·rename_i hb
   rw[π hb];exact Dk.I0 _
  ·simp at h
theorem ak3 {d:Dk} {k:Kp} {t:List UInt8} (h:(dG d k t).2.2=0):(dG d k t).1.pend=0:=by
 unfold dG at h ⊢;split at h
 ·simp at h
 rename_i h1
 rw[ν h1];split at h
 ·simp at h
 rename_i h2
 rw[ν h2];split at h
 ·simp at h
 rename_i h3
 rw[ν h3];split at h
 ·rename_i h4;exact absurd h h4
 rename_i h4
 rw[ν h4];split at h
 ·rename_i h5;exact absurd h h5
 rename_i h5
 rw[ν h5];exact Dk.ak2 (by simpa using h5)
structure anN (D:Dk) (V W:aQ) (s:dw):Prop where
 pend:D.pend=0
 S:W.S=V.S
 at_:W.at_=V.at_
 θ:W.θ=V.θ
 rows:W.rows=V.rows
 prev:W.prev=V.prev
 st:W.st=s
 lg:W.lg=V.lg
 cur:W.cur=V.cur
 n:W.n=V.n+1
theorem amc {d:Dk} {V:aQ} {s:dw} (h:(dm d V s).2.2=0):anN (dm d V s).1 V (dm d V s).2.1 s:=by
 unfold dm at h ⊢;split at h
 ·rename_i h1;exact absurd h h1
 ·rename_i h1
  rw[ν h1];exact⟨ak3 yc,rfl,rfl,rfl,rfl,rfl,rfl,rfl,rfl,rfl⟩
structure amd (D:Dk) (V W:aQ) (m:MetaM) (x:List ai) (a ep:Int):Prop where
 pend:D.pend=0
 S:W.S=x
 at_:W.at_=a
 θ:W.θ=ep
 rows:W.rows=[]
 st:W.st=V.st.whole m a ep
 lg:x8 W.lg
 cur:W.cur=V.cur
 n:W.n=V.n+2
theorem aju {d:Dk} {V:aQ} {m:MetaM} {x:List ai} {at_ ep:Int} (sy:V.st.log<1000000) (h:(gX d V m x at_ ep).2.2=0):amd (gX d V m x at_ ep).1 V (gX d V m x at_ ep).2.1 m x at_ ep:=by
 unfold gX at h ⊢;simp only at h ⊢
 split at h
 ·rename_i h1;exact absurd h h1
 rename_i h1
 rw[ν h1];split at h
 ·rename_i h2;exact absurd h h2
 rename_i h2
 rw[ν h2];have hok:=amc (show _=(0:Int) by simpa using h2);cases hg:nA (dm (gw d (V.st.whole m at_ ep).slot (V.wrap kD (gL x))).1 V.next (V.st.whole m at_ ep)).1 20 320 (V.st.whole m at_ ep).log with
 | none=>rw[hg] at h;simp at h
 | some g =>
   simp only
   exact⟨hok.pend,rfl,rfl,rfl,rfl,hok.st,ZY oM oM (by show V.st.log+1<_;omega) hg,hok.cur,hok.n⟩
theorem OX {P:Prop} (h:P:=by have h1:=HI.out;have h2:=CN.out;omega):P:=h
section
variable {w w':World} {p v:Nat} {d d':Dk} {V V':aQ} {o o':cR}
theorem ajv {d:Dk} {V:aQ} {b:bQ} {X:List ai} (h:V.S=X):((iu d V b).1,(if (iu d V b).2.2=0 then { (iu d V b).2.1 with S:=cH X b.ops } else (iu d V b).2.1),(iu d V b).2.2)=iu d V b:=by
 subst h;unfold iu;simp only
 obtain⟨R,hR⟩:=μ (jK d V.lg (str (V.wrap jZ (ir b))));rw[hR];by_cases h1:R.2.2=0
 ·simp[h1,aQ.does,aQ.next]
 ·simp[h1]
theorem aT.DX (h:aT w p v d V o) (hu:ζ (· = v) w w') {X:List ai} {m2 fu:Nat} (hB:η w' v 117 (fI V p { o with m:=m2 })) (hm:gy w' m2 fu X) (h1:fu ∉ o.F) (h2:fu≠o.rk) :
 aT w' p v d { V with S:=X } { o with m:=m2,mb:=fu } ∧ dc w w' v o o:=by
 have hz:∀q,q=v→o.mut v q:=fun q e=>.inl e
 exact⟨h.Dl hu rfl rfl rfl rfl rfl hB rfl rfl rfl rfl (h.log.ε hu (h.F8 (j:=3) dC rfl)) (h.recs.ε hu (fun q e=>h.F8 (j:=4) dC e)) h.sep hm h1 h2 (h.rows.ε hu (fun q e=>h.F8 (j:=6) dC e)) h.rM (h.C' hu hz) (h.Dc hu hz),
  dc.ES (hu.mono fun q e=>.inl (hz q e)) _ rfl (fun q e=>.inl e) (.inl rfl) (.inl rfl) (fun q e=>.inl e) (fun q e=>.inl e) (fun q e=>.inl e)⟩
theorem aeV {P:Prop} (h:P:=by
 have h9:=H9.out.1;rw[iB.out.1] at h9;rw[yq.out,H_];exact⟨rfl,_,h9,((HT.out.2.1.trans HA.out.2.1).trans HB.out).trans H9.out.2⟩):P:=h
theorem ZZ (h:aT w p v d V o) (hst:mz V.st) (hf:xQ d V) (hn:V.n+3<4611686018427387904) (hp:d.pend+600<1000000) (hl:d.ψ.length=500) (sy:V.st.log<1000000) (hg:x8 V.lg) (hr:V.rows.length≤24) (hat:om V.at_ V.θ)
 (b:bQ) {ty:TypeId} {ov:Value} (jS:ax w ty 3 ov (b.ops.map bY)) (acH:∀W,ζ (o.mut v) w W→ax W ty 3 ov (b.ops.map bY)) (Ia:qo b.ops) (jg:b.θ≤9223372036854775807) :
 ς 15 #[.pointer (some ⟨v,0,none⟩),.agg #[ι b.index,ι b.θ,ov]] w fun e w'=>e=ώ (ι (vz d V b).2.2)∧∃o',aT w' p v (vz d V b).1 (vz d V b).2.1 o'∧dc w w' v o o':=by
 obtain⟨A,cap,ob,oo,Kj,OY,Kk,Kl,Km⟩:=jS.ops;obtain⟨c,hc⟩:=μ w.heap.size;have hone:=jS.one;have H:=δ (And.intro h (And.intro hst (And.intro hf (And.intro hn (And.intro hp (And.intro hl (And.intro sy (And.intro hg (And.intro hr hat)))))))));have HV:=δ (And.intro jS (And.intro Kj (And.intro OY (And.intro Kk (And.intro Kl (And.intro Km (And.intro Ia (And.intro jg hone))))))));have HC:=δ hc;have acI:=δ acH;clear h acH hst hf hn hp hl sy hg hr hat jS Kj OY Kk Kl Km Ia jg hc hone;go_enter func15,ntmps15
 go_upto_region 1 with fail
 rw[HC.out];generalize hw1:World.alloc _ _=w1;have aP:η w1 c 35 #[ι b.index,ι b.θ,ov]:=by rw[← hw1,← HC.out];exact η.new w _ _
 have az:υ w w1:=ry
 have H1:=aq aP az (H.out.1.still az);have HO:=δ (JL (H.out.1.still az));clear aP az hw1;have tE:vz d V b=if iI d V then (d,{ V with down:=true },14) else if d_ b.index b.θ b.ops≠0 then (d,V,d_ b.index b.θ b.ops) else if b.index≠V.at_+1∨b.θ<V.θ then (d,V,1) else
  if fD V.S b.ops≠0 then (d,V,fD V.S b.ops) else
  if 24≤V.rows.length then (if (gX d V V.st.m V.S V.at_ V.θ).2.2≠0 then gX d V V.st.m V.S V.at_ V.θ else
   ((iu (gX d V V.st.m V.S V.at_ V.θ).1 (gX d V V.st.m V.S V.at_ V.θ).2.1 b).1,if (iu (gX d V V.st.m V.S V.at_ V.θ).1 (gX d V V.st.m V.S V.at_ V.θ).2.1 b).2.2=0 then { (iu (gX d V V.st.m V.S V.at_ V.θ).1 (gX d V V.st.m V.S V.at_ V.θ).2.1 b).2.1 with S:=cH V.S b.ops } else (iu (gX d V V.st.m V.S V.at_ V.θ).1 (gX d V V.st.m V.S V.at_ V.θ).2.1 b).2.1,(iu (gX d V V.st.m V.S V.at_ V.θ).1 (gX d V V.st.m V.S V.at_ V.θ).2.1 b).2.2))
  else iu d V b:=rfl
 have HS:=δ tE;clear tE;have uK:=δ (dc.mk (o:=o) (o':=o) (v:=v) (H1.out.2.1.mono φ) (fun q e=>.inl e));cases hoff:iI d V
 ·rw[hoff] at HS HO
  simp only[mH,jj,Yk] at HO;clear hoff;by_cases hE:d_ b.index b.θ b.ops=0
  ·have HE := δ hE
   obtain⟨b1,b2,b3,b4,b5⟩:=ue hE;have Pn:=cD b1 b2 b3 b4 b5;obtain⟨ni,hni⟩:∃n:Nat,b.index=n:=⟨b.index.toNat,oM⟩;obtain⟨ne,hne⟩:∃n:Nat,b.θ=n:=⟨b.θ.toNat,oM⟩;have hby:=aiv (w:=w1) (A:=A) (cap:=cap) (b:=ob) (off:=oo) (l:=b.ops) (i:=ni) (ep:=ne) HV.out.2.2.2.2.1 (fun w' hu=>HV.out.2.2.2.2.2.1 w' (fun _=>False) (H1.out.2.1.then hu (fun _ e=>.inl e)) (fun _ _ e=>e)) HV.out.2.2.2.2.2.2.1 (oN HV.out.2.2.2.2.2.2.2.1) (by rw[← hni,← hne];exact hE);have gH:zB ni ne b.ops=ir b:=by unfold ir;rw[hni,hne];rfl
   rw[← HV.out.2.1,← hni,← hne,gH] at hby;have lE:=δ hby;clear hE b1 b2 b3 b4 b5 hby gH hni hne;go_upto_region 7 with (first
    |(go_at_call 53;refine HO.out.mono ?_;rintro e w2 ⟨rfl,-,-,bp⟩;subst bp)
    |(refine gp _ c H1.out.1 underlying35 ?_)
    |(go_at_call 54;refine lE.out.mono ?_;rintro e w3 ⟨rfl,χ⟩;have H3:=δ χ;clear χ))
   have h3:=H1.out.2.2.still H3.out;have aC:=H1.out.1.ε H3.out id;have Kh:=H1.out.2.1.then H3.out (fun _ e=>.inl e);have K3:=aF h3 aC Kh (uK.out.still H3.out);have LJ:w3.cell? ⟨c,0,none⟩=some (ι b.index):=aC.cell 0;have Ww:w3.cell? ⟨c,1,none⟩=some (ι b.θ):=aC.cell 1;have Wx:w3.cell? ⟨c,2,none⟩=some ov:=aC.cell 2;have cv0:w3.cell? ⟨v,0,none⟩=some (.pointer (some ⟨o.m,0,none⟩)):=h3.blk.cell 0;have cv1:w3.cell? ⟨v,1,none⟩=some (ι V.at_):=h3.blk.cell 1;have cv2:w3.cell? ⟨v,2,none⟩=some (ι V.θ):=h3.blk.cell 2;have wa:IntKind.i64.wrap (V.at_+1)=V.at_+1:=cZ _ (oO H.out.2.2.2.2.2.2.2.2.2.V7 H.out.2.2.2.2.2.2.2.2.2.V8);clear h3 aC Kh;by_cases hi:b.index=V.at_+1
   ·have bx : (b.index != V.at_+1)=false:=by simp[hi]
    have HI:=δ hi;clear hi;by_cases he:b.θ<V.θ
    ·have he0:decide (b.θ<V.θ)=true:=by simpa using he
     have CN:=δ he;clear he;go_quiet (fail)
     go_wp2_with fail
     go_ret
     rw[HS.out,ν sM,ν DV,π (.inr CN.out)]
     exact⟨rfl,o,K3.out.1.still ((ζ.refl _ _).drewN _),K3.out.2.2.2.still ((ζ.refl _ _).drewN _)⟩
    ·have he0 : decide (b.θ<V.θ)=false:=by simpa using he
     have CN:=δ he;clear he;have GI:=δ (fun n=>abe (K3.out.1.still ((ζ.refl (fun _=>False) w3).drewN n)).map);have iV:=δ (fun (W:World) (m2 fu:Nat) (hU:υ w3 W) (hm:gy W m2 fu V.S)=>acv hm (A:=A) (cap:=cap) (b:=ob) (off:=oo) (l:=b.ops) HV.out.2.2.2.2.1 (fun w' hu=>HV.out.2.2.2.2.2.1 w' (fun _=>False) ((K3.out.2.2.1.then hU (fun _ e=>.inl e)).then hu (fun _ e=>.inl e)) (fun _ _ e=>e)) HV.out.2.2.2.2.2.2.1 HV.out.2.2.2.1);rw[← HV.out.2.1] at iV;have oZ:(V.rows.length:Int)=(V.rows.length:Int):=rfl;by_cases hD:fD V.S b.ops=0
     ·have Ib:=δ hD
      rw[hD] at iV;clear hD oZ;go_quiet (fail)
      go_upto_region 13 with (first
       |(go_at_call 55;refine(GI.out _).mono ?_;rintro e w5 ⟨m2,fu,rfl,uZ,BR,BS,ay⟩
         have aoA:w5.cell? ⟨c,2,none⟩=some ov:=(K3.out.2.1.ε (((ζ.refl (fun _=>False) w3).drewN _).then ay (fun _ e=>.inl e)) id).cell 2;have H5:=aF uZ BR BS (((ζ.refl (fun _=>False) w3).drewN _).then ay (fun _ e=>.inl e));clear uZ BR BS ay)
       |(go_at_call 36;refine(iV.out _ _ _ H5.out.2.2.2 H5.out.1).mono ?_;rintro e w6 ⟨rfl,LK⟩
         obtain⟨AD,EX,aeW,aB⟩:=LK.yes Ib.out;have H6:=aq EX aeW aB;clear LK EX aeW aB))
      obtain⟨RA,nH,tW,-,-⟩:=K3.out.1.rows.shape;have yo:υ w3 w6:=H5.out.2.2.2.then H6.out.2.2 (fun q e=>.inr (by have e2:q=m2:=e;have h1:=H5.out.2.1;have e3:(w3.drewN nq).heap.size=w3.heap.size:=rfl;omega));have h6:=K3.out.1.still yo;have cv3:w6.cell? ⟨v,3,none⟩=some (.slice RA V.rows.length nH):=by rw[← tW];exact h6.blk.cell 3
      have LL:c<w6.heap.size∧m2<w6.heap.size∧AD<w6.heap.size:=⟨(K3.out.2.1.ε yo id).lt,H6.out.1.lt.1,H6.out.1.lt.2⟩;have LH:w.heap.size≤c∧w.heap.size≤m2∧w.heap.size≤AD:=by
       have h1:=HC.out;have h2:=H5.out.2.1;have h3:=H6.out.2.1;have h4:=K3.out.2.2.1.size;have h5:=H5.out.2.2.2.size;have e3:(w3.drewN nq).heap.size=w3.heap.size:=rfl;omega
      have ld:=cD h6 yo (K3.out.2.1.ε yo id) LL LH;have aeX:ax w6 ty 3 ov (b.ops.map bY):=(HV.out.1.still K3.out.2.2.1).still yo;have apq:=δ aeX;clear tW yo h6 LL LH aeX;by_cases h24:24≤V.rows.length
      ·have Kn:(24:Int)≤(V.rows.length:Int):=oM
       obtain⟨D5,LM⟩:∃D,dD V.st.m o.mv=D:=⟨_,rfl⟩;have aeY:((fI V p o).toList.drop 9).take 5=D5.toList:=by rw[← LM];rfl
       have aeZ:D5.size=5:=by rw[← LM];rfl
       have Wy:=aq LM aeY aeZ;have ae0:=δ h24;clear h24 LM aeY aeZ;go_upto_region 14 with fail
       have Ic:=ld.out.1.still (ζ.refl (fun _=>False) w6).drew;have Ki:mz (V.st.whole V.st.m V.at_ V.θ):=by
        have hst:=H.out.2.1;refine⟨hst.right,H.out.2.2.2.2.2.2.2.2.2,?_,?_,hst.key,hst.κ,hst.mn⟩
        ·show 1+V.st.slot % 2≤2;omega
        ·show V.st.log+1≤1000000
         have:=H.out.2.2.2.2.2.2.1;omega
       have LN:=amb Ic V.st.m Ic.eS V.S Ic.map Ic.qL Ic.uY (.inl rfl) V.at_ V.θ Ki H.out.2.2.1 (oN H.out.2.2.2.1) (oN H.out.2.2.2.2.1) H.out.2.2.2.2.2.1 H.out.2.2.2.2.2.2.1 H.out.2.1.slot;have OZ:=fun e=>aju (d:=d) (V:=V) (m:=V.st.m) (x:=V.S) (at_:=V.at_) (ep:=V.θ) H.out.2.2.2.2.2.2.1 e
       rw[Wy.out.1] at LN;obtain⟨Y,hY⟩:=μ (gX d V V.st.m V.S V.at_ V.θ);rw[hY] at LN OZ HS;obtain⟨E1,l9⟩:∃E,Y.2.2=E:=⟨_,rfl⟩;rw[l9] at LN OZ HS;have Wz:=aq LN OZ l9;clear LN OZ l9 hY Ki Ic;refine dW ?_;refine eo (S:=fun w'=>η w' v 117 (fI V p o)) (T:=fun i=>i == 21 || i == 22) kR ?_;have aE:η w6.drew v 117 (fI V p o):=ld.out.1.blk.drew;refine ξ 0 ?_;refine ξ 1 ?_;refine ξ 2 ?_;refine ξ 3 ?_;refine ξ 4 ?_;refine iL 5 (.agg D5) (C0 rfl ak _ _ rfl v 9 ak _ _ D5.toList _ (fun w' hSw=>hSw) (og Wy.out.2.1) underlying50 rfl (by rw[xo,Wy.out.2.2];kernel_rfl)) ?_
       refine ξ 6 ?_;refine ξ 7 ?_;refine ξ 8 ?_;refine ξ 9 ?_;refine aX 10 (fun w' hSw=>show w'.cell? ⟨v,0,none⟩=some (.pointer (some ⟨o.m,0,none⟩)) from hSw.cell 0) ?_;refine ξ 11 ?_;refine ξ 12 ?_;refine ξ 13 ?_;refine ξ 14 ?_;refine aX 15 (fun w' hSw=>show w'.cell? ⟨v,1,none⟩=some (ι V.at_) from hSw.cell 1) ?_;refine ξ 16 ?_;refine ξ 17 ?_;refine ξ 18 ?_;refine ξ 19 ?_;refine aX 20 (fun w' hSw=>show w'.cell? ⟨v,2,none⟩=some (ι V.θ) from hSw.cell 2) ?_;refine lG 21 (fun KK ο=>?_);go_simp
       refine Wz.out.1.mono ?_;rintro e w7 ⟨rfl,o7,h7,k7⟩;refine ο.out _ _ ?_;clear ο;have H7:=τ h7 k7;clear h7 k7;refine lG 22 (fun KK ο=>?_);go_simp
       refine ο.out _ _ ?_;clear ο;refine dY ?_;refine dz ?_;clear aE;by_cases hz:E1=0
       ·subst hz
        have hok:=Wz.out.2.1 rfl;have LP:∀q,w.heap.size≤q→¬o.mut v q:=fun q h1 e=>by obtain⟨i,hi,he⟩:=cR.S3 (o:=o) e;have:=H.out.1.lt hi he;omega
        have HT:=δ (show aT w7 p v Y.1 Y.2.1 o7∧dc w w7 v o o7∧∀q,w.heap.size≤q→q<w6.heap.size→¬o7.mut v q from ⟨H7.out.1,((K3.out.2.2.2.still ld.out.2.1).still (ζ.refl (fun _=>False) w6).drew).trans H7.out.2,fun q h1 h2 e=>(H7.out.2.sub q e).elim (LP q h1) (fun e=>by have e3:w6.drew.heap.size=w6.heap.size:=rfl;omega)⟩);have yq:=δ (show vz d V b=iu Y.1 Y.2.1 b by rw[HS.out,ν sM,ν DV,ν OX,ν (by rw[Ib.out];simp),π ae0.out,ν sM,ajv hok.S])
        have HN:=δ (show Y.2.1.cur≤1048576∧Y.2.1.st.κ<4294967296∧Y.2.1.n<4611686018427387904∧x8 Y.2.1.lg∧Y.1.pend+40<1000000∧Y.2.1.rows.length≤1000∧Y.2.1.S=V.S from ⟨by rw[hok.cur];exact H.out.2.2.1.cur,by rw[hok.st];show V.st.κ<_;have:=H.out.2.1.κ;omega,by rw[hok.n];have:=H.out.2.2.2.1;omega,hok.lg,by rw[hok.pend];omega,by rw[hok.rows];simp,hok.S⟩)
        have WA:=δ (show w6.heap.size≤w7.heap.size from H7.out.2.ε.size);have LQ:=τ (ld.out.2.2.1.drew.ε H7.out.2.ε (LP c ld.out.2.2.2.2.1)) ld.out.2.2.2.2.1;have wQ:=aF ((H6.out.1.still (ζ.refl (fun _=>False) w6).drew).ε H7.out.2.ε (LP m2 ld.out.2.2.2.2.2.1) (LP AD ld.out.2.2.2.2.2.2)) (bO 0) ld.out.2.2.2.2.2.1 ld.out.2.2.2.2.2.2;clear hok LP;have EY:∃X,(Y.2.1).wrap jZ (ir b)=X:=⟨_,rfl⟩;obtain⟨X,hX⟩:=EY;have ef:=Je HE.out HV.out.2.2.2.2.2.2.2.1;have mS:(str X).size=X.length:=bR X;have me:r_ (kP (str jo).data.toList (Y.2.1).cur) (Y.2.1).cur (Y.2.1).st.κ (Y.2.1).n (str jZ).data.toList (str (ir b)).data.toList=X:=by rw[← hX,cA,cA,cA];rfl
        have hwr:=NB HT.out.1.ring DU HN.out.1 HN.out.2.1 HN.out.2.2.1 (str jZ) (str (ir b)) dC DF;rw[me] at hwr;have WB:=δ hwr;have c8:(w7).cell? ⟨v,8,none⟩=some (.pointer (some ⟨(o7).rb,0,none⟩)):=HT.out.1.blk.cell 8;obtain⟨R,hR⟩:=μ (jK Y.1 (Y.2.1).lg (str X));obtain⟨E,rN⟩:=μ R.2.2;have iB:=aq hR rN hX;clear hX ef mS me hwr hR rN;go_upto_region 20 with (first
         |(go_at_call 57;refine WB.out.mono ?_;rintro e wa ⟨rfl,es,CO⟩
           have ha:=HT.out.1.zx CO;have c7:wa.cell? ⟨v,7,none⟩=some (.pointer (some ⟨(o7).lb,0,none⟩)):=ha.1.blk.cell 7;have ju:=abk ha.1.bH ha.1.log ha.1.recs ha.1.sep (str X) HN.out.2.2.2.1 HN.out.2.2.2.2.1;have HA:=aq ha.1 ha.2 ju;clear ha ju CO))
        by_cases h0:E=0
        ·have tH:=δ h0
         go_upto_region 23 with (first
          |(go_at_call 58;refine HA.out.2.2.mono ?_;rintro e wb ⟨rfl,wR⟩
            obtain⟨F',fN,hb,kb⟩:=HA.out.1.OS wR;rw[show (jK Y.1 (Y.2.1).lg (str X)).2.2=0 by rw[iB.out.1,iB.out.2.1];exact tH.out];have G2:=δ hb.blk;have HB:=τ hb kb;clear hb kb wR))
         have hkk:=HA.out.2.1.trans HB.out.2;have hno:∀q,w.heap.size≤q→q<w6.heap.size→¬cR.mut { (o7) with aA:=es,F:=F',lv:=fN } v q:=fun q h1 h2 e=>(hkk.sub q e).elim (HT.out.2.2 q h1 h2) (fun e=>oN WA.out)
         have EV:=τ hno hkk;clear hno hkk;go_upto_region 24 with (first
          |(refine gJ rfl _ _ _ rfl v 0 (.pointer (some ⟨m2,0,none⟩)) rfl rfl _ _ G2.out (by simp[fI]) rfl kR ?_
            intro wc mV nQ G3))
         have hkk:=EV.out.2;have hno:=EV.out.1;have uN:ζ ((o7).mut v) (w7) wc:=hkk.ε.then nQ (fun q e=>.inl (.inl e));have hmap:=wQ.out.1.ε uN (HT.out.2.2 _ wQ.out.2.2.1 ld.out.2.2.2.1.2.1) (HT.out.2.2 _ wQ.out.2.2.2 ld.out.2.2.2.1.2.2);have hnb:=hno AD wQ.out.2.2.2 ld.out.2.2.2.1.2.2;have EZ:=HB.out.1.DX (X:=cH V.S b.ops) (m2:=m2) (fu:=AD) nQ mV hmap (fun e=>hnb (.inr (.inl e))) (fun e=>hnb (.inr (.inr (.inr (.inr (.inr (.inl (.inr (.inl e)))))))));have Ko:ax wc ty 3 ov (b.ops.map bY):=acI.out wc (HT.out.2.1.ε.then uN HT.out.2.1.sub);have Kq:=LQ.out.1.ε uN (HT.out.2.2 _ LQ.out.2 ld.out.2.2.2.1.1);have kM:=abW EZ.1 b Ko (oN Pn.out.2.2.2.1) HN.out.2.2.2.2.2.1;have Tm:=δ kM;have UG:=δ Kq;have WC:=δ ((((HT.out.2.1.trans HA.out.2.1).trans HB.out.2).trans EZ.2).re (m:=m2) (mb:=AD) (.inr wQ.out.2.2.2));clear hkk hno uN hmap hnb EZ Ko Kq kM mV nQ G3;go_wp2_with (first
          |(refine gp _ c UG.out underlying35 ?_)
          |(go_at_call 60;refine Tm.out.mono ?_;rintro e w9 ⟨rfl,o9,h9,k9⟩;have H9:=τ h9 k9;clear h9 k9))
         go_ret
         have H_:iu Y.1 (Y.2.1) b=(R.1,({ (Y.2.1).next with lg:=R.2.1 } : aQ).does b,0):=by
          unfold iu;simp only
          rw[iB.out.2.2,iB.out.1,iB.out.2.1,ν (by rw[tH.out];simp)]
         have h9:=H9.out.1;rw[iB.out.1] at h9;have hds:({ (Y.2.1).next with lg:=R.2.1 } : aQ).does b = { (Y.2.1).next with lg:=R.2.1,S:=cH V.S b.ops,rows:=(Y.2.1).rows++[b],at_:=b.index,θ:=b.θ } := by
          unfold aQ.does aQ.next;first
           |(simp only;done)
           |(simp only;rw[HN.out.2.2.2.2.2.2])
         rw[yq.out,H_,hds];exact⟨rfl,_,h9,WC.out.trans H9.out.2⟩
        ·have eU:(E != 0)=true:=by simpa using h0
         have H0:=δ h0;clear h0;go_wp2_with (first
          |(go_at_call 58;refine HA.out.2.2.mono ?_;rintro e wb ⟨rfl,wR⟩
            obtain⟨F',fN,hb,kb⟩:=HA.out.1.OS wR;rw[show (jK Y.1 (Y.2.1).lg (str X)).2.2=E by rw[iB.out.1,iB.out.2.1]];have AB:=δ (Jy hb E);have HB:=δ kb;clear hb kb wR)
          |(go_at_call 59;refine AB.out.mono ?_;rintro e w9 ⟨rfl,h9,k9⟩;have H9:=τ h9 k9;clear h9 k9))
         go_ret
         have H_:iu Y.1 (Y.2.1) b=(R.1,({ (Y.2.1).next with lg:=R.2.1 } : aQ).told E,E):=by
          unfold iu;simp only
          rw[iB.out.2.2,iB.out.1,iB.out.2.1,π H0.out]
         exact aeV
       ·have eU:(E1 != 0)=true:=by simpa using hz
        have H0:=δ hz;clear hz;go_wp2_with fail
        go_ret
        rw[HS.out,ν sM,ν DV,ν OX,ν (by rw[Ib.out];simp),π ae0.out,π H0.out,Wz.out.2.2]
        exact⟨rfl,o7,H7.out.1,((K3.out.2.2.2.still ld.out.2.1).still (ζ.refl (fun _=>False) w6).drew).trans H7.out.2⟩
      ·have Kn:¬(24:Int)≤(V.rows.length:Int):=oM
       have HT:=δ (show aT w6 p v d V o∧dc w w6 v o o∧∀q,w.heap.size≤q→q<w6.heap.size→¬o.mut v q from ⟨ld.out.1,K3.out.2.2.2.still ld.out.2.1,fun q h1 h2 e=>by obtain⟨i,hi,he⟩:=cR.S3 (o:=o) e;have:=H.out.1.lt hi he;omega⟩);have yq:=δ (show vz d V b=iu d V b by rw[HS.out,ν sM,ν DV,ν OX,ν (by rw[Ib.out];simp),ν h24])
       have WA:=δ (bO w6.heap.size);have LQ:=τ ld.out.2.2.1 ld.out.2.2.2.2.1;have wQ:=aF H6.out.1 (bO 0) ld.out.2.2.2.2.2.1 ld.out.2.2.2.2.2.2;have HN:=δ (show V.cur≤1048576∧V.st.κ<4294967296∧V.n<4611686018427387904∧x8 V.lg∧d.pend+40<1000000∧V.rows.length≤1000∧V.S=V.S from ⟨H.out.2.2.1.cur,by have:=H.out.2.1.κ;omega,H.out.2.2.1.n,H.out.2.2.2.2.2.2.2.1,by have:=H.out.2.2.2.2.1;omega,by have:=H.out.2.2.2.2.2.2.2.2.1;omega,rfl⟩);clear h24;have EY:∃X,(V).wrap jZ (ir b)=X:=⟨_,rfl⟩;obtain⟨X,hX⟩:=EY;have ef:=Je HE.out HV.out.2.2.2.2.2.2.2.1;have mS:(str X).size=X.length:=bR X;have me:r_ (kP (str jo).data.toList (V).cur) (V).cur (V).st.κ (V).n (str jZ).data.toList (str (ir b)).data.toList=X:=by rw[← hX,cA,cA,cA];rfl
       have hwr:=NB HT.out.1.ring DU HN.out.1 HN.out.2.1 HN.out.2.2.1 (str jZ) (str (ir b)) dC DF;rw[me] at hwr;have WB:=δ hwr;have c8:(w6).cell? ⟨v,8,none⟩=some (.pointer (some ⟨(o).rb,0,none⟩)):=HT.out.1.blk.cell 8;obtain⟨R,hR⟩:=μ (jK d (V).lg (str X));obtain⟨E,rN⟩:=μ R.2.2;have iB:=aq hR rN hX;clear hX ef mS me hwr hR rN;go_upto_region 20 with (first
        |(go_at_call 57;refine WB.out.mono ?_;rintro e wa ⟨rfl,es,CO⟩
          have ha:=HT.out.1.zx CO;have c7:wa.cell? ⟨v,7,none⟩=some (.pointer (some ⟨(o).lb,0,none⟩)):=ha.1.blk.cell 7;have ju:=abk ha.1.bH ha.1.log ha.1.recs ha.1.sep (str X) HN.out.2.2.2.1 HN.out.2.2.2.2.1;have HA:=aq ha.1 ha.2 ju;clear ha ju CO))
       by_cases h0:E=0
       ·have tH:=δ h0
        go_upto_region 23 with (first
         |(go_at_call 58;refine HA.out.2.2.mono ?_;rintro e wb ⟨rfl,wR⟩
           obtain⟨F',fN,hb,kb⟩:=HA.out.1.OS wR;rw[show (jK d (V).lg (str X)).2.2=0 by rw[iB.out.1,iB.out.2.1];exact tH.out];have G2:=δ hb.blk;have HB:=τ hb kb;clear hb kb wR))
        have hkk:=HA.out.2.1.trans HB.out.2;have hno:∀q,w.heap.size≤q→q<w6.heap.size→¬cR.mut { (o) with aA:=es,F:=F',lv:=fN } v q:=fun q h1 h2 e=>(hkk.sub q e).elim (HT.out.2.2 q h1 h2) (fun e=>oN WA.out)
        have EV:=τ hno hkk;clear hno hkk;go_upto_region 24 with (first
         |(refine gJ rfl _ _ _ rfl v 0 (.pointer (some ⟨m2,0,none⟩)) rfl rfl _ _ G2.out (by simp[fI]) rfl kR ?_
           intro wc mV nQ G3))
        have hkk:=EV.out.2;have hno:=EV.out.1;have uN:ζ ((o).mut v) (w6) wc:=hkk.ε.then nQ (fun q e=>.inl (.inl e));have hmap:=wQ.out.1.ε uN (HT.out.2.2 _ wQ.out.2.2.1 ld.out.2.2.2.1.2.1) (HT.out.2.2 _ wQ.out.2.2.2 ld.out.2.2.2.1.2.2);have hnb:=hno AD wQ.out.2.2.2 ld.out.2.2.2.1.2.2;have EZ:=HB.out.1.DX (X:=cH V.S b.ops) (m2:=m2) (fu:=AD) nQ mV hmap (fun e=>hnb (.inr (.inl e))) (fun e=>hnb (.inr (.inr (.inr (.inr (.inr (.inl (.inr (.inl e)))))))));have Ko:ax wc ty 3 ov (b.ops.map bY):=acI.out wc (HT.out.2.1.ε.then uN HT.out.2.1.sub);have Kq:=LQ.out.1.ε uN (HT.out.2.2 _ LQ.out.2 ld.out.2.2.2.1.1);have kM:=abW EZ.1 b Ko (oN Pn.out.2.2.2.1) HN.out.2.2.2.2.2.1;have Tm:=δ kM;have UG:=δ Kq;have WC:=δ ((((HT.out.2.1.trans HA.out.2.1).trans HB.out.2).trans EZ.2).re (m:=m2) (mb:=AD) (.inr wQ.out.2.2.2));clear hkk hno uN hmap hnb EZ Ko Kq kM mV nQ G3;go_wp2_with (first
         |(refine gp _ c UG.out underlying35 ?_)
         |(go_at_call 60;refine Tm.out.mono ?_;rintro e w9 ⟨rfl,o9,h9,k9⟩;have H9:=τ h9 k9;clear h9 k9))
        go_ret
        have H_:iu d (V) b=(R.1,({ (V).next with lg:=R.2.1 } : aQ).does b,0):=by
         unfold iu;simp only
         rw[iB.out.2.2,iB.out.1,iB.out.2.1,ν (by rw[tH.out];simp)]
        have h9:=H9.out.1;rw[iB.out.1] at h9;have hds:({ (V).next with lg:=R.2.1 } : aQ).does b = { (V).next with lg:=R.2.1,S:=cH V.S b.ops,rows:=(V).rows++[b],at_:=b.index,θ:=b.θ } := by
         unfold aQ.does aQ.next;first
          |(simp only;done)
          |(simp only;rw[HN.out.2.2.2.2.2.2])
        rw[yq.out,H_,hds];exact⟨rfl,_,h9,WC.out.trans H9.out.2⟩
       ·have eU:(E != 0)=true:=by simpa using h0
        have H0:=δ h0;clear h0;go_wp2_with (first
         |(go_at_call 58;refine HA.out.2.2.mono ?_;rintro e wb ⟨rfl,wR⟩
           obtain⟨F',fN,hb,kb⟩:=HA.out.1.OS wR;rw[show (jK d (V).lg (str X)).2.2=E by rw[iB.out.1,iB.out.2.1]];have AB:=δ (Jy hb E);have HB:=δ kb;clear hb kb wR)
         |(go_at_call 59;refine AB.out.mono ?_;rintro e w9 ⟨rfl,h9,k9⟩;have H9:=τ h9 k9;clear h9 k9))
        go_ret
        have H_:iu d (V) b=(R.1,({ (V).next with lg:=R.2.1 } : aQ).told E,E):=by
         unfold iu;simp only
         rw[iB.out.2.2,iB.out.1,iB.out.2.1,π H0.out]
        exact aeV
     ·have Ib:=δ hD
      obtain⟨E,rN⟩:=μ (fD V.S b.ops);have HEE:=δ rN;rw[rN] at hD HS iV;have eU:(E != 0)=true:=by simpa using hD
      have HD1:=δ hD;clear hD oZ rN;go_quiet (fail)
      go_wp2_with (first
       |(go_at_call 55;refine(GI.out _).mono ?_;rintro e w5 ⟨m2,fu,rfl,uZ,BR,BS,ay⟩
         have aoA:w5.cell? ⟨c,2,none⟩=some ov:=(K3.out.2.1.ε (((ζ.refl (fun _=>False) w3).drewN _).then ay (fun _ e=>.inl e)) id).cell 2;have H5:=τ uZ (((ζ.refl (fun _=>False) w3).drewN _).then ay (fun _ e=>.inl e));clear uZ BR BS ay)
       |(go_at_call 36;refine(iV.out _ _ _ H5.out.2 H5.out.1).mono ?_;rintro e w6 ⟨rfl,LK⟩
         have H6:=δ (LK.no Ib.out);clear LK))
      go_ret
      rw[HS.out,ν sM,ν DV,ν OX,π HD1.out];exact⟨rfl,o,(K3.out.1.still H5.out.2).still H6.out,(K3.out.2.2.2.still H5.out.2).still H6.out⟩
   ·have bx:(b.index != V.at_+1)=true:=by simpa using hi
    have HI:=δ hi;clear hi;go_quiet (fail)
    go_wp2_with fail
    go_ret
    rw[HS.out,ν sM,ν DV,π (.inl HI.out)]
    exact⟨rfl,o,K3.out.1.still ((ζ.refl _ _).drewN _),K3.out.2.2.2.still ((ζ.refl _ _).drewN _)⟩
  ·have H0:=δ hE
   have hby:=ahy (w:=w1) (A:=A) (cap:=cap) (b:=ob) (off:=oo) (l:=b.ops) (i:=b.index) (ep:=b.θ) HV.out.2.2.2.2.1 (fun w' hu=>HV.out.2.2.2.2.2.1 w' (fun _=>False) (H1.out.2.1.then hu (fun _ e=>.inl e)) (fun _ _ e=>e)) HV.out.2.2.2.2.2.2.1 HV.out.2.2.2.1 hE;rw[← HV.out.2.1] at hby;obtain⟨E,rN⟩:=μ (d_ b.index b.θ b.ops);rw[rN] at hby HS H0 hE;have eU:(E != 0)=true:=by simpa using hE
   have lE:=δ hby;clear hby rN hE;go_wp2_with (first
    |(go_at_call 53;refine HO.out.mono ?_;rintro e w2 ⟨rfl,-,-,bp⟩;subst bp)
    |(refine gp _ c H1.out.1 underlying35 ?_)
    |(go_at_call 54;refine lE.out.mono ?_;rintro e w3 ⟨rfl,χ⟩;have H3:=δ χ;clear χ))
   go_ret
   rw[HS.out,ν sM,π H0.out];exact⟨rfl,o,H1.out.2.2.still H3.out,uK.out.still H3.out⟩
 ·exact Uu
end
section
variable {w w':World} {p v:Nat} {d d':Dk} {V V':aQ} {o o':cR}
theorem ame (h:aT w p v d V o) (hb:V.st.κ<4294967296):ς 13 #[.pointer (some ⟨v,0,none⟩)] w fun e w'=>e=ώ (ι (V.st.κ:Int))∧w=w':=by
 have hc:w.cell? ⟨v,19,none⟩=some (.int .u32 (V.st.κ:Int)):=h.blk.cell 19;have hw:IntKind.i64.wrap (V.st.κ:Int)=(V.st.κ:Int):=cZ _ oM;clear h;go_enter func13,ntmps13
 go_wp2_with fail
 go_ret
 exact⟨by first| rfl |(rw[hw];rfl),rfl⟩
end
def lR:List bQ→List Value→List (List Value)
 | b::r,o::s=>[ι b.index,ι b.θ,o]::lR r s
 | _,_=>[]
theorem Ru:∀(l:List bQ) (s:List Value),(lR l s).flatten=uv l s
 | [],_=>rfl
 | _::_,[]=>rfl
 | b::r,o::s=>by
   show _++(lR r s).flatten=_;rw[Ru r s];rfl
theorem Ba:∀(l:List bQ) (s:List Value),s.length=l.length→(lR l s).length=l.length
 | [],_,_=>by simp[lR]
 | _::_,[],h=>by simp at h
 | b::r,o::s,h=>by
   show (lR r s).length+1=r.length+1;rw[Ba r s vW]
theorem MY:∀(l:List bQ) (s:List Value) (i:Nat) (b:bQ) (o:Value),l[i]? = some b→s[i]? = some o→(lR l s)[i]? = some [ι b.index,ι b.θ,o]
 | [],_,_,_,_,h,_=>by simp at h
 | _::_,[],_,_,_,_,h=>by simp at h
 | a::r,x::s,0,b,o,h1,h2=>by
   cases h1
   cases h2
   rfl
 | a::r,x::s,i+1,b,o,h1,h2=>MY r s i b o yc (by simpa using h2)
theorem MN:∀(l:List bQ) (s:List Value),∀c ∈ lR l s,c.length=3
 | [],_,_,h=>by simp[lR] at h
 | _::_,[],_,h=>by simp[lR] at h
 | b::r,o::s,c,h=>by
   rcases cC.1 h with rfl | h
   ·rfl
   ·exact MN r s c h
theorem Yz {a b:Int} {ov:Value} (h:ov.oneCell'=true):(#[Value.int .i64 a,ι b,ov]:Array Value).all (·.oneCell')=true:=by
 simp only[Mv,sV,CZ,h,AX];rfl
section
variable {w w':World} {p v:Nat} {d d':Dk} {V V':aQ} {o o':cR}
structure FY (w:World) (x:Value) (l:List bQ) (aG:List Value):Prop where
 own:Own w 35 3 x l.length (uv l aG)
 len:aG.length=l.length
 each:∀(i:Nat) (b:bQ) (ov:Value),l[i]? = some b→aG[i]? = some ov→ax w 32 3 ov (b.ops.map bY)
theorem ah9 (h:aT w p v d V o) (hr:V.rows.length≤1000) (O0:∀b ∈ V.rows,b.ops.length≤1000):ς 17 #[.pointer (some ⟨v,0,none⟩)] w fun e w'=>∃x aG,e=ώ (.tuple #[x,ι V.prev])∧FY w' x V.rows aG∧(∀q,x.ownBlock=some q→w.heap.size≤q)∧υ w w'∧(∀(i:Nat) (b:bQ) (ov:Value),V.rows[i]? = some b→aG[i]? = some ov→(∀q,ov.ownBlock=some q→w.heap.size≤q)∧Own w' 32 3 ov b.ops.length (b.ops.map bY).flatten):=by
 have hT:=ax.ku (cs:=lR V.rows o.aG) (k:=3) (n:=V.rows.length) (by rw[Ru];exact h.rows) (Ba _ _ h.rM) oM (MN _ _);obtain⟨RA,nH,rb,ro,tW,hr2,wu,Ag,hr5⟩:=hT.open_;rw[Ba _ _ h.rM] at tW hr2 wu Ag;have sH:w.cell? ⟨v,3,none⟩=some (.slice RA V.rows.length nH):=by rw[← tW];exact h.blk.cell 3
 have H:=cD h hr O0 Ag hr5;clear h hr O0 hT tW hr2 wu Ag hr5;go_enter func17,ntmps17
 go_wp2_with fail
 go_loopw [2,5,14] (fun x _ i wr=>∃(k:Nat) (aG:List Value),k≤V.rows.length∧i=ι (k:Int)∧FY wr x (V.rows.take k) aG∧(∀q,x.ownBlock=some q→w.heap.size≤q)∧υ w wr∧∀(i:Nat) (b:bQ) (ov:Value),V.rows[i]? = some b→aG[i]? = some ov→(∀q,ov.ownBlock=some q→w.heap.size≤q)∧Own wr 32 3 ov b.ops.length (b.ops.map bY).flatten) (fun _ _ i _=>V.rows.length - (intOf i).toNat)
 case atStart=>exact⟨0,[],oM,rfl,⟨Own.nil _ _ _,rfl,fun i b ov h1=>by simp at h1⟩,by simp[Value.ownBlock],ζ.refl _ _,fun i b ov _ h2=>by simp at h2⟩
 case round =>
  obtain⟨k,aG,hk,rfl,hX,hx,hU,hfr⟩:=hrel;have WD:=δ hfr;clear hfr;by_cases hlt:k<V.rows.length
  ·have hRA:=H.out.2.2.2.1 oM
   subst hRA;have jS:=H.out.1.rM;obtain⟨B,hB⟩:∃B,V.rows[k]? = some B:=⟨_,bu hlt⟩;obtain⟨OV,WE⟩:∃O,o.aG[k]? = some O:=⟨_,bu oM⟩;have hrow:=H.out.2.2.2.2 wr _ hU (fun _ _ e=>e) k _ (MY _ _ k B OV hB WE);have hold:=(H.out.1.each k B OV hB WE).still hU;have hone:=hold.one;have hBl:=H.out.2.2.1 B (qO hB);obtain⟨q,hq⟩:=μ wr.heap.size;obtain⟨A2,fJ,rfl,-,-⟩:=hX.own.shape;rw[iW,xy hk] at *;have cU:V.rows.take (k+1)=V.rows.take k++[B]:=by
    rw[agj,hB];rfl
   have j1:(k:Int)<(V.rows.length:Int):=oM;have hwk:IntKind.i64.wrap ((k:Int)+1)=(k:Int)+1:=cZ _ (oN H.out.2.1);have HR:=δ hrow;have HX:=δ (And.intro hX (And.intro hx (And.intro hU (And.intro hold (And.intro hone (And.intro hBl (And.intro hq (And.intro cU (And.intro hk hlt)))))))));clear hX hx hU hold hone hBl hq cU hrow hB WE jS;go_upto_region 6 with (first
    |(refine ve rfl _ _ rfl rb (ro+k*3) rfl [ι B.index,ι B.θ,OV] _ HR.out underlying35 rfl kR ?_)
    |(refine eN 35 wr.heap.size #[ι B.index,ι B.θ,OV] (η.new wr _ _) (Yz HX.out.2.2.2.2.1) ?_
      intro w2 aD σ aY))
   rw[HX.out.2.2.2.2.2.2.1] at aD σ ⊢;have iq:υ wr w2:=((ζ.refl _ wr).alloc _).then σ (fun b e=>.inr (oF e HX.out.2.2.2.2.2.2.1));have mZ:=δ (ZU (HX.out.2.2.2.1.still iq) (aaM _) (by rw[bz];exact HX.out.2.2.2.2.2.1));have c2:=aD.cell 2;have H2:=τ aD iq;clear aD σ iq aY;go_upto_region 7 with (first
    |(go_at_call 68
      refine mZ.out.mono ?_;rintro e w3 ⟨ji,rfl,iR,χ,vY,lY⟩;have oz:=iR.one;have aC:=H2.out.1.ε χ id;have H3:=aF iR χ oz aC;have Qk:=τ vY lY;clear iR χ oz aC vY lY)
    |(refine gJ rfl 33 _ _ rfl q 2 ji rfl rfl _ _ H3.out.2.2.2 sM H3.out.2.2.1 kR ?_
      intro w4 aJ au dh))
   rw[show (#[Value.int .i64 B.index,ι B.θ,OV]:Array Value).setIfInBounds 2 ji=#[ι B.index,ι B.θ,ji] from rfl] at aJ;have UH:υ wr w4:=(H2.out.2.then H3.out.2.1 (fun _ e=>.inl e)).then au (fun b e=>.inr (oF e HX.out.2.2.2.2.2.2.1));have K0:ax w4 32 3 ji (B.ops.map bY):=H3.out.1.ε au (fun b ht e=>by
    have e2:b=q:=e;subst e2;exact absurd (H3.out.2.2.2.ty.inj ht) dC)
   have kH:Own w4 32 3 ji B.ops.length (B.ops.map bY).flatten:=by
    have ho:=Qk.out.2;rw[bz] at ho;exact ho.ε au (fun b hb e=>by
     have e2:b=q:=e;subst e2;exact absurd (H3.out.2.2.2.ty.inj (ho.ty hb)) dC)
   have Lb:=δ kH;clear kH;have acJ:Own w4 35 3 (.slice A2 k fJ) k (uv (V.rows.take k) aG):=by
    have:=HX.out.1.own.ε UH (fun _ _ e=>e);rw[iW,xy hk] at this;exact this
   have H4:=aF aJ UH K0 acJ;clear aJ UH K0 au dh c2 acJ;obtain⟨ti,bx,bU,bK,aY⟩:=jD RR;have HI:=aF bx bU bK aY;clear bx bU bK aY;go_wp2_with (first
    |(refine gp _ q H4.out.1 underlying35 ?_)
    |(at_builtin;refine kr rfl _ _ _ _ rfl 35 ti _ 3 40 underlying38 HI.out.1 HI.out.2.1 HI.out.2.2.1 HI.out.2.2.2 rfl (.slice A2 k fJ) k _ rfl (H4.out.2.2.2.alloc _) _ 1 [_,_,_] rfl (Src.rY underlying38 _ rfl) (ZW H3.out.2.2.1) (by have:=H.out.2.1;unfold maxLen;omega) (oN H.out.2.1) ?_;intro v2 w15 tD oC ye yf
      have jR:=aF tD oC ye yf;clear tD oC ye yf))
   have acK:υ w w15:=((HX.out.2.2.1.then H4.out.2.1 (fun _ e=>.inl e)).alloc _).then jR.out.2.1 (fun b e=>.inr (HX.out.2.1 b e));have acL:ζ (fun b=>(Value.slice A2 k fJ).ownBlock=some b) wr w15:=((H4.out.2.1.mono φ).alloc _).then jR.out.2.1 (fun b e=>.inl e);have acM:ζ (fun b=>(Value.slice A2 k fJ).ownBlock=some b) w4 w15:=((ζ.refl _ w4).alloc _).then jR.out.2.1 (fun b e=>.inl e);have HU:=aq acK acL acM;clear acK acL acM;go_roundw
   case rel =>
    have hlk:(V.rows.take k).length=k:=by rw[iW,xy hk]
    have hol:=HX.out.1.len;rw[hlk] at hol;refine⟨k+1,aG++[ji],oM,sM,⟨?_,?_,fun i b ov h1 h2=>?_⟩,fun q hq=>?_,HU.out.1,fun i b ov h1 h2=>?_⟩
    ·rw[HX.out.2.2.2.2.2.2.2.1,aN,y_,hlk,Rt _ _ HX.out.1.len]
     exact jR.out.1
    ·rw[HX.out.2.2.2.2.2.2.2.1,aN,aN,y_,y_,hlk,hol]
    ·rw[HX.out.2.2.2.2.2.2.2.1] at h1
     by_cases hi:i<k
     ·rw[qi oM] at h1 h2
      exact(HX.out.1.each i b ov h1 h2).ε HU.out.2.1 (fun q ht e=>absurd (ht.inj (HX.out.1.own.ty e)) dC)
     ·rw[mG oM] at h1 h2
      have bx:i - (V.rows.take k).length=0:=by
       have:=(mF.1 h1).1;simpa using this
      rw[bx] at h1;rw[show i - aG.length=0 by omega] at h2;cases h1
      cases h2
      exact H4.out.2.2.1.ε HU.out.2.2 (fun q ht e=>absurd (ht.inj (H4.out.2.2.2.ty e)) dC)
    ·rcases jR.out.2.2.1 with e | e
     ·exact HX.out.2.1 q ux
     ·rw[hq] at e
      have:=dM e;rw[dx] at this;have h1:=HX.out.2.2.1.size;have h2:=H4.out.2.1.size;omega
    ·by_cases hi:i<k
     ·rw[qi oM] at h2
      have h3:=WD.out i b ov h1 h2;exact⟨h3.1,h3.2.ε HU.out.2.1 (fun q ht e=>absurd ((h3.2.ty ht).inj (HX.out.1.own.ty e)) dC)⟩
     ·have bx:i=k:=by
       have:=(mF.1 h2).1;rw[aN,y_] at this;omega
      subst bx;rw[mG oM,show i - aG.length=0 by omega] at h2;have hbB:b=B:=by
       have:=HX.out.2.2.2.2.2.2.2.1;have h4:(V.rows.take (i+1))[i]? = some b:=by rw[Mc,π oM];exact h1
       rw[this,mG oM,hlk,Ir] at h4;exact(dM h4).symm
      subst hbB;have jS:ji=ov:=dM h2;subst jS;exact⟨fun q hq=>by
       have h1:=Qk.out.1 q hq;have h2:=H2.out.2.size;have h3:=HX.out.2.2.1.size;omega,Lb.out.ε HU.out.2.2 (fun q hq e=>absurd ((Lb.out.ty hq).inj (H4.out.2.2.2.ty e)) dC)⟩
   case measure=>simp[intOf]<;>omega
  ·obtain rfl:k=V.rows.length:=oM
   rw[sW] at hX;have HX:=aq hX hx hU;have cv4:wr.cell? ⟨v,4,none⟩=some (ι V.prev):=(H.out.1.still hU).blk.cell 4;clear hX hx hU;go_wp2_with fail
   go_quiet (fail)
   go_wp2_with fail
   go_ret2
   exact⟨_,_,rfl,⟨HX.out.1.own.ε ((ζ.refl (fun _=>False) _).drewN _) (fun _ _ e=>e),HX.out.1.len,fun i b ov h1 h2=>(HX.out.1.each i b ov h1 h2).still ((ζ.refl _ _).drewN _)⟩,HX.out.2.1,HX.out.2.2.drewN _,fun i b ov h1 h2=>⟨(WD.out i b ov h1 h2).1,(WD.out i b ov h1 h2).2.ε ((ζ.refl (fun _=>False) _).drewN _) (fun _ _ e=>e)⟩⟩
theorem ah_ (h:aT w p v d V o) (hr:V.rows.length≤1000) (O0:∀b ∈ V.rows,b.ops.length≤1000):ς 17 #[.pointer (some ⟨v,0,none⟩)] w fun e w'=>∃x aG,e=ώ (.tuple #[x,ι V.prev])∧FY w' x V.rows aG∧(∀q,x.ownBlock=some q→w.heap.size≤q)∧υ w w':=by
 refine(ah9 h hr O0).mono ?_;rintro e w' ⟨x,aG,h1,h2,h3,h4,-⟩;exact⟨x,aG,h1,h2,h3,h4⟩
end
def zv (V:aQ) (p kb m:Nat) (mv rg:Value):Array Value :=
 #[.pointer (some ⟨m,0,none⟩),ι V.at_,ι V.θ,.slice none 0 0,ι V.prev,.pointer (some ⟨p,0,none⟩),.pointer (some ⟨kb,0,none⟩),.pointer none,rg,
  ι V.st.m.role,ι V.st.m.seen,ι V.st.m.aH,mv,.string (str V.st.m.aW),ι V.st.at_,ι V.st.θ,ι (V.st.slot:Int),ω (V.st.log:Int),ι (V.st.key:Int),.int .u32 (V.st.κ:Int),.bool V.down]
structure kT (w:World) (p v:Nat) (d:Dk) (V:aQ) (F:List Nat) (kb m mb:Nat) (mv rg:Value):Prop where
 bH:bG w p d F
 blk:η w v 117 (zv V p kb m mv rg)
 kept:η w kb 209 (V.kp.cells p)
 map:gy w m mb V.S
 qL:mb ∉ F
 eS:ax w 46 2 mv (V.st.m.aZ.map cB)
section
variable {w w':World} {p v:Nat} {d d':Dk} {V V':aQ} {F:List Nat} {kb m mb m' iU:Nat} {mv rg di CP:Value}
theorem kT.vF (h:kT w p v d V F kb m mb mv rg):v ∉ F:=fun e=>by
 rcases h.bH.kind e with e | e | e
 ·exact absurd (h.blk.ty.inj e) dC
 ·exact absurd (h.blk.ty.inj e) dC
 ·exact h.blk.ty.jG e
theorem kT.still (h:kT w p v d V F kb m mb mv rg) (hu:υ w w'):kT w' p v d V F kb m mb mv rg :=
 ⟨h.bH.ε hu (fun _ _ e=>e),h.blk.ε hu id,h.kept.ε hu id,h.map.still hu,h.qL,h.eS.still hu⟩
theorem kT.F9 (h:kT w p v d V F kb m mb mv rg):m≠v∧mb≠v∧kb≠v:=by
 refine⟨fun e=>?_,fun e=>?_,fun e=>?_⟩
 ·subst e;exact absurd (h.blk.ty.inj h.map.blk.ty) dC
 ·subst e;exact h.blk.ty.jG h.map.mp
 ·subst e;exact absurd (h.blk.ty.inj h.kept.ty) dC
theorem kT.Dl (h:kT w p v d V F kb m mb mv rg) (hu:ζ (· = v) w w') (hB:η w' v 117 (zv V' p kb m' di CP)) (hk:V'.kp=V.kp) (hm:gy w' m' iU V'.S) (pG:iU ∉ F) (Ke:ax w' 46 2 di (V'.st.m.aZ.map cB)) :
 kT w' p v d V' F kb m' iU di CP :=
 ⟨h.bH.ε hu (fun q hq e=>h.vF ((show q=v from e) ▸ hq)),hB,by rw[hk];exact h.kept.ε hu (fun e=>h.F9.2.2 e),hm,pG,Ke⟩
theorem kT.zy (h:kT w p v d V F kb m mb mv rg) (hu:ζ (· = v) w w') (hB:η w' v 117 (zv V' p kb m mv CP)) (hk:V'.kp=V.kp) (hS:V'.S=V.S) (hms:V'.st.m.aZ=V.st.m.aZ):kT w' p v d V' F kb m mb mv CP :=
 h.Dl hu hB hk (by rw[hS];exact h.map.ε hu (fun e=>h.F9.1 e) (fun e=>h.F9.2.1 e)) h.qL (by
  rw[hms];exact h.eS.ε hu (fun q ht e=>by
   have e2:q=v:=e;subst e2;exact absurd (h.blk.ty.inj ht) dC))
theorem kT.zx {rb rk:Nat} {aA:List (Int × Nat)} {aV:ByteArray} {cur κ n:Nat} (h:kT w p v d V F kb m mb mv rg) (hR:b_ (fK rb rk aA) w w rb aV cur κ n rk aA) (nh:rk ∉ F) (hmk:mb≠rk) (hu:ζ (fK rb rk aA) w w'):kT w' p v d V F kb m mb mv rg:=by
 refine⟨h.bH.ε hu (fun q hq e=>?_),h.blk.ε hu (hR.xJ h.blk dC dC),h.kept.ε hu (hR.xJ h.kept dC dC),h.map.ε hu (hR.xJ h.map.blk dC dC) (fun e=>?_),h.qL,h.eS.ε hu (fun q ht e=>?_)⟩
 ·rcases hR.kind e with f | f | f
  ·rcases h.bH.kind hq with g | g | g
   ·exact absurd (g.inj f) dC
   ·exact absurd (g.inj f) dC
   ·exact f.jG g
  ·rcases h.bH.kind hq with g | g | g
   ·exact absurd (g.inj f) dC
   ·exact absurd (g.inj f) dC
   ·exact f.jG g
  ·exact nh (f ▸ hq)
 ·rcases hR.kind e with f | f | f
  ·exact f.jG h.map.mp
  ·exact f.jG h.map.mp
  ·exact hmk f
 ·rcases hR.kind e with f | f | f
  ·exact absurd (ht.inj f) dC
  ·exact absurd (ht.inj f) dC
  ·subst f;exact ht.jG hR.map.mp
end
def kF (k:Kp) (s:dw) (S0:List ai):aQ:=⟨S0,s.at_,s.θ,[],s.θ,s,false,k,OI,s.key,0⟩
structure NC (d:Dk) (k:Kp) (s:dw) (S0:List ai):Prop where
 text:(k.gen=0∧s=jL∧S0=[])∨(0<k.gen∧∃t,gY s.key er s.m.aW t∧k.text=cG s t)
 ok:mz s
 κ:s.κ+1≤1000000
 slot:(s.slot=0∧S0=[])∨(1≤s.slot∧∃t,gY s.key kD (gL S0) t∧zo d s.slot t)
 pairs:nx S0
structure Jr (s:dw) (S0:List ai) (g:Lg) (rows:List bQ) (S:List ai) (at_ θ:Int):Prop where
 fit:x8 g
 yl:g.l.length=rows.length
 recs:∀i (h:i<g.l.length) (h2:i<rows.length),gY s.key jZ (ir rows[i]) (g.l[i]).data.toList
 many:rows.length≤24
 rep:ja rows (S0,s.at_,s.θ)=some (S,at_,θ)
 sL:∀b ∈ rows,b.θ≤9223372036854775807
structure JM (d:Dk):Prop where
 off:d.off=false
 len:d.ψ.length=500
 pend:d.pend+20<1000000
structure N_ (d:Dk) (V:aQ) (S0:List ai):Prop where
 fit:JM d
 kept:sd d 0 2=some V.kp
 kp:V.kp.seen<18446744073709551616∧V.kp.at_≤1∧V.kp.from_=0
 amf:NC d V.kp V.st S0
 sound:uA d 160=false
 log:nA d 20 320 V.st.log=some V.lg
 aoB:1≤V.st.log
 amg:Jr V.st S0 V.lg V.rows V.S V.at_ V.θ
 prev:V.prev=V.st.θ
 cur:V.cur=V.st.key
theorem Zk {d:Dk} : ∀k,(∀i,i<k→(cK (d.now (340+i)).data.toList).2≠2)→uA d k=false
 | 0,_=>rfl
 | k+1,h=>by rw[ZS,Zk k (fun i hi=>h i oM)];simp[h k oM]
theorem eP.Tn {d:Dk} {k:Kp} {g:Lg} {s:dw} {S0:List ai} {rows:List bQ} {c:Nat} (h:eP d k g s S0 rows c) (hc:c<100000):x8 g:=by
 obtain⟨rs,R,hl,-⟩:=h.log;have ho:=hl.opens;exact ZY (by rw[h.um.1];omega) (by rw[h.um.2.1];omega) (by rw[h.um.2.2];have:=h.rD;omega) ho
theorem eP.FZ {d:Dk} {V:aQ} {S0:List ai} {c:Nat} (h:eP d.free V.kp V.lg V.st S0 V.rows c) (hc:c<99000) (ho:d.off=false)
 (h0:V.kp.gen=0→S0=[]) (sx:ja V.rows (S0,V.st.at_,V.st.θ)=some (V.S,V.at_,V.θ)) (anO:V.prev=V.st.θ) (zT:V.cur=V.st.key) (aoC:∀b ∈ V.rows,b.θ≤9223372036854775807) (hmn:V.st.m.seen≤9223372036854775807∧V.st.m.aH≤9223372036854775807):N_ d V S0:=by
 have h1:=h.keys;have h2:=h.qu;have h3:=h.rD;have h4:=h.vD;have hg:=h.good;obtain⟨L0,L1,hk⟩:=h.kept;obtain⟨rs,R,hl,-⟩:=h.log;obtain⟨g1,g2,g3⟩:=h.um;have hkp:=hk.opens;rw[h.tq] at hkp;have hlo:=hl.opens;rw[g1,g2,g3] at hlo;refine⟨⟨ho,hg.len,?_⟩,hkp,⟨oM,hk.at_,h.tq⟩,⟨?_,⟨h.right,h.place,h.slots,oM,oM,oM,hmn⟩,oM,?_,h.pairs⟩,Zk 160 fun i hi=>(h.sound i hi).look,hlo,by rw[← g3];exact hl.zu,⟨h.Tn oM,h.yl,h.recs,h.many,sx,aoC⟩,anO,zT⟩
 ·have:d.pend=0:=hg.pend
  omega
 ·rcases h.text with e | e
  ·exact .inl ⟨e.1,e.2,h0 e.1⟩
  ·exact .inr e
 ·rcases h.slot with e | e
  ·exact .inl ⟨e.1,e.2.1⟩
  ·exact .inr e
theorem cx.FZ {d:Dk} {V:aQ} {S0:List ai} {c:Nat} (h:cx d.free V S0 c) (hc:c<99000) (ho:d.off=false):N_ d V S0 :=
 h.aL.FZ hc ho (fun e=>absurd h.gen oM) h.rep h.prev h.cur h.sL h.mn
theorem ahp:N_ (Dk.fresh 500) V0 [] :=
 eP.FZ (d:=Dk.fresh 500) eP.fresh oM rfl (fun _=>rfl) rfl rfl rfl dC dC
end
end Go.Proofs.YtbhjgfibhegddaaGreat
