/-
  Parts of the proof of VaultPlays: OpnC, OpnD, VlW, Plays17, VlPlay, Same, Ref12.
-/
import Derived.Test.YtbhjgfibhegddaaGreatQVaultPlays19
import Derived.Lib.MinMax
set_option maxRecDepth 100000
set_option maxHeartbeats 16000000
namespace Go.Proofs.YtbhjgfibhegddaaGreat
abbrev J8:=@Iff.rfl
abbrev J9:=@decide_eq_decide
open Tryz
section
open Go Go.RowKit
theorem UB (a b:List bL) (x:List ai × Int × Int):iV (a++b) x=(iV a x).bind (iV b):=by
 induction a generalizing x with
 | nil=>rfl
 | cons c r ih =>
   rw[oF];unfold iV;split
   ·exact ih _
   ·rfl
theorem af_ {rows:List bL} {x0 x y:List ai × Int × Int} {i:Nat} {b:bL} (h:iV rows x0=some y) (hi:rows[i]? = some b) (hx:iV (rows.take i) x0=some x) :
 d_ b.index b.θ b.ops=0∧b.index=x.2.1+1∧(cJ x.1 b.ops).length≤48∧iV (rows.take (i+1)) x0=some (cJ x.1 b.ops,b.index,b.θ):=by
 have hlt:=(kT.1 hi).1;have hb:=(kT.1 hi).2;have e:rows=rows.take i++b::rows.drop (i+1):=by
  rw[← hb,List.getElem_cons_drop,AW]
 rw[e,UB,hx] at h;have h2:iV (b::rows.drop (i+1)) x=some y:=h;unfold iV at h2;split at h2
 ·rename_i hc
  refine⟨hc.1,hc.2.1,hc.2.2.2,?_⟩;rw[aa',hi,UB,hx];show iV [b] x=_;unfold iV;rw[σ hc];rfl
 ·cases h2
theorem af' {S:List ai} {i e:Int} {l:List cT} (h:d_ i e l=0) (h48:(cJ S l).length≤48):fW S l=0:=by
 obtain⟨b1,b2,b3,b4,b5⟩:=sP h;unfold fW;have h1:d_ 1 1 l=0:=by
  unfold d_ at h ⊢;split at h
  ·cases h
  ·rw[ν oM]
   exact h
 rw[ν (by rw[h1];simp),ν oM]
def yd (g:Lg) (k:Kp) (s:cY) (x:List ai × Int × Int) (rows:List bL):aV:=⟨x.1,x.2.1,x.2.2,rows,s.θ,s,false,k,g,s.key,0⟩
section
variable {w w':World} {p v:Nat} {d d':Dk} {V V':aV} {o o':cR}
theorem aR.fM {X:List ai} {iC:Nat} (h:aR w p v d V o) (hu:ζ (· = o.m) w w') (hm:fY w' o.m iC X) (hn:w.heap.size≤iC):aR w' p v d { V with S:=X } { o with mb:=iC } := by
 have hno:∀ {j q:Nat},o.cl v j q→¬q=o.m:=fun hq e=>h.sU h.map.blk.ty dC (e ▸ cR.qQ hq)
 have Nb:∀ {t:TypeId} {q:Nat},Ty w t q→t≠132→¬q=o.m:=fun ht hne e=>hne ((e ▸ ht).inj h.map.blk.ty)
 refine⟨h.bO.ε hu (fun q hq=>hno (j:=1) hq),h.blk.ε hu (hno (j:=0) rfl),h.kept.ε hu (hno (j:=2) rfl),h.log.ε hu (hno (j:=3) rfl),h.recs.ε hu (fun q e=>hno (j:=4) e),h.sep,h.ring.move hu (fun q e=>hno (j:=5) e),h.xp,hm,fun e=>?_,fun e=>?_,h.rows.ε hu (fun q e=>hno (j:=6) e),h.qD,fun i b ov h1 h2=>(h.each i b ov h1 h2).ε hu (fun q ht=>Nb ht dC),h.eD.ε hu (fun q ht=>Nb ht dC)⟩
 ·have e2:iC ∈ o.F:=e
  have:=h.lt (i:=1) oM e2;omega
 ·have:=h.lt (i:=5) (q:=o.rk) oM (.inr (.inl rfl))
  have e2:iC=o.rk:=e;omega
end
structure aho (w w':World) (p v:Nat) (d:Dk) (V:aV) (F:List Nat) (kb m mb rb rk:Nat) (ay:List (Int × Nat)) (o':cR):Prop where
 at_:aR w' p v d V o'
 ε:ζ (fun q=>q ∈ F∨q=v∨q=kb∨q=m∨fo rb rk ay q) w w'
 sub:∀q,o'.mut v q→q ∈ F∨q=v∨q=kb∨fo rb rk ay q∨w.heap.size≤q
 m:o'.m=m
 mb:o'.mb=mb∨w.heap.size≤o'.mb
section
variable {w w':World} {p v:Nat} {d:Dk} {k:Kp} {s:cY} {S0 S:List ai} {F:List Nat} {kb m mb rb rk:Nat} {mv:Value} {ay:List (Int × Nat)} {g:Lg} {rows:List bL} {at_ ep:Int}
theorem aga (h:kj w p v d (jP k s S0) F kb m mb mv (.pointer (some ⟨rb,0,none⟩))) (hR:bT (fo rb rk ay) w w rb (str jI) s.key s.μ 0 rk ay) (mA:rk ∉ F) (hmk:mb≠rk) (hf:GP d) (hok:lT s) (ri:1≤s.log) (hg:nE d 20 320 s.log=some g) (hr:Gt s S0 g rows S at_ ep) :
 ς 66 #[.pointer (some ⟨v,0,none⟩)] w fun e w'=>e=ώ (ι 0)∧∃o',aho w w' p v d (yd g k s (S,at_,ep) rows) F kb m mb rb rk ay o':=by
 have hop:=We h.bO.drew 20 320 s.log dC (oN hf.len) ri (oN hok.log) hf.off;rw[hg,show KM (some g)=0 from rfl] at hop;have Jf:=δ hop;have IK:=h.Ec;have hlt:=h.blk.lt;have H:=gU h hR mA hmk IK hlt;have HR:=τ hr hok;clear h hR mA hmk hf hok ri hg hr hop IK hlt;go_enter func66,ntmps66
 go_upto_region 1 with fail
 refine dB ?_;refine dK (S:=fun w'=>w'.cell? ⟨v,5,none⟩=some (.pointer (some ⟨p,0,none⟩))∧w'.cell? ⟨v,17,none⟩=some (ω (s.log:Int))) (T:=fun _=>false) kR ?_;have aC:w.drew.cell? ⟨v,5,none⟩=some (.pointer (some ⟨p,0,none⟩))∧w.drew.cell? ⟨v,17,none⟩=some (ω (s.log:Int)):=⟨H.out.1.blk.drew.cell 5,H.out.1.blk.drew.cell 17⟩;refine ξ 0 ?_;refine ξ 1 ?_;refine ξ 2 ?_;refine aQ 3 (fun w' hSw=>hSw.1) ?_;refine ξ 4 ?_;refine ξ 5 ?_;refine ξ 6 ?_;refine ξ 7 ?_;refine aQ 8 (fun w' hSw=>hSw.2) ?_;refine aY 9 (fun KK ο=>?_);go_simp
 refine Jf.out.mono ?_;rintro e w1 ⟨lg,rfl,hG⟩;obtain⟨lb,lv,rfl,R4,hlO,aah,aai⟩:=hG.ok g rfl;have hlb:w.heap.size≤lb:=aah;have hlv:∀q,lv.ownBlock=some q→w.heap.size≤q:=aai;have hU:υ w w1:=(ζ.refl _ w).drew.then hG.ε (fun _ e=>.inl e);have pJ:=H.out.1.still hU;have a_:w1.cell? ⟨v,5,none⟩=some (.pointer (some ⟨p,0,none⟩))∧w1.cell? ⟨v,17,none⟩=some (ω (s.log:Int)):=⟨pJ.blk.cell 5,pJ.blk.cell 17⟩;refine ο.out _ _ a_ ?_;have H1:=gU pJ hU R4 hlO hlb hlv;have qz:=δ pJ.blk;clear ο hU pJ R4 hlO hlb hlv aah aai hG;refine ξ 10 ?_;refine ξ 11 ?_;refine ξ 12 ?_;refine ξ 13 ?_;refine ξ 14 ?_;refine dF ?_;refine cZ ?_;clear aC a_;go_upto_region 5 with (first
  |(refine gw rfl _ _ _ rfl v 7 (.pointer (some ⟨lb,0,none⟩)) rfl rfl _ _ qz.out (by simp[oh]) rfl kR ?_
    intro w2 aB π aT;have H2:=aj aB π aT;clear aB π aT))
 -- the vault stands
 have hlt:=H.out.2.2.2.2.2;have hlb:w.heap.size≤lb:=H1.out.2.2.2.2.1;have hm2:=H1.out.1.map.ε H2.out.2.1 (fun e=>H.out.2.2.2.2.1.1 e) (fun e=>H.out.2.2.2.2.1.2.1 e);have hk2:=H1.out.1.kept.ε H2.out.2.1 (fun e=>H.out.2.2.2.2.1.2.2 e);have mQ:=H1.out.1.bO.ε H2.out.2.1 (fun q hq e=>H.out.1.vF (e ▸ hq));have hl2:=H1.out.2.2.1.ε H2.out.2.1 (fun e=>by have e2:lb=v:=e;omega);have Rm:=H1.out.2.2.2.1.ε H2.out.2.1 (fun q hq e=>by have e2:q=v:=e;have:=H1.out.2.2.2.2.2 q hq;omega);have nR:∀q,fo rb rk ay q→¬q=v:=fun q hq e=>H.out.2.1.vT H.out.1.blk dC dC (by rw[← e];exact hq)
 have gl:=bT.move (H.out.2.1.still H1.out.2.1) H2.out.2.1 nR;have aaj:=H1.out.1.eD.ε H2.out.2.1 (fun q ht e=>by
  have e2:q=v:=e;subst e2;exact absurd (qz.out.ty.inj ht) dC)
 have h2:aR w2 p v d (yd g k s (S0,s.at_,s.θ) []) ⟨F,kb,lb,lv,rb,rk,ay,m,mb,.slice none 0 0,[],mv⟩ :=
  ⟨mQ,H2.out.1,hk2,hl2,Rm,fun q hq e=>by have h1:=H1.out.2.2.2.2.2 q hq;have h3:=H.out.1.bO.lt _ e;omega,gl,H.out.2.2.1,hm2,H.out.1.qb,H.out.2.2.2.1,Own.nil _ _ _,rfl,fun i b ov h1=>by simp[yd] at h1,aaj⟩
 have π:ζ (· = v) w w2:=(H1.out.2.1.mono φ).then H2.out.2.1 (fun q e=>.inl e);have Qm:∀q,cR.mut ⟨F,kb,lb,lv,rb,rk,ay,m,mb,.slice none 0 0,[],mv⟩ v q→q ∈ F∨q=v∨q=kb∨fo rb rk ay q∨w.heap.size≤q:=fun q hq=>by
  rcases hq with e | e | e | e | e | e | e
  ·exact .inr (.inl e)
  ·exact .inl e
  ·exact .inr (.inr (.inl e))
  ·exact .inr (.inr (.inr (.inr (by rw[show q=lb from e];exact hlb))))
  ·exact .inr (.inr (.inr (.inr (H1.out.2.2.2.2.2 q e))))
  ·exact .inr (.inr (.inr (.inl e)))
  ·simp[Value.ownBlock] at e
 obtain⟨o0,Nf⟩:∃o0:cR,⟨F,kb,lb,lv,rb,rk,ay,m,mb,.slice none 0 0,[],mv⟩=o0:=⟨_,rfl⟩;have hom:o0.m=m:=by rw[← Nf]
 have aak:o0.mb=mb:=by rw[← Nf]
 have LV:=adR (w:=w2) (p:=p) (b:=lb) (g:=g) ⟨lv,hl2,Rm⟩ (oO HR.out.1.ya HR.out.1.many);rw[Nf] at h2 Qm;have ajJ:=δ LV;have vw:=cx h2 π Qm hom aak;clear hlt hlb hm2 hk2 mQ hl2 Rm nR gl aaj h2 π Qm hom aak LV Nf;go_wp2_with (first
  |(go_at_call 125;refine ajJ.out.mono ?_;rintro e w3 ⟨rv,rfl,gm,χ,xm⟩
    obtain⟨RA,mK,rfl,-,-⟩:=gm.shape;have H3:=aj gm χ xm;clear gm χ xm))
 have p6:=vw.out.1.still H3.out.2.1;have aal:∀q,(Value.slice RA g.l.length mK).ownBlock=some q→¬o0.mut v q∧q≠m∧q<w3.heap.size:=fun q hq=>by
  have h1:=H3.out.2.2 q hq;refine⟨fun e=>?_,fun e=>?_,H3.out.1.lt hq⟩
  ·obtain⟨i,hi,hc⟩:=cR.PW e
   have:=vw.out.1.lt hi hc;omega
  ·have:=vw.out.1.map.lt.1
   rw[vw.out.2.2.2.1] at this;omega
 have Th:=τ p6 aal;clear p6 aal;go_loopw [6,7,8,9,10,34] (fun _ _ _ _ _ iv wr=>∃(i:Nat) (x:List ai × Int × Int) (o':cR),i≤rows.length∧iv=ι (i:Int)∧iV (rows.take i) (S0,s.at_,s.θ)=some x∧aR wr p v d (yd g k s x (rows.take i)) o'∧o'.m=m∧(o'.mb=mb∨w.heap.size≤o'.mb)∧ζ (fun q=>o0.mut v q∨q=m) w3 wr∧(∀q,o'.mut v q→o0.mut v q∨w3.heap.size≤q)) (fun _ _ _ _ _ iv _=>rows.length - (intOf iv).toNat)
 case atStart=>exact⟨0,(S0,s.at_,s.θ),o0,oM,rfl,rfl,Th.out.1,vw.out.2.2.2.1,.inl vw.out.2.2.2.2,ζ.refl _ _,fun q e=>.inl e⟩
 case round =>
  obtain⟨i,x,o',hi,rfl,hx,hA,hm,hmb,hU,hsub⟩:=hrel;have gE:g.l.length=rows.length:=HR.out.1.ya;by_cases hlt:i<rows.length
  ·obtain⟨b,hb⟩:∃b,rows[i]? = some b:=⟨_,bD hlt⟩
   obtain⟨q1,q2,q3,q4⟩:=af_ HR.out.1.rep hb hx;have jV:=HR.out.1.yF b (sH hb);have eA:=af' (S:=x.1) q1 q3;obtain⟨b1,b2,b3,b4,b5⟩:=sP q1;have mS:-9223372036854775808≤x.2.1+1∧x.2.1+1<9223372036854775808:=oM;obtain⟨ni,hni⟩:∃n:Nat,b.index=n:=⟨b.index.toNat,oM⟩;obtain⟨ne,hne⟩:∃n:Nat,b.θ=n:=⟨b.θ.toNat,oM⟩;have Ti:i<g.l.length:=oM;have dP:=HR.out.1.recs i Ti hlt;rw[show rows[i]=b from (kT.1 hb).2] at dP;obtain⟨key,bo,nn,k1,k2,k3,k4,k5⟩:=dP;have dO:=KO q1 jV;obtain⟨R,vj⟩:=κ (g.l[i]);rw[vj] at k5;have hro:=Px hA.ring (by rw[bf];decide) (by have:=HR.out.2.key;show s.key≤_;omega) key bo nn k1 k3 k4 (str oq) dC (lu b) oM R (by rw[bS,bS];exact k5);have Jd:=fun W=>agP (l:=b.ops) (i:=ni) (ep:=ne) oM (by rw[← hni,← hne];exact q1) (str (lu b)) (by rw[bS];unfold lu;rw[hni,hne];rfl) W
   rw[← hni,← hne] at Jd;obtain⟨gb,akn,Db,-,-⟩:=(H3.out.1).head oM;have hown:=H3.out.1.ε hU (fun q hq e=>e.elim (Th.out.2 q hq).1 (Th.out.2 q hq).2.1);injection Db with e1 e2 e3;subst e1;subst e3;clear e2;have hcell:wr.cell? ⟨gb,i,none⟩=some (.string R):=by
    rw[hown.cellAt i oM,strs,gu,bD Ti,vj];rfl
   have j1:(i:Int)<(g.l.length:Int):=oM;have hwk:IntKind.i64.wrap ((i:Int)+1)=(i:Int)+1:=bX _ (oN HR.out.1.many);have ajK:wr.cell? ⟨v,8,none⟩=some (.pointer (some ⟨o'.rb,0,none⟩)):=hA.blk.cell 8;have Jw:=δ hro;have Iz:=δ Jd;have HX:=zO hA hm hmb hU hsub hi hlt hx;have HQ:=δ (And.intro q2 (And.intro q4 (And.intro eA (And.intro b5 (And.intro hni (And.intro hne (And.intro q3 (And.intro b4 (And.intro hb mS)))))))));clear hA hm hmb hU hsub hi hlt hx q1 q2 q3 q4 jV eA b1 b2 b3 b4 b5 hni hne Ti k1 k2 k3 k4 k5 dO vj hro Jd hown hb gE;go_upto_region 11 with (first
    |(go_at_call 123;refine Jw.out.mono ?_;rintro e wa ⟨rfl,es,AK⟩
      have ha:=HX.out.1.xM AK;have Ha:=τ ha.1 ha.2;clear ha AK))
   clear hcell ajK;go_upto_region 14 with (first
    |(go_at_call 126;refine(Iz.out _).mono ?_;rintro e wb ⟨ov,rfl,xj,hnb,kD⟩
      have hT:=au.jK (cs:=b.ops.map bU) (k:=3) (n:=b.ops.length) (by rw[opsV,NS] at xj;exact xj) (bp _) (oN HQ.out.2.2.2.2.2.2.2.1) (fun c hc=>by obtain⟨q,-,rfl⟩:=bZ.1 hc;rfl)
      have hone:=xj.one;have Hb:=aD (Ha.out.1.still kD) kD hT hone;obtain⟨c,hc⟩:=κ wb.heap.size;have HC:=δ hc;clear xj hnb kD hT hone hc)
    |(refine ef 35 wb.heap.size (lP b.index b.θ ov) (η.new wb _ _) (UA Hb.out.2.2.2) ?_
      intro wc kQ mU yx;have Mb:υ wb wc:=((ζ.refl (fun _=>False) wb).alloc _).then mU (fun q e=>.inr (by have e2:q=wb.heap.size:=e;omega));have Hc:=aD (Hb.out.1.still Mb) Mb (Hb.out.2.2.1.still Mb) kQ;clear Mb kQ mU yx))
   rw[HC.out] at Hc ⊢;have cb0:wc.cell? ⟨c,0,none⟩=some (ι b.index):=Hc.out.2.2.2.cell 0;have cv1:wc.cell? ⟨v,1,none⟩=some (ι x.2.1):=Hc.out.1.blk.cell 1;have hwi:IntKind.i64.wrap (x.2.1+1)=b.index:=by
    rw[← HQ.out.1];exact bX _ (by have h1:=HQ.out.1;omega)
   go_quiet (fail)
   go_upto_region 16 with fail
   generalize hwd:World.drewN wc _=wd;have Eu:υ wc wd:=by rw[← hwd];exact(ζ.refl _ wc).drewN _
   obtain⟨OA,Mc,ob,oo,Hj,L9,Hl,Hp,Hu⟩:=Hc.out.2.2.1.ops;have EW:=Hc.out.1.still Eu;have p7:=Hc.out.2.2.2.ε Eu (fun e=>e);have hTd:=Hc.out.2.2.1.still Eu;have jF:=X4 (EW.map.still (ζ.refl (fun _=>False) wd).drew) (A:=OA) (cap:=Mc) (b:=ob) (off:=oo) (l:=b.ops) Hp (fun w' hu=>Hu w' (fun _=>False) (Eu.drew.then hu (fun _ e=>.inl e)) (fun _ _ e=>e)) (fun o ho=>by obtain⟨-,e1,-,e2,-⟩:=Be (HQ.out.2.2.2.1 o ho);have:=Dv e1;omega) Hl;have iD:=δ jF;have HD:=cx EW p7 hTd Eu Hj;clear cb0 cv1 hwi EW p7 hTd jF Hj L9 Hl Hp Hu Eu hwd;refine dB ?_;refine dK (S:=fun w'=>w'.cell? ⟨v,0,none⟩=some (.pointer (some ⟨o'.m,0,none⟩))∧w'.cell? ⟨c,2,none⟩=some (.slice OA b.ops.length Mc)) (T:=fun _=>false) kR ?_;have aC:wd.drew.cell? ⟨v,0,none⟩=some (.pointer (some ⟨o'.m,0,none⟩))∧wd.drew.cell? ⟨c,2,none⟩=some (.slice OA b.ops.length Mc):=⟨HD.out.1.blk.drew.cell 0,by rw[← HD.out.2.2.2.2];exact HD.out.2.1.drew.cell 2⟩;refine ξ 0 ?_;refine ξ 1 ?_;refine ξ 2 ?_
   refine ξ 3 ?_;refine aQ 4 (fun w' hSw=>hSw.1) ?_;refine ξ 5 ?_;refine aQ 6 (fun w' hSw=>hSw.2) ?_;refine aY 7 (fun KK ο=>?_);go_simp
   refine iD.out.mono ?_;rintro e we ⟨rfl,hDE⟩;obtain⟨eH,hm2,LY,π⟩:=hDE.yes HQ.out.2.2.1;rw[show fW (yd g k s x (rows.take i)).S b.ops=0 from HQ.out.2.2.1];have Hy:ζ (· = o'.m) wd we:=((ζ.refl (fun q=>q=o'.m) wd).drew).then π (fun q e=>.inl e);have CI:=HD.out.1.fM Hy hm2 LY;have Tj:=HD.out.2.1.ε Hy (fun e=>absurd (HD.out.2.1.ty.inj ((show c=o'.m from e) ▸ HD.out.1.map.blk.ty)) dC);have hTe:=HD.out.2.2.1.ε Hy (fun q ht e=>absurd (ht.inj ((show q=o'.m from e) ▸ HD.out.1.map.blk.ty)) dC);have a_:we.cell? ⟨v,0,none⟩=some (.pointer (some ⟨o'.m,0,none⟩))∧we.cell? ⟨c,2,none⟩=some (.slice OA b.ops.length Mc):=⟨CI.blk.cell 0,by rw[← HD.out.2.2.2.2];exact Tj.cell 2⟩;refine ο.out _ _ a_ ?_;have HE:=aj CI Tj hTe;have HM:=aj LY hm2 Hy;clear ο CI Tj hTe Hy hm2 LY π hDE;refine ξ 8 ?_;refine dF ?_;refine cZ ?_;clear aC a_;have Mm:=Xy HE.out.1 b HE.out.2.2 (oN HQ.out.2.2.2.2.2.2.2.1) (by show (rows.take i).length≤1000;rw[fF];have:=HR.out.1.many;omega);have HDM:=δ Mm;clear Mm;go_upto_region 20 with (first
    |(refine fV _ c HE.out.2.1 underlying35 ?_)
    |(go_at_call 60;refine HDM.out.mono ?_;rintro e w9 ⟨rfl,o9,h9,k9,e1,e2,e3⟩
      have H9:=cx h9 k9 e1 e2 e3;clear h9 k9 e1 e2 e3))
   go_wp2_with fail
   go_roundw
   case rel =>
    have hA:=HX.out.1;have hm:o'.m=m:=HX.out.2.1;have hs1:=HX.out.2.2.2.1.size;have hsw:w.heap.size≤w3.heap.size:=by have h1:=vw.out.2.1.size;have h2:=H3.out.2.1.size;omega
    have bV:=Ha.out.2.ε.size;have eU:=Hb.out.2.1.size;have hs4:=Hc.out.2.1.size;have hs5:=HD.out.2.2.2.1.size;have wW:=HM.out.2.2.size;have xl:ζ (fun q=>o0.mut v q∨q=m) w3 wa:=HX.out.2.2.2.1.then Ha.out.2.ε (fun q e=>(HX.out.2.2.2.2.1 q e).imp .inl id);have hUd:ζ (fun q=>o0.mut v q∨q=m) w3 wd:=((xl.then Hb.out.2.1 φ).then Hc.out.2.1 φ).then HD.out.2.2.2.1 φ;have hUe:ζ (fun q=>o0.mut v q∨q=m) w3 we:=hUd.then HM.out.2.2 (fun q e=>.inl (.inr (by rw[← hm];exact e)));have Ym:∀q,cR.mut { o' with ay:=es } v q→o0.mut v q∨w3.heap.size≤q:=fun q hq=>by
     rcases Ha.out.2.sub q hq with e | e
     ·exact HX.out.2.2.2.2.1 q e
     ·exact .inr oM
    have M5:=hUe.then H9.out.2.1.ε (fun q e=>(Ym q e).imp .inl id);have h9:aR w9 p v d (yd g k s (cJ x.1 b.ops,b.index,b.θ) (rows.take (i+1))) o9:=by
     have h9:=H9.out.1;rw[aa',HQ.out.2.2.2.2.2.2.2.2.1];exact h9
    refine⟨i+1,(cJ x.1 b.ops,b.index,b.θ),o9,by have:=HX.out.2.2.2.2.2.2.1;omega,sM,HQ.out.2.1,h9,by rw[H9.out.2.2.1];exact hm,?_,M5,fun q hq=>?_⟩
    ·right
     rw[H9.out.2.2.2.1];have h0:wd.heap.size≤eH:=HM.out.1;show w.heap.size≤eH;omega
    ·rcases H9.out.2.1.sub q hq with e | e
     ·exact Ym q e
     ·have:=hUe.size
      exact .inr oM
   case measure=>have:=HX.out.2.2.2.2.2.2.1;simp[intOf]<;>omega
  ·obtain rfl:i=rows.length:=oM
   rw[rO] at hx hA;have j1:¬((rows.length:Int)<(g.l.length:Int)):=oM;have hxx:x=(S,at_,ep):=by
    have h1:=HR.out.1.rep;rw[hx] at h1;exact dw h1
   have HX:=gU hA hm hmb hU hsub hxx;clear hA hm hmb hU hsub hx hxx hi hlt gE;go_wp2_with fail
   go_ret
   have hA:=HX.out.1;rw[HX.out.2.2.2.2.2] at hA;have hsw:w.heap.size≤w3.heap.size:=by have h1:=vw.out.2.1.size;have h2:=H3.out.2.1.size;omega
   refine⟨rfl,o',hA,?_,fun q hq=>?_,HX.out.2.1,HX.out.2.2.1⟩
   ·refine(((vw.out.2.1.mono (fun q e=>.inl (.inr (.inl e)))).then H3.out.2.1 φ).then HX.out.2.2.2.1 (fun q e=>?_))
    rcases e with e | e
    ·rcases vw.out.2.2.1 q e with f | f | f | f | f
     ·exact .inl (.inl f)
     ·exact .inl (.inr (.inl f))
     ·exact .inl (.inr (.inr (.inl f)))
     ·exact .inl (.inr (.inr (.inr (.inr f))))
     ·exact .inr f
    ·exact .inl (.inr (.inr (.inr (.inl e))))
   ·rcases HX.out.2.2.2.2.1 q hq with e | e
    ·exact vw.out.2.2.1 q e
    ·exact .inr (.inr (.inr (.inr oM)))
end
abbrev PX:Array Value:=#[ι 0,ι 0,ι 0,.slice none 0 0,.string ⟨#[]⟩,ι 0,ι 0,ι 0,ω 1,ι 0,.int .u32 0]
abbrev PY (p kb:Nat):Array Value:=#[.pointer none,ι 0,ι 0,.slice none 0 0,ι 0,.pointer (some ⟨p,0,none⟩),.pointer (some ⟨kb,0,none⟩),.pointer none,.pointer none,
 ι 0,ι 0,ι 0,.slice none 0 0,.string ⟨#[]⟩,ι 0,ι 0,ι 0,ω 1,ι 0,.int .u32 0,.bool false]
theorem agb:prog.built 115 [(4,ω 1)]=some PX:=kR
theorem agc (p kb:Nat):prog.built 117 [(1,.pointer (some ⟨p,0,none⟩)),(2,.pointer (some ⟨kb,0,none⟩)),(5,.agg PX)]=some (PY p kb):=kR
structure adb (w w':World) (p v:Nat) (d:Dk) (V:aV) (F:List Nat) (o:cR):Prop where
 at_:aR w' p v d V o
 ε:ζ (· ∈ F) w w'
 sub:∀q,o.mut v q→q ∈ F∨w.heap.size≤q
 v:w.heap.size≤v
 mb:w.heap.size≤o.mb
structure agd (w w':World) (p:Nat) (F:List Nat) (R:Dk × aV × Int) (e:Ending):Prop where
 yes:R.2.2=0→∃v o,e=ώ (.tuple #[.pointer (some ⟨v,0,none⟩),ι 0])∧adb w w' p v R.1 R.2.1 F o
 no:R.2.2≠0→e=ώ (.tuple #[.pointer none,ι R.2.2])∧∃F',Left w w' p R.1 F F'
theorem Gt.μ {s:cY} {S0 S:List ai} {g:Lg} {rows:List bL} {a e:Int} (h:Gt s S0 g rows S a e) (n:Nat):Gt { s with μ:=n } S0 g rows S a e:=⟨h.fit,h.ya,h.recs,h.many,h.rep,h.yF⟩
theorem lT.BM {s:cY} (h:lT s) {n:Nat} (hn:n≤1000000):lT { s with μ:=n } := ⟨h.right,h.place,h.slot,h.log,h.key,hn,h.mn⟩
section
variable {w w':World} {p v:Nat} {d:Dk} {k:Kp} {s:cY} {S0 S:List ai} {F:List Nat} {kb m mb rb rk:Nat} {mv:Value} {ay:List (Int × Nat)} {g:Lg} {rows:List bL} {V:aV}
theorem WZ (hD:bI w p d F) (ho:Lv d V S0) :
 ς 16 #[.pointer (some ⟨p,0,none⟩),.string (str jI)] w fun e w'=>agd w w' p F (Ea d V) e:=by
 have Tk:V.again=yd V.lg V.kp { V.st with μ:=V.st.μ+1 } (V.S,V.at_,V.θ) V.rows:=by
  unfold aV.again yd;rw[ho.prev,ho.cur]
 obtain⟨k,hkk⟩:=κ V.kp;obtain⟨s,JC⟩:=κ V.st;have Qn:=ho.kept;have hq:=ho.ahm;rw[hkk] at Qn hq;rw[JC] at hq;have hkp:=ho.kp;rw[hkk] at hkp;have jt:=hq.μ;have rf:=ho.ahn;have yO:=ho.log;have hl0:=ho.ajE;rw[JC] at rf yO hl0;have hf:=ho.fit;have hb:=ho.sound;have hdn:=Xi hD;rw[hf.off] at hdn;have hsc:=OJ hD;rw[hf.len] at hsc;have hsp:=afY hD hf.off (by rw[hf.len];omega) (fun i hi=>hD.wf.O9 (by rw[hf.len];exact hi));rw[hb] at hsp;have qB:=δ hdn;have HSC:=δ hsc;have CD:=δ hsp;clear hdn hsc hsp;go_enter func16,ntmps16
 go_upto_region 12 with (first
  |(go_at_call 33;refine qB.out.mono ?_;rintro e w1 ⟨rfl,rfl⟩)
  |(go_at_call 61;refine HSC.out.mono ?_;rintro e w1 ⟨rfl,rfl⟩)
  |(go_at_call 62;refine CD.out.mono ?_;rintro e w1 ⟨rfl,ax⟩
    have nP:=δ ax;clear ax))
 have hop:=agL (hD.ε nP.out (fun _ _ e=>e)) 0 (by rw[hf.len];omega) hf.off;rw[Qn] at hop;have Jf:=δ hop;clear hop;have HZ:=aj hD hf hq;have ajL:=δ (fun (W:World) (m mb:Nat) (mv:Value) (rb rk v kb:Nat) (ay:List (Int × Nat)) (h:kj W p v d (jP k { s with μ:=s.μ+1 } S0) F kb m mb mv (.pointer (some ⟨rb,0,none⟩))) (h1:bT (fo rb rk ay) W W rb (str jI) s.key (s.μ+1) 0 rk ay) (h2:rk ∉ F) (h3:mb≠rk)=>aga h h1 h2 h3 hf (hq.ok.BM hq.μ) hl0 yO (rf.μ (s.μ+1)));rw[hkk,JC] at Tk;have JD:=aD Tk hkp JC (hq.ok.BM hq.μ);clear hD ho hf hb Qn hq hl0 yO rf hkk JC Tk hkp jt;go_upto_region 16 with (first
  |(go_at_call 63;refine Jf.out.mono ?_;rintro e w2 ⟨kv,rfl,hO⟩
    obtain⟨kb,rfl,hkB,hkb⟩:=hO.ok _ rfl;have H2:=aD (nP.out.then hO.ε φ) hkB hkb (HZ.out.1.ε (nP.out.then hO.ε φ) (fun _ _ e=>e));have qz:=δ (agc p kb);clear hO hkB hkb)
  |(refine qf rfl _ _ rfl [(4,ω 1)] _ (by first| rfl | kernel_rfl) agb ?_)
  |(refine qf rfl _ _ rfl [(1,.pointer (some ⟨p,0,none⟩)),(2,.pointer (some ⟨kb,0,none⟩)),(5,.agg PX)] _ (by first| rfl | kernel_rfl) qz.out ?_))
 obtain⟨v,hv⟩:=κ w2.heap.size;rw[hv];generalize fJ:World.alloc _ _=w3;have aA:η w3 v 117 (PY p kb):=by rw[← fJ,← hv];exact η.new w2 _ _
 have χ:υ w2 w3:=by rw[← fJ];exact(ζ.refl _ w2).alloc _
 have eU:w3.heap.size=v+1:=by rw[← fJ,← hv];exact cM _ _
 have H3:=gU aA (H2.out.1.then χ φ) (H2.out.2.1.ε χ (fun e=>e)) (H2.out.2.2.2.ε χ (fun _ _ e=>e)) hv eU;have jd:=δ (Xt w3);clear aA χ eU hv fJ;go_upto_region 17 with (first
  |(go_at_call 64;refine jd.out.mono ?_;rintro e w4 ⟨m,mb,rfl,uX,aam,aan,ag⟩
    have H4:=aD uX aam aan ag;have iN:=δ (H3.out.1.ε ag (fun e=>e));clear uX aam aan ag)
  |(refine gw rfl _ _ _ rfl v 0 (.pointer (some ⟨m,0,none⟩)) rfl rfl _ _ iN.out (by simp[PY]) rfl kR ?_
    intro w5 aF av iz;have H5:=aj aF av iz;clear aF av iz))
 have hvw:w.heap.size≤v:=by have:=H2.out.1.size;have:=H3.out.2.2.2.2.1;omega
 have yt:w.heap.size≤kb:=by have:=nP.out.size;have:=H2.out.2.2.1;omega
 have hkv:kb≠v:=by have:=H2.out.2.1.lt;have:=H3.out.2.2.2.2.1;omega
 have dJ:v<m∧v<mb:=by have:=H4.out.2.1;have:=H4.out.2.2.1;have:=H3.out.2.2.2.2.2;omega
 have Rn:υ w w5:=(H3.out.2.1.then H4.out.2.2.2 φ).then H5.out.2.1 (fun q e=>.inr (by have e2:q=v:=e;omega));have h5:kj w5 p v d (jP k jo []) F kb m mb (.slice none 0 0) (.pointer none):=by
  have hF:∀q ∈ F,q<w.heap.size:=fun q hq=>HZ.out.1.lt q hq
  refine⟨HZ.out.1.ε Rn (fun _ _ e=>e),H5.out.1,(H3.out.2.2.1.ε H4.out.2.2.2 (fun e=>e)).ε H5.out.2.1 (fun e=>hkv e),H4.out.1.ε H5.out.2.1 (fun e=>by have e2:m=v:=e;omega) (fun e=>by have e2:mb=v:=e;omega),fun e=>by have:=hF _ e;omega,?_⟩;exact au.jK (n:=0) (cs:=[]) (Own.nil _ _ _) rfl oM sM
 have p9:=cx h5 Rn hvw yt dJ;have HRC:=δ (af9 h5 HZ.out.2.1 HZ.out.2.2);clear hvw yt hkv dJ Rn h5;go_upto_region 23 with (first
  |(go_at_call 65;refine HRC.out.mono ?_;rintro e w6 ⟨rfl,m',iC,dz,rb,rk,ay,hL⟩
    have HL:=δ hL;have JE:=δ (ajL.out w6 m' iC dz rb rk v kb ay hL.pre hL.ring hL.xp hL.tX);clear hL)
  |(go_at_call 66;refine JE.out.mono ?_;rintro e w7 ⟨rfl,o7,h7⟩
    have H7:=δ h7;clear h7))
 obtain⟨W,hW⟩:=κ V.again;have AM:yd V.lg k { s with μ:=s.μ+1 } (V.S,V.at_,V.θ) V.rows=W:=by rw[← hW,JD.out.1]
 have hst : { s with μ:=s.μ+1 } = W.st:=by rw[← AM];rfl
 have h7:=H7.out.at_;rw[AM] at h7;have hpc:=Lt h7 W.st (by rw[← hst];exact JD.out.2.2.2) h7.eD rfl (by rw[← AM];have:=HZ.out.2.2.ok.key;show s.key≤_;omega) (by rw[← AM];show 0<_;omega) (by rw[← AM];exact JD.out.2.1.1) (by rw[← AM];exact JD.out.2.1.2.1) (by rw[← AM];show k.from_≤_;rw[JD.out.2.1.2.2];omega) HZ.out.2.1.pend;obtain⟨R,hR⟩:=κ (Ea d V);have hRp:ez d W W.st=R:=by rw[← hR,← hW];rfl
 rw[hRp] at hpc;obtain⟨E,hE⟩:=κ R.2.2;have bK:ζ (· ∈ F) w w7:=(((p9.out.2.1.mono φ).then HL.out.ε (fun q e=>.inr (by have e2:q=v:=e;have:=p9.out.2.2.1;omega)))).then H7.out.ε (fun q e=>by
  have h1:=p9.out.2.1.size;rcases e with e | e | e | e | e
  ·exact .inl e
  ·exact .inr (oN p9.out.2.2.1)
  ·exact .inr (oN p9.out.2.2.2.1)
  ·refine .inr ?_
   rcases HL.out.m with f | f
   ·have:=p9.out.2.2.2.2.1;have:=p9.out.2.2.1;omega
   ·omega
  ·exact .inr (oN (HL.out.new q e)))
 have Yn:∀q,o7.mut v q→q ∈ F∨w.heap.size≤q:=fun q hq=>by
  have h1:=p9.out.2.1.size;have h2:=HL.out.ε.size;rcases H7.out.sub q hq with e | e | e | e | e
  ·exact .inl e
  ·exact .inr (oN p9.out.2.2.1)
  ·exact .inr (oN p9.out.2.2.2.1)
  ·exact .inr (oN (HL.out.new q e))
  ·exact .inr oM
 rw[hE] at hpc;have M_:=δ hpc;have HE:=τ hR hE;have vz:=aj h7 bK Yn;have Yo:=fun (j:Nat) (u:Value) (hj:[Value.int .i64 W.st.m.role,ι W.st.m.seen,ι W.st.m.aG,o7.mv,.string (str W.st.m.bu),ι W.st.at_,ι W.st.θ,ι (W.st.slot:Int),ω (W.st.log:Int),ι (W.st.key:Int),.int .u32 (W.st.μ:Int)][j]? = some u)=>nt (cs:=eX W p o7) (i:=9) (n:=11) rfl j u hj
 have MX:=δ Yo;clear hst AM h7 hpc hRp bK Yn hR Yo;by_cases h0:E=0
 ·subst h0
  clear hE;go_wp2_with (first
   |(refine qL rfl _ _ rfl v 9 rfl _ _ [Value.int .i64 W.st.m.role,ι W.st.m.seen,ι W.st.m.aG,o7.mv,.string (str W.st.m.bu),ι W.st.at_,ι W.st.θ,ι (W.st.slot:Int),ω (W.st.log:Int),ι (W.st.key:Int),.int .u32 (W.st.μ:Int)] _ vz.out.1.blk MX.out underlying115 rfl kR ?_)
   |(go_at_call 67;refine M_.out.mono ?_;rintro e w8 ⟨rfl,o8,h8,k8⟩
     have H8:=τ h8 k8;clear h8 k8))
  go_ret2
  rw[HE.out.1];have ajM:w.heap.size≤o8.mb:=by
   have h1:=p9.out.2.1.size;have h2:=HL.out.ε.size;have h3:=vz.out.2.1.size;have h4:=p9.out.2.2.1;have h5:=p9.out.2.2.2.2.2;rcases H8.out.2.CV with e | e
   ·rcases H7.out.mb with f | f
    ·rcases HL.out.mb with g | g
     ·omega
     ·omega
    ·omega
   ·omega
  refine⟨fun _=>⟨v,o8,rfl,H8.out.1,?_,fun q hq=>?_,p9.out.2.2.1,ajM⟩,fun e=>absurd HE.out.2 e⟩
  ·exact vz.out.2.1.then H8.out.2.ε (fun q hq=>vz.out.2.2 q hq)
  ·rcases H8.out.2.sub q hq with e | e
   ·exact vz.out.2.2 q e
   ·exact .inr (oN vz.out.2.1.size)
 ·have eA:(E != 0)=true:=by simpa using h0
  have H0:=δ h0;clear hE h0;go_wp2_with (first
   |(refine qL rfl _ _ rfl v 9 rfl _ _ [Value.int .i64 W.st.m.role,ι W.st.m.seen,ι W.st.m.aG,o7.mv,.string (str W.st.m.bu),ι W.st.at_,ι W.st.θ,ι (W.st.slot:Int),ω (W.st.log:Int),ι (W.st.key:Int),.int .u32 (W.st.μ:Int)] _ vz.out.1.blk MX.out underlying115 rfl kR ?_)
   |(go_at_call 67;refine M_.out.mono ?_;rintro e w8 ⟨rfl,o8,h8,k8⟩
     have H8:=τ h8 k8;clear h8 k8))
  go_ret2
  rw[HE.out.1];refine⟨fun e=>absurd e (by rw[HE.out.2];exact H0.out),fun _=>⟨by rw[HE.out.2];rfl,o8.F,H8.out.1.bO,?_,fun q hq=>?_⟩⟩
  ·exact vz.out.2.1.then H8.out.2.ε (fun q hq=>vz.out.2.2 q hq)
  ·rcases H8.out.2.sub q (.inr (.inl hq)) with e | e
   ·exact vz.out.2.2 q e
   ·exact .inr (oN vz.out.2.1.size)
end
def oP:List TypeId:=[117,151,9,209,199,186,269,35]
def Dc (w:World) (q:Nat):Prop:=(∃t ∈ oP,Ty w t q)∨Mp w q
theorem Ty.BC {w:World} {t:TypeId} {q:Nat} (h:Ty w t q) (hn:t ∉ oP):¬Dc w q:=by
 rintro (⟨t',h1,h2⟩ | h2)
 ·exact hn (h.inj h2 ▸ h1)
 ·exact h.ji h2
section
variable {w w':World} {p v:Nat} {d:Dk} {V:aV} {o:cR} {F:List Nat}
theorem aR.yP (h:aR w p v d V o) {q:Nat} (hq:o.mut v q):Dc w q:=by
 rcases h.kind hq with e | e | e | e | e | e | e | e | e
 ·exact .inl ⟨_,by simp[oP],e⟩
 ·exact .inl ⟨_,by simp[oP],e⟩
 ·exact .inl ⟨_,by simp[oP],e⟩
 ·exact .inl ⟨_,by simp[oP],e⟩
 ·exact .inl ⟨_,by simp[oP],e⟩
 ·exact .inl ⟨_,by simp[oP],e⟩
 ·exact .inl ⟨_,by simp[oP],e⟩
 ·exact .inl ⟨_,by simp[oP],e⟩
 ·exact .inr e.1
theorem bI.yP (h:bI w p d F) {q:Nat} (hq:q ∈ F):Dc w q:=by
 rcases h.kind hq with e | e | e
 ·exact .inl ⟨_,by simp[oP],e⟩
 ·exact .inl ⟨_,by simp[oP],e⟩
 ·exact .inr e
end
theorem ew.Md {d:Dk} {V:aV} {S0:List ai} {c:Nat} (h:ew d V S0 c) (hc:c<99000):lT V.st:=⟨h.b_.right,h.b_.place,h.b_.slots,by have:=h.b_.r_;omega,by have:=h.b_.keys;omega,by have:=h.b_.rV;omega,h.mn⟩
theorem ew.Lf {d:Dk} {V:aV} {S0:List ai} {c:Nat} (h:ew d V S0 c) (hc:c<99000):BB d V:=by
 obtain⟨L0,L1,hk⟩:=h.b_.kept;exact⟨by rw[h.cur];have:=h.b_.keys;omega,by have:=h.num;omega,by have:=h.b_.xL;omega,hk.at_,by rw[h.b_.uy];omega,by rw[h.b_.good.pend];omega⟩
theorem ew.free {d:Dk} {V:aV} {S0:List ai} {c:Nat} (h:ew d V S0 c):ew d.free V S0 c:=by
 rw[Dk.afE h.b_.good.cV h.b_.good.off];exact h
structure yQ (w0 w:World) (p v:Nat) (d:Dk) (V:aV) (o:cR) (S0:List ai) (c:Nat):Prop where
 at_:aR w p v d V o
 g:ew d V S0 c
 low:∀q,o.mut v q→w0.heap.size≤q
 ε:υ w0 w
structure iQ (w w':World) (M M':Nat→Prop):Prop where
 ε:ζ M w w'
 sub:∀q,M' q→M q∨w.heap.size≤q
theorem iQ.still {w w':World} {M:Nat→Prop} (h:υ w w'):iQ w w' M M:=⟨h.mono φ,fun _ e=>.inl e⟩
def cK (w0 w:World) (p v:Nat) (R:eo) (μ c:Nat) (M:Nat→Prop):Prop:=∃d V o S0,yQ w0 w p v d V o S0 c∧V.abs=R∧V.st.μ=μ∧∀q,M q↔o.mut v q
def VlW (w0 w:World) (p v:Nat) (R:eo) (μ c:Nat):Prop:=∃M,cK w0 w p v R μ c M
structure mZ (w:World) (p v:Nat) (R:eo) (μ:Nat):Prop where
 ex:∃d V o,aR w p v d V o∧V.abs=R∧V.st.μ=μ
 right:dS R.m=true
 many:R.rows.length≤1000
 qc:∀b ∈ R.rows,b.ops.length≤1000
 low:μ≤1000000
section
variable {w0 w w':World} {p v:Nat} {d:Dk} {V:aV} {o:cR} {S0:List ai} {R:eo} {μ c:Nat} {M:Nat→Prop}
theorem yQ.still (h:yQ w0 w p v d V o S0 c) (hu:υ w w'):yQ w0 w' p v d V o S0 c:=⟨h.at_.still hu,h.g,h.low,h.ε.then hu φ⟩
theorem cK.still (h:cK w0 w p v R μ c M) (hu:υ w w'):cK w0 w' p v R μ c M:=by
 obtain⟨d,V,o,S0,h,e⟩:=h;exact⟨d,V,o,S0,h.still hu,e⟩
theorem VlW.still (h:VlW w0 w p v R μ c) (hu:υ w w'):VlW w0 w' p v R μ c:=by
 obtain⟨M,h⟩:=h;exact⟨M,h.still hu⟩
theorem cK.ε (h:cK w0 w p v R μ c M):υ w0 w:=by obtain⟨_,_,_,_,h,_⟩:=h;exact h.ε
theorem VlW.ε (h:VlW w0 w p v R μ c):υ w0 w:=by obtain⟨_,h⟩:=h;exact h.ε
theorem cK.yP (h:cK w0 w p v R μ c M) {q:Nat} (hq:M q):Dc w q:=by
 obtain⟨_,_,_,_,h,_,_,e⟩:=h;exact h.at_.yP ((e q).1 hq)
theorem cK.low (h:cK w0 w p v R μ c M) {q:Nat} (hq:M q):w0.heap.size≤q:=by
 obtain⟨_,_,_,_,h,_,_,e⟩:=h;exact h.low q ((e q).1 hq)
theorem cK.lt (h:cK w0 w p v R μ c M) {q:Nat} (hq:M q):q<w.heap.size:=by
 rcases h.yP hq with ⟨t,_,cur,fr,e⟩ | ⟨es,cc,e⟩<;>exact(ng.1 e).1
theorem yQ.step {d':Dk} {V':aV} {o':cR} {sE:List ai} {c':Nat} (h:yQ w0 w p v d V o S0 c) (hm:∀q,M q↔o.mut v q) (ha:aR w' p v d' V' o') (hs:di w w' v o o') (hg:ew d' V' sE c'):yQ w0 w' p v d' V' o' sE c'∧iQ w w' M (o'.mut v):=by
 refine⟨⟨ha,hg,fun q hq=>?_,h.ε.then hs.ε (fun q e=>.inr (h.low q e))⟩,hs.ε.mono (fun q e=>.inl ((hm q).2 e)),fun q hq=>(hs.sub q hq).imp (hm q).2 id⟩;rcases hs.sub q hq with e | e
 ·exact h.low q e
 ·have:=h.ε.size
  omega
theorem mZ.still (h:mZ w p v R μ) (hu:υ w w'):mZ w' p v R μ:=by
 obtain⟨⟨d,V,o,h1,h2⟩,h3,h4,h5,h6⟩:=h;exact⟨⟨d,V,o,h1.still hu,h2⟩,h3,h4,h5,h6⟩
theorem yQ.old (h:yQ w0 w p v d V o S0 c) (hR:V.abs=R) (hb:V.st.μ=μ) (hc:c<99000:=by assumption):mZ w p v R μ:=by
 subst hR hb;have he:=acY h.g.rep;have jt:=h.g.b_.rV;exact⟨⟨d,V,o,h.at_,rfl,rfl⟩,h.g.b_.right,by have h1:=h.g.b_.many;show V.rows.length≤1000;omega,fun b hb=>by obtain⟨-,-,-,h4,-⟩:=sP (he b hb);omega,oM⟩
theorem cK.old (h:cK w0 w p v R μ c M) (hc:c<99000):mZ w p v R μ:=by
 obtain⟨d,V,o,S0,h,h1,h2,-⟩:=h;exact h.old h1 h2 hc
theorem mZ.place (h:mZ w p v R μ):ς 12 #[.pointer (some ⟨v,0,none⟩)] w fun e w'=>e=ώ (.tuple #[ι R.at_,ι R.θ])∧υ w w':=by
 obtain⟨⟨d,V,o,h,rfl,jt⟩,hr,zw,H_,-⟩:=h;refine(af5 h).mono ?_;rintro e w' ⟨rfl,hu⟩;exact⟨rfl,hu⟩
theorem mZ.key (h:mZ w p v R μ):ς 14 #[.pointer (some ⟨v,0,none⟩)] w fun e w'=>e=ώ (ι (R.key:Int))∧w=w':=by
 obtain⟨⟨d,V,o,h,rfl,jt⟩,hr,zw,H_,-⟩:=h;exact aid h
theorem mZ.BM (h:mZ w p v R μ):ς 13 #[.pointer (some ⟨v,0,none⟩)] w fun e w'=>e=ώ (ι (μ:Int))∧w=w':=by
 obtain⟨⟨d,V,o,h,rfl,rfl⟩,-,-,-,uL⟩:=h;exact ahl h oM
theorem mZ.aiU (h:mZ w p v R μ):ς 22 #[.pointer (some ⟨v,0,none⟩)] w fun e w'=>∃dz,e=ώ (.agg (dy R.m dz))∧au w' 46 2 dz (R.m.aW.map ct)∧υ w w':=by
 obtain⟨⟨d,V,o,h,rfl,jt⟩,hr,zw,H_,-⟩:=h;refine(ahf h (xC hr).eD).mono ?_;rintro e w' ⟨dz,rfl,ht,hu⟩;exact⟨dz,rfl,ht,hu⟩
theorem mZ.Ca (h:mZ w p v R μ):ς 18 #[.pointer (some ⟨v,0,none⟩)] w fun e w'=>∃m mb,e=ώ (.pointer (some ⟨m,0,none⟩))∧fY w' m mb R.S∧w.heap.size≤m∧w.heap.size≤mb∧υ w w':=by
 obtain⟨⟨d,V,o,h,rfl,jt⟩,hr,zw,H_,-⟩:=h;refine(aie h).mono ?_;rintro e w' ⟨m,mb,rfl,hm,h1,h2,hu⟩;exact⟨m,mb,rfl,hm,h1,h2,hu⟩
theorem mZ.ahp (h:mZ w p v R μ):ς 17 #[.pointer (some ⟨v,0,none⟩)] w fun e w'=>∃x aI,e=ώ (.tuple #[x,ι R.prev])∧D4 w' x R.rows aI∧(∀q,x.ownBlock=some q→w.heap.size≤q)∧υ w w':=by
 obtain⟨⟨d,V,o,h,rfl,jt⟩,hr,zw,H_,-⟩:=h;refine(ada h zw H_).mono ?_;rintro e w' ⟨x,aI,rfl,h1,h2,hu⟩;exact⟨x,aI,rfl,h1,h2,hu⟩
theorem cK.sW (h:cK w0 w p v R μ c M) (hc:c<99000) (b:bL) {ty:TypeId} {ov:Value} (ju:au w ty 3 ov (b.ops.map bU)) (xU:(ty ∉ oP∧ty≠gd)∨∀q,ov.ownBlock=some q→q<w0.heap.size) (Fb:qh b.ops) (jV:b.θ≤9223372036854775807) :
 ς 15 #[.pointer (some ⟨v,0,none⟩),.agg #[ι b.index,ι b.θ,ov]] w fun e w'=>e=ώ (ι (j_ R b).2)∧(∃M',cK w0 w' p v (j_ R b).1 μ (c+3) M'∧iQ w w' M M'):=by
 obtain⟨d,V,o,S0,h,rfl,jt,hm⟩:=h;have hg:=h.g.b_.good;refine(aey h.at_ (h.g.Md hc) (h.g.Lf hc) (oN h.g.num) (by rw[hg.pend];omega) hg.len (oN h.g.b_.r_) (h.g.b_.Yk oM) h.g.b_.many h.g.place b ju (fun W hu=>xU.elim (fun e=>ju.ε hu (fun q ht=>h.at_.sU ht e.1) e.2) (fun e=>ju.low e hu h.low)) Fb jV).mono ?_;rintro e w' ⟨rfl,o',h1,h2⟩;obtain⟨D,V',sE,q1,q2,q3,q4⟩:=h.g.sW hc b jV;rw[q1] at h1 ⊢;obtain⟨a1,a2⟩:=h.step hm h1 h2 q2;exact⟨rfl,_,⟨D,V',o',sE,a1,q3,q4.trans jt,fun _=>J8⟩,a2⟩
theorem aao {P:Prop} (h:P:=by
 rw[q1] at h1 ⊢;obtain⟨a1,a2⟩:=h.step hm h1 h2 (sE:=S0) (c':=c+3) { q2 with b_:=q2.b_.mono oM,num:=by have h1:=q2.num;show V'.n≤c+3;omega };exact⟨rfl,_,⟨D,V',o',S0,a1,q3,q4.trans jt,fun _=>J8⟩,a2⟩):P:=h
theorem cK.bE (h:cK w0 w p v R μ c M) (hc:c<99000) (m:MetaM) {ty:TypeId} {mv:Value} (dJ:au w ty 2 mv (m.aW.map ct)) (hmn:m.seen≤9223372036854775807∧m.aG≤9223372036854775807) (hml:∀x ∈ m.aW,x.name.length≤1000000) :
 ς 24 #[.pointer (some ⟨v,0,none⟩),.agg (dy m mv)] w fun e w'=>e=ώ (ι (lS R m).2)∧(∃M',cK w0 w' p v (lS R m).1 μ (c+3) M'∧iQ w w' M M'):=by
 obtain⟨d,V,o,S0,h,rfl,jt,hm⟩:=h;refine(aif h.at_ (h.g.Md hc) (h.g.Lf hc) m dJ hmn hml).mono ?_;rintro e w' ⟨rfl,o',h1,h2⟩;obtain⟨D,V',q1,q2,q3,q4⟩:=h.g.bE hc m hmn;exact aao
theorem cK.install (h:cK w0 w p v R μ c M) (hc:c<99000) (m:MetaM) {ty:TypeId} {mv:Value} (dJ:au w ty 2 mv (m.aW.map ct)) (hmn:m.seen≤9223372036854775807∧m.aG≤9223372036854775807) (hml:∀x ∈ m.aW,x.name.length≤1000000)
 (l:List ai) {tl:TypeId} {lv:Value} (hlv:au w tl 2 lv (l.map bz)) (hls:∀p ∈ l,p.1.length≤1000000∧p.2.length≤1000000) (at_ ep:Int) (fB:ep≤9223372036854775807) :
 ς 21 #[.pointer (some ⟨v,0,none⟩),.agg (dy m mv),lv,ι at_,ι ep] w fun e w'=>e=ώ (ι (jz R m l at_ ep).2)∧(∃M',cK w0 w' p v (jz R m l at_ ep).1 μ (c+3) M'∧iQ w w' M M'):=by
 obtain⟨d,V,o,S0,h,rfl,jt,hm⟩:=h;have hg:=h.g.b_.good;refine(ac9 h.at_ (h.g.Md hc) (h.g.Lf hc) (oN h.g.num) (by rw[hg.pend];omega) hg.len (oN h.g.b_.r_) m dJ hmn hml l hlv hls at_ ep fB).mono ?_;rintro e w' ⟨rfl,o',h1,h2⟩;obtain⟨D,V',sE,q1,q2,q3,q4⟩:=h.g.install hc m hmn l at_ ep fB;rw[q1] at h1 ⊢;obtain⟨a1,a2⟩:=h.step hm h1 h2 (sE:=sE) (c':=c+3) { q2 with b_:=q2.b_.mono oM,num:=by have h1:=q2.num;show V'.n≤c+3;omega };exact⟨rfl,_,⟨D,V',o',sE,a1,q3,q4.trans jt,fun _=>J8⟩,a2⟩
theorem cK.rotate (h:cK w0 w p v R μ c M) (hc:c<99000) :
 ς 34 #[.pointer (some ⟨v,0,none⟩)] w fun e w'=>e=ώ (ι (rotateR R).2)∧(∃M',cK w0 w' p v (rotateR R).1 μ (c+3) M'∧iQ w w' M M'):=by
 obtain⟨d,V,o,S0,h,rfl,jt,hm⟩:=h;refine(aes h.at_ (h.g.Md hc) (h.g.Lf hc) (oN h.g.b_.keys) (by rw[h.g.cur];have:=h.g.b_.keys;omega)).mono ?_;rintro e w' ⟨rfl,o',h1,h2⟩;obtain⟨D,V',q1,q2,q3,q4⟩:=h.g.rotate hc;exact aao
theorem cK.open_ (h:cK w0 w p v R μ c M) (hc:c<99000):ς 16 #[.pointer (some ⟨p,0,none⟩),.string (str jI)] w fun e w'=>∃v',e=ώ (.tuple #[.pointer (some ⟨v',0,none⟩),ι 0])∧(∃M',cK w0 w' p v' R (μ+1) (c+1) M'∧iQ w w' M M')∧mZ w' p v R μ:=by
 obtain⟨d,V,o,S0,h,rfl,rfl,hm⟩:=h;refine(WZ h.at_.bO (h.g.free.Le hc h.g.b_.good.off)).mono ?_;intro e w' hO;obtain⟨D,V',q1,q2,q3,q4⟩:=dY.opens h.g hc;rw[q1] at hO;obtain⟨v',o',rfl,hL⟩:=hO.yes rfl;have uL:∀q ∈ o.F,w0.heap.size≤q:=fun q hq=>h.low q (.inr (.inl hq))
 have oC:∀q ∈ o.F,M q:=fun q hq=>(hm q).2 (.inr (.inl hq))
 have EX:Left w w' p D o.F o'.F:=⟨hL.at_.bO,hL.ε,fun q hq=>hL.sub q (.inr (.inl hq))⟩;have hold:mZ w' p v V.abs V.st.μ := { h.old rfl rfl with ex:=⟨_,_,_,(h.at_.Qg EX).1,rfl,rfl⟩ };refine⟨v',rfl,⟨_,⟨D,V',o',S0,⟨hL.at_,q2,fun q hq=>?_,h.ε.then hL.ε (fun q hq=>.inr (uL q hq))⟩,q3,q4,fun _=>J8⟩,hL.ε.mono (fun q hq=>.inl (oC q hq)),fun q hq=>(hL.sub q hq).imp (oC q) id⟩,hold⟩;rcases hL.sub q hq with e | e
 ·exact uL q e
 ·have:=h.ε.size
  omega
theorem VlW.sW (h:VlW w0 w p v R μ c) (hc:c<99000) (b:bL) {ty:TypeId} {ov:Value} (ju:au w ty 3 ov (b.ops.map bU)) (xU:(ty ∉ oP∧ty≠gd)∨∀q,ov.ownBlock=some q→q<w0.heap.size) (Fb:qh b.ops) (jV:b.θ≤9223372036854775807) :
 ς 15 #[.pointer (some ⟨v,0,none⟩),.agg #[ι b.index,ι b.θ,ov]] w fun e w'=>e=ώ (ι (j_ R b).2)∧VlW w0 w' p v (j_ R b).1 μ (c+3)∧ζ (Dc w) w w':=by
 obtain⟨M,h⟩:=h;exact(h.sW hc b ju xU Fb jV).mono fun _ _ ⟨a,M',b,s⟩=>⟨a,⟨M',b⟩,s.ε.mono (fun _ e=>.inl (h.yP e))⟩
theorem VlW.place (h:VlW w0 w p v R μ c) (hc:c<99000:=by omega):ς 12 #[.pointer (some ⟨v,0,none⟩)] w fun e w'=>e=ώ (.tuple #[ι R.at_,ι R.θ])∧VlW w0 w' p v R μ c∧υ w w':=by
 obtain⟨M,h⟩:=h;have h2:VlW w0 w p v R μ c:=⟨M,h⟩;exact((h.old hc).place).mono fun _ _ ⟨a,u⟩=>⟨a,h2.still u,u⟩
theorem VlW.BM (h:VlW w0 w p v R μ c) (hc:c<99000):ς 13 #[.pointer (some ⟨v,0,none⟩)] w fun e w'=>e=ώ (ι (μ:Int))∧w=w':=by
 obtain⟨M,h⟩:=h;exact(h.old hc).BM
theorem VlW.Ca (h:VlW w0 w p v R μ c) (hc:c<99000:=by omega):ς 18 #[.pointer (some ⟨v,0,none⟩)] w fun e w'=>∃m mb,e=ώ (.pointer (some ⟨m,0,none⟩))∧fY w' m mb R.S∧w.heap.size≤m∧w.heap.size≤mb∧VlW w0 w' p v R μ c∧υ w w':=by
 obtain⟨M,h⟩:=h;have h2:VlW w0 w p v R μ c:=⟨M,h⟩;exact((h.old hc).Ca).mono fun _ _ ⟨x,y,a,b,c1,c2,u⟩=>⟨x,y,a,b,c1,c2,h2.still u,u⟩
theorem VlW.open_ (h:VlW w0 w p v R μ c) (hc:c<99000):ς 16 #[.pointer (some ⟨p,0,none⟩),.string (str jI)] w fun e w'=>∃v',e=ώ (.tuple #[.pointer (some ⟨v',0,none⟩),ι 0])∧VlW w0 w' p v' R (μ+1) (c+1)∧ζ (Dc w) w w':=by
 obtain⟨M,h⟩:=h;exact(h.open_ hc).mono fun _ _ ⟨v',a,⟨M',b,s⟩,_⟩=>⟨v',a,⟨M',b⟩,s.ε.mono (fun _ e=>.inl (h.yP e))⟩
end
def R0:eo:=⟨La,[],0,0,[],0,0⟩
theorem ade {w:World} {p:Nat} {F:List Nat} {w0:World} (hD:bI w p (Dk.fresh 500) F) (hF:∀q ∈ F,w0.heap.size≤q) (hu:υ w0 w):ς 16 #[.pointer (some ⟨p,0,none⟩),.string (str jI)] w fun e w'=>∃v',e=ώ (.tuple #[.pointer (some ⟨v',0,none⟩),ι 0])∧VlW w0 w' p v' R0 1 1∧ζ (Dc w) w w':=by
 refine(WZ hD aco).mono ?_;intro e w' hO;obtain⟨D,V',q1,q2,q3,q4⟩:=dY.first;rw[q1] at hO;obtain⟨v',o',rfl,hL⟩:=hO.yes rfl;refine⟨v',rfl,⟨_,D,V',o',[],⟨hL.at_,q2,fun q hq=>?_,hu.then hL.ε (fun q hq=>.inr (hF q hq))⟩,q3,q4,fun _=>J8⟩,hL.ε.mono (fun q hq=>.inl (hD.yP hq))⟩;rcases hL.sub q hq with e | e
 ·exact hF q e
 ·have:=hu.size
  omega
theorem Wv (w:World):ς 11 #[] w fun e w'=>∃p v,e=ώ (.tuple #[.pointer (some ⟨p,0,none⟩),.pointer (some ⟨v,0,none⟩),.bool true])∧VlW w w' p v R0 1 1:=by
 have HN:=δ (aiA 500 w oM oM);go_enter func11,ntmps11
 go_upto_region 4 with (first
  |(go_at_call 25;refine HN.out.mono ?_;rintro e w1 ⟨p,F,rfl,hD,hU,hF⟩
    have H1:=δ (ade hD hF hU);clear hD hU hF))
 go_wp2_with (first
  |(go_at_call 16;refine H1.out.mono ?_;rintro e w2 ⟨v,rfl,hV,-⟩;have H2:=δ hV;clear hV))
 go_ret3
 exact⟨p,v,rfl,H2.out⟩
def jk (x:kr) (a e:Int):bL:=if x.fM=0 then x.b else ⟨IntKind.i64.wrap (a+1),max x.b.θ e,x.b.ops⟩
theorem nQ.one {w:World} {k:Nat} {v:Value} {cs:List (List Value)} (h:nQ w k v cs):v.oneCell'=true:=by
 obtain⟨A,cap,rfl,-⟩:=h;rfl
section
variable {w0 w w':World} {p v:Nat} {R:eo} {μ c:Nat} {M:Nat→Prop}
theorem cK.age (h:cK w0 w p v R μ c M):pT R.at_ R.θ:=by
 obtain⟨d,V,o,S0,h,rfl,-⟩:=h;exact h.g.place
theorem cK.mono (h:cK w0 w p v R μ c M) {c':Nat} (hc:c≤c'):cK w0 w p v R μ c' M:=by
 obtain⟨d,V,o,S0,h,e⟩:=h;exact⟨d,V,o,S0,⟨h.at_,{ h.g with b_:=h.g.b_.mono hc,num:=iE h.g.num hc },h.low,h.ε⟩,e⟩
theorem cK.aez (h:cK w0 w p v R μ c M) (hc:c<99000) (b:bL) {ov:Value} (hO:BK w0 ov b.ops) (hf:PU b.ops) (jV:b.θ≤9223372036854775807) :
 ς 15 #[.pointer (some ⟨v,0,none⟩),.agg #[ι b.index,ι b.θ,ov]] w fun e w'=>e=ώ (ι (j_ R b).2)∧(∃M',cK w0 w' p v (j_ R b).1 μ (c+3) M'∧iQ w w' M M'):=by
 have hs:qh b.ops:=fun o ho=>by have:=hf.2 o ho;omega
 by_cases h0:b.ops.length=0
 ·have hT:au w 32 3 ov (b.ops.map bU):=by
   obtain⟨A,cap,h1,h2,h3,-⟩:=hO.rows;exact⟨A,cap,h1,h2,by rw[bp,h0];omega,fun h=>by rw[bp] at h;omega⟩
  exact h.sW hc b hT (.inl dC) hs jV
 ·exact h.sW hc b ((hO.rows.still h.ε).row (by rw[bp];have:=hf.1;omega)) (.inr (hO.rows.lt (by rw[bp];omega))) hs jV
theorem cK.aii (h:cK w0 w p v R μ c M) (hc:c<99000) {m:MetaM} {mv:Value} (hM:zm w0 mv m) (hf:Gs m) :
 ς 24 #[.pointer (some ⟨v,0,none⟩),.agg (dy m mv)] w fun e w'=>e=ώ (ι (lS R m).2)∧(∃M',cK w0 w' p v (lS R m).1 μ (c+3) M'∧iQ w w' M M') :=
 h.bE hc m ((hM.rows.still h.ε).row (by rw[bp];have:=hf.1;omega)) ⟨hM.seen.2,hM.aG.2⟩ (fun x hx=>by have:=hf.2.2 x hx;omega)
theorem cK.adf (h:cK w0 w p v R μ c M) (hc:c<99000) {m:MetaM} {mv:Value} (hM:zm w0 mv m) (hf:Gs m) {l:List ai} {lv:Value} (hL:BL w0 lv l) (hfl:PV l) (at_ ep:Int) (fB:ep≤9223372036854775807) :
 ς 21 #[.pointer (some ⟨v,0,none⟩),.agg (dy m mv),lv,ι at_,ι ep] w fun e w'=>e=ώ (ι (jz R m l at_ ep).2)∧(∃M',cK w0 w' p v (jz R m l at_ ep).1 μ (c+3) M'∧iQ w w' M M') :=
 h.install hc m ((hM.rows.still h.ε).row (by rw[bp];have:=hf.1;omega)) ⟨hM.seen.2,hM.aG.2⟩ (fun x hx=>by have:=hf.2.2 x hx;omega) l ((hL.rows.still h.ε).row (by rw[bp];have:=hfl.1;omega)) (fun p hp=>by have:=hfl.2 p hp;omega) at_ ep fB
end
theorem Bo.still {w w':World} {v:Value} {l:List kr} (h:Bo w v l) (hu:υ w w'):Bo w' v l:=⟨h.rows.still hu,fun a ha=>(h.each a ha).still hu⟩
theorem agf {w w':World} {m mb:Nat} {S:List ai} {v:Value} (h:Own w' 55 2 v S.length (qP S)) (hm:fY w m mb S):au w' 55 2 v (S.map bz):=by
 have:=hm.ok.len;exact au.jK (n:=S.length) (by rw[← NS];exact h) (by rw[bp]) oM (fun c hc=>by obtain⟨p,-,rfl⟩:=bZ.1 hc;rfl)
def K5 (t:TypeId) (a b:Value) (r:Bool):Prop:=prog.plainKey t=true∧∀W d,(Op.equalIn (d+1) t a b).run prog W=.ok r W
def allEq:List TypeId→List Value→List Value→List Bool→Prop
 | [],[],[],[]=>True
 | t::ts,a::va,b::vb,r::rs=>K5 t a b r∧allEq ts va vb rs
 | _,_,_,_=>False
theorem UC (d:Nat) (W:World) (xs ys:Array Value):∀(ts:List TypeId) (k:Nat) (fs:List Field) (va vb:List Value) (rs:List Bool),fs.map (fun f=>(f.name == "_",f.type,f.offset))=(ts.zipIdx k).map (fun p=>(false,p.1,p.2)) →
 (∀i,i<ts.length→xs[k+i]? = va[i]? ∧ ys[k+i]? = vb[i]?)→allEq ts va vb rs→(Op.eqFields (d+1) xs ys fs).run prog W=.ok (rs.all id) W
 | [],k,fs,va,vb,rs,hf,hx,he=>by
   have:fs=[]:=by simpa using hf
   subst this;match va,vb,rs,he with
   | [],[],[],_=>simp[Op.eqFields]
 | t::ts,k,[],va,vb,rs,hf,hx,he=>by simp at hf
 | t :: ts,k,f::fs,va,vb,rs,hf,hx,he=>by
   match va,vb,rs,he with
   | a :: va,b::vb,r::rs,⟨h1,h2⟩ =>
     simp only[jY,List.zipIdx_cons,sJ,AR,eV] at hf;obtain⟨⟨n1,n2,n3⟩,hf⟩:=hf;have h0:=hx 0 sM;simp only[rM,oH] at h0;have q1:=Dq (w:=W) (P:=prog) h1.1 h0.1;have q2:=Dq (w:=W) (P:=prog) h1.1 h0.2;simp only[Op.eqFields,n2,n3,qK,ne_eq,n1,Fv,vI];rw[q1,fN,q2,fN,h1.2,fN];cases r
     ·simp
     ·simp only[vK,oG,lK,rN,id,FF]
      exact UC d W xs ys ts (k+1) fs va vb rs hf (fun i hi=>by
       have:=hx (i+1) (by simpa using hi);rw[show k+(i+1)=k+1+i by omega] at this;simpa using this) h2
theorem PB {t:TypeId} (ts:List TypeId) (h1:prog.underlying t=some (.struct (prog.fieldsOf t))) (h2:prog.stoodInHeld t=false) (hf:(prog.fieldsOf t).toList.map (fun f=>(f.name == "_",f.type,f.offset))=(ts.zipIdx 0).map (fun p=>(false,p.1,p.2)))
 {va vb:List Value} {rs:List Bool} (he:allEq ts va vb rs) (W:World):(binOp .neq t (.agg va.toArray) (.agg vb.toArray)).run prog W=.ok (.bool (!rs.all id)) W:=by
 rw[run_neq_struct,run_equalIn_agg _ _ _ _ _ h1 h2,UC _ W _ _ ts 0 _ va vb rs hf (fun i hi=>by simp) he];rfl
theorem agh (a b:UInt8):K5 5 (ϋ (a.toNat:Int)) (ϋ (b.toNat:Int)) (decide (a=b)):=⟨kR,fun W d=>by
 rw[NI W d 5 .u8 .u8 _ _ underlying5];congr 1
 rw[vH,kV,dR];exact⟨fun h=>ud.1 oM,fun h=>by rw[h]⟩⟩
theorem F7 (a b:List UInt8):K5 9 (.string (str a)) (.string (str b)) (decide (a=b)):=⟨kR,fun W d=>by
 rw[aa0 W d 9 _ _ underlying9,KX]⟩
theorem adg (a b:Bool):K5 4 (.bool a) (.bool b) (decide (a=b)):=⟨kR,fun W d=>by
 rw[run_equalIn_bool W d 4 _ _ underlying4];cases a<;>cases b<;>rfl⟩
theorem agi (p q:ai) (W:World):(binOp .neq 55 (.agg (bz p).toArray) (.agg (bz q).toArray)).run prog W=.ok (.bool (!decide (p=q))) W:=by
 rw[PB (t:=55) [9,9] kR kR kR (show allEq _ (bz p) (bz q) [_,_] from ⟨F7 _ _,F7 _ _,trivial⟩) W];congr 3
 rw[vH];simp only[rN,Bb,id,y6,gY,dR];exact⟨fun h=>Prod.ext h.1 h.2,fun h=>by rw[h];exact⟨rfl,rfl⟩⟩
instance:DecidableEq cT:=fun a b=>if h:a.kind=b.kind∧a.path=b.path∧a.value=b.value then isTrue (by obtain⟨h1,h2,h3⟩:=h;cases a;cases b;simp_all) else isFalse (by rintro rfl;exact h ⟨rfl,rfl,rfl⟩)
theorem aij (p q:cT) (W:World):(binOp .neq 32 (.agg (bU p).toArray) (.agg (bU q).toArray)).run prog W=.ok (.bool (!decide (p=q))) W:=by
 rw[PB (t:=32) [5,9,9] kR kR kR (show allEq _ (bU p) (bU q) [_,_,_] from ⟨agh _ _,F7 _ _,F7 _ _,trivial⟩) W];congr 3
 rw[vH];obtain⟨a,b,c⟩:=p;obtain⟨a',b',c'⟩:=q;simp only[rN,Bb,id,y6,gY,dR,cT.mk.injEq]
theorem aeA (p q:gW) (W:World):(binOp .neq 46 (.agg (ct p).toArray) (.agg (ct q).toArray)).run prog W=.ok (.bool (!decide (p=q))) W:=by
 rw[PB (t:=46) [9,4] kR kR kR (show allEq _ (ct p) (ct q) [_,_] from ⟨F7 _ _,adg _ _,trivial⟩) W];congr 3
 rw[vH];obtain⟨a,b⟩:=p;obtain⟨a',b'⟩:=q;simp only[rN,Bb,id,y6,gY,dR,gW.mk.injEq]
theorem Kh {α : Type} {a b:List α} {k:Nat} (h1:k<a.length) (h2:k<b.length) (h:a.take k=b.take k) (he:a[k]=b[k]):a.take (k+1)=b.take (k+1):=by
 rw[gX h1,gX h2,h,he]
theorem aap {P:Prop} (h:P:=by
 rw[fe he] at Cc;have HE:=δ he;clear he;go_wp2_with fail
 go_quiet (fail)
 go_wp2_with fail
 go_roundw
 case rel =>
  refine⟨k+1,oM,sM,hu.drewN _,?_⟩;refine Kh HX.out.2.2.1 HX.out.2.2.2 HT.out.1 ?_;exact(HX.out.1.trans HE.out).trans HX.out.2.1.symm
 case measure=>simp[intOf]<;>omega):P:=h
theorem agj {w:World} {ta tb:TypeId} {va vb:Value} {a b:List ai} (ha:au w ta 2 va (a.map bz)) (hb:au w tb 2 vb (b.map bz)) :
 ς 32 #[va,vb] w fun e w'=>e=ώ (.bool (decide (a=b)))∧υ w w':=by
 obtain⟨A,cap,bA,off,rfl,hcap,hl,hA,hat⟩:=ha.open_;obtain⟨B,eY,bB,off2,rfl,rT,hl2,hB,uM⟩:=hb.open_;simp only[bp] at hcap hl hA rT hl2 hB ⊢;obtain⟨r,hr⟩:=κ (decide (a=b));rw[hr];have H:=aj hat uM hr;clear hat uM ha hb hr;go_enter func32,ntmps32
 by_cases hn:a.length=b.length
 ·have hn':((a.length:Int) == (b.length:Int))=true:=by rw[kV];omega
  have hn2:((a.length:Int) != (b.length:Int))=false:=by rw[bne,hn'];rfl
  have HN:=δ hn;clear hn;go_wp2_with fail
  go_loopw [5] (fun i wr=>∃k:Nat,k≤a.length∧i=ι k∧υ w wr∧a.take k=b.take k) (fun i _=>a.length - (intOf i).toNat)
  case atStart=>exact⟨0,oM,rfl,ζ.refl _ _,rfl⟩
  case round =>
   obtain⟨k,hk,rfl,hu,dn⟩:=hrel;have HT:=aj dn hu hk;clear dn;by_cases hlt:k<a.length
   ·obtain rfl:=hA oM
    obtain rfl:=hB (oN HN.out);have bn:k<b.length:=by have:=HN.out;omega
    obtain⟨x,hx⟩:=κ (a[k]);obtain⟨y,hy⟩:=κ (b[k]'bn);have hrow:=H.out.1 wr _ hu (fun _ _ e=>e) k (bz x) (by rw[gu,bD hlt,hx];rfl)
    have mG:=H.out.2.1 wr _ hu (fun _ _ e=>e) k (bz y) (by rw[gu,bD bn,hy];rfl)
    obtain⟨X1,pJ⟩:∃X,str x.1=X:=⟨_,rfl⟩;obtain⟨X2,lJ⟩:∃X,str x.2=X:=⟨_,rfl⟩;obtain⟨Y1,vA⟩:∃X,str y.1=X:=⟨_,rfl⟩;obtain⟨Y2,vB⟩:∃X,str y.2=X:=⟨_,rfl⟩;have Tl:wr.cell? ⟨bA,off+k*2,none⟩=some (.string X1):=hrow 0 _ (by rw[← pJ];rfl)
    have Tm:wr.cell? ⟨bA,off+k*2+1,none⟩=some (.string X2):=hrow 1 _ (by rw[← lJ];rfl)
    have Tn:wr.cell? ⟨bB,off2+k*2,none⟩=some (.string Y1):=mG 0 _ (by rw[← vA];rfl)
    have Tp:wr.cell? ⟨bB,off2+k*2+1,none⟩=some (.string Y2):=mG 1 _ (by rw[← vB];rfl)
    have Cc:∀W,(binOp .neq 55 (.agg #[.string X1,.string X2]) (.agg #[.string Y1,.string Y2])).run prog W=.ok (.bool (!decide (x=y))) W:=fun W=>by
     have:=agi x y W;unfold bz at this;rw[pJ,lJ,vA,vB] at this;exact this
    have HX:=aD hx hy hlt bn;have j1:(k:Int)<(a.length:Int):=oM;have j2:(k:Int)<(b.length:Int):=oM;have hwk:IntKind.i64.wrap ((k:Int)+1)=(k:Int)+1:=bX _ oM;clear hrow mG hx hy pJ lJ vA vB;by_cases he:x=y
    ·exact aap
    ·rw[gN he] at Cc
     have hrf:r=false:=by
      rw[← H.out.2.2,nj];intro hab;apply he
      rw[← HX.out.1,← HX.out.2.1];simp only[hab]
     subst hrf;clear he;go_wp2_with fail
     go_quiet (fail)
     go_wp2_with fail
     go_ret
     exact⟨rfl,hu.drewN _⟩
   ·have j1:¬((k:Int)<(a.length:Int)):=oM
    have xq:r=true:=by
     rw[← H.out.2.2,dR];have:=HT.out.1;rw[dH oM,dH (oN HN.out)] at this;exact this
    subst xq;go_wp2_with fail
    go_ret
    exact⟨rfl,hu⟩
 ·have hn':((a.length:Int) == (b.length:Int))=false:=by rw[eV];omega
  have hn2:((a.length:Int) != (b.length:Int))=true:=by rw[bne,hn'];rfl
  have hrf:r=false:=by
   rw[← H.out.2.2,nj];rintro rfl;exact hn rfl
  subst hrf;go_wp2_with fail
  go_ret
  exact⟨rfl,ζ.refl _ _⟩
instance:DecidableEq bL:=fun a b=>if h:a.index=b.index∧a.θ=b.θ∧a.ops=b.ops then isTrue (by obtain⟨h1,h2,h3⟩:=h;cases a;cases b;simp_all) else isFalse (by rintro rfl;exact h ⟨rfl,rfl,rfl⟩)
theorem ahq {a b:bL} : a=b↔a.index=b.index∧a.θ=b.θ∧a.ops=b.ops:=⟨by rintro rfl;exact⟨rfl,rfl,rfl⟩,fun ⟨h1,h2,h3⟩=>by cases a;cases b;simp_all⟩
theorem agk {w:World} {ta tb:TypeId} {va vb:Value} {a b:bL} (ha:au w ta 3 va (a.ops.map bU)) (hb:au w tb 3 vb (b.ops.map bU)) :
 ς 83 #[.agg #[ι a.index,ι a.θ,va],.agg #[ι b.index,ι b.θ,vb]] w fun e w'=>e=ώ (.bool (decide (a=b)))∧υ w w':=by
 obtain⟨i1,e1,l1⟩:=a;obtain⟨i2,e2,l2⟩:=b;simp only at ha hb ⊢
 obtain⟨A,cap,bA,off,rfl,hcap,hl,hA,hat⟩:=ha.open_;obtain⟨B,eY,bB,off2,rfl,rT,hl2,hB,uM⟩:=hb.open_;simp only[bp] at hcap hl hA rT hl2 hB ⊢;obtain⟨r,hr⟩:=κ (decide ((⟨i1,e1,l1⟩:bL)=⟨i2,e2,l2⟩));rw[hr];have hr2:decide (i1=i2∧e1=e2∧l1=l2)=r:=by rw[← hr,J9,ahq]
 obtain⟨c,hc⟩:=κ w.heap.size;have H:=aD hat uM hr2 hc;clear hat uM ha hb hr hr2 hc;go_enter func83,ntmps83
 go_upto_region 1 with fail
 rw[H.out.2.2.2];generalize hw1:World.alloc (World.alloc _ _) _=w1;have aM:η w1 c 35 #[ι i1,ι e1,.slice A l1.length cap]:=by rw[← hw1,← H.out.2.2.2];exact(η.new w _ _).alloc _
 have aB:η w1 (c+1) 35 #[ι i2,ι e2,.slice B l2.length eY]:=by
  have:=η.new (w.alloc (.cells #[ι i1,ι e1,.slice A l1.length cap] 35)) 35 #[ι i2,ι e2,.slice B l2.length eY];rw[cM,H.out.2.2.2] at this;rw[← hw1];exact this
 have ax:υ w w1:=by rw[← hw1];exact((ζ.refl _ w).alloc _).alloc _
 clear hw1;have HB:=aj aM aB ax;have a0:w1.cell? ⟨c,0,none⟩=some (ι i1):=aM.cell 0;have a1:w1.cell? ⟨c,1,none⟩=some (ι e1):=aM.cell 1;have a2:w1.cell? ⟨c,2,none⟩=some (.slice A l1.length cap):=aM.cell 2;have b0:w1.cell? ⟨c+1,0,none⟩=some (ι i2):=aB.cell 0;have b1:w1.cell? ⟨c+1,1,none⟩=some (ι e2):=aB.cell 1;have b2:w1.cell? ⟨c+1,2,none⟩=some (.slice B l2.length eY):=aB.cell 2;clear aM aB ax;by_cases hd:i1=i2∧e1=e2∧l1.length=l2.length
 ·obtain⟨hi,he,hn⟩:=hd
  have q1:(i1 != i2)=false:=by rw[hi];simp
  have q2:(e1 != e2)=false:=by rw[he];simp
  have q3:((l1.length:Int) != (l2.length:Int))=false:=by rw[hn];simp
  have HN:=aj hi he hn;clear hi he hn;go_wp2_with fail
  go_loopw [5] (fun i wr=>∃k:Nat,k≤l1.length∧i=ι k∧υ w1 wr∧l1.take k=l2.take k) (fun i _=>l1.length - (intOf i).toNat)
  case atStart=>exact⟨0,oM,rfl,ζ.refl _ _,rfl⟩
  case round =>
   obtain⟨k,hk,rfl,hu,dn⟩:=hrel;have HT:=aj dn hu hk;clear dn;have a2:wr.cell? ⟨c,2,none⟩=some (.slice A l1.length cap):=(HB.out.1.ε hu (fun e=>e)).cell 2;have b2:wr.cell? ⟨c+1,2,none⟩=some (.slice B l2.length eY):=(HB.out.2.1.ε hu (fun e=>e)).cell 2;by_cases hlt:k<l1.length
   ·obtain rfl:=hA oM
    obtain rfl:=hB (oN HN.out.2.2);have bn:k<l2.length:=by have:=HN.out.2.2;omega
    obtain⟨x,hx⟩:=κ (l1[k]);obtain⟨y,hy⟩:=κ (l2[k]'bn);have Tq:=HB.out.2.2.then hu φ;have hrow:=H.out.1 wr _ Tq (fun _ _ e=>e) k (bU x) (by rw[gu,bD hlt,hx];rfl)
    have mG:=H.out.2.1 wr _ Tq (fun _ _ e=>e) k (bU y) (by rw[gu,bD bn,hy];rfl)
    obtain⟨X0,C8⟩:∃X:Int,(x.kind.toNat:Int)=X:=⟨_,rfl⟩;obtain⟨X1,pJ⟩:∃X,str x.path=X:=⟨_,rfl⟩;obtain⟨X2,lJ⟩:∃X,str x.value=X:=⟨_,rfl⟩;obtain⟨Y0,Tr⟩:∃X:Int,(y.kind.toNat:Int)=X:=⟨_,rfl⟩;obtain⟨Y1,vA⟩:∃X,str y.path=X:=⟨_,rfl⟩;obtain⟨Y2,vB⟩:∃X,str y.value=X:=⟨_,rfl⟩;have cX0:wr.cell? ⟨bA,off+k*3,none⟩=some (ϋ X0):=hrow 0 _ (by rw[← C8];rfl)
    have Tl:wr.cell? ⟨bA,off+k*3+1,none⟩=some (.string X1):=hrow 1 _ (by rw[← pJ];rfl)
    have Tm:wr.cell? ⟨bA,off+k*3+2,none⟩=some (.string X2):=hrow 2 _ (by rw[← lJ];rfl)
    have cY0:wr.cell? ⟨bB,off2+k*3,none⟩=some (ϋ Y0):=mG 0 _ (by rw[← Tr];rfl)
    have Tn:wr.cell? ⟨bB,off2+k*3+1,none⟩=some (.string Y1):=mG 1 _ (by rw[← vA];rfl)
    have Tp:wr.cell? ⟨bB,off2+k*3+2,none⟩=some (.string Y2):=mG 2 _ (by rw[← vB];rfl)
    have Cc:∀W,(binOp .neq 32 (.agg #[ϋ X0,.string X1,.string X2]) (.agg #[ϋ Y0,.string Y1,.string Y2])).run prog W=.ok (.bool (!decide (x=y))) W:=fun W=>by
     have:=aij x y W;unfold bU at this;rw[C8,pJ,lJ,Tr,vA,vB] at this;exact this
    have HX:=aD hx hy hlt bn;have j1:(k:Int)<(l1.length:Int):=oM;have j2:(k:Int)<(l2.length:Int):=oM;have hwk:IntKind.i64.wrap ((k:Int)+1)=(k:Int)+1:=bX _ oM;clear hrow mG hx hy C8 pJ lJ Tr vA vB Tq;by_cases he:x=y
    ·exact aap
    ·rw[gN he] at Cc
     have hrf:r=false:=by
      rw[← H.out.2.2.1,nj];intro hab;apply he
      rw[← HX.out.1,← HX.out.2.1];simp only[hab.2.2]
     subst hrf;clear he;go_wp2_with fail
     go_quiet (fail)
     go_wp2_with fail
     go_ret
     exact⟨rfl,(HB.out.2.2.then hu φ).drewN _⟩
   ·have j1:¬((k:Int)<(l1.length:Int)):=oM
    have xq:r=true:=by
     rw[← H.out.2.2.1,dR];have:=HT.out.1;rw[dH oM,dH (oN HN.out.2.2)] at this;exact⟨HN.out.1,HN.out.2.1,this⟩
    subst xq;go_wp2_with fail
    go_ret
    exact⟨rfl,HB.out.2.2.then hu φ⟩
 ·have hrf:r=false:=by
   rw[← H.out.2.2.1,nj];rintro⟨h1,h2,rfl⟩;exact hd ⟨h1,h2,rfl⟩
  subst hrf;by_cases hi:i1=i2
  ·by_cases he:e1=e2
   ·have q1:(i1 != i2)=false:=by rw[hi];simp
    have q2:(e1 != e2)=false:=by rw[he];simp
    have q3:((l1.length:Int) != (l2.length:Int))=true:=by
     rw[jZ];intro e;exact hd ⟨hi,he,oM⟩
    clear hi he hd;go_wp2_with fail
    go_ret
    exact⟨rfl,HB.out.2.2⟩
   ·have q1:(i1 != i2)=false:=by rw[hi];simp
    have q2:(e1 != e2)=true:=by rw[jZ];exact he
    clear hi he hd;go_wp2_with fail
    go_ret
    exact⟨rfl,HB.out.2.2⟩
  ·have q1:(i1 != i2)=true:=by rw[jZ];exact hi
   clear hi hd;go_wp2_with fail
   go_ret
   exact⟨rfl,HB.out.2.2⟩
def Ev (s:ByteArray):Value:=.tuple #[.string (str (mI s.data.toList).1),.string (str (mI s.data.toList).2.1),.bool (mI s.data.toList).2.2]
theorem agl {l:List UInt8} {k:Nat} (hk:k<l.length) (hall:(l.take k).all (fun c=>decide (c≠47))=true) (h:l[k]=47):iJ l=l.take k:=by
 induction l generalizing k with
 | nil=>simp at hk
 | cons b r ih =>
   rw[Ob];cases k with
   | zero=>rw[σ (by simpa using h)];rfl
   | succ k =>
     rw[AY,rN,gY,dR] at hall;rw[ν hall.1,AY];congr 1
     exact ih (by simpa using hk) hall.2 (by simpa using h)
theorem aeB {l:List UInt8} (hall:l.all (fun c=>decide (c≠47))=true):iJ l=l:=by
 induction l with
 | nil=>rfl
 | cons b r ih =>
   rw[rN,gY,dR] at hall;rw[Ob,ν hall.1,ih hall.2]
theorem Yp (s:ByteArray) (hs:s.size≤1000000) (w:World) :
 ς 199 #[.string s] w fun e w'=>e=ώ (Ev s)∧υ w w':=by
 have hlen:s.data.toList.length=s.size:=by simp
 obtain⟨C,hC⟩:=κ (Ev s);have hno:(iJ s.data.toList).length<s.data.toList.length∧nx (iJ s.data.toList)=true∧sY (s.data.toList.drop ((iJ s.data.toList).length+1))=true∨C=.tuple #[.string ⟨#[]⟩,.string ⟨#[]⟩,.bool false]:=by
  by_cases h:(iJ s.data.toList).length<s.data.toList.length∧nx (iJ s.data.toList)=true∧sY (s.data.toList.drop ((iJ s.data.toList).length+1))=true
  ·exact .inl h
  ·right
   rw[← hC];unfold Ev mI;rw[ν h];rfl
 rw[hC];have HB:=aj hC hlen hno;clear hC hlen hno;go_enter func199,ntmps199
 go_wp2_with fail
 go_loop [5] (fun i=>∃k:Nat,k≤s.size∧i=ι (k:Int)∧(s.data.toList.take k).all (fun c=>decide (c≠47))=true) (fun i=>s.size - (intOf i).toNat)
 case atStart=>exact⟨0,oM,rfl,rfl⟩
 case round =>
  obtain⟨k,hk,rfl,hall⟩:=hrel;have HA:=δ hall;clear hall;by_cases hlt:k<s.size
  ·have j1:(k:Int)<(s.size:Int):=oM
   have mN:=pV s k hlt;have e47:((s[k].toNat:Int) == 47)=decide (s[k]=47):=by
    rw[vH,kV,dR];exact⟨fun h=>ud.1 (by have:(47:UInt8).toNat=47:=rfl;omega),fun h=>by rw[h];rfl⟩
   by_cases g2:s[k]=47
   ·rw[fe g2] at e47
    have hlk:k<s.data.toList.length:=by rw[HB.out.2.1];exact hlt
    have rW:s.data.toList[k]=47:=by
     rw[bJ,bD hlk] at mN;rw[← g2,← mN];rfl
    have hh:=agl hlk HA.out rW;have EO:(iJ s.data.toList).length=k:=by rw[hh,fF];omega
    have ea:(s.extract 0 k).data.toList=iJ s.data.toList:=by rw[hh];simp
    have eb:(s.extract (k+1) s.size).data.toList=s.data.toList.drop (k+1):=by
     rw[sN,bS];exact dH (by rw[gM,HB.out.2.1];omega)
    have Ng:(s.extract 0 k)=str (iJ s.data.toList):=by rw[← ea,zn]
    have hbk:(s.extract (k+1) s.size)=str (s.data.toList.drop (k+1)):=by rw[← eb,zn]
    have hnm:=fun W=>WW (s.extract 0 k) (by rw[Ng,bf,EO];omega) W
    have yR:=fun W=>aiL (s.extract (k+1) s.size) (by rw[hbk,bf,gM,HB.out.2.1];omega) W
    rw[ea] at hnm;rw[eb] at yR;obtain⟨N,hN⟩:=κ (nx (iJ s.data.toList));obtain⟨K,hK⟩:=κ (sY (s.data.toList.drop (k+1)));rw[hN] at hnm;rw[hK] at yR;have Nh:=HB.out.1;unfold Ev mI at Nh;rw[EO,hN,hK,HB.out.2.1] at Nh;obtain⟨a,ha⟩:=κ (s.extract 0 k);obtain⟨b,hb⟩:=κ (s.extract (k+1) s.size);rw[ha] at hnm Ng;rw[hb] at yR hbk;have Aq:=δ hnm;have CP:=δ yR;have hwk:IntKind.i64.wrap ((k:Int)+1)=((k+1:Nat):Int):=by rw[bX _ oM];omega
    have HX:=aj Nh Ng hbk;clear mN hlk rW hh EO ea eb Ng hbk hnm yR hN hK Nh g2;cases N
    ·have JF:C=.tuple #[.string ⟨#[]⟩,.string ⟨#[]⟩,.bool false]:=by rw[← HX.out.1,ν sM];rfl
     subst JF;go_wp2_with (first|(go_at_call 144;refine(Aq.out _).mono ?_;rintro e w1 ⟨rfl,rfl⟩));go_ret3
     exact⟨rfl,ζ.refl _ _⟩
    ·cases K
     ·have JF:C=.tuple #[.string ⟨#[]⟩,.string ⟨#[]⟩,.bool false]:=by rw[← HX.out.1,ν sM];rfl
      subst JF;go_wp2_with (first|(go_at_call 144;refine(Aq.out _).mono ?_;rintro e w1 ⟨rfl,rfl⟩)|(go_at_call 242;refine(CP.out _).mono ?_;rintro e w1 ⟨rfl,rfl⟩));go_ret3
      exact⟨rfl,ζ.refl _ _⟩
     ·have JF:C=.tuple #[.string a,.string b,.bool true]:=by rw[← HX.out.1,σ ⟨hlt,rfl,rfl⟩,HX.out.2.1,HX.out.2.2]
      subst JF;go_wp2_with (first|(go_at_call 144;refine(Aq.out _).mono ?_;rintro e w1 ⟨rfl,rfl⟩)|(go_at_call 242;refine(CP.out _).mono ?_;rintro e w1 ⟨rfl,rfl⟩));go_quiet (fail)
      go_wp2_with fail
      go_ret3
      exact⟨rfl,(ζ.refl _ _).drewN _⟩
   ·rw[gN g2] at e47
    have HL:=δ (Ke (p:=fun c=>decide (c≠47)) (by rw[HB.out.2.1];exact hlt) HA.out (by rw[mN];simp[g2]))
    clear mN g2;exact LD
  ·obtain rfl:k=s.size:=oM
   have ha:=HA.out;rw[dH (by rw[HB.out.2.1];omega)] at ha;have hhp:=aeB ha;obtain rfl:C=.tuple #[.string ⟨#[]⟩,.string ⟨#[]⟩,.bool false]:=by
    rcases HB.out.2.2 with h | h
    ·rw[hhp] at h
     exact absurd h.1 (J3 _)
    ·exact h
   clear ha hhp;go_wp2_with fail
   go_ret3
   exact⟨rfl,ζ.refl _ _⟩
end
end Go.Proofs.YtbhjgfibhegddaaGreat
