/-
  Parts of the proof of VaultPlays: VatU, VatV, VatW, VatX, VatY, OpnP, OpnA, OpnB.
-/
import Derived.Test.YtbhjgfibhegddaaGreatQVaultPlays18
set_option maxRecDepth 100000
set_option maxHeartbeats 16000000
namespace Go.Proofs.YtbhjgfibhegddaaGreat
abbrev aa':=@List.take_add_one
open Tryz
section
open Go Go.RowKit
theorem Dk.af7 {d:Dk} (h:d.sync.2=0):d.sync.1.pend=0:=by
 unfold Dk.sync at h ⊢;split at h
 ·simp at h
 ·rename_i ho
  rw[ν ho];split at h
  ·rename_i hb
   rw[σ hb];exact Dk.FX _
  ·simp at h
theorem af8 {d:Dk} {k:Kp} {t:List UInt8} (h:(eu d k t).2.2=0):(eu d k t).1.pend=0:=by
 unfold eu at h ⊢;split at h
 ·simp at h
 rename_i h1
 rw[ν h1];split at h
 ·simp at h
 rename_i h2
 rw[ν h2];split at h
 ·simp at h
 rename_i h3
 rw[ν h3];split at h
 ·rename_i h4;exact absurd h h4
 rename_i h4
 rw[ν h4];split at h
 ·rename_i h5;exact absurd h h5
 rename_i h5
 rw[ν h5];exact Dk.af7 (by simpa using h5)
structure aiS (D:Dk) (V W:aV) (s:cY):Prop where
 pend:D.pend=0
 S:W.S=V.S
 at_:W.at_=V.at_
 θ:W.θ=V.θ
 rows:W.rows=V.rows
 prev:W.prev=V.prev
 st:W.st=s
 lg:W.lg=V.lg
 cur:W.cur=V.cur
 n:W.n=V.n+1
theorem ahj {d:Dk} {V:aV} {s:cY} (h:(ez d V s).2.2=0):aiS (ez d V s).1 V (ez d V s).2.1 s:=by
 unfold ez at h ⊢;split at h
 ·rename_i h1;exact absurd h h1
 ·rename_i h1
  rw[ν h1];exact⟨af8 (by simpa using h1),rfl,rfl,rfl,rfl,rfl,rfl,rfl,rfl,rfl⟩
structure ahk (D:Dk) (V W:aV) (m:MetaM) (x:List ai) (a ep:Int):Prop where
 pend:D.pend=0
 S:W.S=x
 at_:W.at_=a
 θ:W.θ=ep
 rows:W.rows=[]
 st:W.st=V.st.whole m a ep
 lg:wu W.lg
 cur:W.cur=V.cur
 n:W.n=V.n+2
theorem aew {d:Dk} {V:aV} {m:MetaM} {x:List ai} {at_ ep:Int} (ri:V.st.log<1000000) (h:(iU d V m x at_ ep).2.2=0):ahk (iU d V m x at_ ep).1 V (iU d V m x at_ ep).2.1 m x at_ ep:=by
 unfold iU at h ⊢;simp only at h ⊢
 split at h
 ·rename_i h1;exact absurd h h1
 rename_i h1
 rw[ν h1];split at h
 ·rename_i h2;exact absurd h h2
 rename_i h2
 rw[ν h2];have hok:=ahj (show _=(0:Int) by simpa using h2);cases hg:nE (ez (gP d (V.st.whole m at_ ep).slot (V.wrap oZ (ke x))).1 V.next (V.st.whole m at_ ep)).1 20 320 (V.st.whole m at_ ep).log with
 | none=>rw[hg] at h;simp at h
 | some g =>
   simp only
   exact⟨hok.pend,rfl,rfl,rfl,rfl,hok.st,VT oM oM (by show V.st.log+1<_;omega) hg,hok.cur,hok.n⟩
section
variable {w w':World} {p v:Nat} {d d':Dk} {V V':aV} {o o':cR}
theorem aex {d:Dk} {V:aV} {b:bL} {X:List ai} (h:V.S=X):((jB d V b).1,(if (jB d V b).2.2=0 then { (jB d V b).2.1 with S:=cJ X b.ops } else (jB d V b).2.1),(jB d V b).2.2)=jB d V b:=by
 subst h;unfold jB;simp only
 obtain⟨R,hR⟩:=κ (lR d V.lg (str (V.wrap oq (lu b))));rw[hR];by_cases h1:R.2.2=0
 ·simp[h1,aV.does,aV.next]
 ·simp[h1]
theorem aR.Ca (h:aR w p v d V o) (hu:ζ (· = v) w w') {X:List ai} {m2 eH:Nat} (hB:η w' v 117 (eX V p { o with m:=m2 })) (hm:fY w' m2 eH X) (h1:eH ∉ o.F) (h2:eH≠o.rk) :
 aR w' p v d { V with S:=X } { o with m:=m2,mb:=eH } ∧ di w w' v o o:=by
 have hz:∀q,q=v→o.mut v q:=fun q e=>.inl e
 exact⟨h.BA hu rfl rfl rfl rfl rfl hB rfl rfl rfl rfl (h.log.ε hu (h.Eb (j:=3) dC rfl)) (h.recs.ε hu (fun q e=>h.Eb (j:=4) dC e)) h.sep hm h1 h2 (h.rows.ε hu (fun q e=>h.Eb (j:=6) dC e)) h.qD (h.Bi hu hz) (h.Bn hu hz),
  di.CX (hu.mono fun q e=>.inl (hz q e)) _ rfl (fun q e=>.inl e) (.inl rfl) (.inl rfl) (fun q e=>.inl e) (fun q e=>.inl e) (fun q e=>.inl e)⟩
theorem aey (h:aR w p v d V o) (hst:lT V.st) (hf:BB d V) (hn:V.n+3<4611686018427387904) (hp:d.pend+600<1000000) (hl:d.af.length=500) (ri:V.st.log<1000000) (hg:wu V.lg) (hr:V.rows.length≤24) (hat:pT V.at_ V.θ)
 (b:bL) {ty:TypeId} {ov:Value} (ju:au w ty 3 ov (b.ops.map bU)) (Ye:∀W,ζ (o.mut v) w W→au W ty 3 ov (b.ops.map bU)) (Fb:qh b.ops) (jV:b.θ≤9223372036854775807) :
 ς 15 #[.pointer (some ⟨v,0,none⟩),.agg #[ι b.index,ι b.θ,ov]] w fun e w'=>e=ώ (ι (zg d V b).2.2)∧∃o',aR w' p v (zg d V b).1 (zg d V b).2.1 o'∧di w w' v o o':=by
 obtain⟨A,cap,ob,oo,Hj,L9,Hl,Hp,Hu⟩:=ju.ops;obtain⟨c,hc⟩:=κ w.heap.size;have hone:=ju.one;have H:=δ (And.intro h (And.intro hst (And.intro hf (And.intro hn (And.intro hp (And.intro hl (And.intro ri (And.intro hg (And.intro hr hat)))))))));have HV:=δ (And.intro ju (And.intro Hj (And.intro L9 (And.intro Hl (And.intro Hp (And.intro Hu (And.intro Fb (And.intro jV hone))))))));have HC:=δ hc;have Yf:=δ Ye;clear h Ye hst hf hn hp hl ri hg hr hat ju Hj L9 Hl Hp Hu Fb jV hc hone;go_enter func15,ntmps15
 go_upto_region 1 with fail
 rw[HC.out];generalize hw1:World.alloc _ _=w1;have aM:η w1 c 35 #[ι b.index,ι b.θ,ov]:=by rw[← hw1,← HC.out];exact η.new w _ _
 have ax:υ w w1:=by rw[← hw1];exact(ζ.refl _ w).alloc _
 have H1:=aj aM ax (H.out.1.still ax);have HO:=δ (Ls (H.out.1.still ax));clear aM ax hw1;have sd:zg d V b=if kq d V then (d,{ V with down:=true },14) else if d_ b.index b.θ b.ops≠0 then (d,V,d_ b.index b.θ b.ops) else if b.index≠V.at_+1∨b.θ<V.θ then (d,V,1) else
  if fW V.S b.ops≠0 then (d,V,fW V.S b.ops) else
  if 24≤V.rows.length then (if (iU d V V.st.m V.S V.at_ V.θ).2.2≠0 then iU d V V.st.m V.S V.at_ V.θ else
   ((jB (iU d V V.st.m V.S V.at_ V.θ).1 (iU d V V.st.m V.S V.at_ V.θ).2.1 b).1,if (jB (iU d V V.st.m V.S V.at_ V.θ).1 (iU d V V.st.m V.S V.at_ V.θ).2.1 b).2.2=0 then { (jB (iU d V V.st.m V.S V.at_ V.θ).1 (iU d V V.st.m V.S V.at_ V.θ).2.1 b).2.1 with S:=cJ V.S b.ops } else (jB (iU d V V.st.m V.S V.at_ V.θ).1 (iU d V V.st.m V.S V.at_ V.θ).2.1 b).2.1,(jB (iU d V V.st.m V.S V.at_ V.θ).1 (iU d V V.st.m V.S V.at_ V.θ).2.1 b).2.2))
  else jB d V b:=rfl
 have HS:=δ sd;clear sd;have tG:=δ (di.mk (o:=o) (o':=o) (v:=v) (H1.out.2.1.mono φ) (fun q e=>.inl e));cases hoff:kq d V
 ·rw[hoff] at HS HO
  simp only[oG,lK,Un] at HO;clear hoff;by_cases hE:d_ b.index b.θ b.ops=0
  ·have HE := δ hE
   obtain⟨b1,b2,b3,b4,b5⟩:=sP hE;have Mq:=cx b1 b2 b3 b4 b5;obtain⟨ni,hni⟩:∃n:Nat,b.index=n:=⟨b.index.toNat,oM⟩;obtain⟨ne,hne⟩:∃n:Nat,b.θ=n:=⟨b.θ.toNat,oM⟩;have hby:=adv (w:=w1) (A:=A) (cap:=cap) (b:=ob) (off:=oo) (l:=b.ops) (i:=ni) (ep:=ne) HV.out.2.2.2.2.1 (fun w' hu=>HV.out.2.2.2.2.2.1 w' (fun _=>False) (H1.out.2.1.then hu (fun _ e=>.inl e)) (fun _ _ e=>e)) HV.out.2.2.2.2.2.2.1 (oN HV.out.2.2.2.2.2.2.2.1) (by rw[← hni,← hne];exact hE);have jt:xQ ni ne b.ops=lu b:=by unfold lu;rw[hni,hne];rfl
   rw[← HV.out.2.1,← hni,← hne,jt] at hby;have kN:=δ hby;clear hE b1 b2 b3 b4 b5 hby jt hni hne;go_upto_region 7 with (first
    |(go_at_call 53;refine HO.out.mono ?_;rintro e w2 ⟨rfl,-,-,aH⟩;subst aH)
    |(refine fV _ c H1.out.1 underlying35 ?_)
    |(go_at_call 54;refine kN.out.mono ?_;rintro e w3 ⟨rfl,χ⟩;have H3:=δ χ;clear χ))
   have h3:=H1.out.2.2.still H3.out;have aA:=H1.out.1.ε H3.out (fun e=>e);have Hf:=H1.out.2.1.then H3.out (fun _ e=>.inl e);have K3:=aD h3 aA Hf (tG.out.still H3.out);have cb0:w3.cell? ⟨c,0,none⟩=some (ι b.index):=aA.cell 0;have cb1:w3.cell? ⟨c,1,none⟩=some (ι b.θ):=aA.cell 1;have cb2:w3.cell? ⟨c,2,none⟩=some ov:=aA.cell 2;have cv0:w3.cell? ⟨v,0,none⟩=some (.pointer (some ⟨o.m,0,none⟩)):=h3.blk.cell 0;have cv1:w3.cell? ⟨v,1,none⟩=some (ι V.at_):=h3.blk.cell 1;have cv2:w3.cell? ⟨v,2,none⟩=some (ι V.θ):=h3.blk.cell 2;have wa:IntKind.i64.wrap (V.at_+1)=V.at_+1:=bX _ (oO H.out.2.2.2.2.2.2.2.2.2.Su H.out.2.2.2.2.2.2.2.2.2.Sv);clear h3 aA Hf;by_cases hi:b.index=V.at_+1
   ·have bx : (b.index != V.at_+1)=false:=by simp[hi]
    have HI:=δ hi;clear hi;by_cases he:b.θ<V.θ
    ·have he0:decide (b.θ<V.θ)=true:=by simpa using he
     have AH:=δ he;clear he;go_quiet (fail)
     go_wp2_with fail
     go_ret
     rw[HS.out,ν sM,ν (by rw[HE.out];simp),σ (.inr AH.out)]
     exact⟨rfl,o,K3.out.1.still ((ζ.refl _ _).drewN _),K3.out.2.2.2.still ((ζ.refl _ _).drewN _)⟩
    ·have he0 : decide (b.θ<V.θ)=false:=by simpa using he
     have AH:=δ he;clear he;have EA:=δ (fun n=>WT (K3.out.1.still ((ζ.refl (fun _=>False) w3).drewN n)).map);have iD:=δ (fun (W:World) (m2 eH:Nat) (hU:υ w3 W) (hm:fY W m2 eH V.S)=>X4 hm (A:=A) (cap:=cap) (b:=ob) (off:=oo) (l:=b.ops) HV.out.2.2.2.2.1 (fun w' hu=>HV.out.2.2.2.2.2.1 w' (fun _=>False) ((K3.out.2.2.1.then hU (fun _ e=>.inl e)).then hu (fun _ e=>.inl e)) (fun _ _ e=>e)) HV.out.2.2.2.2.2.2.1 HV.out.2.2.2.1);rw[← HV.out.2.1] at iD;have om:(V.rows.length:Int)=(V.rows.length:Int):=rfl;by_cases hD:fW V.S b.ops=0
     ·have Fc:=δ hD
      rw[hD] at iD;clear hD om;go_quiet (fail)
      go_upto_region 13 with (first
       |(go_at_call 55;refine(EA.out _).mono ?_;rintro e w5 ⟨m2,eH,rfl,tY,zJ,zK,av⟩
         have ajD:w5.cell? ⟨c,2,none⟩=some ov:=(K3.out.2.1.ε (((ζ.refl (fun _=>False) w3).drewN _).then av (fun _ e=>.inl e)) (fun e=>e)).cell 2;have H5:=aD tY zJ zK (((ζ.refl (fun _=>False) w3).drewN _).then av (fun _ e=>.inl e));clear tY zJ zK av)
       |(go_at_call 36;refine(iD.out _ _ _ H5.out.2.2.2 H5.out.1).mono ?_;rintro e w6 ⟨rfl,Jr⟩
         obtain⟨yM,C7,Z7,az⟩:=Jr.yes Fc.out;have H6:=aj C7 Z7 az;clear Jr C7 Z7 az))
      obtain⟨RA,mK,rK,-,-⟩:=K3.out.1.rows.shape;have wF:υ w3 w6:=H5.out.2.2.2.then H6.out.2.2 (fun q e=>.inr (by have e2:q=m2:=e;have h1:=H5.out.2.1;have e3:(w3.drewN nq).heap.size=w3.heap.size:=rfl;omega));have h6:=K3.out.1.still wF;have cv3:w6.cell? ⟨v,3,none⟩=some (.slice RA V.rows.length mK):=by rw[← rK];exact h6.blk.cell 3
      have hq6:c<w6.heap.size∧m2<w6.heap.size∧yM<w6.heap.size:=⟨(K3.out.2.1.ε wF (fun e=>e)).lt,H6.out.1.lt.1,H6.out.1.lt.2⟩;have Jp:w.heap.size≤c∧w.heap.size≤m2∧w.heap.size≤yM:=by
       have h1:=HC.out;have h2:=H5.out.2.1;have h3:=H6.out.2.1;have h4:=K3.out.2.2.1.size;have h5:=H5.out.2.2.2.size;have e3:(w3.drewN nq).heap.size=w3.heap.size:=rfl;omega
      have kF:=cx h6 wF (K3.out.2.1.ε wF (fun e=>e)) hq6 Jp;have Z8:au w6 ty 3 ov (b.ops.map bU):=(HV.out.1.still K3.out.2.2.1).still wF;have akm:=δ Z8;clear rK wF h6 hq6 Jp Z8;by_cases h24:24≤V.rows.length
      ·have Hv:(24:Int)≤(V.rows.length:Int):=oM
       obtain⟨D5,Js⟩:∃D,dy V.st.m o.mv=D:=⟨_,rfl⟩;have Z9:((eX V p o).toList.drop 9).take 5=D5.toList:=by rw[← Js];rfl
       have Z_:D5.size=5:=by rw[← Js];rfl
       have S6:=aj Js Z9 Z_;have aaa:=δ h24;clear h24 Js Z9 Z_;go_upto_region 14 with fail
       have Fe:=kF.out.1.still (ζ.refl (fun _=>False) w6).drew;have Hg:lT (V.st.whole V.st.m V.at_ V.θ):=by
        have hst:=H.out.2.1;refine⟨hst.right,H.out.2.2.2.2.2.2.2.2.2,?_,?_,hst.key,hst.μ,hst.mn⟩
        ·show 1+V.st.slot % 2≤2;omega
        ·show V.st.log+1≤1000000
         have:=H.out.2.2.2.2.2.2.1;omega
       have Jt:=ahi Fe V.st.m Fe.eD V.S Fe.map Fe.qb Fe.tX (.inl rfl) V.at_ V.θ Hg H.out.2.2.1 (oN H.out.2.2.2.1) (oN H.out.2.2.2.2.1) H.out.2.2.2.2.2.1 H.out.2.2.2.2.2.2.1 H.out.2.1.slot;have L_:=fun e=>aew (d:=d) (V:=V) (m:=V.st.m) (x:=V.S) (at_:=V.at_) (ep:=V.θ) H.out.2.2.2.2.2.2.1 e
       rw[S6.out.1] at Jt;obtain⟨Y,hY⟩:=κ (iU d V V.st.m V.S V.at_ V.θ);rw[hY] at Jt L_ HS;obtain⟨E1,lH⟩:∃E,Y.2.2=E:=⟨_,rfl⟩;rw[lH] at Jt L_ HS;have S7:=aj Jt L_ lH;clear Jt L_ lH hY Hg Fe;refine dB ?_;refine dK (S:=fun w'=>η w' v 117 (eX V p o)) (T:=fun i=>i == 21 || i == 22) kR ?_;have aC:η w6.drew v 117 (eX V p o):=kF.out.1.blk.drew;refine ξ 0 ?_;refine ξ 1 ?_;refine ξ 2 ?_;refine ξ 3 ?_;refine ξ 4 ?_;refine iq 5 (.agg D5) (Bc rfl (by rfl) _ _ rfl v 9 (by rfl) _ _ D5.toList _ (fun w' hSw=>hSw) (nt S6.out.2.1) underlying50 rfl (by rw[pM,S6.out.2.2];kernel_rfl)) ?_
       refine ξ 6 ?_;refine ξ 7 ?_;refine ξ 8 ?_;refine ξ 9 ?_;refine aQ 10 (fun w' hSw=>show w'.cell? ⟨v,0,none⟩=some (.pointer (some ⟨o.m,0,none⟩)) from hSw.cell 0) ?_;refine ξ 11 ?_;refine ξ 12 ?_;refine ξ 13 ?_;refine ξ 14 ?_;refine aQ 15 (fun w' hSw=>show w'.cell? ⟨v,1,none⟩=some (ι V.at_) from hSw.cell 1) ?_;refine ξ 16 ?_;refine ξ 17 ?_;refine ξ 18 ?_;refine ξ 19 ?_;refine aQ 20 (fun w' hSw=>show w'.cell? ⟨v,2,none⟩=some (ι V.θ) from hSw.cell 2) ?_;refine kO 21 (fun KK ο=>?_);go_simp
       refine S7.out.1.mono ?_;rintro e w7 ⟨rfl,o7,h7,k7⟩;refine ο.out _ _ ?_;clear ο;have H7:=τ h7 k7;clear h7 k7;refine kO 22 (fun KK ο=>?_);go_simp
       refine ο.out _ _ ?_;clear ο;refine dF ?_;refine cZ ?_;clear aC;by_cases hz:E1=0
       ·subst hz
        have hok:=S7.out.2.1 rfl;have Ju:∀q,w.heap.size≤q→¬o.mut v q:=fun q h1 e=>by obtain⟨i,hi,he⟩:=cR.PW (o:=o) e;have:=H.out.1.lt hi he;omega
        have HT:=δ (show aR w7 p v Y.1 Y.2.1 o7∧di w w7 v o o7∧∀q,w.heap.size≤q→q<w6.heap.size→¬o7.mut v q from ⟨H7.out.1,((K3.out.2.2.2.still kF.out.2.1).still (ζ.refl (fun _=>False) w6).drew).trans H7.out.2,fun q h1 h2 e=>(H7.out.2.sub q e).elim (Ju q h1) (fun e=>by have e3:w6.drew.heap.size=w6.heap.size:=rfl;omega)⟩);have uK:=δ (show zg d V b=jB Y.1 Y.2.1 b by rw[HS.out,ν sM,ν (by rw[HE.out];simp),ν (by have h1:=HI.out;have h2:=AH.out;omega),ν (by rw[Fc.out];simp),σ aaa.out,ν sM,aex hok.S])
        have HN:=δ (show Y.2.1.cur≤1048576∧Y.2.1.st.μ<4294967296∧Y.2.1.n<4611686018427387904∧wu Y.2.1.lg∧Y.1.pend+40<1000000∧Y.2.1.rows.length≤1000∧Y.2.1.S=V.S from ⟨by rw[hok.cur];exact H.out.2.2.1.cur,by rw[hok.st];show V.st.μ<_;have:=H.out.2.1.μ;omega,by rw[hok.n];have:=H.out.2.2.2.1;omega,hok.lg,by rw[hok.pend];omega,by rw[hok.rows];simp,hok.S⟩)
        have S8:=δ (show w6.heap.size≤w7.heap.size from H7.out.2.ε.size);have Jv:=τ (kF.out.2.2.1.drew.ε H7.out.2.ε (Ju c kF.out.2.2.2.2.1)) kF.out.2.2.2.2.1;have vp:=aD ((H6.out.1.still (ζ.refl (fun _=>False) w6).drew).ε H7.out.2.ε (Ju m2 kF.out.2.2.2.2.2.1) (Ju yM kF.out.2.2.2.2.2.2)) (bQ 0) kF.out.2.2.2.2.2.1 kF.out.2.2.2.2.2.2;clear hok Ju;have C8:∃X,(Y.2.1).wrap oq (lu b)=X:=⟨_,rfl⟩;obtain⟨X,hX⟩:=C8;have dO:=KO HE.out HV.out.2.2.2.2.2.2.2.1;have mh:(str X).size=X.length:=bf X;have lJ:qT (kf (str jI).data.toList (Y.2.1).cur) (Y.2.1).cur (Y.2.1).st.μ (Y.2.1).n (str oq).data.toList (str (lu b)).data.toList=X:=by rw[← hX,bS,bS,bS];rfl
        have hwr:=K1 HT.out.1.ring (by rw[bf];decide) HN.out.1 HN.out.2.1 HN.out.2.2.1 (str oq) (str (lu b)) dC (by rw[bf];omega);rw[lJ] at hwr;have S9:=δ hwr;have c8:(w7).cell? ⟨v,8,none⟩=some (.pointer (some ⟨(o7).rb,0,none⟩)):=HT.out.1.blk.cell 8;obtain⟨R,hR⟩:=κ (lR Y.1 (Y.2.1).lg (str X));obtain⟨E,qF⟩:=κ R.2.2;have gp:=aj hR qF hX;clear hX dO mh lJ hwr hR qF;go_upto_region 20 with (first
         |(go_at_call 57;refine S9.out.mono ?_;rintro e wa ⟨rfl,es,AK⟩
           have ha:=HT.out.1.xM AK;have c7:wa.cell? ⟨v,7,none⟩=some (.pointer (some ⟨(o7).lb,0,none⟩)):=ha.1.blk.cell 7;have iY:=WY ha.1.bO ha.1.log ha.1.recs ha.1.sep (str X) HN.out.2.2.2.1 HN.out.2.2.2.2.1;have HA:=aj ha.1 ha.2 iY;clear ha iY AK))
        by_cases h0:E=0
        ·have rq:=δ h0
         go_upto_region 23 with (first
          |(go_at_call 58;refine HA.out.2.2.mono ?_;rintro e wb ⟨rfl,vq⟩
            obtain⟨F',gK,hb,kb⟩:=HA.out.1.L6 vq;rw[show (lR Y.1 (Y.2.1).lg (str X)).2.2=0 by rw[gp.out.1,gp.out.2.1];exact rq.out];have ES:=δ hb.blk;have HB:=τ hb kb;clear hb kb vq))
         have hkk:=HA.out.2.1.trans HB.out.2;have hno:∀q,w.heap.size≤q→q<w6.heap.size→¬cR.mut { (o7) with ay:=es,F:=F',lv:=gK } v q:=fun q h1 h2 e=>(hkk.sub q e).elim (HT.out.2.2 q h1 h2) (fun e=>by have:=S8.out;omega)
         have C0:=τ hno hkk;clear hno hkk;go_upto_region 24 with (first
          |(refine gw rfl _ _ _ rfl v 0 (.pointer (some ⟨m2,0,none⟩)) rfl rfl _ _ ES.out (by simp[eX]) rfl kR ?_
            intro wc kQ mU yx))
         have hkk:=C0.out.2;have hno:=C0.out.1;have tL:ζ ((o7).mut v) (w7) wc:=hkk.ε.then mU (fun q e=>.inl (.inl e));have hmap:=vp.out.1.ε tL (HT.out.2.2 _ vp.out.2.2.1 kF.out.2.2.2.1.2.1) (HT.out.2.2 _ vp.out.2.2.2 kF.out.2.2.2.1.2.2);have hnb:=hno yM vp.out.2.2.2 kF.out.2.2.2.1.2.2;have C9:=HB.out.1.Ca (X:=cJ V.S b.ops) (m2:=m2) (eH:=yM) mU kQ hmap (fun e=>hnb (.inr (.inl e))) (fun e=>hnb (.inr (.inr (.inr (.inr (.inr (.inl (.inr (.inl e)))))))));have Hw:au wc ty 3 ov (b.ops.map bU):=Yf.out wc (HT.out.2.1.ε.then tL HT.out.2.1.sub);have Hx:=Jv.out.1.ε tL (HT.out.2.2 _ Jv.out.2 kF.out.2.2.2.1.1);have jF:=Xz C9.1 b Hw (oN Mq.out.2.2.2.1) HN.out.2.2.2.2.2.1;have Ql:=δ jF;have Rh:=δ Hx;have S_:=δ ((((HT.out.2.1.trans HA.out.2.1).trans HB.out.2).trans C9.2).re (m:=m2) (mb:=yM) (.inr vp.out.2.2.2));clear hkk hno tL hmap hnb C9 Hw Hx jF kQ mU yx;go_wp2_with (first
          |(refine fV _ c Rh.out underlying35 ?_)
          |(go_at_call 60;refine Ql.out.mono ?_;rintro e w9 ⟨rfl,o9,h9,k9⟩;have H9:=τ h9 k9;clear h9 k9))
         go_ret
         have C_:jB Y.1 (Y.2.1) b=(R.1,({ (Y.2.1).next with lg:=R.2.1 } : aV).does b,0):=by
          unfold jB;simp only
          rw[gp.out.2.2,gp.out.1,gp.out.2.1,ν (by rw[rq.out];simp)]
         have h9:=H9.out.1;rw[gp.out.1] at h9;have hds:({ (Y.2.1).next with lg:=R.2.1 } : aV).does b = { (Y.2.1).next with lg:=R.2.1,S:=cJ V.S b.ops,rows:=(Y.2.1).rows++[b],at_:=b.index,θ:=b.θ } := by
          unfold aV.does aV.next;first
           |(simp only;done)
           |(simp only;rw[HN.out.2.2.2.2.2.2])
         rw[uK.out,C_,hds];exact⟨rfl,_,h9,S_.out.trans H9.out.2⟩
        ·have eA:(E != 0)=true:=by simpa using h0
         have H0:=δ h0;clear h0;go_wp2_with (first
          |(go_at_call 58;refine HA.out.2.2.mono ?_;rintro e wb ⟨rfl,vq⟩
            obtain⟨F',gK,hb,kb⟩:=HA.out.1.L6 vq;rw[show (lR Y.1 (Y.2.1).lg (str X)).2.2=E by rw[gp.out.1,gp.out.2.1]];have yL:=δ (Gx hb E);have HB:=δ kb;clear hb kb vq)
          |(go_at_call 59;refine yL.out.mono ?_;rintro e w9 ⟨rfl,h9,k9⟩;have H9:=τ h9 k9;clear h9 k9))
         go_ret
         have C_:jB Y.1 (Y.2.1) b=(R.1,({ (Y.2.1).next with lg:=R.2.1 } : aV).told E,E):=by
          unfold jB;simp only
          rw[gp.out.2.2,gp.out.1,gp.out.2.1,σ H0.out]
         have h9:=H9.out.1;rw[gp.out.1] at h9;rw[uK.out,C_];exact⟨rfl,_,h9,((HT.out.2.1.trans HA.out.2.1).trans HB.out).trans H9.out.2⟩
       ·have eA:(E1 != 0)=true:=by simpa using hz
        have H0:=δ hz;clear hz;go_wp2_with fail
        go_ret
        rw[HS.out,ν sM,ν (by rw[HE.out];simp),ν (by have h1:=HI.out;have h2:=AH.out;omega),ν (by rw[Fc.out];simp),σ aaa.out,σ H0.out,S7.out.2.2]
        exact⟨rfl,o7,H7.out.1,((K3.out.2.2.2.still kF.out.2.1).still (ζ.refl (fun _=>False) w6).drew).trans H7.out.2⟩
      ·have Hv:¬(24:Int)≤(V.rows.length:Int):=oM
       have HT:=δ (show aR w6 p v d V o∧di w w6 v o o∧∀q,w.heap.size≤q→q<w6.heap.size→¬o.mut v q from ⟨kF.out.1,K3.out.2.2.2.still kF.out.2.1,fun q h1 h2 e=>by obtain⟨i,hi,he⟩:=cR.PW (o:=o) e;have:=H.out.1.lt hi he;omega⟩);have uK:=δ (show zg d V b=jB d V b by rw[HS.out,ν sM,ν (by rw[HE.out];simp),ν (by have h1:=HI.out;have h2:=AH.out;omega),ν (by rw[Fc.out];simp),ν h24])
       have S8:=δ (bQ w6.heap.size);have Jv:=τ kF.out.2.2.1 kF.out.2.2.2.2.1;have vp:=aD H6.out.1 (bQ 0) kF.out.2.2.2.2.2.1 kF.out.2.2.2.2.2.2;have HN:=δ (show V.cur≤1048576∧V.st.μ<4294967296∧V.n<4611686018427387904∧wu V.lg∧d.pend+40<1000000∧V.rows.length≤1000∧V.S=V.S from ⟨H.out.2.2.1.cur,by have:=H.out.2.1.μ;omega,H.out.2.2.1.n,H.out.2.2.2.2.2.2.2.1,by have:=H.out.2.2.2.2.1;omega,by have:=H.out.2.2.2.2.2.2.2.2.1;omega,rfl⟩);clear h24;have C8:∃X,(V).wrap oq (lu b)=X:=⟨_,rfl⟩;obtain⟨X,hX⟩:=C8;have dO:=KO HE.out HV.out.2.2.2.2.2.2.2.1;have mh:(str X).size=X.length:=bf X;have lJ:qT (kf (str jI).data.toList (V).cur) (V).cur (V).st.μ (V).n (str oq).data.toList (str (lu b)).data.toList=X:=by rw[← hX,bS,bS,bS];rfl
       have hwr:=K1 HT.out.1.ring (by rw[bf];decide) HN.out.1 HN.out.2.1 HN.out.2.2.1 (str oq) (str (lu b)) dC (by rw[bf];omega);rw[lJ] at hwr;have S9:=δ hwr;have c8:(w6).cell? ⟨v,8,none⟩=some (.pointer (some ⟨(o).rb,0,none⟩)):=HT.out.1.blk.cell 8;obtain⟨R,hR⟩:=κ (lR d (V).lg (str X));obtain⟨E,qF⟩:=κ R.2.2;have gp:=aj hR qF hX;clear hX dO mh lJ hwr hR qF;go_upto_region 20 with (first
        |(go_at_call 57;refine S9.out.mono ?_;rintro e wa ⟨rfl,es,AK⟩
          have ha:=HT.out.1.xM AK;have c7:wa.cell? ⟨v,7,none⟩=some (.pointer (some ⟨(o).lb,0,none⟩)):=ha.1.blk.cell 7;have iY:=WY ha.1.bO ha.1.log ha.1.recs ha.1.sep (str X) HN.out.2.2.2.1 HN.out.2.2.2.2.1;have HA:=aj ha.1 ha.2 iY;clear ha iY AK))
       by_cases h0:E=0
       ·have rq:=δ h0
        go_upto_region 23 with (first
         |(go_at_call 58;refine HA.out.2.2.mono ?_;rintro e wb ⟨rfl,vq⟩
           obtain⟨F',gK,hb,kb⟩:=HA.out.1.L6 vq;rw[show (lR d (V).lg (str X)).2.2=0 by rw[gp.out.1,gp.out.2.1];exact rq.out];have ES:=δ hb.blk;have HB:=τ hb kb;clear hb kb vq))
        have hkk:=HA.out.2.1.trans HB.out.2;have hno:∀q,w.heap.size≤q→q<w6.heap.size→¬cR.mut { (o) with ay:=es,F:=F',lv:=gK } v q:=fun q h1 h2 e=>(hkk.sub q e).elim (HT.out.2.2 q h1 h2) (fun e=>by have:=S8.out;omega)
        have C0:=τ hno hkk;clear hno hkk;go_upto_region 24 with (first
         |(refine gw rfl _ _ _ rfl v 0 (.pointer (some ⟨m2,0,none⟩)) rfl rfl _ _ ES.out (by simp[eX]) rfl kR ?_
           intro wc kQ mU yx))
        have hkk:=C0.out.2;have hno:=C0.out.1;have tL:ζ ((o).mut v) (w6) wc:=hkk.ε.then mU (fun q e=>.inl (.inl e));have hmap:=vp.out.1.ε tL (HT.out.2.2 _ vp.out.2.2.1 kF.out.2.2.2.1.2.1) (HT.out.2.2 _ vp.out.2.2.2 kF.out.2.2.2.1.2.2);have hnb:=hno yM vp.out.2.2.2 kF.out.2.2.2.1.2.2;have C9:=HB.out.1.Ca (X:=cJ V.S b.ops) (m2:=m2) (eH:=yM) mU kQ hmap (fun e=>hnb (.inr (.inl e))) (fun e=>hnb (.inr (.inr (.inr (.inr (.inr (.inl (.inr (.inl e)))))))));have Hw:au wc ty 3 ov (b.ops.map bU):=Yf.out wc (HT.out.2.1.ε.then tL HT.out.2.1.sub);have Hx:=Jv.out.1.ε tL (HT.out.2.2 _ Jv.out.2 kF.out.2.2.2.1.1);have jF:=Xz C9.1 b Hw (oN Mq.out.2.2.2.1) HN.out.2.2.2.2.2.1;have Ql:=δ jF;have Rh:=δ Hx;have S_:=δ ((((HT.out.2.1.trans HA.out.2.1).trans HB.out.2).trans C9.2).re (m:=m2) (mb:=yM) (.inr vp.out.2.2.2));clear hkk hno tL hmap hnb C9 Hw Hx jF kQ mU yx;go_wp2_with (first
         |(refine fV _ c Rh.out underlying35 ?_)
         |(go_at_call 60;refine Ql.out.mono ?_;rintro e w9 ⟨rfl,o9,h9,k9⟩;have H9:=τ h9 k9;clear h9 k9))
        go_ret
        have C_:jB d (V) b=(R.1,({ (V).next with lg:=R.2.1 } : aV).does b,0):=by
         unfold jB;simp only
         rw[gp.out.2.2,gp.out.1,gp.out.2.1,ν (by rw[rq.out];simp)]
        have h9:=H9.out.1;rw[gp.out.1] at h9;have hds:({ (V).next with lg:=R.2.1 } : aV).does b = { (V).next with lg:=R.2.1,S:=cJ V.S b.ops,rows:=(V).rows++[b],at_:=b.index,θ:=b.θ } := by
         unfold aV.does aV.next;first
          |(simp only;done)
          |(simp only;rw[HN.out.2.2.2.2.2.2])
        rw[uK.out,C_,hds];exact⟨rfl,_,h9,S_.out.trans H9.out.2⟩
       ·have eA:(E != 0)=true:=by simpa using h0
        have H0:=δ h0;clear h0;go_wp2_with (first
         |(go_at_call 58;refine HA.out.2.2.mono ?_;rintro e wb ⟨rfl,vq⟩
           obtain⟨F',gK,hb,kb⟩:=HA.out.1.L6 vq;rw[show (lR d (V).lg (str X)).2.2=E by rw[gp.out.1,gp.out.2.1]];have yL:=δ (Gx hb E);have HB:=δ kb;clear hb kb vq)
         |(go_at_call 59;refine yL.out.mono ?_;rintro e w9 ⟨rfl,h9,k9⟩;have H9:=τ h9 k9;clear h9 k9))
        go_ret
        have C_:jB d (V) b=(R.1,({ (V).next with lg:=R.2.1 } : aV).told E,E):=by
         unfold jB;simp only
         rw[gp.out.2.2,gp.out.1,gp.out.2.1,σ H0.out]
        have h9:=H9.out.1;rw[gp.out.1] at h9;rw[uK.out,C_];exact⟨rfl,_,h9,((HT.out.2.1.trans HA.out.2.1).trans HB.out).trans H9.out.2⟩
     ·have Fc:=δ hD
      obtain⟨E,qF⟩:=κ (fW V.S b.ops);have HEE:=δ qF;rw[qF] at hD HS iD;have eA:(E != 0)=true:=by simpa using hD
      have HD1:=δ hD;clear hD om qF;go_quiet (fail)
      go_wp2_with (first
       |(go_at_call 55;refine(EA.out _).mono ?_;rintro e w5 ⟨m2,eH,rfl,tY,zJ,zK,av⟩
         have ajD:w5.cell? ⟨c,2,none⟩=some ov:=(K3.out.2.1.ε (((ζ.refl (fun _=>False) w3).drewN _).then av (fun _ e=>.inl e)) (fun e=>e)).cell 2;have H5:=τ tY (((ζ.refl (fun _=>False) w3).drewN _).then av (fun _ e=>.inl e));clear tY zJ zK av)
       |(go_at_call 36;refine(iD.out _ _ _ H5.out.2 H5.out.1).mono ?_;rintro e w6 ⟨rfl,Jr⟩
         have H6:=δ (Jr.no Fc.out);clear Jr))
      go_ret
      rw[HS.out,ν sM,ν (by rw[HE.out];simp),ν (by have h1:=HI.out;have h2:=AH.out;omega),σ HD1.out];exact⟨rfl,o,(K3.out.1.still H5.out.2).still H6.out,(K3.out.2.2.2.still H5.out.2).still H6.out⟩
   ·have bx:(b.index != V.at_+1)=true:=by simpa using hi
    have HI:=δ hi;clear hi;go_quiet (fail)
    go_wp2_with fail
    go_ret
    rw[HS.out,ν sM,ν (by rw[HE.out];simp),σ (.inl HI.out)]
    exact⟨rfl,o,K3.out.1.still ((ζ.refl _ _).drewN _),K3.out.2.2.2.still ((ζ.refl _ _).drewN _)⟩
  ·have H0:=δ hE
   have hby:=acw (w:=w1) (A:=A) (cap:=cap) (b:=ob) (off:=oo) (l:=b.ops) (i:=b.index) (ep:=b.θ) HV.out.2.2.2.2.1 (fun w' hu=>HV.out.2.2.2.2.2.1 w' (fun _=>False) (H1.out.2.1.then hu (fun _ e=>.inl e)) (fun _ _ e=>e)) HV.out.2.2.2.2.2.2.1 HV.out.2.2.2.1 hE;rw[← HV.out.2.1] at hby;obtain⟨E,qF⟩:=κ (d_ b.index b.θ b.ops);rw[qF] at hby HS H0 hE;have eA:(E != 0)=true:=by simpa using hE
   have kN:=δ hby;clear hby qF hE;go_wp2_with (first
    |(go_at_call 53;refine HO.out.mono ?_;rintro e w2 ⟨rfl,-,-,aH⟩;subst aH)
    |(refine fV _ c H1.out.1 underlying35 ?_)
    |(go_at_call 54;refine kN.out.mono ?_;rintro e w3 ⟨rfl,χ⟩;have H3:=δ χ;clear χ))
   go_ret
   rw[HS.out,ν sM,σ H0.out];exact⟨rfl,o,H1.out.2.2.still H3.out,tG.out.still H3.out⟩
 ·exact Q4
end
section
variable {w w':World} {p v:Nat} {d d':Dk} {V V':aV} {o o':cR}
theorem ahl (h:aR w p v d V o) (hb:V.st.μ<4294967296):ς 13 #[.pointer (some ⟨v,0,none⟩)] w fun e w'=>e=ώ (ι (V.st.μ:Int))∧w=w':=by
 have hc:w.cell? ⟨v,19,none⟩=some (.int .u32 (V.st.μ:Int)):=h.blk.cell 19;have hw:IntKind.i64.wrap (V.st.μ:Int)=(V.st.μ:Int):=bX _ oM;clear h;go_enter func13,ntmps13
 go_wp2_with fail
 go_ret
 exact⟨by first| rfl |(rw[hw];rfl),rfl⟩
end
def ld:List bL→List Value→List (List Value)
 | b::r,o::s=>[ι b.index,ι b.θ,o]::ld r s
 | _,_=>[]
theorem Ot:∀(l:List bL) (s:List Value),(ld l s).flatten=s6 l s
 | [],_=>rfl
 | _::_,[]=>rfl
 | b::r,o::s=>by
   show _++(ld r s).flatten=_;rw[Ot r s];rfl
theorem Bj:∀(l:List bL) (s:List Value),s.length=l.length→(ld l s).length=l.length
 | [],_,_=>by simp[ld]
 | _::_,[],h=>by simp at h
 | b::r,o::s,h=>by
   show (ld r s).length+1=r.length+1;rw[Bj r s (by simpa using h)]
theorem KB:∀(l:List bL) (s:List Value) (i:Nat) (b:bL) (o:Value),l[i]? = some b→s[i]? = some o→(ld l s)[i]? = some [ι b.index,ι b.θ,o]
 | [],_,_,_,_,h,_=>by simp at h
 | _::_,[],_,_,_,_,h=>by simp at h
 | a::r,x::s,0,b,o,h1,h2=>by
   cases h1
   cases h2
   rfl
 | a::r,x::s,i+1,b,o,h1,h2=>KB r s i b o (by simpa using h1) (by simpa using h2)
theorem Kr:∀(l:List bL) (s:List Value),∀c ∈ ld l s,c.length=3
 | [],_,_,h=>by simp[ld] at h
 | _::_,[],_,h=>by simp[ld] at h
 | b::r,o::s,c,h=>by
   rcases cn.1 h with rfl | h
   ·rfl
   ·exact Kr r s c h
theorem UA {a b:Int} {ov:Value} (h:ov.oneCell'=true):(#[Value.int .i64 a,ι b,ov]:Array Value).all (·.oneCell')=true:=by
 simp only[J7,rN,Bb,h,y6];rfl
section
variable {w w':World} {p v:Nat} {d d':Dk} {V V':aV} {o o':cR}
structure D4 (w:World) (x:Value) (l:List bL) (aI:List Value):Prop where
 own:Own w 35 3 x l.length (s6 l aI)
 len:aI.length=l.length
 each:∀(i:Nat) (b:bL) (ov:Value),l[i]? = some b→aI[i]? = some ov→au w 32 3 ov (b.ops.map bU)
theorem ac_ (h:aR w p v d V o) (hr:V.rows.length≤1000) (Ma:∀b ∈ V.rows,b.ops.length≤1000):ς 17 #[.pointer (some ⟨v,0,none⟩)] w fun e w'=>∃x aI,e=ώ (.tuple #[x,ι V.prev])∧D4 w' x V.rows aI∧(∀q,x.ownBlock=some q→w.heap.size≤q)∧υ w w'∧(∀(i:Nat) (b:bL) (ov:Value),V.rows[i]? = some b→aI[i]? = some ov→(∀q,ov.ownBlock=some q→w.heap.size≤q)∧Own w' 32 3 ov b.ops.length (b.ops.map bU).flatten):=by
 have hT:=au.jK (cs:=ld V.rows o.aI) (k:=3) (n:=V.rows.length) (by rw[Ot];exact h.rows) (Bj _ _ h.qD) oM (Kr _ _);obtain⟨RA,mK,rb,ro,rK,hr2,uW,yo,hr5⟩:=hT.open_;rw[Bj _ _ h.qD] at rK hr2 uW yo;have rB:w.cell? ⟨v,3,none⟩=some (.slice RA V.rows.length mK):=by rw[← rK];exact h.blk.cell 3
 have H:=cx h hr Ma yo hr5;clear h hr Ma hT rK hr2 uW yo hr5;go_enter func17,ntmps17
 go_wp2_with fail
 go_loopw [2,5,14] (fun x _ i wr=>∃(k:Nat) (aI:List Value),k≤V.rows.length∧i=ι (k:Int)∧D4 wr x (V.rows.take k) aI∧(∀q,x.ownBlock=some q→w.heap.size≤q)∧υ w wr∧∀(i:Nat) (b:bL) (ov:Value),V.rows[i]? = some b→aI[i]? = some ov→(∀q,ov.ownBlock=some q→w.heap.size≤q)∧Own wr 32 3 ov b.ops.length (b.ops.map bU).flatten) (fun _ _ i _=>V.rows.length - (intOf i).toNat)
 case atStart=>exact⟨0,[],oM,rfl,⟨Own.nil _ _ _,rfl,fun i b ov h1=>by simp at h1⟩,by simp[Value.ownBlock],ζ.refl _ _,fun i b ov _ h2=>by simp at h2⟩
 case round =>
  obtain⟨k,aI,hk,rfl,hX,hx,hU,hfr⟩:=hrel;have Ta:=δ hfr;clear hfr;by_cases hlt:k<V.rows.length
  ·have hRA:=H.out.2.2.2.1 oM
   subst hRA;have ju:=H.out.1.qD;obtain⟨B,hB⟩:∃B,V.rows[k]? = some B:=⟨_,bD hlt⟩;obtain⟨OV,Tb⟩:∃O,o.aI[k]? = some O:=⟨_,bD oM⟩;have hrow:=H.out.2.2.2.2 wr _ hU (fun _ _ e=>e) k _ (KB _ _ k B OV hB Tb);have hold:=(H.out.1.each k B OV hB Tb).still hU;have hone:=hold.one;have hBl:=H.out.2.2.1 B (sH hB);obtain⟨q,hq⟩:=κ wr.heap.size;obtain⟨A2,eY,rfl,-,-⟩:=hX.own.shape;rw[fF,vM hk] at *;have dn:V.rows.take (k+1)=V.rows.take k++[B]:=by
    rw[aa',hB];rfl
   have j1:(k:Int)<(V.rows.length:Int):=oM;have hwk:IntKind.i64.wrap ((k:Int)+1)=(k:Int)+1:=bX _ (oN H.out.2.1);have HR:=δ hrow;have HX:=δ (And.intro hX (And.intro hx (And.intro hU (And.intro hold (And.intro hone (And.intro hBl (And.intro hq (And.intro dn (And.intro hk hlt)))))))));clear hX hx hU hold hone hBl hq dn hrow hB Tb ju;go_upto_region 6 with (first
    |(refine uc rfl _ _ rfl rb (ro+k*3) rfl [ι B.index,ι B.θ,OV] _ HR.out underlying35 rfl kR ?_)
    |(refine ef 35 wr.heap.size #[ι B.index,ι B.θ,OV] (η.new wr _ _) (UA HX.out.2.2.2.2.1) ?_
      intro w2 aB π aT))
   rw[HX.out.2.2.2.2.2.2.1] at aB π ⊢;have gT:υ wr w2:=((ζ.refl _ wr).alloc _).then π (fun b e=>.inr (by have e2:b=q:=e;have:=HX.out.2.2.2.2.2.2.1;omega));have mu:=δ (VQ (HX.out.2.2.2.1.still gT) (Wt _) (by rw[bp];exact HX.out.2.2.2.2.2.1));have c2:=aB.cell 2;have H2:=τ aB gT;clear aB π gT aT;go_upto_region 7 with (first
    |(go_at_call 68
      refine mu.out.mono ?_;rintro e w3 ⟨iP,rfl,iA,χ,uQ,lC⟩;have nG:=iA.one;have aA:=H2.out.1.ε χ (fun e=>e);have H3:=aD iA χ nG aA;have Nc:=τ uQ lC;clear iA χ nG aA uQ lC)
    |(refine gw rfl 33 _ _ rfl q 2 iP rfl rfl _ _ H3.out.2.2.2 sM H3.out.2.2.1 kR ?_
      intro w4 aE ag cG))
   rw[show (#[Value.int .i64 B.index,ι B.θ,OV]:Array Value).setIfInBounds 2 iP=#[ι B.index,ι B.θ,iP] from rfl] at aE;have Ri:υ wr w4:=(H2.out.2.then H3.out.2.1 (fun _ e=>.inl e)).then ag (fun b e=>.inr (by have e2:b=q:=e;have:=HX.out.2.2.2.2.2.2.1;omega));have II:au w4 32 3 iP (B.ops.map bU):=H3.out.1.ε ag (fun b ht e=>by
    have e2:b=q:=e;subst e2;exact absurd (H3.out.2.2.2.ty.inj ht) dC)
   have jT:Own w4 32 3 iP B.ops.length (B.ops.map bU).flatten:=by
    have ho:=Nc.out.2;rw[bp] at ho;exact ho.ε ag (fun b hb e=>by
     have e2:b=q:=e;subst e2;exact absurd (H3.out.2.2.2.ty.inj (ho.ty hb)) dC)
   have IX:=δ jT;clear jT;have Yg:Own w4 35 3 (.slice A2 k eY) k (s6 (V.rows.take k) aI):=by
    have:=HX.out.1.own.ε Ri (fun _ _ e=>e);rw[fF,vM hk] at this;exact this
   have H4:=aD aE Ri II Yg;clear aE Ri II ag cG c2 Yg;obtain⟨ti,bx,bN,bG,aT⟩:=je OT;have HI:=aD bx bN bG aT;clear bx bN bG aT;go_wp2_with (first
    |(refine fV _ q H4.out.1 underlying35 ?_)
    |(at_builtin;refine jH rfl _ _ _ _ rfl 35 ti _ 3 40 underlying38 HI.out.1 HI.out.2.1 HI.out.2.2.1 HI.out.2.2.2 rfl (.slice A2 k eY) k _ rfl (H4.out.2.2.2.alloc _) _ 1 [_,_,_] rfl (Src.qN underlying38 _ rfl) (VR H3.out.2.2.1) (by have:=H.out.2.1;unfold maxLen;omega) (oN H.out.2.1) ?_;intro v2 w15 r9 nJ uG wD
      have js:=aD r9 nJ uG wD;clear r9 nJ uG wD))
   have Yh:υ w w15:=((HX.out.2.2.1.then H4.out.2.1 (fun _ e=>.inl e)).alloc _).then js.out.2.1 (fun b e=>.inr (HX.out.2.1 b e));have Yi:ζ (fun b=>(Value.slice A2 k eY).ownBlock=some b) wr w15:=((H4.out.2.1.mono φ).alloc _).then js.out.2.1 (fun b e=>.inl e);have Yj:ζ (fun b=>(Value.slice A2 k eY).ownBlock=some b) w4 w15:=((ζ.refl _ w4).alloc _).then js.out.2.1 (fun b e=>.inl e);have HU:=aj Yh Yi Yj;clear Yh Yi Yj;go_roundw
   case rel =>
    have hlk:(V.rows.take k).length=k:=by rw[fF,vM hk]
    have hol:=HX.out.1.len;rw[hlk] at hol;refine⟨k+1,aI++[iP],oM,sM,⟨?_,?_,fun i b ov h1 h2=>?_⟩,fun q hq=>?_,HU.out.1,fun i b ov h1 h2=>?_⟩
    ·rw[HX.out.2.2.2.2.2.2.2.1,aL,A6,hlk,Oq _ _ HX.out.1.len]
     exact js.out.1
    ·rw[HX.out.2.2.2.2.2.2.2.1,aL,aL,A6,A6,hlk,hol]
    ·rw[HX.out.2.2.2.2.2.2.2.1] at h1
     by_cases hi:i<k
     ·rw[pL oM] at h1 h2
      exact(HX.out.1.each i b ov h1 h2).ε HU.out.2.1 (fun q ht e=>absurd (ht.inj (HX.out.1.own.ty e)) dC)
     ·rw[lM oM] at h1 h2
      have bx:i - (V.rows.take k).length=0:=by
       have:=(kT.1 h1).1;simpa using this
      rw[bx] at h1;rw[show i - aI.length=0 by omega] at h2;cases h1
      cases h2
      exact H4.out.2.2.1.ε HU.out.2.2 (fun q ht e=>absurd (ht.inj (H4.out.2.2.2.ty e)) dC)
    ·rcases js.out.2.2.1 with e | e
     ·exact HX.out.2.1 q (by rw[← e];exact hq)
     ·rw[hq] at e
      have:=dw e;rw[cM] at this;have h1:=HX.out.2.2.1.size;have h2:=H4.out.2.1.size;omega
    ·by_cases hi:i<k
     ·rw[pL oM] at h2
      have h3:=Ta.out i b ov h1 h2;exact⟨h3.1,h3.2.ε HU.out.2.1 (fun q ht e=>absurd ((h3.2.ty ht).inj (HX.out.1.own.ty e)) dC)⟩
     ·have bx:i=k:=by
       have:=(kT.1 h2).1;rw[aL,A6] at this;omega
      subst bx;rw[lM oM,show i - aI.length=0 by omega] at h2;have hbB:b=B:=by
       have:=HX.out.2.2.2.2.2.2.2.1;have h4:(V.rows.take (i+1))[i]? = some b:=by rw[JP,σ oM];exact h1
       rw[this,lM oM,hlk,Dn] at h4;exact(dw h4).symm
      subst hbB;have ju:iP=ov:=dw h2;subst ju;exact⟨fun q hq=>by
       have h1:=Nc.out.1 q hq;have h2:=H2.out.2.size;have h3:=HX.out.2.2.1.size;omega,IX.out.ε HU.out.2.2 (fun q hq e=>absurd ((IX.out.ty hq).inj (H4.out.2.2.2.ty e)) dC)⟩
   case measure=>simp[intOf]<;>omega
  ·obtain rfl:k=V.rows.length:=oM
   rw[rO] at hX;have HX:=aj hX hx hU;have cv4:wr.cell? ⟨v,4,none⟩=some (ι V.prev):=(H.out.1.still hU).blk.cell 4;clear hX hx hU;go_wp2_with fail
   go_quiet (fail)
   go_wp2_with fail
   go_ret2
   exact⟨_,_,rfl,⟨HX.out.1.own.ε ((ζ.refl (fun _=>False) _).drewN _) (fun _ _ e=>e),HX.out.1.len,fun i b ov h1 h2=>(HX.out.1.each i b ov h1 h2).still ((ζ.refl _ _).drewN _)⟩,HX.out.2.1,HX.out.2.2.drewN _,fun i b ov h1 h2=>⟨(Ta.out i b ov h1 h2).1,(Ta.out i b ov h1 h2).2.ε ((ζ.refl (fun _=>False) _).drewN _) (fun _ _ e=>e)⟩⟩
theorem ada (h:aR w p v d V o) (hr:V.rows.length≤1000) (Ma:∀b ∈ V.rows,b.ops.length≤1000):ς 17 #[.pointer (some ⟨v,0,none⟩)] w fun e w'=>∃x aI,e=ώ (.tuple #[x,ι V.prev])∧D4 w' x V.rows aI∧(∀q,x.ownBlock=some q→w.heap.size≤q)∧υ w w':=by
 refine(ac_ h hr Ma).mono ?_;rintro e w' ⟨x,aI,h1,h2,h3,h4,-⟩;exact⟨x,aI,h1,h2,h3,h4⟩
end
def oh (V:aV) (p kb m:Nat) (mv rg:Value):Array Value :=
 #[.pointer (some ⟨m,0,none⟩),ι V.at_,ι V.θ,.slice none 0 0,ι V.prev,.pointer (some ⟨p,0,none⟩),.pointer (some ⟨kb,0,none⟩),.pointer none,rg,
  ι V.st.m.role,ι V.st.m.seen,ι V.st.m.aG,mv,.string (str V.st.m.bu),ι V.st.at_,ι V.st.θ,ι (V.st.slot:Int),ω (V.st.log:Int),ι (V.st.key:Int),.int .u32 (V.st.μ:Int),.bool V.down]
structure kj (w:World) (p v:Nat) (d:Dk) (V:aV) (F:List Nat) (kb m mb:Nat) (mv rg:Value):Prop where
 bO:bI w p d F
 blk:η w v 117 (oh V p kb m mv rg)
 kept:η w kb 209 (V.kp.cells p)
 map:fY w m mb V.S
 qb:mb ∉ F
 eD:au w 46 2 mv (V.st.m.aW.map ct)
section
variable {w w':World} {p v:Nat} {d d':Dk} {V V':aV} {F:List Nat} {kb m mb m' iC:Nat} {mv rg dz AL:Value}
theorem kj.vF (h:kj w p v d V F kb m mb mv rg):v ∉ F:=fun e=>by
 rcases h.bO.kind e with e | e | e
 ·exact absurd (h.blk.ty.inj e) dC
 ·exact absurd (h.blk.ty.inj e) dC
 ·exact h.blk.ty.ji e
theorem kj.still (h:kj w p v d V F kb m mb mv rg) (hu:υ w w'):kj w' p v d V F kb m mb mv rg :=
 ⟨h.bO.ε hu (fun _ _ e=>e),h.blk.ε hu (fun e=>e),h.kept.ε hu (fun e=>e),h.map.still hu,h.qb,h.eD.still hu⟩
theorem kj.Ec (h:kj w p v d V F kb m mb mv rg):m≠v∧mb≠v∧kb≠v:=by
 refine⟨fun e=>?_,fun e=>?_,fun e=>?_⟩
 ·subst e;exact absurd (h.blk.ty.inj h.map.blk.ty) dC
 ·subst e;exact h.blk.ty.ji h.map.mp
 ·subst e;exact absurd (h.blk.ty.inj h.kept.ty) dC
theorem kj.BA (h:kj w p v d V F kb m mb mv rg) (hu:ζ (· = v) w w') (hB:η w' v 117 (oh V' p kb m' dz AL)) (hk:V'.kp=V.kp) (hm:fY w' m' iC V'.S) (oC:iC ∉ F) (G_:au w' 46 2 dz (V'.st.m.aW.map ct)) :
 kj w' p v d V' F kb m' iC dz AL :=
 ⟨h.bO.ε hu (fun q hq e=>h.vF ((show q=v from e) ▸ hq)),hB,by rw[hk];exact h.kept.ε hu (fun e=>h.Ec.2.2 e),hm,oC,G_⟩
theorem kj.xN (h:kj w p v d V F kb m mb mv rg) (hu:ζ (· = v) w w') (hB:η w' v 117 (oh V' p kb m mv AL)) (hk:V'.kp=V.kp) (hS:V'.S=V.S) (hms:V'.st.m.aW=V.st.m.aW):kj w' p v d V' F kb m mb mv AL :=
 h.BA hu hB hk (by rw[hS];exact h.map.ε hu (fun e=>h.Ec.1 e) (fun e=>h.Ec.2.1 e)) h.qb (by
  rw[hms];exact h.eD.ε hu (fun q ht e=>by
   have e2:q=v:=e;subst e2;exact absurd (h.blk.ty.inj ht) dC))
theorem kj.xM {rb rk:Nat} {ay:List (Int × Nat)} {aP:ByteArray} {cur μ n:Nat} (h:kj w p v d V F kb m mb mv rg) (hR:bT (fo rb rk ay) w w rb aP cur μ n rk ay) (mA:rk ∉ F) (hmk:mb≠rk) (hu:ζ (fo rb rk ay) w w'):kj w' p v d V F kb m mb mv rg:=by
 refine⟨h.bO.ε hu (fun q hq e=>?_),h.blk.ε hu (hR.vT h.blk dC dC),h.kept.ε hu (hR.vT h.kept dC dC),h.map.ε hu (hR.vT h.map.blk dC dC) (fun e=>?_),h.qb,h.eD.ε hu (fun q ht e=>?_)⟩
 ·rcases hR.kind e with f | f | f
  ·rcases h.bO.kind hq with g | g | g
   ·exact absurd (g.inj f) dC
   ·exact absurd (g.inj f) dC
   ·exact f.ji g
  ·rcases h.bO.kind hq with g | g | g
   ·exact absurd (g.inj f) dC
   ·exact absurd (g.inj f) dC
   ·exact f.ji g
  ·exact mA (f ▸ hq)
 ·rcases hR.kind e with f | f | f
  ·exact f.ji h.map.mp
  ·exact f.ji h.map.mp
  ·exact hmk f
 ·rcases hR.kind e with f | f | f
  ·exact absurd (ht.inj f) dC
  ·exact absurd (ht.inj f) dC
  ·subst f;exact ht.ji hR.map.mp
end
def jP (k:Kp) (s:cY) (S0:List ai):aV:=⟨S0,s.at_,s.θ,[],s.θ,s,false,k,LX,s.key,0⟩
structure K4 (d:Dk) (k:Kp) (s:cY) (S0:List ai):Prop where
 text:(k.gen=0∧s=jo∧S0=[])∨(0<k.gen∧∃t,gZ s.key gy s.m.bu t∧k.text=dr s t)
 ok:lT s
 μ:s.μ+1≤1000000
 slot:(s.slot=0∧S0=[])∨(1≤s.slot∧∃t,gZ s.key oZ (ke S0) t∧xI d s.slot t)
 pairs:nw S0
structure Gt (s:cY) (S0:List ai) (g:Lg) (rows:List bL) (S:List ai) (at_ θ:Int):Prop where
 fit:wu g
 ya:g.l.length=rows.length
 recs:∀i (h:i<g.l.length) (h2:i<rows.length),gZ s.key oq (lu rows[i]) (g.l[i]).data.toList
 many:rows.length≤24
 rep:iV rows (S0,s.at_,s.θ)=some (S,at_,θ)
 yF:∀b ∈ rows,b.θ≤9223372036854775807
structure GP (d:Dk):Prop where
 off:d.off=false
 len:d.af.length=500
 pend:d.pend+20<1000000
structure Lv (d:Dk) (V:aV) (S0:List ai):Prop where
 fit:GP d
 kept:qU d 0 2=some V.kp
 kp:V.kp.seen<18446744073709551616∧V.kp.at_≤1∧V.kp.from_=0
 ahm:K4 d V.kp V.st S0
 sound:td d 160=false
 log:nE d 20 320 V.st.log=some V.lg
 ajE:1≤V.st.log
 ahn:Gt V.st S0 V.lg V.rows V.S V.at_ V.θ
 prev:V.prev=V.st.θ
 cur:V.cur=V.st.key
theorem Vj {d:Dk} : ∀k,(∀i,i<k→(cz (d.now (340+i)).data.toList).2≠2)→td d k=false
 | 0,_=>rfl
 | k+1,h=>by rw[VO,Vj k (fun i hi=>h i oM)];simp[h k oM]
theorem dY.Yk {d:Dk} {k:Kp} {g:Lg} {s:cY} {S0:List ai} {rows:List bL} {c:Nat} (h:dY d k g s S0 rows c) (hc:c<100000):wu g:=by
 obtain⟨rs,R,hl,-⟩:=h.log;have ho:=hl.opens;exact VT (by rw[h.sV.1];omega) (by rw[h.sV.2.1];omega) (by rw[h.sV.2.2];have:=h.r_;omega) ho
theorem dY.Le {d:Dk} {V:aV} {S0:List ai} {c:Nat} (h:dY d.free V.kp V.lg V.st S0 V.rows c) (hc:c<99000) (ho:d.off=false)
 (h0:V.kp.gen=0→S0=[]) (rf:iV V.rows (S0,V.st.at_,V.st.θ)=some (V.S,V.at_,V.θ)) (aiT:V.prev=V.st.θ) (yb:V.cur=V.st.key) (ajF:∀b ∈ V.rows,b.θ≤9223372036854775807) (hmn:V.st.m.seen≤9223372036854775807∧V.st.m.aG≤9223372036854775807):Lv d V S0:=by
 have h1:=h.keys;have h2:=h.rV;have h3:=h.r_;have h4:=h.xL;have hg:=h.good;obtain⟨L0,L1,hk⟩:=h.kept;obtain⟨rs,R,hl,-⟩:=h.log;obtain⟨g1,g2,g3⟩:=h.sV;have hkp:=hk.opens;rw[h.uy] at hkp;have hlo:=hl.opens;rw[g1,g2,g3] at hlo;refine⟨⟨ho,hg.len,?_⟩,hkp,⟨oM,hk.at_,h.uy⟩,⟨?_,⟨h.right,h.place,h.slots,oM,oM,oM,hmn⟩,oM,?_,h.pairs⟩,Vj 160 fun i hi=>(h.sound i hi).look,hlo,by rw[← g3];exact hl.DZ,⟨h.Yk oM,h.ya,h.recs,h.many,rf,ajF⟩,aiT,yb⟩
 ·have:d.pend=0:=hg.pend
  omega
 ·rcases h.text with e | e
  ·exact .inl ⟨e.1,e.2,h0 e.1⟩
  ·exact .inr e
 ·rcases h.slot with e | e
  ·exact .inl ⟨e.1,e.2.1⟩
  ·exact .inr e
theorem ew.Le {d:Dk} {V:aV} {S0:List ai} {c:Nat} (h:ew d.free V S0 c) (hc:c<99000) (ho:d.off=false):Lv d V S0 :=
 h.b_.Le hc ho (fun e=>absurd h.gen oM) h.rep h.prev h.cur h.yF h.mn
theorem aco:Lv (Dk.fresh 500) V0 [] :=
 dY.Le (d:=Dk.fresh 500) dY.fresh oM rfl (fun _=>rfl) rfl rfl rfl dC dC
section
variable {w w':World} {p v:Nat} {d d':Dk} {k:Kp} {s:cY} {S0:List ai} {F:List Nat} {kb m mb rb rk:Nat} {mv:Value} {ay:List (Int × Nat)}
theorem acp (h:kj w p v d (jP k s []) F kb m mb mv (.pointer (some ⟨rb,0,none⟩))) (hR:bT (fo rb rk ay) w w rb (str jI) s.key s.μ 0 rk ay) (mA:rk ∉ F) (hmk:mb≠rk) (hf:GP d) (hk:s.key≤1000000) (hs:1≤s.slot∧s.slot≤2) (hp:nw S0) (t:List UInt8) (ht:gZ s.key oZ (ke S0) t) (hh:xI d s.slot t) :
 ς 124 #[.pointer (some ⟨v,0,none⟩)] w fun e w'=>e=ώ (ι 0)∧∃m' iC fH,kj w' p v d (jP k s S0) F kb m' iC mv (.pointer (some ⟨rb,0,none⟩))∧bT (fo rb rk fH) w' w' rb (str jI) s.key s.μ 0 rk fH∧iC≠rk∧w.heap.size≤m'∧w.heap.size≤iC ∧
  (∀q,fo rb rk fH q→fo rb rk ay q∨w.heap.size≤q)∧ζ (fun q=>q=v∨fo rb rk ay q) w w':=by
 have hpl:=qg hp;have htl:=ht.len oM;have n2:bR t≤80:=zc oM;have n1:1≤bR t:=by unfold bR;omega
 obtain⟨key,μ,n,k1,k2,k3,k4,k5⟩:=ht;have hrs:=ag9 h.bO.drew hf.off hf.len s.slot hs.1 hs.2 t hh n1 n2;have hro:=fun (W:World) (hU:υ w W)=>Px (hR.still hU) (by rw[bf];decide) oM key μ n k1 k3 k4 (str oZ) dC (ke S0) oM (str t) (by rw[bS,bS,bS];exact k5)
 have htp:=fun (W:World)=>afX (w:=W) S0 (fun x hx=>⟨Dv (hp.each x hx).1,(hp.each x hx).2⟩) hp.len (str (ke S0)) (bS _)
 have HRS:=δ hrs;have Jw:=δ hro;have HTP:=δ htp;have lX:=afO hp;have hlt:=h.blk.lt;have H:=o_ h hR mA hmk hp lX hlt;clear h hR mA hmk hf hk hs hp hh hpl htl n1 n2 k1 k2 k3 k4 k5 hrs hro htp lX hlt;go_enter func124,ntmps124
 go_upto_region 1 with fail
 refine dB ?_;refine dK (S:=fun w'=>w'.cell? ⟨v,5,none⟩=some (.pointer (some ⟨p,0,none⟩))∧w'.cell? ⟨v,16,none⟩=some (ι (s.slot:Int))) (T:=fun _=>false) kR ?_;have aC:w.drew.cell? ⟨v,5,none⟩=some (.pointer (some ⟨p,0,none⟩))∧w.drew.cell? ⟨v,16,none⟩=some (ι (s.slot:Int)):=⟨H.out.1.blk.drew.cell 5,H.out.1.blk.drew.cell 16⟩;refine ξ 0 ?_;refine ξ 1 ?_;refine ξ 2 ?_;refine aQ 3 (fun w' hSw=>hSw.1) ?_;refine ξ 4 ?_;refine ξ 5 ?_;refine ξ 6 ?_;refine ξ 7 ?_;refine aQ 8 (fun w' hSw=>hSw.2) ?_;refine aY 9 (fun KK ο=>?_);go_simp
 refine HRS.out.mono ?_;rintro e w2 ⟨rfl,π⟩;have hU:υ w w2:=(ζ.refl _ w).drew.then π (fun _ e=>.inl e);have aB:=H.out.1.blk.ε hU (fun e=>e);have a_:w2.cell? ⟨v,5,none⟩=some (.pointer (some ⟨p,0,none⟩))∧w2.cell? ⟨v,16,none⟩=some (ι (s.slot:Int)):=⟨aB.cell 5,aB.cell 16⟩;refine ο.out _ _ a_ ?_;have H2:=δ hU;have c8:w2.cell? ⟨v,8,none⟩=some (.pointer (some ⟨rb,0,none⟩)):=aB.cell 8;clear ο π hU aB;refine ξ 10 ?_;refine ξ 11 ?_;refine ξ 12 ?_;refine ξ 13 ?_;refine ξ 14 ?_;refine dF ?_;refine cZ ?_;clear aC a_;go_upto_region 10 with (first
  |(go_at_call 123;refine(Jw.out _ H2.out).mono ?_;rintro e w3 ⟨rfl,fH,iA⟩
    have H3:=τ iA (H.out.1.xM H.out.2.1 H.out.2.2.1 H.out.2.2.2.1 iA.ε);clear iA)
  |(go_at_call 183;refine(HTP.out _).mono ?_;rintro e w4 ⟨pv,rfl,jT,pZ,ag⟩
    have H4:=aj jT pZ ag;clear jT pZ ag))
 have hT:=au.jK (cs:=S0.map bz) (k:=2) (n:=S0.length) (by have:=H4.out.1;rw[qP,NS] at this;exact this) (bp _) (oN H.out.2.2.2.2.1.len) (fun c hc=>by obtain⟨q,-,rfl⟩:=bZ.1 hc;rfl)
 obtain⟨PA,ajG,pb,po,Rj,aab,aac,Rk,aad⟩:=hT.open_;rw[bp] at Rj aab aac Rk;have Tc:=X5 (w:=w4) (A:=PA) (cap:=ajG) (b:=pb) (off:=po) (l:=S0) Rk (fun w' hu i hi=>aad w' (fun _=>False) hu (fun _ _ e=>e) i (bz S0[i]) (by simp[hi])) (fun x hx=>by have h1:=Dv (H.out.2.2.2.2.1.each x hx).1;have h2:=(H.out.2.2.2.2.1.each x hx).2;omega) (oN H.out.2.2.2.2.1.len);rw[← Rj] at Tc;have HOO:=δ Tc;clear hT Rj aab aac Rk aad Tc c8;go_wp2_with (first
  |(go_at_call 75;refine HOO.out.mono ?_;intro e w5 Td
    obtain⟨m2,eH,rfl,tY,zJ,zK⟩:=Td.yes (by rw[H.out.2.2.2.2.2.1]);rw[H.out.2.2.2.2.2.1] at tY;have av:=Td.ε;have h5:=(H3.out.2.still H4.out.2.2).still av;have H5:=cx tY zJ zK av h5;have MY:=δ h5.blk;clear tY zJ zK av h5 Td)
  |(refine gw rfl _ _ _ rfl v 0 (.pointer (some ⟨m2,0,none⟩)) rfl rfl _ _ MY.out (by simp[oh]) rfl kR ?_
    intro w6 cI az iB;have H6:=τ cI az;clear cI az iB))
 go_ret
 have hlt:=H.out.2.2.2.2.2.2;have fK:=H3.out.1.ε.size;have cG:=H4.out.2.2.size;have zJ:=H5.out.2.1;have zK:=H5.out.2.2.1;have nR:¬fo rb rk fH v:=H3.out.1.vT H3.out.2.blk dC dC;have vr:=bT.move ((H3.out.1.still H4.out.2.2).still H5.out.2.2.2.1) H6.out.2 (fun q hq e=>nR (by rw[← show q=v from e];exact hq));have tT:rk<w.heap.size:=H.out.2.1.map.lt;have oC:eH ∉ F:=fun e=>by have:=H.out.1.bO.lt _ e;omega
 have C7:=H5.out.1.ε H6.out.2 (fun e=>by have e2:m2=v:=e;omega) (fun e=>by have e2:eH=v:=e;omega);have h6:=H5.out.2.2.2.2.BA (V':=jP k s S0) H6.out.2 H6.out.1 rfl C7 oC (H5.out.2.2.2.2.eD.ε H6.out.2 (fun q ht e=>by
  have e2:q=v:=e;subst e2;exact absurd (MY.out.ty.inj ht) dC))
 refine⟨rfl,m2,eH,fH,h6,vr,fun e=>by omega,oM,oM,H3.out.1.Bz,?_⟩;exact(((H3.out.1.ε.mono (fun q e=>.inl (.inr e))).then H4.out.2.2 φ).then H5.out.2.2.2.1 φ).then H6.out.2 (fun q e=>.inl (.inl e))
end
structure OU (w w':World) (p v:Nat) (d:Dk) (k:Kp) (s:cY) (S0:List ai) (F:List Nat) (kb m mb m' iC rb rk:Nat) (dz:Value) (ay:List (Int × Nat)):Prop where
 pre:kj w' p v d (jP k { s with μ:=s.μ+1 } S0) F kb m' iC dz (.pointer (some ⟨rb,0,none⟩))
 ring:bT (fo rb rk ay) w' w' rb (str jI) s.key (s.μ+1) 0 rk ay
 xp:rk ∉ F
 tX:iC≠rk
 new:∀q,fo rb rk ay q→w.heap.size≤q
 m:m'=m∨w.heap.size≤m'
 mb:iC=mb∨w.heap.size≤iC
 ε:ζ (· = v) w w'
section
variable {w w':World} {p v:Nat} {d d':Dk} {k:Kp} {s:cY} {S0:List ai} {F:List Nat} {kb m mb:Nat}
theorem acq (h:kj w p v d (jP k jo []) F kb m mb (.slice none 0 0) (.pointer none)) (hq:K4 d k s S0) (h0:k.gen=0) :
 ς 65 #[.pointer (some ⟨v,0,none⟩),.string (str jI)] w fun e w'=>e=ώ (ι 0)∧∃m' iC dz rb rk ay,OU w w' p v d k s S0 F kb m mb m' iC rb rk dz ay:=by
 obtain⟨rfl,rfl⟩:s=jo∧S0=[]:=by
  rcases hq.text with e | e
  ·exact e.2
  ·exact absurd e.1 oM
 obtain⟨s,hs⟩:=κ jo;have hg:=XX h.kept;rw[show decide (0<(jP k jo []).kp.gen)=false by simp[jP,h0]] at hg;have HG:=δ hg;have c6:w.cell? ⟨v,6,none⟩=some (.pointer (some ⟨kb,0,none⟩)):=h.blk.cell 6;rw[hs] at hq h ⊢;have H:=δ h;have HQ:=δ hq;have fD:=δ hs;clear h hq hg h0 hs;go_enter func65,ntmps65
 go_upto_region 8 with (first
  |(go_at_call 120;refine HG.out.mono ?_;rintro e w1 ⟨rfl,ec⟩
    have ax:=ζ.oI ec (fun _=>False);have HX:=τ (H.out.still ax) (ax.mono (G:=fun q=>q=v) φ);clear ec ax))
 have c19:w1.cell? ⟨v,19,none⟩=some (.int .u32 (s.μ:Int)):=HX.out.1.blk.cell 19;have b0:((s.μ:Int) == 4294967295)=false:=by rw[eV];have:=HQ.out.μ;omega
 have b1:IntKind.u32.wrap ((s.μ:Int)+1)=((s.μ+1:Nat):Int):=by rw[IntWalk.u32_in _ (oN HQ.out.μ)];omega
 have Jx:=δ HX.out.1.blk;go_upto_region 11 with (first
  |(refine gw rfl _ _ _ rfl v 19 (.int .u32 ((s.μ+1:Nat):Int)) rfl (by first| rfl |(rw[← b1];rfl)) _ _ Jx.out (by simp[oh]) rfl kR ?_
    intro wb kP kD Na;have Hb:=τ kP kD;clear kP kD Na))
 clear c19 b0 b1;have Jy:=HX.out.1.xN (V' := { jP k s [] with st := { s with μ:=s.μ+1 } }) Hb.out.2 Hb.out.1 rfl rfl rfl;have vt:=τ Jy (HX.out.2.then Hb.out.2 (fun q e=>.inl e));have Jz:=Xw (str jI) s.key (s.μ+1) (oN HQ.out.ok.key) wb.drew;have Te:=δ Jz;clear Jy Jz;refine dB ?_;refine dK (S:=fun w'=>w'.cell? ⟨v,18,none⟩=some (ι (s.key:Int))∧w'.cell? ⟨v,19,none⟩=some (.int .u32 ((s.μ+1:Nat):Int))) (T:=fun _=>false) kR ?_;have aC:wb.drew.cell? ⟨v,18,none⟩=some (ι (s.key:Int))∧wb.drew.cell? ⟨v,19,none⟩=some (.int .u32 ((s.μ+1:Nat):Int)):=⟨vt.out.1.blk.drew.cell 18,vt.out.1.blk.drew.cell 19⟩;refine ξ 0 ?_;refine ξ 1 ?_;refine ξ 2 ?_;refine ξ 3 ?_;refine ξ 4 ?_;refine aQ 5 (fun w' hSw=>hSw.1) ?_;refine ξ 6 ?_;refine ξ 7 ?_;refine ξ 8 ?_;refine ξ 9 ?_;refine aQ 10 (fun w' hSw=>hSw.2) ?_;refine aY 11 (fun KK ο=>?_);go_simp
 refine Te.out.mono ?_;rintro e wr ⟨rb,rk,rfl,C'⟩;have hU:υ wb wr:=(ζ.refl _ wb).drew.then C'.ε (fun _ e=>.inl e);have vu:=vt.out.1.still hU;have a_:wr.cell? ⟨v,18,none⟩=some (ι (s.key:Int))∧wr.cell? ⟨v,19,none⟩=some (.int .u32 ((s.μ+1:Nat):Int)):=⟨vu.blk.cell 18,vu.blk.cell 19⟩;refine ο.out _ _ a_ ?_;have yN:=aD vu (vt.out.2.then hU φ) C' hU;have Cu:=δ vu.blk;clear ο hU vu C';refine ξ 12 ?_;refine ξ 13 ?_;refine ξ 14 ?_;refine ξ 15 ?_;refine ξ 16 ?_;refine dF ?_;refine cZ ?_;clear aC a_;go_upto_region 15 with (first
  |(refine gw rfl _ _ _ rfl v 8 (.pointer (some ⟨rb,0,none⟩)) rfl rfl _ _ Cu.out (by simp[oh]) rfl kR ?_
    intro w7 dG bK jq;have H7:=τ dG bK;clear dG bK jq))
 have JA:=yN.out.1.xN (V' := { jP k s [] with st := { s with μ:=s.μ+1 } }) (AL:=.pointer (some ⟨rb,0,none⟩)) H7.out.2 H7.out.1 rfl rfl rfl;have hnew:∀q,fo rb rk [] q→w.heap.size≤q:=fun q hq=>by
  have h1:=(yN.out.2.2.1.Bz q hq).elim (fun e=>e.elim) id;have h2:=vt.out.2.size;exact iE h2 h1
 have nR:∀q,fo rb rk [] q→¬q=v:=fun q hq e=>by
  have h1:=hnew q hq;have h2:=H.out.blk.lt;omega
 have JB:=bT.move yN.out.2.2.1 H7.out.2 nR;have tT:=hnew rk (.inr (.inl rfl));have mA:rk ∉ F:=fun e=>by have:=H.out.bO.lt _ e;omega
 have hmk:mb≠rk:=fun e=>by have:=H.out.map.lt;omega
 have mB:=gU JA (yN.out.2.1.then H7.out.2 (fun q e=>.inl e)) JB mA hmk hnew;clear JA hnew nR JB tT mA hmk;go_wp2_with fail
 go_ret
 exact⟨rfl,m,mb,_,rb,rk,[],mB.out.1,mB.out.2.2.1,mB.out.2.2.2.1,mB.out.2.2.2.2.1,mB.out.2.2.2.2.2,.inl rfl,.inl rfl,mB.out.2.1⟩
theorem acr (h:kj w p v d (jP k jo []) F kb m mb (.slice none 0 0) (.pointer none)) (hf:GP d) (hq:K4 d k s S0) (h0:0<k.gen) :
 ς 65 #[.pointer (some ⟨v,0,none⟩),.string (str jI)] w fun e w'=>e=ώ (ι 0)∧∃m' iC dz rb rk ay,OU w w' p v d k s S0 F kb m mb m' iC rb rk dz ay:=by
 obtain⟨t,ht,mq⟩:∃t,gZ s.key gy s.m.bu t∧k.text=dr s t:=by
  rcases hq.text with e | e
  ·exact absurd e.1 oM
  ·exact e.2
 have dP:s.m.bu.length≤64:=(xC hq.ok.right).sec;have htl:=(ht.len oM).1;obtain⟨key,bo,nn,k1,k2,k3,k4,k5⟩:=ht;have hg:=XX h.kept;rw[show decide (0<(jP k jo []).kp.gen)=true from fe h0,show (jP k jo []).kp.text=k.text from rfl,mq] at hg;have nR:=fun W=>ag8 (w:=W) s hq.ok t oM (str (dr s t)) (bS _)
 have hro:=fun (W:World) (rb rk:Nat) (hR:bT (fo rb rk []) W W rb (str jI) s.key (s.μ+1) 0 rk [])=>Px hR (by rw[bf];decide) (oN hq.ok.key) key bo nn k1 k3 k4 (str gy) dC s.m.bu oM (str t) (by rw[bS,bS,bS];exact k5)
 have c6:w.cell? ⟨v,6,none⟩=some (.pointer (some ⟨kb,0,none⟩)):=h.blk.cell 6;have HG:=δ hg;have HVR:=δ nR;have Jw:=δ hro;have H:=δ h;have HQ:=δ hq;have HF:=δ hf;clear h hq hg h0 hf mq dP htl k1 k2 k3 k4 k5 nR hro;go_enter func65,ntmps65
 go_upto_region 4 with (first
  |(go_at_call 120;refine HG.out.mono ?_;rintro e w1 ⟨rfl,ec⟩
    have ax:=ζ.oI ec (fun _=>False);have H1:=τ (H.out.still ax) ax;clear ec ax))
 go_upto_region 8 with (first
  |(go_at_call 121;refine(HVR.out _).mono ?_;rintro e w2 ⟨cv,rfl,bH,hn2,π⟩
    have hrow:=F6 { s with m := { s.m with bu:=[] } } cv bH.one;have lE:=au.jK (cs:=s.m.aW.map ct) (k:=2) (n:=s.m.aW.length) (by rw[zF,NS] at bH;exact bH) (bp _) (oN (xC HQ.out.ok.right).eD) (fun c hc=>by obtain⟨q,-,rfl⟩:=bZ.1 hc;rfl)
    have H2:=aD (H1.out.1.still π) (H1.out.2.then π φ) lE hrow;obtain⟨C,hC⟩:=κ (gz { s with m := { s.m with bu:=[] } } cv);have HC:=δ hC;rw[hC];clear bH hn2 π hrow lE hC)
  |(refine fk rfl 115 _ _ rfl w2.heap.size C rfl rfl _ _ (η.new w2 _ _) (by rw[← HC.out];rfl) (by rw[← HC.out];exact H2.out.2.2.2) (by rw[← HC.out];kernel_rfl) ?_
    intro w3 aA χ fK;have mM:υ w2 w3:=((ζ.refl (fun _=>False) w2).alloc _).then χ (fun q e=>.inr (by have e2:q=w2.heap.size:=e;omega));have H3:=aD (H2.out.1.still mM) (H2.out.2.1.then mM φ) (H2.out.2.2.1.still mM) aA;have hblk:=δ H3.out.1.blk;have hsz:9+C.size≤(oh (jP k jo []) p kb m (.slice none 0 0) (.pointer none)).size:=by rw[← HC.out];exact Ul rfl
    have hnew:(oh (jP k jo []) p kb m (.slice none 0 0) (.pointer none)).toList.take 9++C.toList++(oh (jP k jo []) p kb m (.slice none 0 0) (.pointer none)).toList.drop (9+C.size)=(oh { jP k jo [] with st := { s with m := { s.m with bu:=[] } } } p kb m cv (.pointer none)).toList:=by rw[← HC.out];rfl
    have HN:=τ hsz hnew;clear aA χ fK mM hsz hnew)
  |(refine eL _ w2.heap.size H3.out.2.2.2 underlying115 (by rw[← HC.out];kernel_rfl) ?_)
  |(refine xB rfl 115 _ _ rfl v 9 C rfl rfl _ _ (oh { jP k jo [] with st := { s with m := { s.m with bu:=[] } } } p kb m cv (.pointer none)) hblk.out HN.out.1 HN.out.2 (by rw[← HC.out];exact H2.out.2.2.2) (by rw[← HC.out];kernel_rfl) ?_
    intro w4 aE ag cG;have H4:=τ aE ag;clear aE ag cG))
 have uX:=H3.out.1.map.ε H4.out.2 (fun e=>H3.out.1.Ec.1 e) (fun e=>H3.out.1.Ec.2.1 e);have hx4:=H3.out.1.BA (V' := { jP k jo [] with st := { s with m := { s.m with bu:=[] } } }) H4.out.2 H4.out.1 rfl uX H3.out.1.qb (H3.out.2.2.1.ε H4.out.2 (fun q ht e=>by
  have e2:q=v:=e;subst e2;exact absurd (H3.out.1.blk.ty.inj ht) dC))
 have HX:=τ hx4 ((H3.out.2.1.mono (G:=fun q=>q=v) φ).then H4.out.2 (fun q e=>.inl e));clear uX hx4;have c19:w4.cell? ⟨v,19,none⟩=some (.int .u32 (s.μ:Int)):=HX.out.1.blk.cell 19;have b0:((s.μ:Int) == 4294967295)=false:=by rw[eV];have:=HQ.out.μ;omega
 have b1:IntKind.u32.wrap ((s.μ:Int)+1)=((s.μ+1:Nat):Int):=by rw[IntWalk.u32_in _ (oN HQ.out.μ)];omega
 have Jx:=δ HX.out.1.blk;go_upto_region 11 with (first
  |(refine gw rfl _ _ _ rfl v 19 (.int .u32 ((s.μ+1:Nat):Int)) rfl (by first| rfl |(rw[← b1];rfl)) _ _ Jx.out (by simp[oh]) rfl kR ?_
    intro wb kP kD Na;have Hb:=τ kP kD;clear kP kD Na))
 clear c19 b0 b1;have Jy:=HX.out.1.xN (V' := { jP k jo [] with st := { ({ s with m := { s.m with bu:=[] } } : cY) with μ:=s.μ+1 } }) Hb.out.2 Hb.out.1 rfl rfl rfl;have vt:=τ Jy (HX.out.2.then Hb.out.2 (fun q e=>.inl e));have Jz:=Xw (str jI) s.key (s.μ+1) (oN HQ.out.ok.key) wb.drew;have Te:=δ Jz;clear Jy Jz;refine dB ?_;refine dK (S:=fun w'=>w'.cell? ⟨v,18,none⟩=some (ι (s.key:Int))∧w'.cell? ⟨v,19,none⟩=some (.int .u32 ((s.μ+1:Nat):Int))) (T:=fun _=>false) kR ?_;have aC:wb.drew.cell? ⟨v,18,none⟩=some (ι (s.key:Int))∧wb.drew.cell? ⟨v,19,none⟩=some (.int .u32 ((s.μ+1:Nat):Int)):=⟨vt.out.1.blk.drew.cell 18,vt.out.1.blk.drew.cell 19⟩;refine ξ 0 ?_;refine ξ 1 ?_;refine ξ 2 ?_;refine ξ 3 ?_;refine ξ 4 ?_;refine aQ 5 (fun w' hSw=>hSw.1) ?_;refine ξ 6 ?_;refine ξ 7 ?_;refine ξ 8 ?_;refine ξ 9 ?_;refine aQ 10 (fun w' hSw=>hSw.2) ?_;refine aY 11 (fun KK ο=>?_);go_simp
 refine Te.out.mono ?_;rintro e wr ⟨rb,rk,rfl,C'⟩;have hU:υ wb wr:=(ζ.refl _ wb).drew.then C'.ε (fun _ e=>.inl e);have vu:=vt.out.1.still hU;have a_:wr.cell? ⟨v,18,none⟩=some (ι (s.key:Int))∧wr.cell? ⟨v,19,none⟩=some (.int .u32 ((s.μ+1:Nat):Int)):=⟨vu.blk.cell 18,vu.blk.cell 19⟩;refine ο.out _ _ a_ ?_;have yN:=aD vu (vt.out.2.then hU φ) C' hU;have Cu:=δ vu.blk;clear ο hU vu C';refine ξ 12 ?_;refine ξ 13 ?_;refine ξ 14 ?_;refine ξ 15 ?_;refine ξ 16 ?_;refine dF ?_;refine cZ ?_;clear aC a_;go_upto_region 15 with (first
  |(refine gw rfl _ _ _ rfl v 8 (.pointer (some ⟨rb,0,none⟩)) rfl rfl _ _ Cu.out (by simp[oh]) rfl kR ?_
    intro w7 dG bK jq;have H7:=τ dG bK;clear dG bK jq))
 have JA:=yN.out.1.xN (V' := { jP k jo [] with st := { ({ s with m := { s.m with bu:=[] } } : cY) with μ:=s.μ+1 } }) (AL:=.pointer (some ⟨rb,0,none⟩)) H7.out.2 H7.out.1 rfl rfl rfl;have hnew:∀q,fo rb rk [] q→w.heap.size≤q:=fun q hq=>by
  have h1:=(yN.out.2.2.1.Bz q hq).elim (fun e=>e.elim) id;have h2:=vt.out.2.size;exact iE h2 h1
 have nR:∀q,fo rb rk [] q→¬q=v:=fun q hq e=>by
  have h1:=hnew q hq;have h2:=H.out.blk.lt;omega
 have JB:=bT.move yN.out.2.2.1 H7.out.2 nR;have tT:=hnew rk (.inr (.inl rfl));have mA:rk ∉ F:=fun e=>by have:=H.out.bO.lt _ e;omega
 have hmk:mb≠rk:=fun e=>by have:=H.out.map.lt;omega
 have mB:=gU JA (yN.out.2.1.then H7.out.2 (fun q e=>.inl e)) JB mA hmk hnew;clear JA hnew nR JB tT mA hmk;have ajH:=δ (Jw.out w7 rb rk mB.out.2.2.1);go_upto_region 20 with (first
  |(go_at_call 123;refine ajH.out.mono ?_;rintro e w8 ⟨rfl,ay,E9⟩
    have Tf:=mB.out.1.xM mB.out.2.2.1 mB.out.2.2.2.1 mB.out.2.2.2.2.1 E9.ε;have Jx:=δ Tf.blk;have Ff:=τ Tf E9;clear Tf E9)
  |(refine gw rfl _ _ _ rfl v 13 (.string (str s.m.bu)) rfl rfl _ _ Jx.out (by simp[oh]) rfl kR ?_
    intro w9 cW eC mT;have H9:=τ cW eC;clear cW eC mT))
 have Tg:=Ff.out.1.xN (V' := { jP k jo [] with st := { s with μ:=s.μ+1 } }) (AL:=.pointer (some ⟨rb,0,none⟩)) H9.out.2 H9.out.1 rfl rfl rfl;have nR:∀q,fo rb rk ay q→¬q=v:=fun q hq e=>Ff.out.2.vT Ff.out.1.blk dC dC (by rw[← e];exact hq)
 have hR9:=bT.move Ff.out.2 H9.out.2 nR;have Yl:∀q,fo rb rk ay q→w.heap.size≤q:=fun q hq=>by
  rcases Ff.out.2.Bz q hq with e | e
  ·exact mB.out.2.2.2.2.2 q e
  ·have:=mB.out.2.1.size;omega
 have eC:ζ (· = v) w w9:=(mB.out.2.1.then Ff.out.2.ε (fun q e=>.inr (mB.out.2.2.2.2.2 q e))).then H9.out.2 (fun q e=>.inl e);obtain⟨MA,ajI,mbb,mo,th,uI,uJ,o4,sg⟩:=Tg.eD.eD;have eE:=Pc (w:=w9) (A:=MA) (cap:=ajI) (b:=mbb) (off:=mo) s.m o4 (fun w' hu=>sg w' (fun _=>False) hu (fun _ _ e=>e)) uJ uI (fun x hx=>by have:=((xC HQ.out.ok.right).each x hx).2;omega);rw[← th,HQ.out.ok.right] at eE;have mW:=δ eE;have Da:=aD Tg hR9 Yl eC;clear Tg nR hR9 Yl eC th uI uJ o4 sg eE;go_upto_region 22 with (first
  |(refine qL rfl _ _ rfl v 9 rfl _ _ [ι s.m.role,ι s.m.seen,ι s.m.aG,cv,.string (str s.m.bu)] _ Da.out.1.blk (fun j u e=>(by match j,e with | 0,e=>exact e | 1,e=>exact e | 2,e=>exact e | 3,e=>exact e | 4,e=>exact e)) underlying50 rfl kR ?_)
  |(go_at_call 41;refine mW.out.mono ?_;rintro e w11 ⟨rfl,pW⟩
    have zM:=aj (Da.out.1.still pW) (Da.out.2.1.move pW (fun _ _ e=>e)) (Da.out.2.2.2.then pW φ);clear pW))
 refine dB ?_;refine dK (S:=fun w'=>w'.cell? ⟨v,14,none⟩=some (ι s.at_)∧w'.cell? ⟨v,15,none⟩=some (ι s.θ)) (T:=fun _=>false) kR ?_;have aC:w11.drew.cell? ⟨v,14,none⟩=some (ι s.at_)∧w11.drew.cell? ⟨v,15,none⟩=some (ι s.θ):=⟨zM.out.1.blk.drew.cell 14,zM.out.1.blk.drew.cell 15⟩;refine ξ 0 ?_;refine ξ 1 ?_;refine ξ 2 ?_;refine ξ 3 ?_;refine ξ 4 ?_;refine ξ 5 ?_;refine ξ 6 ?_;refine aQ 7 (fun w' hSw=>hSw.1) ?_;refine ξ 8 ?_;refine ξ 9 ?_;refine ξ 10 ?_;refine ξ 11 ?_;refine aQ 12 (fun w' hSw=>hSw.2) ?_;refine ξ 13 ?_;refine ξ 14 ?_;refine ξ 15 ?_;refine ξ 16 ?_;refine aQ 17 (fun w' hSw=>hSw.2) ?_;refine ξ 18 ?_;refine ξ 19 ?_;refine ξ 20 ?_;refine aY 21 (fun KK ο=>?_);rw[σ (show Region.wanted _ _=true by rfl)];refine mD _ _ _ rfl v 1 (ι s.at_) rfl rfl _ _ zM.out.1.blk.drew (by simp[oh]) rfl kR (fun w12 oY gT BX=>?_);have aae:w12.cell? ⟨v,14,none⟩=some (ι s.at_)∧w12.cell? ⟨v,15,none⟩=some (ι s.θ):=⟨oY.cell 14,oY.cell 15⟩;refine ο.out _ _ aae ?_;clear ο;simp only[Act.put]
 refine ξ 22 ?_;refine ξ 23 ?_;refine ξ 24 ?_;refine aY 25 (fun KK ο=>?_);rw[σ (show Region.wanted _ _=true by rfl)];refine mD _ _ _ rfl v 2 (ι s.θ) rfl rfl _ _ oY (by simp[oh]) rfl kR (fun w13 l9 qW Ei=>?_);have He:w13.cell? ⟨v,14,none⟩=some (ι s.at_)∧w13.cell? ⟨v,15,none⟩=some (ι s.θ):=⟨l9.cell 14,l9.cell 15⟩;refine ο.out _ _ He ?_;clear ο;simp only[Act.put];refine ξ 26 ?_;refine ξ 27 ?_;refine ξ 28 ?_;refine aY 29 (fun KK ο=>?_);rw[σ (show Region.wanted _ _=true by rfl)];refine mD _ _ _ rfl v 4 (ι s.θ) rfl rfl _ _ l9 (by simp[oh]) rfl kR (fun w14 pX jA Ej=>?_);have aaf:w14.cell? ⟨v,14,none⟩=some (ι s.at_)∧w14.cell? ⟨v,15,none⟩=some (ι s.θ):=⟨pX.cell 14,pX.cell 15⟩;refine ο.out _ _ aaf ?_;clear ο;simp only[Act.put];refine dF ?_;refine cZ ?_;clear aC aae He aaf;have jA:ζ (· = v) w11 w14:=(((ζ.refl (fun q=>q=v) w11).drew.then gT (fun q e=>.inl e)).then qW (fun q e=>.inl e)).then jA (fun q e=>.inl e);have Rl:=zM.out.1.xN (V':=jP k { s with μ:=s.μ+1 } []) (AL:=.pointer (some ⟨rb,0,none⟩)) jA pX rfl rfl rfl
 have nR:∀q,fo rb rk ay q→¬q=v:=fun q hq e=>zM.out.2.1.vT zM.out.1.blk dC dC (by rw[← e];exact hq)
 have aag:=bT.move zM.out.2.1 jA nR;have Cb:=aj Rl aag (zM.out.2.2.then jA (fun q e=>.inl e));have c16:w14.cell? ⟨v,16,none⟩=some (ι (s.slot:Int)):=Rl.blk.cell 16;clear Rl nR aag gT qW jA oY l9 pX BX Ei Ej;by_cases dP:s.slot=0
 ·have hs0:((s.slot:Int) == 0)=true:=by rw[dP];rfl
  have aC:S0=[]:=by
   rcases HQ.out.slot with e | e
   ·exact e.2
   ·exact absurd e.1 oM
  have HS0:=δ aC;clear dP aC;go_wp2_with fail
  go_ret
  rw[HS0.out];exact⟨rfl,m,mb,cv,rb,rk,ay,Cb.out.1,Cb.out.2.1,mB.out.2.2.2.1,mB.out.2.2.2.2.1,Da.out.2.2.1,.inl rfl,.inl rfl,Cb.out.2.2⟩
 ·have hs0:((s.slot:Int) == 0)=false:=by rw[eV];omega
  obtain⟨h1,u,rG,qA⟩:1≤s.slot∧∃t,gZ s.key oZ (ke S0) t∧xI d s.slot t:=by
   rcases HQ.out.slot with e | e
   ·exact absurd e.1 dP
   ·exact e
  have hrm:=acp (s := { s with μ:=s.μ+1 }) (S0:=S0) Cb.out.1 Cb.out.2.1 mB.out.2.2.2.1 mB.out.2.2.2.2.1 HF.out (by have:=HQ.out.ok.key;exact this) ⟨h1,HQ.out.ok.slot⟩ HQ.out.pairs u rG qA;have Nd:=δ hrm;clear dP h1 rG qA hrm;go_wp2_with (first
   |(go_at_call 124;refine Nd.out.mono ?_;rintro e w15 ⟨rfl,m',iC,fH,hx,hr,hmk,Co,hm2,zZ,hu⟩
     have js:=o_ hx hr hmk Co hm2 zZ hu;clear hx hr hmk Co hm2 zZ hu))
  go_ret
  have hz:=Cb.out.2.2.size;refine⟨rfl,m',iC,cv,rb,rk,fH,js.out.1,js.out.2.1,mB.out.2.2.2.1,js.out.2.2.1,fun q hq=>?_,.inr (oN js.out.2.2.2.1),.inr (oN js.out.2.2.2.2.1),?_⟩
  ·rcases js.out.2.2.2.2.2.1 q hq with e | e
   ·exact Da.out.2.2.1 q e
   ·omega
  ·exact Cb.out.2.2.then js.out.2.2.2.2.2.2 (fun q e=>e.elim .inl (fun e=>.inr (Da.out.2.2.1 q e)))
theorem af9 (h:kj w p v d (jP k jo []) F kb m mb (.slice none 0 0) (.pointer none)) (hf:GP d) (hq:K4 d k s S0) :
 ς 65 #[.pointer (some ⟨v,0,none⟩),.string (str jI)] w fun e w'=>e=ώ (ι 0)∧∃m' iC dz rb rk ay,OU w w' p v d k s S0 F kb m mb m' iC rb rk dz ay:=by
 by_cases h0:k.gen=0
 ·exact acq h hq h0
 ·exact acr h hf hq oM
end
end
end Go.Proofs.YtbhjgfibhegddaaGreat
