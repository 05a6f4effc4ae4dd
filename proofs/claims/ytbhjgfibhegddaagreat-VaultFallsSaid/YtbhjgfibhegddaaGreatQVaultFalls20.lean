/-
  Parts of the proof of VaultFalls: OpnA, OpnB, OpnC, OpnD, VlW, Plays17, VlPlay.
-/
import Derived.Test.YtbhjgfibhegddaaGreatQVaultFalls19
import Derived.Lib.MinMax
set_option maxRecDepth 100000
set_option maxHeartbeats 16000000
namespace Go.Proofs.YtbhjgfibhegddaaGreat
abbrev ua:=@Iff.rfl
open Tryz
section
open Go Go.RowKit
theorem yt {P:Prop} (h:P:=by simp[zv]):P:=h
section
variable {w w':World} {p v:Nat} {d d':Dk} {k:Kp} {s:dw} {S0:List ai} {F:List Nat} {kb m mb rb rk:Nat} {mv:Value} {aA:List (Int × Nat)}
theorem ahq (h:kT w p v d (kF k s []) F kb m mb mv (.pointer (some ⟨rb,0,none⟩))) (hR:b_ (fK rb rk aA) w w rb (str jo) s.key s.κ 0 rk aA) (nh:rk ∉ F) (hmk:mb≠rk) (hf:JM d) (hk:s.key≤1000000) (hs:1≤s.slot∧s.slot≤2) (hp:nx S0) (t:List UInt8) (ht:gY s.key kD (gL S0) t) (hh:zo d s.slot t) :
 ς 124 #[.pointer (some ⟨v,0,none⟩)] w fun e w'=>e=ώ (ι 0)∧∃m' iU fU,kT w' p v d (kF k s S0) F kb m' iU mv (.pointer (some ⟨rb,0,none⟩))∧b_ (fK rb rk fU) w' w' rb (str jo) s.key s.κ 0 rk fU∧iU≠rk∧w.heap.size≤m'∧w.heap.size≤iU ∧
  (∀q,fK rb rk fU q→fK rb rk aA q∨w.heap.size≤q)∧ζ (fun q=>q=v∨fK rb rk aA q) w w':=by
 have hpl:=rX hp;have htl:=ht.len oM;have n2:bS t≤80:=Be oM;have n1:1≤bS t:=by unfold bS;omega
 obtain⟨key,κ,n,k1,k2,k3,k4,k5⟩:=ht;have hrs:=al2 h.bH.drew hf.off hf.len s.slot hs.1 hs.2 t hh n1 n2;have hro:=fun (W:World) (hU:υ w W)=>SD (hR.still hU) DU oM key κ n k1 k3 k4 (str kD) dC (gL S0) oM (str t) (by rw[cA,cA,cA];exact k5)
 have htp:=fun (W:World)=>akS (w:=W) S0 (fun x hx=>⟨Fp (hp.each x hx).1,(hp.each x hx).2⟩) hp.len (str (gL S0)) (cA _)
 have HRS:=δ hrs;have LR:=δ hro;have HTP:=δ htp;have mE:=akK hp;have hlt:=h.blk.lt;have H:=p7 h hR nh hmk hp mE hlt;clear h hR nh hmk hf hk hs hp hh hpl htl n1 n2 k1 k2 k3 k4 k5 hrs hro htp mE hlt;go_enter func124,ntmps124
 go_upto_region 1 with fail
 refine dW ?_;refine eo (S:=fun w'=>w'.cell? ⟨v,5,none⟩=some (.pointer (some ⟨p,0,none⟩))∧w'.cell? ⟨v,16,none⟩=some (ι (s.slot:Int))) (T:=fun _=>false) kR ?_;have aE:w.drew.cell? ⟨v,5,none⟩=some (.pointer (some ⟨p,0,none⟩))∧w.drew.cell? ⟨v,16,none⟩=some (ι (s.slot:Int)):=⟨H.out.1.blk.drew.cell 5,H.out.1.blk.drew.cell 16⟩;refine ξ 0 ?_;refine ξ 1 ?_;refine ξ 2 ?_;refine aX 3 (fun w' hSw=>hSw.1) ?_;refine ξ 4 ?_;refine ξ 5 ?_;refine ξ 6 ?_;refine ξ 7 ?_;refine aX 8 (fun w' hSw=>hSw.2) ?_;refine bf 9 (fun KK ο=>?_);go_simp
 refine HRS.out.mono ?_;rintro e w2 ⟨rfl,σ⟩;have hU:υ w w2:=(ζ.refl _ w).drew.then σ (fun _ e=>.inl e);have aD:=H.out.1.blk.ε hU id;have bn:w2.cell? ⟨v,5,none⟩=some (.pointer (some ⟨p,0,none⟩))∧w2.cell? ⟨v,16,none⟩=some (ι (s.slot:Int)):=⟨aD.cell 5,aD.cell 16⟩;refine ο.out _ _ bn ?_;have H2:=δ hU;have c8:w2.cell? ⟨v,8,none⟩=some (.pointer (some ⟨rb,0,none⟩)):=aD.cell 8;clear ο σ hU aD;refine ξ 10 ?_;refine ξ 11 ?_;refine ξ 12 ?_;refine ξ 13 ?_;refine ξ 14 ?_;refine dY ?_;refine dz ?_;clear aE bn;go_upto_region 10 with (first
  |(go_at_call 123;refine(LR.out _ H2.out).mono ?_;rintro e w3 ⟨rfl,fU,iR⟩
    have H3:=τ iR (H.out.1.zx H.out.2.1 H.out.2.2.1 H.out.2.2.2.1 iR.ε);clear iR)
  |(go_at_call 183;refine(HTP.out _).mono ?_;rintro e w4 ⟨pv,rfl,kH,qB,au⟩
    have H4:=aq kH qB au;clear kH qB au))
 have hT:=ax.ku (cs:=S0.map bC) (k:=2) (n:=S0.length) (by have:=H4.out.1;rw[rZ,QW] at this;exact this) (bz _) (oN H.out.2.2.2.2.1.len) (fun c hc=>by obtain⟨q,-,rfl⟩:=cu.1 hc;rfl)
 obtain⟨PA,aoD,pb,po,UI,ae1,ae2,UJ,ae3⟩:=hT.open_;rw[bz] at UI ae1 ae2 UJ;have WG:=acw (w:=w4) (A:=PA) (cap:=aoD) (b:=pb) (off:=po) (l:=S0) UJ (fun w' hu i hi=>ae3 w' (fun _=>False) hu (fun _ _ e=>e) i (bC S0[i]) (by simp[hi])) (fun x hx=>by have h1:=Fp (H.out.2.2.2.2.1.each x hx).1;have h2:=(H.out.2.2.2.2.1.each x hx).2;omega) (oN H.out.2.2.2.2.1.len);rw[← UI] at WG;have HOO:=δ WG;clear hT UI ae1 ae2 UJ ae3 WG c8;go_wp2_with (first
  |(go_at_call 75;refine HOO.out.mono ?_;intro e w5 WH
    obtain⟨m2,fu,rfl,uZ,BR,BS⟩:=WH.yes (by rw[H.out.2.2.2.2.2.1]);rw[H.out.2.2.2.2.2.1] at uZ;have ay:=WH.ε;have h5:=(H3.out.2.still H4.out.2.2).still ay;have H5:=cD uZ BR BS ay h5;have Qa:=δ h5.blk;clear uZ BR BS ay h5 WH)
  |(refine gJ rfl _ _ _ rfl v 0 (.pointer (some ⟨m2,0,none⟩)) rfl rfl _ _ Qa.out yt rfl kR ?_
    intro w6 cY aB iT;have H6:=τ cY aB;clear cY aB iT))
 go_ret
 have hlt:=H.out.2.2.2.2.2.2;have fY:=H3.out.1.ε.size;have dh:=H4.out.2.2.size;have BR:=H5.out.2.1;have BS:=H5.out.2.2.1;have oL:¬fK rb rk fU v:=H3.out.1.xJ H3.out.2.blk dC dC;have wS:=b_.move ((H3.out.1.still H4.out.2.2).still H5.out.2.2.2.1) H6.out.2 (fun q hq e=>oL (by rw[← show q=v from e];exact hq));have uT:rk<w.heap.size:=H.out.2.1.map.lt;have pG:fu ∉ F:=fun e=>by have:=H.out.1.bH.lt _ e;omega
 have EX:=H5.out.1.ε H6.out.2 (fun e=>oE e) (fun e=>oE e);have h6:=H5.out.2.2.2.2.Dl (V':=kF k s S0) H6.out.2 H6.out.1 rfl EX pG (H5.out.2.2.2.2.eS.ε H6.out.2 (fun q ht e=>by
  have e2:q=v:=e;subst e2;exact absurd (Qa.out.ty.inj ht) dC))
 refine⟨rfl,m2,fu,fU,h6,wS,fun e=>by omega,oM,oM,H3.out.1.Dj,?_⟩;exact(((H3.out.1.ε.mono (fun q e=>.inl (.inr e))).then H4.out.2.2 φ).then H5.out.2.2.2.1 φ).then H6.out.2 (fun q e=>.inl (.inl e))
end
structure RS (w w':World) (p v:Nat) (d:Dk) (k:Kp) (s:dw) (S0:List ai) (F:List Nat) (kb m mb m' iU rb rk:Nat) (di:Value) (aA:List (Int × Nat)):Prop where
 pre:kT w' p v d (kF k { s with κ:=s.κ+1 } S0) F kb m' iU di (.pointer (some ⟨rb,0,none⟩))
 ring:b_ (fK rb rk aA) w' w' rb (str jo) s.key (s.κ+1) 0 rk aA
 yV:rk ∉ F
 uY:iU≠rk
 new:∀q,fK rb rk aA q→w.heap.size≤q
 m:m'=m∨w.heap.size≤m'
 mb:iU=mb∨w.heap.size≤iU
 ε:ζ (· = v) w w'
section
variable {w w':World} {p v:Nat} {d d':Dk} {k:Kp} {s:dw} {S0:List ai} {F:List Nat} {kb m mb:Nat}
theorem ahr (h:kT w p v d (kF k jL []) F kb m mb (.slice none 0 0) (.pointer none)) (hq:NC d k s S0) (h0:k.gen=0) :
 ς 65 #[.pointer (some ⟨v,0,none⟩),.string (str jo)] w fun e w'=>e=ώ (ι 0)∧∃m' iU di rb rk aA,RS w w' p v d k s S0 F kb m mb m' iU rb rk di aA:=by
 obtain⟨rfl,rfl⟩:s=jL∧S0=[]:=by
  rcases hq.text with e | e
  ·exact e.2
  ·exact absurd e.1 oM
 obtain⟨s,hs⟩:=μ jL;have hg:=acp h.kept;rw[show decide (0<(kF k jL []).kp.gen)=false by simp[kF,h0]] at hg;have HG:=δ hg;have c6:w.cell? ⟨v,6,none⟩=some (.pointer (some ⟨kb,0,none⟩)):=h.blk.cell 6;rw[hs] at hq h ⊢;have H:=δ h;have HQ:=δ hq;have fQ:=δ hs;clear h hq hg h0 hs;go_enter func65,ntmps65
 go_upto_region 8 with (first
  |(go_at_call 120;refine HG.out.mono ?_;rintro e w1 ⟨rfl,eO⟩
    have az:=ζ.pM eO (fun _=>False);have HX:=τ (H.out.still az) (az.mono (G:=fun q=>q=v) φ);clear eO az))
 have c19:w1.cell? ⟨v,19,none⟩=some (.int .u32 (s.κ:Int)):=HX.out.1.blk.cell 19;have b0:((s.κ:Int) == 4294967295)=false:=by rw[iX];have:=HQ.out.κ;omega
 have b1:IntKind.u32.wrap ((s.κ:Int)+1)=((s.κ+1:Nat):Int):=by rw[IntWalk.u32_in _ (oN HQ.out.κ)];omega
 have LS:=δ HX.out.1.blk;go_upto_region 11 with (first
  |(refine gJ rfl _ _ _ rfl v 19 (.int .u32 ((s.κ+1:Nat):Int)) rfl (by first| rfl |(rw[← b1];rfl)) _ _ LS.out yt rfl kR ?_
    intro wb lH kY Qi;have Hb:=τ lH kY;clear lH kY Qi))
 clear c19 b0 b1;have LU:=HX.out.1.zy (V' := { kF k s [] with st := { s with κ:=s.κ+1 } }) Hb.out.2 Hb.out.1 rfl rfl rfl;have wT:=τ LU (HX.out.2.then Hb.out.2 (fun q e=>.inl e));have LV:=abS (str jo) s.key (s.κ+1) (oN HQ.out.ok.key) wb.drew;have WI:=δ LV;clear LU LV;refine dW ?_;refine eo (S:=fun w'=>w'.cell? ⟨v,18,none⟩=some (ι (s.key:Int))∧w'.cell? ⟨v,19,none⟩=some (.int .u32 ((s.κ+1:Nat):Int))) (T:=fun _=>false) kR ?_;have aE:wb.drew.cell? ⟨v,18,none⟩=some (ι (s.key:Int))∧wb.drew.cell? ⟨v,19,none⟩=some (.int .u32 ((s.κ+1:Nat):Int)):=⟨wT.out.1.blk.drew.cell 18,wT.out.1.blk.drew.cell 19⟩;refine ξ 0 ?_;refine ξ 1 ?_;refine ξ 2 ?_;refine ξ 3 ?_;refine ξ 4 ?_;refine aX 5 (fun w' hSw=>hSw.1) ?_;refine ξ 6 ?_;refine ξ 7 ?_;refine ξ 8 ?_;refine ξ 9 ?_;refine aX 10 (fun w' hSw=>hSw.2) ?_;refine bf 11 (fun KK ο=>?_);go_simp
 refine WI.out.mono ?_;rintro e wr ⟨rb,rk,rfl,E0⟩;have hU:υ wb wr:=(ζ.refl _ wb).drew.then E0.ε (fun _ e=>.inl e);have wU:=wT.out.1.still hU;have bn:wr.cell? ⟨v,18,none⟩=some (ι (s.key:Int))∧wr.cell? ⟨v,19,none⟩=some (.int .u32 ((s.κ+1:Nat):Int)):=⟨wU.blk.cell 18,wU.blk.cell 19⟩;refine ο.out _ _ bn ?_;have AE:=aF wU (wT.out.2.then hU φ) E0 hU;have Eo:=δ wU.blk;clear ο hU wU E0;refine ξ 12 ?_;refine ξ 13 ?_;refine ξ 14 ?_;refine ξ 15 ?_;refine ξ 16 ?_;refine dY ?_;refine dz ?_;clear aE bn;go_upto_region 15 with (first
  |(refine gJ rfl _ _ _ rfl v 8 (.pointer (some ⟨rb,0,none⟩)) rfl rfl _ _ Eo.out yt rfl kR ?_
    intro w7 dI bI jf;have H7:=τ dI bI;clear dI bI jf))
 have LW:=AE.out.1.zy (V' := { kF k s [] with st := { s with κ:=s.κ+1 } }) (CP:=.pointer (some ⟨rb,0,none⟩)) H7.out.2 H7.out.1 rfl rfl rfl;have hnew:∀q,fK rb rk [] q→w.heap.size≤q:=fun q hq=>by
  have h1:=(AE.out.2.2.1.Dj q hq).elim (fun e=>e.elim) id;have h2:=wT.out.2.size;exact ic h2 h1
 have oL:∀q,fK rb rk [] q→¬q=v:=fun q hq e=>by
  have h1:=hnew q hq;have h2:=H.out.blk.lt;omega
 have LX:=b_.move AE.out.2.2.1 H7.out.2 oL;have uT:=hnew rk (.inr (.inl rfl));have nh:rk ∉ F:=fun e=>by have:=H.out.bH.lt _ e;omega
 have hmk:mb≠rk:=fun e=>by have:=H.out.map.lt;omega
 have nj:=iw LW (AE.out.2.1.then H7.out.2 (fun q e=>.inl e)) LX nh hmk hnew;clear LW hnew oL LX uT nh hmk;go_wp2_with fail
 go_ret
 exact⟨rfl,m,mb,_,rb,rk,[],nj.out.1,nj.out.2.2.1,nj.out.2.2.2.1,nj.out.2.2.2.2.1,nj.out.2.2.2.2.2,.inl rfl,.inl rfl,nj.out.2.1⟩
theorem ahs (h:kT w p v d (kF k jL []) F kb m mb (.slice none 0 0) (.pointer none)) (hf:JM d) (hq:NC d k s S0) (h0:0<k.gen) :
 ς 65 #[.pointer (some ⟨v,0,none⟩),.string (str jo)] w fun e w'=>e=ώ (ι 0)∧∃m' iU di rb rk aA,RS w w' p v d k s S0 F kb m mb m' iU rb rk di aA:=by
 obtain⟨t,ht,mW⟩:∃t,gY s.key er s.m.aW t∧k.text=cG s t:=by
  rcases hq.text with e | e
  ·exact absurd e.1 oM
  ·exact e.2
 have dJ:s.m.aW.length≤64:=(zg hq.ok.right).sec;have htl:=(ht.len oM).1;obtain⟨key,bo,nn,k1,k2,k3,k4,k5⟩:=ht;have hg:=acp h.kept;rw[show decide (0<(kF k jL []).kp.gen)=true from fo h0,show (kF k jL []).kp.text=k.text from rfl,mW] at hg;have oL:=fun W=>al1 (w:=W) s hq.ok t oM (str (cG s t)) (cA _)
 have hro:=fun (W:World) (rb rk:Nat) (hR:b_ (fK rb rk []) W W rb (str jo) s.key (s.κ+1) 0 rk [])=>SD hR DU (oN hq.ok.key) key bo nn k1 k3 k4 (str er) dC s.m.aW oM (str t) (by rw[cA,cA,cA];exact k5)
 have c6:w.cell? ⟨v,6,none⟩=some (.pointer (some ⟨kb,0,none⟩)):=h.blk.cell 6;have HG:=δ hg;have HVR:=δ oL;have LR:=δ hro;have H:=δ h;have HQ:=δ hq;have HF:=δ hf;clear h hq hg h0 hf mW dJ htl k1 k2 k3 k4 k5 oL hro;go_enter func65,ntmps65
 go_upto_region 4 with (first
  |(go_at_call 120;refine HG.out.mono ?_;rintro e w1 ⟨rfl,eO⟩
    have az:=ζ.pM eO (fun _=>False);have H1:=τ (H.out.still az) az;clear eO az))
 go_upto_region 8 with (first
  |(go_at_call 121;refine(HVR.out _).mono ?_;rintro e w2 ⟨bW,rfl,bL,hn2,σ⟩
    have hrow:=I6 { s with m := { s.m with aW:=[] } } bW bL.one;have mC:=ax.ku (cs:=s.m.aZ.map cB) (k:=2) (n:=s.m.aZ.length) (by rw[BP,QW] at bL;exact bL) (bz _) (oN (zg HQ.out.ok.right).eS) (fun c hc=>by obtain⟨q,-,rfl⟩:=cu.1 hc;rfl)
    have H2:=aF (H1.out.1.still σ) (H1.out.2.then σ φ) mC hrow;obtain⟨C,hC⟩:=μ (gN { s with m := { s.m with aW:=[] } } bW);have HC:=δ hC;rw[hC];clear bL hn2 σ hrow mC hC)
  |(refine fG rfl 115 _ _ rfl w2.heap.size C rfl rfl _ _ (η.new w2 _ _) (by rw[← HC.out];rfl) (by rw[← HC.out];exact H2.out.2.2.2) (by rw[← HC.out];kernel_rfl) ?_
    intro w3 aC χ fY;have o5:υ w2 w3:=((ζ.refl (fun _=>False) w2).alloc _).then χ (fun q e=>.inr (oE e));have H3:=aF (H2.out.1.still o5) (H2.out.2.1.then o5 φ) (H2.out.2.2.1.still o5) aC;have hblk:=δ H3.out.1.blk;have hsz:9+C.size≤(zv (kF k jL []) p kb m (.slice none 0 0) (.pointer none)).size:=by rw[← HC.out];exact Yi rfl
    have hnew:(zv (kF k jL []) p kb m (.slice none 0 0) (.pointer none)).toList.take 9++C.toList++(zv (kF k jL []) p kb m (.slice none 0 0) (.pointer none)).toList.drop (9+C.size)=(zv { kF k jL [] with st := { s with m := { s.m with aW:=[] } } } p kb m bW (.pointer none)).toList:=by rw[← HC.out];rfl
    have HN:=τ hsz hnew;clear aC χ fY o5 hsz hnew)
  |(refine eA _ w2.heap.size H3.out.2.2.2 underlying115 (by rw[← HC.out];kernel_rfl) ?_)
  |(refine ze rfl 115 _ _ rfl v 9 C rfl rfl _ _ (zv { kF k jL [] with st := { s with m := { s.m with aW:=[] } } } p kb m bW (.pointer none)) hblk.out HN.out.1 HN.out.2 (by rw[← HC.out];exact H2.out.2.2.2) (by rw[← HC.out];kernel_rfl) ?_
    intro w4 aJ au dh;have H4:=τ aJ au;clear aJ au dh))
 have wA:=H3.out.1.map.ε H4.out.2 (fun e=>H3.out.1.F9.1 e) (fun e=>H3.out.1.F9.2.1 e);have hx4:=H3.out.1.Dl (V' := { kF k jL [] with st := { s with m := { s.m with aW:=[] } } }) H4.out.2 H4.out.1 rfl wA H3.out.1.qL (H3.out.2.2.1.ε H4.out.2 (fun q ht e=>by
  have e2:q=v:=e;subst e2;exact absurd (H3.out.1.blk.ty.inj ht) dC))
 have HX:=τ hx4 ((H3.out.2.1.mono (G:=fun q=>q=v) φ).then H4.out.2 (fun q e=>.inl e));clear wA hx4;have c19:w4.cell? ⟨v,19,none⟩=some (.int .u32 (s.κ:Int)):=HX.out.1.blk.cell 19;have b0:((s.κ:Int) == 4294967295)=false:=by rw[iX];have:=HQ.out.κ;omega
 have b1:IntKind.u32.wrap ((s.κ:Int)+1)=((s.κ+1:Nat):Int):=by rw[IntWalk.u32_in _ (oN HQ.out.κ)];omega
 have LS:=δ HX.out.1.blk;go_upto_region 11 with (first
  |(refine gJ rfl _ _ _ rfl v 19 (.int .u32 ((s.κ+1:Nat):Int)) rfl (by first| rfl |(rw[← b1];rfl)) _ _ LS.out yt rfl kR ?_
    intro wb lH kY Qi;have Hb:=τ lH kY;clear lH kY Qi))
 clear c19 b0 b1;have LU:=HX.out.1.zy (V' := { kF k jL [] with st := { ({ s with m := { s.m with aW:=[] } } : dw) with κ:=s.κ+1 } }) Hb.out.2 Hb.out.1 rfl rfl rfl;have wT:=τ LU (HX.out.2.then Hb.out.2 (fun q e=>.inl e));have LV:=abS (str jo) s.key (s.κ+1) (oN HQ.out.ok.key) wb.drew;have WI:=δ LV;clear LU LV;refine dW ?_;refine eo (S:=fun w'=>w'.cell? ⟨v,18,none⟩=some (ι (s.key:Int))∧w'.cell? ⟨v,19,none⟩=some (.int .u32 ((s.κ+1:Nat):Int))) (T:=fun _=>false) kR ?_;have aE:wb.drew.cell? ⟨v,18,none⟩=some (ι (s.key:Int))∧wb.drew.cell? ⟨v,19,none⟩=some (.int .u32 ((s.κ+1:Nat):Int)):=⟨wT.out.1.blk.drew.cell 18,wT.out.1.blk.drew.cell 19⟩;refine ξ 0 ?_;refine ξ 1 ?_;refine ξ 2 ?_;refine ξ 3 ?_;refine ξ 4 ?_;refine aX 5 (fun w' hSw=>hSw.1) ?_;refine ξ 6 ?_;refine ξ 7 ?_;refine ξ 8 ?_;refine ξ 9 ?_;refine aX 10 (fun w' hSw=>hSw.2) ?_;refine bf 11 (fun KK ο=>?_);go_simp
 refine WI.out.mono ?_;rintro e wr ⟨rb,rk,rfl,E0⟩;have hU:υ wb wr:=(ζ.refl _ wb).drew.then E0.ε (fun _ e=>.inl e);have wU:=wT.out.1.still hU;have bn:wr.cell? ⟨v,18,none⟩=some (ι (s.key:Int))∧wr.cell? ⟨v,19,none⟩=some (.int .u32 ((s.κ+1:Nat):Int)):=⟨wU.blk.cell 18,wU.blk.cell 19⟩;refine ο.out _ _ bn ?_;have AE:=aF wU (wT.out.2.then hU φ) E0 hU;have Eo:=δ wU.blk;clear ο hU wU E0;refine ξ 12 ?_;refine ξ 13 ?_;refine ξ 14 ?_;refine ξ 15 ?_;refine ξ 16 ?_;refine dY ?_;refine dz ?_;clear aE bn;go_upto_region 15 with (first
  |(refine gJ rfl _ _ _ rfl v 8 (.pointer (some ⟨rb,0,none⟩)) rfl rfl _ _ Eo.out yt rfl kR ?_
    intro w7 dI bI jf;have H7:=τ dI bI;clear dI bI jf))
 have LW:=AE.out.1.zy (V' := { kF k jL [] with st := { ({ s with m := { s.m with aW:=[] } } : dw) with κ:=s.κ+1 } }) (CP:=.pointer (some ⟨rb,0,none⟩)) H7.out.2 H7.out.1 rfl rfl rfl;have hnew:∀q,fK rb rk [] q→w.heap.size≤q:=fun q hq=>by
  have h1:=(AE.out.2.2.1.Dj q hq).elim (fun e=>e.elim) id;have h2:=wT.out.2.size;exact ic h2 h1
 have oL:∀q,fK rb rk [] q→¬q=v:=fun q hq e=>by
  have h1:=hnew q hq;have h2:=H.out.blk.lt;omega
 have LX:=b_.move AE.out.2.2.1 H7.out.2 oL;have uT:=hnew rk (.inr (.inl rfl));have nh:rk ∉ F:=fun e=>by have:=H.out.bH.lt _ e;omega
 have hmk:mb≠rk:=fun e=>by have:=H.out.map.lt;omega
 have nj:=iw LW (AE.out.2.1.then H7.out.2 (fun q e=>.inl e)) LX nh hmk hnew;clear LW hnew oL LX uT nh hmk;have aoE:=δ (LR.out w7 rb rk nj.out.2.2.1);go_upto_region 20 with (first
  |(go_at_call 123;refine aoE.out.mono ?_;rintro e w8 ⟨rfl,aA,Hw⟩
    have WJ:=nj.out.1.zx nj.out.2.2.1 nj.out.2.2.2.1 nj.out.2.2.2.2.1 Hw.ε;have LS:=δ WJ.blk;have Ie:=τ WJ Hw;clear WJ Hw)
  |(refine gJ rfl _ _ _ rfl v 13 (.string (str s.m.aW)) rfl rfl _ _ LS.out yt rfl kR ?_
    intro w9 dy eW nP;have H9:=τ dy eW;clear dy eW nP))
 have WL:=Ie.out.1.zy (V' := { kF k jL [] with st := { s with κ:=s.κ+1 } }) (CP:=.pointer (some ⟨rb,0,none⟩)) H9.out.2 H9.out.1 rfl rfl rfl;have oL:∀q,fK rb rk aA q→¬q=v:=fun q hq e=>Ie.out.2.xJ Ie.out.1.blk dC dC ux
 have hR9:=b_.move Ie.out.2 H9.out.2 oL;have acN:∀q,fK rb rk aA q→w.heap.size≤q:=fun q hq=>by
  rcases Ie.out.2.Dj q hq with e | e
  ·exact nj.out.2.2.2.2.2 q e
  ·have:=nj.out.2.1.size;omega
 have eW:ζ (· = v) w w9:=(nj.out.2.1.then Ie.out.2.ε (fun q e=>.inr (nj.out.2.2.2.2.2 q e))).then H9.out.2 (fun q e=>.inl e);obtain⟨MA,aoF,mbb,mo,uC,vQ,vR,pY,tG⟩:=WL.eS.eS;have eX:=Sg (w:=w9) (A:=MA) (cap:=aoF) (b:=mbb) (off:=mo) s.m pY (fun w' hu=>tG w' (fun _=>False) hu (fun _ _ e=>e)) vR vQ (fun x hx=>oN ((zg HQ.out.ok.right).each x hx).2);rw[← uC,HQ.out.ok.right] at eX;have nS:=δ eX;have E3:=aF WL hR9 acN eW;clear WL oL hR9 acN eW uC vQ vR pY tG eX;go_upto_region 22 with (first
  |(refine rV rfl _ _ rfl v 9 rfl _ _ [ι s.m.role,ι s.m.seen,ι s.m.aH,bW,.string (str s.m.aW)] _ E3.out.1.blk (fun j u e=>(by match j,e with | 0,e=>exact e | 1,e=>exact e | 2,e=>exact e | 3,e=>exact e | 4,e=>exact e)) underlying50 rfl kR ?_)
  |(go_at_call 41;refine nS.out.mono ?_;rintro e w11 ⟨rfl,qy⟩
    have BU:=aq (E3.out.1.still qy) (E3.out.2.1.move qy (fun _ _ e=>e)) (E3.out.2.2.2.then qy φ);clear qy))
 refine dW ?_;refine eo (S:=fun w'=>w'.cell? ⟨v,14,none⟩=some (ι s.at_)∧w'.cell? ⟨v,15,none⟩=some (ι s.θ)) (T:=fun _=>false) kR ?_;have aE:w11.drew.cell? ⟨v,14,none⟩=some (ι s.at_)∧w11.drew.cell? ⟨v,15,none⟩=some (ι s.θ):=⟨BU.out.1.blk.drew.cell 14,BU.out.1.blk.drew.cell 15⟩;refine ξ 0 ?_;refine ξ 1 ?_;refine ξ 2 ?_;refine ξ 3 ?_;refine ξ 4 ?_;refine ξ 5 ?_;refine ξ 6 ?_;refine aX 7 (fun w' hSw=>hSw.1) ?_;refine ξ 8 ?_;refine ξ 9 ?_;refine ξ 10 ?_;refine ξ 11 ?_;refine aX 12 (fun w' hSw=>hSw.2) ?_;refine ξ 13 ?_;refine ξ 14 ?_;refine ξ 15 ?_;refine ξ 16 ?_;refine aX 17 (fun w' hSw=>hSw.2) ?_;refine ξ 18 ?_;refine ξ 19 ?_;refine ξ 20 ?_;refine bf 21 (fun KK ο=>?_);rw[π (show Region.wanted _ _=true by rfl)];refine nw _ _ _ rfl v 1 (ι s.at_) rfl rfl _ _ BU.out.1.blk.drew yt rfl kR (fun w12 pX iq DK=>?_);have ae4:w12.cell? ⟨v,14,none⟩=some (ι s.at_)∧w12.cell? ⟨v,15,none⟩=some (ι s.θ):=⟨pX.cell 14,pX.cell 15⟩;refine ο.out _ _ ae4 ?_;clear ο;simp only[Act.put]
 refine ξ 22 ?_;refine ξ 23 ?_;refine ξ 24 ?_;refine bf 25 (fun KK ο=>?_);rw[π (show Region.wanted _ _=true by rfl)];refine nw _ _ _ rfl v 2 (ι s.θ) rfl rfl _ _ pX yt rfl kR (fun w13 mO sj Gf=>?_);have Kg:w13.cell? ⟨v,14,none⟩=some (ι s.at_)∧w13.cell? ⟨v,15,none⟩=some (ι s.θ):=⟨mO.cell 14,mO.cell 15⟩;refine ο.out _ _ Kg ?_;clear ο;simp only[Act.put];refine ξ 26 ?_;refine ξ 27 ?_;refine ξ 28 ?_;refine bf 29 (fun KK ο=>?_);rw[π (show Region.wanted _ _=true by rfl)];refine nw _ _ _ rfl v 4 (ι s.θ) rfl rfl _ _ mO yt rfl kR (fun w14 qz jY Gg=>?_);have ae5:w14.cell? ⟨v,14,none⟩=some (ι s.at_)∧w14.cell? ⟨v,15,none⟩=some (ι s.θ):=⟨qz.cell 14,qz.cell 15⟩;refine ο.out _ _ ae5 ?_;clear ο;simp only[Act.put];refine dY ?_;refine dz ?_;clear aE ae4 Kg ae5;have jY:ζ (· = v) w11 w14:=(((ζ.refl (fun q=>q=v) w11).drew.then iq (fun q e=>.inl e)).then sj (fun q e=>.inl e)).then jY (fun q e=>.inl e);have UK:=BU.out.1.zy (V':=kF k { s with κ:=s.κ+1 } []) (CP:=.pointer (some ⟨rb,0,none⟩)) jY qz rfl rfl rfl
 have oL:∀q,fK rb rk aA q→¬q=v:=fun q hq e=>BU.out.2.1.xJ BU.out.1.blk dC dC ux
 have ae6:=b_.move BU.out.2.1 jY oL;have DY:=aq UK ae6 (BU.out.2.2.then jY (fun q e=>.inl e));have c16:w14.cell? ⟨v,16,none⟩=some (ι (s.slot:Int)):=UK.blk.cell 16;clear UK oL ae6 iq sj jY pX mO qz DK Gf Gg;by_cases dJ:s.slot=0
 ·have hs0:((s.slot:Int) == 0)=true:=by rw[dJ];rfl
  have aE:S0=[]:=by
   rcases HQ.out.slot with e | e
   ·exact e.2
   ·exact absurd e.1 oM
  have HS0:=δ aE;clear dJ aE;go_wp2_with fail
  go_ret
  rw[HS0.out];exact⟨rfl,m,mb,bW,rb,rk,aA,DY.out.1,DY.out.2.1,nj.out.2.2.2.1,nj.out.2.2.2.2.1,E3.out.2.2.1,.inl rfl,.inl rfl,DY.out.2.2⟩
 ·have hs0:((s.slot:Int) == 0)=false:=by rw[iX];omega
  obtain⟨h1,u,sK,rH⟩:1≤s.slot∧∃t,gY s.key kD (gL S0) t∧zo d s.slot t:=by
   rcases HQ.out.slot with e | e
   ·exact absurd e.1 dJ
   ·exact e
  have hrm:=ahq (s := { s with κ:=s.κ+1 }) (S0:=S0) DY.out.1 DY.out.2.1 nj.out.2.2.2.1 nj.out.2.2.2.2.1 HF.out (by have:=HQ.out.ok.key;exact this) ⟨h1,HQ.out.ok.slot⟩ HQ.out.pairs u sK rH;have Ql:=δ hrm;clear dJ h1 sK rH hrm;go_wp2_with (first
   |(go_at_call 124;refine Ql.out.mono ?_;rintro e w15 ⟨rfl,m',iU,fU,hx,hr,hmk,B9,hm2,Cd,hu⟩
     have jR:=p7 hx hr hmk B9 hm2 Cd hu;clear hx hr hmk B9 hm2 Cd hu))
  go_ret
  have hz:=DY.out.2.2.size;refine⟨rfl,m',iU,bW,rb,rk,fU,jR.out.1,jR.out.2.1,nj.out.2.2.2.1,jR.out.2.2.1,fun q hq=>?_,.inr (oN jR.out.2.2.2.1),.inr (oN jR.out.2.2.2.2.1),?_⟩
  ·rcases jR.out.2.2.2.2.2.1 q hq with e | e
   ·exact E3.out.2.2.1 q e
   ·omega
  ·exact DY.out.2.2.then jR.out.2.2.2.2.2.2 (fun q e=>e.elim .inl (fun e=>.inr (E3.out.2.2.1 q e)))
theorem ak4 (h:kT w p v d (kF k jL []) F kb m mb (.slice none 0 0) (.pointer none)) (hf:JM d) (hq:NC d k s S0) :
 ς 65 #[.pointer (some ⟨v,0,none⟩),.string (str jo)] w fun e w'=>e=ώ (ι 0)∧∃m' iU di rb rk aA,RS w w' p v d k s S0 F kb m mb m' iU rb rk di aA:=by
 by_cases h0:k.gen=0
 ·exact ahr h hq h0
 ·exact ahs h hf hq oM
end
theorem YA (a b:List bQ) (x:List ai × Int × Int):ja (a++b) x=(ja a x).bind (ja b):=by
 induction a generalizing x with
 | nil=>rfl
 | cons c r ih =>
   rw[pI];unfold ja;split
   ·exact ih _
   ·rfl
theorem ak5 {rows:List bQ} {x0 x y:List ai × Int × Int} {i:Nat} {b:bQ} (h:ja rows x0=some y) (hi:rows[i]? = some b) (hx:ja (rows.take i) x0=some x) :
 d_ b.index b.θ b.ops=0∧b.index=x.2.1+1∧(cH x.1 b.ops).length≤48∧ja (rows.take (i+1)) x0=some (cH x.1 b.ops,b.index,b.θ):=by
 have hlt:=(mF.1 hi).1;have hb:=(mF.1 hi).2;have e:rows=rows.take i++b::rows.drop (i+1):=by
  rw[← hb,List.getElem_cons_drop,AQ]
 rw[e,YA,hx] at h;have h2:ja (b::rows.drop (i+1)) x=some y:=h;unfold ja at h2;split at h2
 ·rename_i hc
  refine⟨hc.1,hc.2.1,hc.2.2.2,?_⟩;rw[agj,hi,YA,hx];show ja [b] x=_;unfold ja;rw[π hc];rfl
 ·cases h2
theorem ak6 {S:List ai} {i e:Int} {l:List dn} (h:d_ i e l=0) (h48:(cH S l).length≤48):fD S l=0:=by
 obtain⟨b1,b2,b3,b4,b5⟩:=ue h;unfold fD;have h1:d_ 1 1 l=0:=by
  unfold d_ at h ⊢;split at h
  ·cases h
  ·rw[ν oM]
   exact h
 rw[ν (by rw[h1];simp),ν oM]
def zW (g:Lg) (k:Kp) (s:dw) (x:List ai × Int × Int) (rows:List bQ):aQ:=⟨x.1,x.2.1,x.2.2,rows,s.θ,s,false,k,g,s.key,0⟩
section
variable {w w':World} {p v:Nat} {d d':Dk} {V V':aQ} {o o':cR}
theorem aT.fR {X:List ai} {iU:Nat} (h:aT w p v d V o) (hu:ζ (· = o.m) w w') (hm:gy w' o.m iU X) (hn:w.heap.size≤iU):aT w' p v d { V with S:=X } { o with mb:=iU } := by
 have hno:∀ {j q:Nat},o.cl v j q→¬q=o.m:=fun hq e=>h.sZ h.map.blk.ty dC (e ▸ cR.r8 hq)
 have Qj:∀ {t:TypeId} {q:Nat},Ty w t q→t≠132→¬q=o.m:=fun ht hne e=>hne ((e ▸ ht).inj h.map.blk.ty)
 refine⟨h.bH.ε hu (fun q hq=>hno (j:=1) hq),h.blk.ε hu (hno (j:=0) rfl),h.kept.ε hu (hno (j:=2) rfl),h.log.ε hu (hno (j:=3) rfl),h.recs.ε hu (fun q e=>hno (j:=4) e),h.sep,h.ring.move hu (fun q e=>hno (j:=5) e),h.yV,hm,fun e=>?_,fun e=>?_,h.rows.ε hu (fun q e=>hno (j:=6) e),h.rM,fun i b ov h1 h2=>(h.each i b ov h1 h2).ε hu (fun q ht=>Qj ht dC),h.eS.ε hu (fun q ht=>Qj ht dC)⟩
 ·have e2:iU ∈ o.F:=e
  have:=h.lt (i:=1) oM e2;omega
 ·have:=h.lt (i:=5) (q:=o.rk) oM (.inr (.inl rfl))
  have e2:iU=o.rk:=e;omega
end
structure amh (w w':World) (p v:Nat) (d:Dk) (V:aQ) (F:List Nat) (kb m mb rb rk:Nat) (aA:List (Int × Nat)) (o':cR):Prop where
 at_:aT w' p v d V o'
 ε:ζ (fun q=>q ∈ F∨q=v∨q=kb∨q=m∨fK rb rk aA q) w w'
 sub:∀q,o'.mut v q→q ∈ F∨q=v∨q=kb∨fK rb rk aA q∨w.heap.size≤q
 m:o'.m=m
 mb:o'.mb=mb∨w.heap.size≤o'.mb
section
variable {w w':World} {p v:Nat} {d:Dk} {k:Kp} {s:dw} {S0 S:List ai} {F:List Nat} {kb m mb rb rk:Nat} {mv:Value} {aA:List (Int × Nat)} {g:Lg} {rows:List bQ} {at_ ep:Int}
theorem ak7 (h:kT w p v d (kF k s S0) F kb m mb mv (.pointer (some ⟨rb,0,none⟩))) (hR:b_ (fK rb rk aA) w w rb (str jo) s.key s.κ 0 rk aA) (nh:rk ∉ F) (hmk:mb≠rk) (hf:JM d) (hok:mz s) (sy:1≤s.log) (hg:nA d 20 320 s.log=some g) (hr:Jr s S0 g rows S at_ ep) :
 ς 66 #[.pointer (some ⟨v,0,none⟩)] w fun e w'=>e=ώ (ι 0)∧∃o',amh w w' p v d (zW g k s (S,at_,ep) rows) F kb m mb rb rk aA o':=by
 have hop:=aas h.bH.drew 20 320 s.log dC (oN hf.len) sy (oN hok.log) hf.off;rw[hg,show Ni (some g)=0 from rfl] at hop;have EH:=δ hop;have K4:=h.F9;have hlt:=h.blk.lt;have H:=iw h hR nh hmk K4 hlt;have HR:=τ hr hok;clear h hR nh hmk hf hok sy hg hr hop K4 hlt;go_enter func66,ntmps66
 go_upto_region 1 with fail
 refine dW ?_;refine eo (S:=fun w'=>w'.cell? ⟨v,5,none⟩=some (.pointer (some ⟨p,0,none⟩))∧w'.cell? ⟨v,17,none⟩=some (ω (s.log:Int))) (T:=fun _=>false) kR ?_;have aE:w.drew.cell? ⟨v,5,none⟩=some (.pointer (some ⟨p,0,none⟩))∧w.drew.cell? ⟨v,17,none⟩=some (ω (s.log:Int)):=⟨H.out.1.blk.drew.cell 5,H.out.1.blk.drew.cell 17⟩;refine ξ 0 ?_;refine ξ 1 ?_;refine ξ 2 ?_;refine aX 3 (fun w' hSw=>hSw.1) ?_;refine ξ 4 ?_;refine ξ 5 ?_;refine ξ 6 ?_;refine ξ 7 ?_;refine aX 8 (fun w' hSw=>hSw.2) ?_;refine bf 9 (fun KK ο=>?_);go_simp
 refine EH.out.mono ?_;rintro e w1 ⟨lg,rfl,hG⟩;obtain⟨lb,lv,rfl,VE,hlO,ae7,ae8⟩:=hG.ok g rfl;have hlb:w.heap.size≤lb:=ae7;have hlv:∀q,lv.ownBlock=some q→w.heap.size≤q:=ae8;have hU:υ w w1:=(ζ.refl _ w).drew.then hG.ε (fun _ e=>.inl e);have qg:=H.out.1.still hU;have bn:w1.cell? ⟨v,5,none⟩=some (.pointer (some ⟨p,0,none⟩))∧w1.cell? ⟨v,17,none⟩=some (ω (s.log:Int)):=⟨qg.blk.cell 5,qg.blk.cell 17⟩;refine ο.out _ _ bn ?_;have H1:=iw qg hU VE hlO hlb hlv;have rG:=δ qg.blk;clear ο hU qg VE hlO hlb hlv ae7 ae8 hG;refine ξ 10 ?_;refine ξ 11 ?_;refine ξ 12 ?_;refine ξ 13 ?_;refine ξ 14 ?_;refine dY ?_;refine dz ?_;clear aE bn;go_upto_region 5 with (first
  |(refine gJ rfl _ _ _ rfl v 7 (.pointer (some ⟨lb,0,none⟩)) rfl rfl _ _ rG.out yt rfl kR ?_
    intro w2 aD σ aY;have H2:=aq aD σ aY;clear aD σ aY))
 -- the vault stands
 have hlt:=H.out.2.2.2.2.2;have hlb:w.heap.size≤lb:=H1.out.2.2.2.2.1;have hm2:=H1.out.1.map.ε H2.out.2.1 (fun e=>H.out.2.2.2.2.1.1 e) (fun e=>H.out.2.2.2.2.1.2.1 e);have hk2:=H1.out.1.kept.ε H2.out.2.1 (fun e=>H.out.2.2.2.2.1.2.2 e);have nL:=H1.out.1.bH.ε H2.out.2.1 (fun q hq e=>H.out.1.vF (e ▸ hq));have hl2:=H1.out.2.2.1.ε H2.out.2.1 (fun e=>oE e);have UL:=H1.out.2.2.2.1.ε H2.out.2.1 (fun q hq e=>oF e (H1.out.2.2.2.2.2 q hq));have oL:∀q,fK rb rk aA q→¬q=v:=fun q hq e=>H.out.2.1.xJ H.out.1.blk dC dC ux
 have iP:=b_.move (H.out.2.1.still H1.out.2.1) H2.out.2.1 oL;have ae9:=H1.out.1.eS.ε H2.out.2.1 (fun q ht e=>by
  have e2:q=v:=e;subst e2;exact absurd (rG.out.ty.inj ht) dC)
 have h2:aT w2 p v d (zW g k s (S0,s.at_,s.θ) []) ⟨F,kb,lb,lv,rb,rk,aA,m,mb,.slice none 0 0,[],mv⟩ :=
  ⟨nL,H2.out.1,hk2,hl2,UL,fun q hq e=>by have h1:=H1.out.2.2.2.2.2 q hq;have h3:=H.out.1.bH.lt _ e;omega,iP,H.out.2.2.1,hm2,H.out.1.qL,H.out.2.2.2.1,Own.nil _ _ _,rfl,fun i b ov h1=>by simp[zW] at h1,ae9⟩
 have σ:ζ (· = v) w w2:=(H1.out.2.1.mono φ).then H2.out.2.1 (fun q e=>.inl e);have Tp:∀q,cR.mut ⟨F,kb,lb,lv,rb,rk,aA,m,mb,.slice none 0 0,[],mv⟩ v q→q ∈ F∨q=v∨q=kb∨fK rb rk aA q∨w.heap.size≤q:=fun q hq=>by
  rcases hq with e | e | e | e | e | e | e
  ·exact .inr (.inl e)
  ·exact .inl e
  ·exact .inr (.inr (.inl e))
  ·exact .inr (.inr (.inr (.inr (by rw[show q=lb from e];exact hlb))))
  ·exact .inr (.inr (.inr (.inr (H1.out.2.2.2.2.2 q e))))
  ·exact .inr (.inr (.inr (.inl e)))
  ·simp[Value.ownBlock] at e
 obtain⟨o0,Qm⟩:∃o0:cR,⟨F,kb,lb,lv,rb,rk,aA,m,mb,.slice none 0 0,[],mv⟩=o0:=⟨_,rfl⟩;have hom:o0.m=m:=by rw[← Qm]
 have ae_:o0.mb=mb:=by rw[← Qm]
 have OH:=aiQ (w:=w2) (p:=p) (b:=lb) (g:=g) ⟨lv,hl2,UL⟩ (oO HR.out.1.yl HR.out.1.many);rw[Qm] at h2 Tp;have aoG:=δ OH;have sQ:=cD h2 σ Tp hom ae_;clear hlt hlb hm2 hk2 nL hl2 UL oL iP ae9 h2 σ Tp hom ae_ OH Qm;go_wp2_with (first
  |(go_at_call 125;refine aoG.out.mono ?_;rintro e w3 ⟨rv,rfl,gG,χ,yT⟩
    obtain⟨RA,nH,rfl,-,-⟩:=gG.shape;have H3:=aq gG χ yT;clear gG χ yT))
 have qE:=sQ.out.1.still H3.out.2.1;have ae':∀q,(Value.slice RA g.l.length nH).ownBlock=some q→¬o0.mut v q∧q≠m∧q<w3.heap.size:=fun q hq=>by
  have h1:=H3.out.2.2 q hq;refine⟨fun e=>?_,fun e=>?_,H3.out.1.lt hq⟩
  ·obtain⟨i,hi,hc⟩:=cR.S3 e
   have:=sQ.out.1.lt hi hc;omega
  ·have:=sQ.out.1.map.lt.1
   rw[sQ.out.2.2.2.1] at this;omega
 have WM:=τ qE ae';clear qE ae';go_loopw [6,7,8,9,10,34] (fun _ _ _ _ _ iv wr=>∃(i:Nat) (x:List ai × Int × Int) (o':cR),i≤rows.length∧iv=ι (i:Int)∧ja (rows.take i) (S0,s.at_,s.θ)=some x∧aT wr p v d (zW g k s x (rows.take i)) o'∧o'.m=m∧(o'.mb=mb∨w.heap.size≤o'.mb)∧ζ (fun q=>o0.mut v q∨q=m) w3 wr∧(∀q,o'.mut v q→o0.mut v q∨w3.heap.size≤q)) (fun _ _ _ _ _ iv _=>rows.length - (intOf iv).toNat)
 case atStart=>exact⟨0,(S0,s.at_,s.θ),o0,oM,rfl,rfl,WM.out.1,sQ.out.2.2.2.1,.inl sQ.out.2.2.2.2,ζ.refl _ _,fun q e=>.inl e⟩
 case round =>
  obtain⟨i,x,o',hi,rfl,hx,hA,hm,hmb,hU,hsub⟩:=hrel;have fX:g.l.length=rows.length:=HR.out.1.yl;by_cases hlt:i<rows.length
  ·obtain⟨b,hb⟩:∃b,rows[i]? = some b:=⟨_,bu hlt⟩
   obtain⟨q1,q2,q3,q4⟩:=ak5 HR.out.1.rep hb hx;have jg:=HR.out.1.sL b (qO hb);have eU:=ak6 (S:=x.1) q1 q3;obtain⟨b1,b2,b3,b4,b5⟩:=ue q1;have nO:-9223372036854775808≤x.2.1+1∧x.2.1+1<9223372036854775808:=oM;obtain⟨ni,hni⟩:∃n:Nat,b.index=n:=⟨b.index.toNat,oM⟩;obtain⟨ne,hne⟩:∃n:Nat,b.θ=n:=⟨b.θ.toNat,oM⟩;have WN:i<g.l.length:=oM;have dJ:=HR.out.1.recs i WN hlt;rw[show rows[i]=b from (mF.1 hb).2] at dJ;obtain⟨key,bo,nn,k1,k2,k3,k4,k5⟩:=dJ;have ef:=Je q1 jg;obtain⟨R,wM⟩:=μ (g.l[i]);rw[wM] at k5;have hro:=SD hA.ring DU (by have:=HR.out.2.key;show s.key≤_;omega) key bo nn k1 k3 k4 (str jZ) dC (ir b) oM R (by rw[cA,cA];exact k5);have Lv:=fun W=>alN (l:=b.ops) (i:=ni) (ep:=ne) oM (by rw[← hni,← hne];exact q1) (str (ir b)) (by rw[cA];unfold ir;rw[hni,hne];rfl) W
   rw[← hni,← hne] at Lv;obtain⟨gb,apr,E4,-,-⟩:=(H3.out.1).head oM;have hown:=H3.out.1.ε hU (fun q hq e=>e.elim (WM.out.2 q hq).1 (WM.out.2 q hq).2.1);injection E4 with e1 e2 e3;subst e1;subst e3;clear e2;have hcell:wr.cell? ⟨gb,i,none⟩=some (.string R):=by
    rw[hown.cellAt i oM,strs,lf,bu WN,wM];rfl
   have j1:(i:Int)<(g.l.length:Int):=oM;have hwk:IntKind.i64.wrap ((i:Int)+1)=(i:Int)+1:=cZ _ (oN HR.out.1.many);have aoH:wr.cell? ⟨v,8,none⟩=some (.pointer (some ⟨o'.rb,0,none⟩)):=hA.blk.cell 8;have LR:=δ hro;have KR:=δ Lv;have HX:=B0 hA hm hmb hU hsub hi hlt hx;have HQ:=δ (And.intro q2 (And.intro q4 (And.intro eU (And.intro b5 (And.intro hni (And.intro hne (And.intro q3 (And.intro b4 (And.intro hb nO)))))))));clear hA hm hmb hU hsub hi hlt hx q1 q2 q3 q4 jg eU b1 b2 b3 b4 b5 hni hne WN k1 k2 k3 k4 k5 ef wM hro Lv hown hb fX;go_upto_region 11 with (first
    |(go_at_call 123;refine LR.out.mono ?_;rintro e wa ⟨rfl,es,CO⟩
      have ha:=HX.out.1.zx CO;have Ha:=τ ha.1 ha.2;clear ha CO))
   clear hcell aoH;go_upto_region 14 with (first
    |(go_at_call 126;refine(KR.out _).mono ?_;rintro e wb ⟨ov,rfl,yP,hnb,kY⟩
      have hT:=ax.ku (cs:=b.ops.map bY) (k:=3) (n:=b.ops.length) (by rw[opsV,QW] at yP;exact yP) (bz _) (oN HQ.out.2.2.2.2.2.2.2.1) (fun c hc=>by obtain⟨q,-,rfl⟩:=cu.1 hc;rfl)
      have hone:=yP.one;have Hb:=aF (Ha.out.1.still kY) kY hT hone;obtain⟨c,hc⟩:=μ wb.heap.size;have HC:=δ hc;clear yP hnb kY hT hone hc)
    |(refine eN 35 wb.heap.size (mm b.index b.θ ov) (η.new wb _ _) (Yz Hb.out.2.2.2) ?_
      intro wc mV nQ G3;have O3:υ wb wc:=((ζ.refl (fun _=>False) wb).alloc _).then nQ (fun q e=>.inr (oE e));have Hc:=aF (Hb.out.1.still O3) O3 (Hb.out.2.2.1.still O3) mV;clear O3 mV nQ G3))
   rw[HC.out] at Hc ⊢;have LJ:wc.cell? ⟨c,0,none⟩=some (ι b.index):=Hc.out.2.2.2.cell 0;have cv1:wc.cell? ⟨v,1,none⟩=some (ι x.2.1):=Hc.out.1.blk.cell 1;have hwi:IntKind.i64.wrap (x.2.1+1)=b.index:=by
    rw[← HQ.out.1];exact cZ _ (by have h1:=HQ.out.1;omega)
   go_quiet (fail)
   go_upto_region 16 with fail
   generalize hwd:World.drewN wc _=wd;have Gv:υ wc wd:=by rw[← hwd];exact(ζ.refl _ wc).drewN _
   obtain⟨OA,O4,ob,oo,Kj,OY,Kk,Kl,Km⟩:=Hc.out.2.2.1.ops;have G7:=Hc.out.1.still Gv;have qF:=Hc.out.2.2.2.ε Gv id;have hTd:=Hc.out.2.2.1.still Gv;have kM:=acv (G7.map.still (ζ.refl (fun _=>False) wd).drew) (A:=OA) (cap:=O4) (b:=ob) (off:=oo) (l:=b.ops) Kl (fun w' hu=>Km w' (fun _=>False) (Gv.drew.then hu (fun _ e=>.inl e)) (fun _ _ e=>e)) (fun o ho=>by obtain⟨-,e1,-,e2,-⟩:=C6 (HQ.out.2.2.2.1 o ho);have:=Fp e1;omega) Kk;have iV:=δ kM;have HD:=cD G7 qF hTd Gv Kj;clear LJ cv1 hwi G7 qF hTd kM Kj OY Kk Kl Km Gv hwd;refine dW ?_;refine eo (S:=fun w'=>w'.cell? ⟨v,0,none⟩=some (.pointer (some ⟨o'.m,0,none⟩))∧w'.cell? ⟨c,2,none⟩=some (.slice OA b.ops.length O4)) (T:=fun _=>false) kR ?_;have aE:wd.drew.cell? ⟨v,0,none⟩=some (.pointer (some ⟨o'.m,0,none⟩))∧wd.drew.cell? ⟨c,2,none⟩=some (.slice OA b.ops.length O4):=⟨HD.out.1.blk.drew.cell 0,by rw[← HD.out.2.2.2.2];exact HD.out.2.1.drew.cell 2⟩;refine ξ 0 ?_;refine ξ 1 ?_;refine ξ 2 ?_
   refine ξ 3 ?_;refine aX 4 (fun w' hSw=>hSw.1) ?_;refine ξ 5 ?_;refine aX 6 (fun w' hSw=>hSw.2) ?_;refine bf 7 (fun KK ο=>?_);go_simp
   refine iV.out.mono ?_;rintro e we ⟨rfl,hDE⟩;obtain⟨fu,hm2,OJ,σ⟩:=hDE.yes HQ.out.2.2.1;rw[show fD (zW g k s x (rows.take i)).S b.ops=0 from HQ.out.2.2.1];have Kr:ζ (· = o'.m) wd we:=((ζ.refl (fun q=>q=o'.m) wd).drew).then σ (fun q e=>.inl e);have EB:=HD.out.1.fR Kr hm2 OJ;have WO:=HD.out.2.1.ε Kr (fun e=>absurd (HD.out.2.1.ty.inj ((show c=o'.m from e) ▸ HD.out.1.map.blk.ty)) dC);have hTe:=HD.out.2.2.1.ε Kr (fun q ht e=>absurd (ht.inj ((show q=o'.m from e) ▸ HD.out.1.map.blk.ty)) dC);have bn:we.cell? ⟨v,0,none⟩=some (.pointer (some ⟨o'.m,0,none⟩))∧we.cell? ⟨c,2,none⟩=some (.slice OA b.ops.length O4):=⟨EB.blk.cell 0,by rw[← HD.out.2.2.2.2];exact WO.cell 2⟩;refine ο.out _ _ bn ?_;have HE:=aq EB WO hTe;have HM:=aq OJ hm2 Kr;clear ο EB WO hTe Kr hm2 OJ σ hDE;refine ξ 8 ?_;refine dY ?_;refine dz ?_;clear aE bn;have Pj:=abV HE.out.1 b HE.out.2.2 (oN HQ.out.2.2.2.2.2.2.2.1) (by show (rows.take i).length≤1000;rw[iW];have:=HR.out.1.many;omega);have HDM:=δ Pj;clear Pj;go_upto_region 20 with (first
    |(refine gp _ c HE.out.2.1 underlying35 ?_)
    |(go_at_call 60;refine HDM.out.mono ?_;rintro e w9 ⟨rfl,o9,h9,k9,e1,e2,e3⟩
      have H9:=cD h9 k9 e1 e2 e3;clear h9 k9 e1 e2 e3))
   go_wp2_with fail
   go_roundw
   case rel =>
    have hA:=HX.out.1;have hm:o'.m=m:=HX.out.2.1;have hs1:=HX.out.2.2.2.1.size;have hsw:w.heap.size≤w3.heap.size:=by have h1:=sQ.out.2.1.size;have h2:=H3.out.2.1.size;omega
    have cn:=Ha.out.2.ε.size;have fF:=Hb.out.2.1.size;have hs4:=Hc.out.2.1.size;have hs5:=HD.out.2.2.2.1.size;have tO:=HM.out.2.2.size;have yS:ζ (fun q=>o0.mut v q∨q=m) w3 wa:=HX.out.2.2.2.1.then Ha.out.2.ε (fun q e=>(HX.out.2.2.2.2.1 q e).imp .inl id);have hUd:ζ (fun q=>o0.mut v q∨q=m) w3 wd:=((yS.then Hb.out.2.1 φ).then Hc.out.2.1 φ).then HD.out.2.2.2.1 φ;have hUe:ζ (fun q=>o0.mut v q∨q=m) w3 we:=hUd.then HM.out.2.2 (fun q e=>.inl (.inr (by rw[← hm];exact e)));have acO:∀q,cR.mut { o' with aA:=es } v q→o0.mut v q∨w3.heap.size≤q:=fun q hq=>by
     rcases Ha.out.2.sub q hq with e | e
     ·exact HX.out.2.2.2.2.1 q e
     ·exact .inr oM
    have Qd:=hUe.then H9.out.2.1.ε (fun q e=>(acO q e).imp .inl id);have h9:aT w9 p v d (zW g k s (cH x.1 b.ops,b.index,b.θ) (rows.take (i+1))) o9:=by
     have h9:=H9.out.1;rw[agj,HQ.out.2.2.2.2.2.2.2.2.1];exact h9
    refine⟨i+1,(cH x.1 b.ops,b.index,b.θ),o9,by have:=HX.out.2.2.2.2.2.2.1;omega,sM,HQ.out.2.1,h9,by rw[H9.out.2.2.1];exact hm,?_,Qd,fun q hq=>?_⟩
    ·right
     rw[H9.out.2.2.2.1];have h0:wd.heap.size≤fu:=HM.out.1;show w.heap.size≤fu;omega
    ·rcases H9.out.2.1.sub q hq with e | e
     ·exact acO q e
     ·have:=hUe.size
      exact .inr oM
   case measure=>have:=HX.out.2.2.2.2.2.2.1;simp[intOf]<;>omega
  ·obtain rfl:i=rows.length:=oM
   rw[sW] at hx hA;have j1:¬((rows.length:Int)<(g.l.length:Int)):=oM;have hxx:x=(S,at_,ep):=by
    have h1:=HR.out.1.rep;rw[hx] at h1;exact dM h1
   have HX:=iw hA hm hmb hU hsub hxx;clear hA hm hmb hU hsub hx hxx hi hlt fX;go_wp2_with fail
   go_ret
   have hA:=HX.out.1;rw[HX.out.2.2.2.2.2] at hA;have hsw:w.heap.size≤w3.heap.size:=by have h1:=sQ.out.2.1.size;have h2:=H3.out.2.1.size;omega
   refine⟨rfl,o',hA,?_,fun q hq=>?_,HX.out.2.1,HX.out.2.2.1⟩
   ·refine(((sQ.out.2.1.mono (fun q e=>.inl (.inr (.inl e)))).then H3.out.2.1 φ).then HX.out.2.2.2.1 (fun q e=>?_))
    rcases e with e | e
    ·rcases sQ.out.2.2.1 q e with f | f | f | f | f
     ·exact .inl (.inl f)
     ·exact .inl (.inr (.inl f))
     ·exact .inl (.inr (.inr (.inl f)))
     ·exact .inl (.inr (.inr (.inr (.inr f))))
     ·exact .inr f
    ·exact .inl (.inr (.inr (.inr (.inl e))))
   ·rcases HX.out.2.2.2.2.1 q hq with e | e
    ·exact sQ.out.2.2.1 q e
    ·exact .inr (.inr (.inr (.inr oM)))
end
abbrev S4:Array Value:=#[ι 0,ι 0,ι 0,.slice none 0 0,.string ⟨#[]⟩,ι 0,ι 0,ι 0,ω 1,ι 0,.int .u32 0]
abbrev S5 (p kb:Nat):Array Value:=#[.pointer none,ι 0,ι 0,.slice none 0 0,ι 0,.pointer (some ⟨p,0,none⟩),.pointer (some ⟨kb,0,none⟩),.pointer none,.pointer none,
 ι 0,ι 0,ι 0,.slice none 0 0,.string ⟨#[]⟩,ι 0,ι 0,ι 0,ω 1,ι 0,.int .u32 0,.bool false]
theorem ak8:prog.built 115 [(4,ω 1)]=some S4:=kR
theorem ak9 (p kb:Nat):prog.built 117 [(1,.pointer (some ⟨p,0,none⟩)),(2,.pointer (some ⟨kb,0,none⟩)),(5,.agg S4)]=some (S5 p kb):=kR
structure ah' (w w':World) (p v:Nat) (d:Dk) (V:aQ) (F:List Nat) (o:cR):Prop where
 at_:aT w' p v d V o
 ε:ζ (· ∈ F) w w'
 sub:∀q,o.mut v q→q ∈ F∨w.heap.size≤q
 v:w.heap.size≤v
 mb:w.heap.size≤o.mb
structure ak_ (w w':World) (p:Nat) (F:List Nat) (R:Dk × aQ × Int) (e:Ending):Prop where
 yes:R.2.2=0→∃v o,e=ώ (.tuple #[.pointer (some ⟨v,0,none⟩),ι 0])∧ah' w w' p v R.1 R.2.1 F o
 no:R.2.2≠0→e=ώ (.tuple #[.pointer none,ι R.2.2])∧∃F',Left w w' p R.1 F F'
theorem Jr.κ {s:dw} {S0 S:List ai} {g:Lg} {rows:List bQ} {a e:Int} (h:Jr s S0 g rows S a e) (n:Nat):Jr { s with κ:=n } S0 g rows S a e:=⟨h.fit,h.yl,h.recs,h.many,h.rep,h.sL⟩
theorem mz.F_ {s:dw} (h:mz s) {n:Nat} (hn:n≤1000000):mz { s with κ:=n } := ⟨h.right,h.place,h.slot,h.log,h.key,hn,h.mn⟩
section
variable {w w':World} {p v:Nat} {d:Dk} {k:Kp} {s:dw} {S0 S:List ai} {F:List Nat} {kb m mb rb rk:Nat} {mv:Value} {aA:List (Int × Nat)} {g:Lg} {rows:List bQ} {V:aQ}
theorem ND (hD:bG w p d F) (ho:N_ d V S0) :
 ς 16 #[.pointer (some ⟨p,0,none⟩),.string (str jo)] w fun e w'=>ak_ w w' p F (vE d V) e:=by
 have LY:V.again=zW V.lg V.kp { V.st with κ:=V.st.κ+1 } (V.S,V.at_,V.θ) V.rows:=by
  unfold aQ.again zW;rw[ho.prev,ho.cur]
 obtain⟨k,hkk⟩:=μ V.kp;obtain⟨s,LZ⟩:=μ V.st;have Tq:=ho.kept;have hq:=ho.amf;rw[hkk] at Tq hq;rw[LZ] at hq;have hkp:=ho.kp;rw[hkk] at hkp;have gH:=hq.κ;have sx:=ho.amg;have CQ:=ho.log;have hl0:=ho.aoB;rw[LZ] at sx CQ hl0;have hf:=ho.fit;have hb:=ho.sound;have hdn:=NL hD;rw[hf.off] at hdn;have hsc:=RL hD;rw[hf.len] at hsc;have hsp:=akT hD hf.off (by rw[hf.len];omega) (fun i hi=>hD.wf.Sb (by rw[hf.len];exact hi));rw[hb] at hsp;have rK:=δ hdn;have HSC:=δ hsc;have Ey:=δ hsp;clear hdn hsc hsp;go_enter func16,ntmps16
 go_upto_region 12 with (first
  |(go_at_call 33;refine rK.out.mono ?_;rintro e w1 ⟨rfl,rfl⟩)
  |(go_at_call 61;refine HSC.out.mono ?_;rintro e w1 ⟨rfl,rfl⟩)
  |(go_at_call 62;refine Ey.out.mono ?_;rintro e w1 ⟨rfl,az⟩
    have lJ:=δ az;clear az))
 have hop:=alJ (hD.ε lJ.out (fun _ _ e=>e)) 0 (by rw[hf.len];omega) hf.off;rw[Tq] at hop;have EH:=δ hop;clear hop;have HZ:=aq hD hf hq;have aoI:=δ (fun (W:World) (m mb:Nat) (mv:Value) (rb rk v kb:Nat) (aA:List (Int × Nat)) (h:kT W p v d (kF k { s with κ:=s.κ+1 } S0) F kb m mb mv (.pointer (some ⟨rb,0,none⟩))) (h1:b_ (fK rb rk aA) W W rb (str jo) s.key (s.κ+1) 0 rk aA) (h2:rk ∉ F) (h3:mb≠rk)=>ak7 h h1 h2 h3 hf (hq.ok.F_ hq.κ) hl0 CQ (sx.κ (s.κ+1)));rw[hkk,LZ] at LY;have L2:=aF LY hkp LZ (hq.ok.F_ hq.κ);clear hD ho hf hb Tq hq hl0 CQ sx hkk LZ LY hkp gH;go_upto_region 16 with (first
  |(go_at_call 63;refine EH.out.mono ?_;rintro e w2 ⟨kv,rfl,hO⟩
    obtain⟨kb,rfl,hkB,hkb⟩:=hO.ok _ rfl;have H2:=aF (lJ.out.then hO.ε φ) hkB hkb (HZ.out.1.ε (lJ.out.then hO.ε φ) (fun _ _ e=>e));have rG:=δ (ak9 p kb);clear hO hkB hkb)
  |(refine qQ rfl _ _ rfl [(4,ω 1)] _ zR ak8 ?_)
  |(refine qQ rfl _ _ rfl [(1,.pointer (some ⟨p,0,none⟩)),(2,.pointer (some ⟨kb,0,none⟩)),(5,.agg S4)] _ zR rG.out ?_))
 obtain⟨v,hv⟩:=μ w2.heap.size;rw[hv];generalize iz:World.alloc _ _=w3;have aC:η w3 v 117 (S5 p kb):=by rw[← iz,← hv];exact η.new w2 _ _
 have χ:υ w2 w3:=Ou
 have fF:w3.heap.size=v+1:=by rw[← iz,← hv];exact dx _ _
 have H3:=iw aC (H2.out.1.then χ φ) (H2.out.2.1.ε χ id) (H2.out.2.2.2.ε χ (fun _ _ e=>e)) hv fF;have mg:=δ (abP w3);clear aC χ fF hv iz;go_upto_region 17 with (first
  |(go_at_call 64;refine mg.out.mono ?_;rintro e w4 ⟨m,mb,rfl,wA,afa,afb,au⟩
    have H4:=aF wA afa afb au;have je:=δ (H3.out.1.ε au id);clear wA afa afb au)
  |(refine gJ rfl _ _ _ rfl v 0 (.pointer (some ⟨m,0,none⟩)) rfl rfl _ _ je.out (by simp[S5]) rfl kR ?_
    intro w5 aK ay iQ;have H5:=aq aK ay iQ;clear aK ay iQ))
 have hvw:w.heap.size≤v:=by have:=H2.out.1.size;have:=H3.out.2.2.2.2.1;omega
 have Aj:w.heap.size≤kb:=by have:=lJ.out.size;have:=H2.out.2.2.1;omega
 have hkv:kb≠v:=by have:=H2.out.2.1.lt;have:=H3.out.2.2.2.2.1;omega
 have dK:v<m∧v<mb:=by have:=H4.out.2.1;have:=H4.out.2.2.1;have:=H3.out.2.2.2.2.2;omega
 have UM:υ w w5:=(H3.out.2.1.then H4.out.2.2.2 φ).then H5.out.2.1 (fun q e=>.inr (oE e));have h5:kT w5 p v d (kF k jL []) F kb m mb (.slice none 0 0) (.pointer none):=by
  have hF:∀q ∈ F,q<w.heap.size:=fun q hq=>HZ.out.1.lt q hq
  refine⟨HZ.out.1.ε UM (fun _ _ e=>e),H5.out.1,(H3.out.2.2.1.ε H4.out.2.2.2 id).ε H5.out.2.1 (fun e=>hkv e),H4.out.1.ε H5.out.2.1 (fun e=>oE e) (fun e=>oE e),fun e=>oN (hF _ e),?_⟩;exact ax.ku (n:=0) (cs:=[]) (Own.nil _ _ _) rfl oM sM
 have qI:=cD h5 UM hvw Aj dK;have HRC:=δ (ak4 h5 HZ.out.2.1 HZ.out.2.2);clear hvw Aj hkv dK UM h5;go_upto_region 23 with (first
  |(go_at_call 65;refine HRC.out.mono ?_;rintro e w6 ⟨rfl,m',iU,di,rb,rk,aA,hL⟩
    have HL:=δ hL;have L3:=δ (aoI.out w6 m' iU di rb rk v kb aA hL.pre hL.ring hL.yV hL.uY);clear hL)
  |(go_at_call 66;refine L3.out.mono ?_;rintro e w7 ⟨rfl,o7,h7⟩
    have H7:=δ h7;clear h7))
 obtain⟨W,hW⟩:=μ V.again;have CR:zW V.lg k { s with κ:=s.κ+1 } (V.S,V.at_,V.θ) V.rows=W:=by rw[← hW,L2.out.1]
 have hst : { s with κ:=s.κ+1 } = W.st:=by rw[← CR];rfl
 have h7:=H7.out.at_;rw[CR] at h7;have hpc:=N8 h7 W.st (by rw[← hst];exact L2.out.2.2.2) h7.eS rfl (by rw[← CR];have:=HZ.out.2.2.ok.key;show s.key≤_;omega) (by rw[← CR];show 0<_;omega) (by rw[← CR];exact L2.out.2.1.1) (by rw[← CR];exact L2.out.2.1.2.1) (by rw[← CR];show k.from_≤_;rw[L2.out.2.1.2.2];omega) HZ.out.2.1.pend;obtain⟨R,hR⟩:=μ (vE d V);have hRp:dm d W W.st=R:=by rw[← hR,← hW];rfl
 rw[hRp] at hpc;obtain⟨E,hE⟩:=μ R.2.2;have bI:ζ (· ∈ F) w w7:=(((qI.out.2.1.mono φ).then HL.out.ε (fun q e=>.inr (oF e qI.out.2.2.1)))).then H7.out.ε (fun q e=>by
  have h1:=qI.out.2.1.size;rcases e with e | e | e | e | e
  ·exact .inl e
  ·exact .inr (oN qI.out.2.2.1)
  ·exact .inr (oN qI.out.2.2.2.1)
  ·refine .inr ?_
   rcases HL.out.m with f | f
   ·have:=qI.out.2.2.2.2.1;have:=qI.out.2.2.1;omega
   ·omega
  ·exact .inr (oN (HL.out.new q e)))
 have acP:∀q,o7.mut v q→q ∈ F∨w.heap.size≤q:=fun q hq=>by
  have h1:=qI.out.2.1.size;have h2:=HL.out.ε.size;rcases H7.out.sub q hq with e | e | e | e | e
  ·exact .inl e
  ·exact .inr (oN qI.out.2.2.1)
  ·exact .inr (oN qI.out.2.2.2.1)
  ·exact .inr (oN (HL.out.new q e))
  ·exact .inr oM
 rw[hE] at hpc;have Qh:=δ hpc;have HE:=τ hR hE;have wV:=aq h7 bI acP;have acQ:=fun (j:Nat) (u:Value) (hj:[Value.int .i64 W.st.m.role,ι W.st.m.seen,ι W.st.m.aH,o7.mv,.string (str W.st.m.aW),ι W.st.at_,ι W.st.θ,ι (W.st.slot:Int),ω (W.st.log:Int),ι (W.st.key:Int),.int .u32 (W.st.κ:Int)][j]? = some u)=>og (cs:=fI W p o7) (i:=9) (n:=11) rfl j u hj
 have P_:=δ acQ;clear hst CR h7 hpc hRp bI acP hR acQ;by_cases h0:E=0
 ·subst h0
  clear hE;go_wp2_with (first
   |(refine rV rfl _ _ rfl v 9 rfl _ _ [Value.int .i64 W.st.m.role,ι W.st.m.seen,ι W.st.m.aH,o7.mv,.string (str W.st.m.aW),ι W.st.at_,ι W.st.θ,ι (W.st.slot:Int),ω (W.st.log:Int),ι (W.st.key:Int),.int .u32 (W.st.κ:Int)] _ wV.out.1.blk P_.out underlying115 rfl kR ?_)
   |(go_at_call 67;refine Qh.out.mono ?_;rintro e w8 ⟨rfl,o8,h8,k8⟩
     have H8:=τ h8 k8;clear h8 k8))
  go_ret2
  rw[HE.out.1];have aoJ:w.heap.size≤o8.mb:=by
   have h1:=qI.out.2.1.size;have h2:=HL.out.ε.size;have h3:=wV.out.2.1.size;have h4:=qI.out.2.2.1;have h5:=qI.out.2.2.2.2.2;rcases H8.out.2.EO with e | e
   ·rcases H7.out.mb with f | f
    ·rcases HL.out.mb with g | g
     ·omega
     ·omega
    ·omega
   ·omega
  refine⟨fun _=>⟨v,o8,rfl,H8.out.1,?_,fun q hq=>?_,qI.out.2.2.1,aoJ⟩,fun e=>absurd HE.out.2 e⟩
  ·exact wV.out.2.1.then H8.out.2.ε (fun q hq=>wV.out.2.2 q hq)
  ·rcases H8.out.2.sub q hq with e | e
   ·exact wV.out.2.2 q e
   ·exact .inr (oN wV.out.2.1.size)
 ·have eU:(E != 0)=true:=by simpa using h0
  have H0:=δ h0;clear hE h0;go_wp2_with (first
   |(refine rV rfl _ _ rfl v 9 rfl _ _ [Value.int .i64 W.st.m.role,ι W.st.m.seen,ι W.st.m.aH,o7.mv,.string (str W.st.m.aW),ι W.st.at_,ι W.st.θ,ι (W.st.slot:Int),ω (W.st.log:Int),ι (W.st.key:Int),.int .u32 (W.st.κ:Int)] _ wV.out.1.blk P_.out underlying115 rfl kR ?_)
   |(go_at_call 67;refine Qh.out.mono ?_;rintro e w8 ⟨rfl,o8,h8,k8⟩
     have H8:=τ h8 k8;clear h8 k8))
  go_ret2
  rw[HE.out.1];refine⟨fun e=>absurd e (by rw[HE.out.2];exact H0.out),fun _=>⟨by rw[HE.out.2];rfl,o8.F,H8.out.1.bH,?_,fun q hq=>?_⟩⟩
  ·exact wV.out.2.1.then H8.out.2.ε (fun q hq=>wV.out.2.2 q hq)
  ·rcases H8.out.2.sub q (.inr (.inl hq)) with e | e
   ·exact wV.out.2.2 q e
   ·exact .inr (oN wV.out.2.1.size)
end
def qs:List TypeId:=[117,151,9,209,199,186,269,35]
def wW (w:World) (q:Nat):Prop:=(∃t ∈ qs,Ty w t q)∨Mp w q
theorem Ty.Dm {w:World} {t:TypeId} {q:Nat} (h:Ty w t q) (hn:t ∉ qs):¬wW w q:=by
 rintro (⟨t',h1,h2⟩ | h2)
 ·exact hn (h.inj h2 ▸ h1)
 ·exact h.jG h2
section
variable {w w':World} {p v:Nat} {d:Dk} {V:aQ} {o:cR} {F:List Nat}
theorem aT.oP (h:aT w p v d V o) {q:Nat} (hq:o.mut v q):wW w q:=by
 rcases h.kind hq with e | e | e | e | e | e | e | e | e
 ·exact .inl ⟨_,by simp[qs],e⟩
 ·exact .inl ⟨_,by simp[qs],e⟩
 ·exact .inl ⟨_,by simp[qs],e⟩
 ·exact .inl ⟨_,by simp[qs],e⟩
 ·exact .inl ⟨_,by simp[qs],e⟩
 ·exact .inl ⟨_,by simp[qs],e⟩
 ·exact .inl ⟨_,by simp[qs],e⟩
 ·exact .inl ⟨_,by simp[qs],e⟩
 ·exact .inr e.1
theorem bG.oP (h:bG w p d F) {q:Nat} (hq:q ∈ F):wW w q:=by
 rcases h.kind hq with e | e | e
 ·exact .inl ⟨_,by simp[qs],e⟩
 ·exact .inl ⟨_,by simp[qs],e⟩
 ·exact .inr e
end
theorem cx.BV {d:Dk} {V:aQ} {S0:List ai} {c:Nat} (h:cx d V S0 c) (hc:c<99000):mz V.st:=⟨h.aL.right,h.aL.place,h.aL.slots,by have:=h.aL.rD;omega,by have:=h.aL.keys;omega,by have:=h.aL.qu;omega,h.mn⟩
theorem cx.Bo {d:Dk} {V:aQ} {S0:List ai} {c:Nat} (h:cx d V S0 c) (hc:c<99000):xQ d V:=by
 obtain⟨L0,L1,hk⟩:=h.aL.kept;exact⟨by rw[h.cur];have:=h.aL.keys;omega,by have:=h.num;omega,by have:=h.aL.vD;omega,hk.at_,by rw[h.aL.tq];omega,by rw[h.aL.good.pend];omega⟩
theorem cx.free {d:Dk} {V:aQ} {S0:List ai} {c:Nat} (h:cx d V S0 c):cx d.free V S0 c:=by
 rw[Dk.Sf h.aL.good.bP h.aL.good.off];exact h
structure AG (w0 w:World) (p v:Nat) (d:Dk) (V:aQ) (o:cR) (S0:List ai) (c:Nat):Prop where
 at_:aT w p v d V o
 g:cx d V S0 c
 low:∀q,o.mut v q→w0.heap.size≤q
 ε:υ w0 w
structure dL (w w':World) (M M':Nat→Prop):Prop where
 ε:ζ M w w'
 sub:∀q,M' q→M q∨w.heap.size≤q
theorem dL.then {w w1 w2:World} {M M1 M2:Nat→Prop} (h:dL w w1 M M1) (h2:dL w1 w2 M1 M2):dL w w2 M M2 :=
 ⟨h.ε.then h2.ε h.sub,fun q hq=>(h2.sub q hq).elim (fun e=>h.sub q e) (fun e=>.inr (ic h.ε.size e))⟩
theorem dL.still {w w':World} {M:Nat→Prop} (h:υ w w'):dL w w' M M:=⟨h.mono φ,fun _ e=>.inl e⟩
def cE (w0 w:World) (p v:Nat) (R:bq) (κ c:Nat) (M:Nat→Prop):Prop:=∃d V o S0,AG w0 w p v d V o S0 c∧V.abs=R∧V.st.κ=κ∧∀q,M q↔o.mut v q
def VlW (w0 w:World) (p v:Nat) (R:bq) (κ c:Nat):Prop:=∃M,cE w0 w p v R κ c M
structure mh (w:World) (p v:Nat) (R:bq) (κ:Nat):Prop where
 ex:∃d V o,aT w p v d V o∧V.abs=R∧V.st.κ=κ
 right:dF R.m=true
 many:R.rows.length≤1000
 yW:∀b ∈ R.rows,b.ops.length≤1000
 low:κ≤1000000
section
variable {w0 w w':World} {p v:Nat} {d:Dk} {V:aQ} {o:cR} {S0:List ai} {R:bq} {κ c:Nat} {M:Nat→Prop}
theorem AG.still (h:AG w0 w p v d V o S0 c) (hu:υ w w'):AG w0 w' p v d V o S0 c:=⟨h.at_.still hu,h.g,h.low,h.ε.then hu φ⟩
theorem cE.still (h:cE w0 w p v R κ c M) (hu:υ w w'):cE w0 w' p v R κ c M:=by
 obtain⟨d,V,o,S0,h,e⟩:=h;exact⟨d,V,o,S0,h.still hu,e⟩
theorem VlW.still (h:VlW w0 w p v R κ c) (hu:υ w w'):VlW w0 w' p v R κ c:=by
 obtain⟨M,h⟩:=h;exact⟨M,h.still hu⟩
theorem cE.ε (h:cE w0 w p v R κ c M):υ w0 w:=by obtain⟨_,_,_,_,h,_⟩:=h;exact h.ε
theorem VlW.ε (h:VlW w0 w p v R κ c):υ w0 w:=by obtain⟨_,h⟩:=h;exact h.ε
theorem cE.oP (h:cE w0 w p v R κ c M) {q:Nat} (hq:M q):wW w q:=by
 obtain⟨_,_,_,_,h,_,_,e⟩:=h;exact h.at_.oP ((e q).1 hq)
theorem cE.low (h:cE w0 w p v R κ c M) {q:Nat} (hq:M q):w0.heap.size≤q:=by
 obtain⟨_,_,_,_,h,_,_,e⟩:=h;exact h.low q ((e q).1 hq)
theorem cE.lt (h:cE w0 w p v R κ c M) {q:Nat} (hq:M q):q<w.heap.size:=by
 rcases h.oP hq with ⟨t,_,cur,fr,e⟩ | ⟨es,cc,e⟩<;>exact(nZ.1 e).1
theorem AG.step {d':Dk} {V':aQ} {o':cR} {mY:List ai} {c':Nat} (h:AG w0 w p v d V o S0 c) (hm:∀q,M q↔o.mut v q) (ha:aT w' p v d' V' o') (hs:dc w w' v o o') (hg:cx d' V' mY c'):AG w0 w' p v d' V' o' mY c'∧dL w w' M (o'.mut v):=by
 refine⟨⟨ha,hg,fun q hq=>?_,h.ε.then hs.ε (fun q e=>.inr (h.low q e))⟩,hs.ε.mono (fun q e=>.inl ((hm q).2 e)),fun q hq=>(hs.sub q hq).imp (hm q).2 id⟩;rcases hs.sub q hq with e | e
 ·exact h.low q e
 ·have:=h.ε.size
  omega
theorem mh.still (h:mh w p v R κ) (hu:υ w w'):mh w' p v R κ:=by
 obtain⟨⟨d,V,o,h1,h2⟩,h3,h4,h5,h6⟩:=h;exact⟨⟨d,V,o,h1.still hu,h2⟩,h3,h4,h5,h6⟩
theorem AG.old (h:AG w0 w p v d V o S0 c) (hR:V.abs=R) (hb:V.st.κ=κ) (hc:c<99000:=by assumption):mh w p v R κ:=by
 subst hR hb;have he:=ahY h.g.rep;have gH:=h.g.aL.qu;exact⟨⟨d,V,o,h.at_,rfl,rfl⟩,h.g.aL.right,by have h1:=h.g.aL.many;show V.rows.length≤1000;omega,fun b hb=>by obtain⟨-,-,-,h4,-⟩:=ue (he b hb);omega,oM⟩
theorem cE.old (h:cE w0 w p v R κ c M) (hc:c<99000):mh w p v R κ:=by
 obtain⟨d,V,o,S0,h,h1,h2,-⟩:=h;exact h.old h1 h2 hc
theorem mh.place (h:mh w p v R κ):ς 12 #[.pointer (some ⟨v,0,none⟩)] w fun e w'=>e=ώ (.tuple #[ι R.at_,ι R.θ])∧υ w w':=by
 obtain⟨⟨d,V,o,h,rfl,gH⟩,hr,zz,Ks,-⟩:=h;refine(ak0 h).mono ?_;rintro e w' ⟨rfl,hu⟩;exact⟨rfl,hu⟩
theorem mh.key (h:mh w p v R κ):ς 14 #[.pointer (some ⟨v,0,none⟩)] w fun e w'=>e=ώ (ι (R.key:Int))∧w=w':=by
 obtain⟨⟨d,V,o,h,rfl,gH⟩,hr,zz,Ks,-⟩:=h;exact am_ h
theorem mh.F_ (h:mh w p v R κ):ς 13 #[.pointer (some ⟨v,0,none⟩)] w fun e w'=>e=ώ (ι (κ:Int))∧w=w':=by
 obtain⟨⟨d,V,o,h,rfl,rfl⟩,-,-,-,vS⟩:=h;exact ame h oM
theorem mh.anP (h:mh w p v R κ):ς 22 #[.pointer (some ⟨v,0,none⟩)] w fun e w'=>∃di,e=ώ (.agg (dD R.m di))∧ax w' 46 2 di (R.m.aZ.map cB)∧υ w w':=by
 obtain⟨⟨d,V,o,h,rfl,gH⟩,hr,zz,Ks,-⟩:=h;refine(al_ h (zg hr).eS).mono ?_;rintro e w' ⟨di,rfl,ht,hu⟩;exact⟨di,rfl,ht,hu⟩
theorem mh.DX (h:mh w p v R κ):ς 18 #[.pointer (some ⟨v,0,none⟩)] w fun e w'=>∃m mb,e=ώ (.pointer (some ⟨m,0,none⟩))∧gy w' m mb R.S∧w.heap.size≤m∧w.heap.size≤mb∧υ w w':=by
 obtain⟨⟨d,V,o,h,rfl,gH⟩,hr,zz,Ks,-⟩:=h;refine(ana h).mono ?_;rintro e w' ⟨m,mb,rfl,hm,h1,h2,hu⟩;exact⟨m,mb,rfl,hm,h1,h2,hu⟩
theorem mh.ami (h:mh w p v R κ):ς 17 #[.pointer (some ⟨v,0,none⟩)] w fun e w'=>∃x aG,e=ώ (.tuple #[x,ι R.prev])∧FY w' x R.rows aG∧(∀q,x.ownBlock=some q→w.heap.size≤q)∧υ w w':=by
 obtain⟨⟨d,V,o,h,rfl,gH⟩,hr,zz,Ks,-⟩:=h;refine(ah_ h zz Ks).mono ?_;rintro e w' ⟨x,aG,rfl,h1,h2,hu⟩;exact⟨x,aG,rfl,h1,h2,hu⟩
theorem cE.q_ (h:cE w0 w p v R κ c M) (hc:c<99000) (b:bQ) {ty:TypeId} {ov:Value} (jS:ax w ty 3 ov (b.ops.map bY)) (zF:(ty ∉ qs∧ty≠gC)∨∀q,ov.ownBlock=some q→q<w0.heap.size) (Ia:qo b.ops) (jg:b.θ≤9223372036854775807) :
 ς 15 #[.pointer (some ⟨v,0,none⟩),.agg #[ι b.index,ι b.θ,ov]] w fun e w'=>e=ώ (ι (iZ R b).2)∧(∃M',cE w0 w' p v (iZ R b).1 κ (c+3) M'∧dL w w' M M'):=by
 obtain⟨d,V,o,S0,h,rfl,gH,hm⟩:=h;have hg:=h.g.aL.good;refine(ZZ h.at_ (h.g.BV hc) (h.g.Bo hc) (oN h.g.num) (by rw[hg.pend];omega) hg.len (oN h.g.aL.rD) (h.g.aL.Tn oM) h.g.aL.many h.g.place b jS (fun W hu=>zF.elim (fun e=>jS.ε hu (fun q ht=>h.at_.sZ ht e.1) e.2) (fun e=>jS.low e hu h.low)) Ia jg).mono ?_;rintro e w' ⟨rfl,o',h1,h2⟩;obtain⟨D,V',mY,q1,q2,q3,q4⟩:=h.g.q_ hc b jg;rw[q1] at h1 ⊢;obtain⟨a1,a2⟩:=h.step hm h1 h2 q2;exact⟨rfl,_,⟨D,V',o',mY,a1,q3,q4.trans gH,fun _=>ua⟩,a2⟩
theorem afc {P:Prop} (h:P:=by
 rw[q1] at h1 ⊢;obtain⟨a1,a2⟩:=h.step hm h1 h2 (mY:=S0) (c':=c+3) { q2 with aL:=q2.aL.mono oM,num:=by have h1:=q2.num;show V'.n≤c+3;omega };exact⟨rfl,_,⟨D,V',o',S0,a1,q3,q4.trans gH,fun _=>ua⟩,a2⟩):P:=h
theorem cE.bE (h:cE w0 w p v R κ c M) (hc:c<99000) (m:MetaM) {ty:TypeId} {mv:Value} (dK:ax w ty 2 mv (m.aZ.map cB)) (hmn:m.seen≤9223372036854775807∧m.aH≤9223372036854775807) (hml:∀x ∈ m.aZ,x.name.length≤1000000) :
 ς 24 #[.pointer (some ⟨v,0,none⟩),.agg (dD m mv)] w fun e w'=>e=ώ (ι (kE R m).2)∧(∃M',cE w0 w' p v (kE R m).1 κ (c+3) M'∧dL w w' M M'):=by
 obtain⟨d,V,o,S0,h,rfl,gH,hm⟩:=h;refine(abU h.at_ (h.g.BV hc) (h.g.Bo hc) m dK hmn hml).mono ?_;rintro e w' ⟨rfl,o',h1,h2⟩;obtain⟨D,V',q1,q2,q3,q4⟩:=h.g.bE hc m hmn;exact afc
theorem cE.install (h:cE w0 w p v R κ c M) (hc:c<99000) (m:MetaM) {ty:TypeId} {mv:Value} (dK:ax w ty 2 mv (m.aZ.map cB)) (hmn:m.seen≤9223372036854775807∧m.aH≤9223372036854775807) (hml:∀x ∈ m.aZ,x.name.length≤1000000)
 (l:List ai) {tl:TypeId} {lv:Value} (hlv:ax w tl 2 lv (l.map bC)) (hls:∀p ∈ l,p.1.length≤1000000∧p.2.length≤1000000) (at_ ep:Int) (eV:ep≤9223372036854775807) :
 ς 21 #[.pointer (some ⟨v,0,none⟩),.agg (dD m mv),lv,ι at_,ι ep] w fun e w'=>e=ώ (ι (iD R m l at_ ep).2)∧(∃M',cE w0 w' p v (iD R m l at_ ep).1 κ (c+3) M'∧dL w w' M M'):=by
 obtain⟨d,V,o,S0,h,rfl,gH,hm⟩:=h;have hg:=h.g.aL.good;refine(Zj h.at_ (h.g.BV hc) (h.g.Bo hc) (oN h.g.num) (by rw[hg.pend];omega) hg.len (oN h.g.aL.rD) m dK hmn hml l hlv hls at_ ep eV).mono ?_;rintro e w' ⟨rfl,o',h1,h2⟩;obtain⟨D,V',mY,q1,q2,q3,q4⟩:=h.g.install hc m hmn l at_ ep eV;rw[q1] at h1 ⊢;obtain⟨a1,a2⟩:=h.step hm h1 h2 (mY:=mY) (c':=c+3) { q2 with aL:=q2.aL.mono oM,num:=by have h1:=q2.num;show V'.n≤c+3;omega };exact⟨rfl,_,⟨D,V',o',mY,a1,q3,q4.trans gH,fun _=>ua⟩,a2⟩
theorem cE.rotate (h:cE w0 w p v R κ c M) (hc:c<99000) :
 ς 34 #[.pointer (some ⟨v,0,none⟩)] w fun e w'=>e=ώ (ι (rotateR R).2)∧(∃M',cE w0 w' p v (rotateR R).1 κ (c+3) M'∧dL w w' M M'):=by
 obtain⟨d,V,o,S0,h,rfl,gH,hm⟩:=h;refine(ZV h.at_ (h.g.BV hc) (h.g.Bo hc) (oN h.g.aL.keys) (by rw[h.g.cur];have:=h.g.aL.keys;omega)).mono ?_;rintro e w' ⟨rfl,o',h1,h2⟩;obtain⟨D,V',q1,q2,q3,q4⟩:=h.g.rotate hc;exact afc
theorem cE.open_ (h:cE w0 w p v R κ c M) (hc:c<99000):ς 16 #[.pointer (some ⟨p,0,none⟩),.string (str jo)] w fun e w'=>∃v',e=ώ (.tuple #[.pointer (some ⟨v',0,none⟩),ι 0])∧(∃M',cE w0 w' p v' R (κ+1) (c+1) M'∧dL w w' M M')∧mh w' p v R κ:=by
 obtain⟨d,V,o,S0,h,rfl,rfl,hm⟩:=h;refine(ND h.at_.bH (h.g.free.FZ hc h.g.aL.good.off)).mono ?_;intro e w' hO;obtain⟨D,V',q1,q2,q3,q4⟩:=eP.opens h.g hc;rw[q1] at hO;obtain⟨v',o',rfl,hL⟩:=hO.yes rfl;have vS:∀q ∈ o.F,w0.heap.size≤q:=fun q hq=>h.low q (.inr (.inl hq))
 have pG:∀q ∈ o.F,M q:=fun q hq=>(hm q).2 (.inr (.inl hq))
 have G8:Left w w' p D o.F o'.F:=⟨hL.at_.bH,hL.ε,fun q hq=>hL.sub q (.inr (.inl hq))⟩;have hold:mh w' p v V.abs V.st.κ := { h.old rfl rfl with ex:=⟨_,_,_,(h.at_.N7 G8).1,rfl,rfl⟩ };refine⟨v',rfl,⟨_,⟨D,V',o',S0,⟨hL.at_,q2,fun q hq=>?_,h.ε.then hL.ε (fun q hq=>.inr (vS q hq))⟩,q3,q4,fun _=>ua⟩,hL.ε.mono (fun q hq=>.inl (pG q hq)),fun q hq=>(hL.sub q hq).imp (pG q) id⟩,hold⟩;rcases hL.sub q hq with e | e
 ·exact vS q e
 ·have:=h.ε.size
  omega
theorem VlW.q_ (h:VlW w0 w p v R κ c) (hc:c<99000) (b:bQ) {ty:TypeId} {ov:Value} (jS:ax w ty 3 ov (b.ops.map bY)) (zF:(ty ∉ qs∧ty≠gC)∨∀q,ov.ownBlock=some q→q<w0.heap.size) (Ia:qo b.ops) (jg:b.θ≤9223372036854775807) :
 ς 15 #[.pointer (some ⟨v,0,none⟩),.agg #[ι b.index,ι b.θ,ov]] w fun e w'=>e=ώ (ι (iZ R b).2)∧VlW w0 w' p v (iZ R b).1 κ (c+3)∧ζ (wW w) w w':=by
 obtain⟨M,h⟩:=h;exact(h.q_ hc b jS zF Ia jg).mono fun _ _ ⟨a,M',b,s⟩=>⟨a,⟨M',b⟩,s.ε.mono (fun _ e=>.inl (h.oP e))⟩
theorem VlW.place (h:VlW w0 w p v R κ c) (hc:c<99000:=by omega):ς 12 #[.pointer (some ⟨v,0,none⟩)] w fun e w'=>e=ώ (.tuple #[ι R.at_,ι R.θ])∧VlW w0 w' p v R κ c∧υ w w':=by
 obtain⟨M,h⟩:=h;have h2:VlW w0 w p v R κ c:=⟨M,h⟩;exact((h.old hc).place).mono fun _ _ ⟨a,u⟩=>⟨a,h2.still u,u⟩
theorem VlW.F_ (h:VlW w0 w p v R κ c) (hc:c<99000):ς 13 #[.pointer (some ⟨v,0,none⟩)] w fun e w'=>e=ώ (ι (κ:Int))∧w=w':=by
 obtain⟨M,h⟩:=h;exact(h.old hc).F_
theorem VlW.DX (h:VlW w0 w p v R κ c) (hc:c<99000:=by omega):ς 18 #[.pointer (some ⟨v,0,none⟩)] w fun e w'=>∃m mb,e=ώ (.pointer (some ⟨m,0,none⟩))∧gy w' m mb R.S∧w.heap.size≤m∧w.heap.size≤mb∧VlW w0 w' p v R κ c∧υ w w':=by
 obtain⟨M,h⟩:=h;have h2:VlW w0 w p v R κ c:=⟨M,h⟩;exact((h.old hc).DX).mono fun _ _ ⟨x,y,a,b,c1,c2,u⟩=>⟨x,y,a,b,c1,c2,h2.still u,u⟩
theorem VlW.open_ (h:VlW w0 w p v R κ c) (hc:c<99000):ς 16 #[.pointer (some ⟨p,0,none⟩),.string (str jo)] w fun e w'=>∃v',e=ώ (.tuple #[.pointer (some ⟨v',0,none⟩),ι 0])∧VlW w0 w' p v' R (κ+1) (c+1)∧ζ (wW w) w w':=by
 obtain⟨M,h⟩:=h;exact(h.open_ hc).mono fun _ _ ⟨v',a,⟨M',b,s⟩,_⟩=>⟨v',a,⟨M',b⟩,s.ε.mono (fun _ e=>.inl (h.oP e))⟩
end
def R0:bq:=⟨NP,[],0,0,[],0,0⟩
theorem aia {w:World} {p:Nat} {F:List Nat} {w0:World} (hD:bG w p (Dk.fresh 500) F) (hF:∀q ∈ F,w0.heap.size≤q) (hu:υ w0 w):ς 16 #[.pointer (some ⟨p,0,none⟩),.string (str jo)] w fun e w'=>∃v',e=ώ (.tuple #[.pointer (some ⟨v',0,none⟩),ι 0])∧VlW w0 w' p v' R0 1 1∧ζ (wW w) w w':=by
 refine(ND hD ahp).mono ?_;intro e w' hO;obtain⟨D,V',q1,q2,q3,q4⟩:=eP.first;rw[q1] at hO;obtain⟨v',o',rfl,hL⟩:=hO.yes rfl;refine⟨v',rfl,⟨_,D,V',o',[],⟨hL.at_,q2,fun q hq=>?_,hu.then hL.ε (fun q hq=>.inr (hF q hq))⟩,q3,q4,fun _=>ua⟩,hL.ε.mono (fun q hq=>.inl (hD.oP hq))⟩;rcases hL.sub q hq with e | e
 ·exact hF q e
 ·have:=hu.size
  omega
theorem aaO (w:World):ς 11 #[] w fun e w'=>∃p v,e=ώ (.tuple #[.pointer (some ⟨p,0,none⟩),.pointer (some ⟨v,0,none⟩),.bool true])∧VlW w w' p v R0 1 1:=by
 have HN:=δ (anv 500 w oM oM);go_enter func11,ntmps11
 go_upto_region 4 with (first
  |(go_at_call 25;refine HN.out.mono ?_;rintro e w1 ⟨p,F,rfl,hD,hU,hF⟩
    have H1:=δ (aia hD hF hU);clear hD hU hF))
 go_wp2_with (first
  |(go_at_call 16;refine H1.out.mono ?_;rintro e w2 ⟨v,rfl,hV,-⟩;have H2:=δ hV;clear hV))
 go_ret3
 exact⟨p,v,rfl,H2.out⟩
def gP (x:jM) (a e:Int):bQ:=if x.fR=0 then x.b else ⟨IntKind.i64.wrap (a+1),max x.b.θ e,x.b.ops⟩
theorem nV.one {w:World} {k:Nat} {v:Value} {cs:List (List Value)} (h:nV w k v cs):v.oneCell'=true:=by
 obtain⟨A,cap,rfl,-⟩:=h;rfl
theorem Gw {P:Prop} (h:P:=by rw[bz];have:=hf.1;omega):P:=h
section
variable {w0 w w':World} {p v:Nat} {R:bq} {κ c:Nat} {M:Nat→Prop}
theorem cE.Sh (h:cE w0 w p v R κ c M):om R.at_ R.θ:=by
 obtain⟨d,V,o,S0,h,rfl,-⟩:=h;exact h.g.place
theorem cE.mono (h:cE w0 w p v R κ c M) {c':Nat} (hc:c≤c'):cE w0 w p v R κ c' M:=by
 obtain⟨d,V,o,S0,h,e⟩:=h;exact⟨d,V,o,S0,⟨h.at_,{ h.g with aL:=h.g.aL.mono hc,num:=ic h.g.num hc },h.low,h.ε⟩,e⟩
theorem afd {P:Prop} (h:P:=by
 obtain⟨A,cap,h1,h2,h3,-⟩:=hO.rows;exact⟨A,cap,h1,h2,by rw[bz,h0];omega,fun h=>by rw[bz] at h;omega⟩):P:=h
theorem cE.RT (h:cE w0 w p v R κ c M) (hc:c<99000) (b:bQ) {ov:Value} (hO:Bw w0 ov b.ops) (hf:NS b.ops) (jg:b.θ≤9223372036854775807) :
 ς 15 #[.pointer (some ⟨v,0,none⟩),.agg #[ι b.index,ι b.θ,ov]] w fun e w'=>e=ώ (ι (iZ R b).2)∧(∃M',cE w0 w' p v (iZ R b).1 κ (c+3) M'∧dL w w' M M'):=by
 have hs:qo b.ops:=fun o ho=>by have:=hf.2 o ho;omega
 by_cases h0:b.ops.length=0
 ·have hT:ax w 32 3 ov (b.ops.map bY):=by
   exact afd
  exact h.q_ hc b hT (.inl dC) hs jg
 ·exact h.q_ hc b ((hO.rows.still h.ε).row Gw) (.inr (hO.rows.lt Gq)) hs jg
theorem cE.S6 (h:cE w0 w p v R κ c M) (hc:c<99000) {m:MetaM} {mv:Value} (hM:xP w0 mv m) (hf:Df m) :
 ς 24 #[.pointer (some ⟨v,0,none⟩),.agg (dD m mv)] w fun e w'=>e=ώ (ι (kE R m).2)∧(∃M',cE w0 w' p v (kE R m).1 κ (c+3) M'∧dL w w' M M') :=
 h.bE hc m ((hM.rows.still h.ε).row Gw) ⟨hM.seen.2,hM.aH.2⟩ (fun x hx=>oN (hf.2.2 x hx))
theorem cE.Rv (h:cE w0 w p v R κ c M) (hc:c<99000) {m:MetaM} {mv:Value} (hM:xP w0 mv m) (hf:Df m) {l:List ai} {lv:Value} (hL:Bx w0 lv l) (hfl:NT l) (at_ ep:Int) (eV:ep≤9223372036854775807) :
 ς 21 #[.pointer (some ⟨v,0,none⟩),.agg (dD m mv),lv,ι at_,ι ep] w fun e w'=>e=ώ (ι (iD R m l at_ ep).2)∧(∃M',cE w0 w' p v (iD R m l at_ ep).1 κ (c+3) M'∧dL w w' M M') :=
 h.install hc m ((hM.rows.still h.ε).row Gw) ⟨hM.seen.2,hM.aH.2⟩ (fun x hx=>oN (hf.2.2 x hx)) l ((hL.rows.still h.ε).row (by rw[bz];have:=hfl.1;omega)) (fun p hp=>oN (hfl.2 p hp)) at_ ep eV
end
theorem Dd.still {w w':World} {v:Value} {l:List jM} (h:Dd w v l) (hu:υ w w'):Dd w' v l:=⟨h.rows.still hu,fun a ha=>(h.each a ha).still hu⟩
theorem ak' {w w':World} {m mb:Nat} {S:List ai} {v:Value} (h:Own w' 55 2 v S.length (rZ S)) (hm:gy w m mb S):ax w' 55 2 v (S.map bC):=by
 have:=hm.ok.len;exact ax.ku (n:=S.length) (by rw[← QW];exact h) (by rw[bz]) oM (fun c hc=>by obtain⟨p,-,rfl⟩:=cu.1 hc;rfl)
end
end Go.Proofs.YtbhjgfibhegddaaGreat
