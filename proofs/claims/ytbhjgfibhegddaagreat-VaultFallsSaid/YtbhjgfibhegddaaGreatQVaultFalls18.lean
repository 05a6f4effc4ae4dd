/-
  Parts of the proof of VaultFalls: VatM, VatN, VatO, VatP, VatQ.
-/
import Derived.Test.YtbhjgfibhegddaaGreatQVaultFalls17
set_option maxRecDepth 100000
set_option maxHeartbeats 16000000
namespace Go.Proofs.YtbhjgfibhegddaaGreat
abbrev Mv:=@List.all_toArray
abbrev CZ:=@List.all_nil
abbrev Yi:=@Nat.le_of_ble_eq_true
abbrev agh:=@Nat.eq_zero_of_not_pos
abbrev Yj:=@List.mem_flatten
abbrev Yk:=@forall_const
abbrev QW:=@List.flatMap_def
abbrev agi:=@List.getElem_toArray
open Tryz
section
open Go Go.RowKit
theorem DT {P:Prop} (h:P:=by rw[← hC];rfl):P:=h
theorem Up {P:Prop} (h:P:=by rw[← hw1,← Hc.out];exact η.new w _ _):P:=h
theorem DU {P:Prop} (h:P:=by rw[bR];decide):P:=h
theorem DV {P:Prop} (h:P:=by rw[HE.out];simp):P:=h
theorem al8 {w:World} {p b:Nat} {d:Dk} {F:List Nat} {k:Kp} (hD:bG w p d F) (hK:η w b 209 (k.cells p)) (s:ByteArray)
 (F6:k.seen<18446744073709551616) (hat:k.at_≤1) (hf:k.from_≤4096) (hp:d.pend+20<1000000) :
 ς 127 #[.pointer (some ⟨b,0,none⟩),.string s] w fun e w'=>e=ώ (ι (dG d k s.data.toList).2.2)∧Nv w w' p b (dG d k s.data.toList).1 (dG d k s.data.toList).2.1 F:=by
 have hl:s.data.toList.length=s.size:=gZ
 have hno:Nv w w p b d k F:=⟨⟨F,hD,fun q e=>.inl e⟩,hK,ζ.refl _ _⟩;by_cases h:k.broken=true∨400<s.size∨k.seen=18446744073709551615
 ·refine(ag_ hK s h).mono ?_
  rintro e w' ⟨rfl,rfl⟩;unfold dG;rw[hl];by_cases h1:k.broken=true
  ·rw[π h1,π h1];exact⟨rfl,hno⟩
  ·rw[ν h1,ν h1]
   by_cases h2:400<s.size
   ·rw[π h2,π h2];exact⟨rfl,hno⟩
   ·rw[ν h2,ν h2,π (by rcases h with h | h | h;exact absurd h h1;exact absurd h h2;exact h)];exact⟨rfl,hno⟩
 ·simp only[ql] at h
  exact akj hD hK s (by simpa using h.1) oM oM hat hf hp
theorem I6 (s:dw) (mv:Value) (h:mv.oneCell'=true):(gN s mv).all (·.oneCell')=true:=by
 simp only[gN,Mv,sV,CZ,h,AX];simp[Value.oneCell']
section
variable {w w':World} {p v:Nat} {d d':Dk} {V V':aQ} {o o':cR}
theorem N8 (h:aT w p v d V o) (s:dw) (hs:mz s) {mv:Value} (dK:ax w 46 2 mv (s.m.aZ.map cB)) (hb0:s.κ=V.st.κ) (zT:V.cur≤1048576) (hn:V.n<4611686018427387904)
 (F6:V.kp.seen<18446744073709551616) (hat:V.kp.at_≤1) (hf:V.kp.from_≤4096) (hp:d.pend+20<1000000) :
 ς 67 #[.pointer (some ⟨v,0,none⟩),.agg (gN s mv)] w fun e w'=>e=ώ (ι (dm d V s).2.2)∧∃o',aT w' p v (dm d V s).1 (dm d V s).2.1 o'∧dc w w' v o o':=by
 obtain⟨A,cap,mb,mo,uC,vQ,vR,pY,tG⟩:=dK.eS;have hrb:V.st.κ<4294967296:=by have:=hs.κ;omega
 have dJ:s.m.aW.length≤64:=(zg hs.right).sec;obtain⟨X,hX⟩:=μ (V.wrap er s.m.aW);have mS:X.length≤116:=by
  rw[← hX];have:=RG (k:=kP jo V.cur) (about:=er) zT hrb (show V.n<18446744073709551616 by omega) (show s.m.aW.length≤8192 by omega);unfold aQ.wrap;omega
 have hput:dm d V s=if (dG d V.kp (cG s X)).2.2≠0 then ((dG d V.kp (cG s X)).1,({ V.next with kp:=(dG d V.kp (cG s X)).2.1 } : aQ).told (dG d V.kp (cG s X)).2.2,(dG d V.kp (cG s X)).2.2) else ((dG d V.kp (cG s X)).1,{ V.next with kp:=(dG d V.kp (cG s X)).2.1,st:=s },0):=by
  unfold dm;rw[hX]
 obtain⟨c,hc⟩:=μ w.heap.size;obtain⟨C,hC⟩:=μ (gN s mv);have CJ:C.all (·.oneCell')=true:=by rw[← hC];exact I6 s mv (by rw[uC];rfl)
 have hC4:C[4]? = some (.string (str s.m.aW)):=DT
 have kJ:C.size=11:=DT
 have HP:=δ hput;have HC:=aF hC CJ hC4 kJ;have HM:=iw dK uC vQ vR pY tG;have HS:=aF hs hb0 dJ hrb;have HX:=τ hX mS;have HN:=iw zT hn F6 hat hf hp;have H:=δ h;have Hc:=δ hc;rw[hC];clear h hs dK hb0 zT hn F6 hat hf hp uC vQ vR pY tG hrb dJ hX mS hput hc hC CJ hC4 kJ;go_enter func67,ntmps67
 go_upto_region 1 with fail
 rw[Hc.out];generalize hw1:World.alloc _ _=w1;have aP:η w1 c 115 C:=Up
 have az:υ w w1:=ry
 have hs1:c<w1.heap.size:=aP.lt;have H1:=aF aP az hs1 (H.out.still az);clear aP az hs1 hw1;refine dW ?_;refine eo (S:=fun w'=>η w' c 115 C∧w'.cell? ⟨v,8,none⟩=some (.pointer (some ⟨o.rb,0,none⟩))) (T:=fun _=>false) kR ?_;have aE:η w1.drew c 115 C∧w1.drew.cell? ⟨v,8,none⟩=some (.pointer (some ⟨o.rb,0,none⟩)):=⟨H1.out.1.drew,H1.out.2.2.2.blk.cell 8⟩;have uW:=δ (fun (w':World) (h:η w' c 115 C)=>(h.cell 4).trans HC.out.2.2.1);refine ξ 0 ?_;refine ξ 1 ?_;refine ξ 2 ?_;refine aX 3 (fun w' hSw=>hSw.2) ?_;refine ξ 4 ?_;refine ξ 5 ?_;refine aX 6 (fun w' hSw=>uW.out _ hSw.1) ?_;refine bf 7 (fun KK ο=>?_);go_simp
 have me:r_ (kP (str jo).data.toList V.cur) V.cur V.st.κ V.n (str er).data.toList (str s.m.aW).data.toList=X:=by rw[← HX.out.1,cA,cA,cA];rfl
 have hwr:=NB (H1.out.2.2.2.still (ζ.refl (fun _=>False) w1).drew).ring DU HN.out.1 (oO HS.out.2.1 HS.out.2.2.2) HN.out.2.1 (str er) (str s.m.aW) dC (by rw[bR];have:=HS.out.2.2.1;omega);rw[me] at hwr;refine hwr.mono ?_;rintro e w2 ⟨rfl,fU,hR⟩;have nJ:=(H1.out.2.2.2.still (ζ.refl (fun _=>False) w1).drew).zx hR;have aD:η w2 c 115 C:=aE.1.ε hR.ε (fun e=>by have e1:=H.out.lt (i:=5) dC e;have e2:=Hc.out;omega);have bn:η w2 c 115 C∧w2.cell? ⟨v,8,none⟩=some (.pointer (some ⟨o.rb,0,none⟩)):=⟨aD,nJ.1.blk.cell 8⟩;refine ο.out _ _ bn ?_;have H2:=τ nJ aD;clear ο nJ aD me hR hwr;refine ξ 8 ?_;refine ξ 9 ?_;refine ξ 10 ?_;refine ξ 11 ?_;refine ξ 12 ?_;refine dY ?_;refine dz ?_;clear aE bn uW;go_upto_region 4 with fail
 obtain⟨P,hP⟩:=μ (dG d V.kp (cG s X));have Po:=δ hP;clear hP;refine dW ?_;refine eo (S:=fun w'=>η w' c 115 C∧w'.cell? ⟨v,6,none⟩=some (.pointer (some ⟨o.kb,0,none⟩))) (T:=fun _=>false) kR ?_;have aE:η w2.drew c 115 C∧w2.drew.cell? ⟨v,6,none⟩=some (.pointer (some ⟨o.kb,0,none⟩)):=⟨H2.out.2.drew,H2.out.1.1.blk.cell 6⟩;refine ξ 0 ?_;refine ξ 1 ?_;refine ξ 2 ?_;refine aX 3 (fun w' hSw=>hSw.2) ?_;refine iL 4 (.agg C) (lN rfl ak _ _ rfl c ak _ _ _ (fun w' hSw=>hSw.1) underlying115 rfl (by rw[HC.out.2.2.2];kernel_rfl)) ?_
 refine ξ 5 ?_;refine bf 6 (fun KK ο=>?_);go_simp
 have σ:ζ (o.mut v) w w2.drew:=((H1.out.2.1.mono φ).drew.then H2.out.1.2.ε (fun q e=>.inl e)).drew;have mW:=al0 (w:=w2.drew) (A:=A) (cap:=cap) (b:=mb) (off:=mo) s HS.out.1 HM.out.2.2.2.2.1 (fun w' hu=>HM.out.2.2.2.2.2 w' (o.mut v) (σ.then hu φ) (fun b ht=>H.out.sZ (ht dC) dC)) (str X) (by rw[bR];have:=HX.out.2;omega);rw[← HM.out.2.1,HC.out.1,cA] at mW;refine mW.mono ?_;rintro e w3 ⟨rfl,l6⟩;have qE:=(H2.out.1.1.still (ζ.refl (fun _=>False) w2).drew).still l6;have kg:η w3 c 115 C∧w3.cell? ⟨v,6,none⟩=some (.pointer (some ⟨o.kb,0,none⟩)):=⟨aE.1.ε l6 id,qE.blk.cell 6⟩;refine ο.out _ _ kg ?_;have H3:=aq qE l6 kg;clear ο qE l6 mW σ;refine bf 7 (fun KK ο=>?_);go_simp
 have hpa:=al8 H3.out.1.bH H3.out.1.kept (str (cG s X)) HN.out.2.2.1 HN.out.2.2.2.1 HN.out.2.2.2.2.1 HN.out.2.2.2.2.2;rw[cA] at hpa;refine hpa.mono ?_;rintro e w4 ⟨rfl,uX⟩;obtain⟨F',tI,Hp⟩:=H3.out.1.anI uX;have dH:η w4 c 115 C∧w4.cell? ⟨v,6,none⟩=some (.pointer (some ⟨o.kb,0,none⟩)):=⟨kg.1.ε uX.ε (fun e=>by
  have e2:=Hc.out;rcases e with e | e
  ·have e1:=H.out.lt (i:=2) (q:=c) dC e;omega
  ·have e1:=H.out.lt (i:=1) (q:=c) dC e;omega),tI.blk.cell 6⟩
 refine ο.out _ _ dH ?_;have H4:=aq tI Hp dH.1;clear ο tI Hp uX hpa;refine ξ 8 ?_;refine dY ?_;refine dz ?_;clear aE kg dH;have HT:=δ (((dc.mk (o:=o) (o':=o) (v:=v) (H1.out.2.1.mono φ).drew (fun q e=>.inl e)).trans (H2.out.1.2.still (ζ.refl (fun _=>False) w2).drew)).still H3.out.2.1 |>.trans H4.out.2.1);obtain⟨E,hE⟩:=μ (dG d V.kp (cG s X)).2.2;rw[hE];by_cases h0:E=0
 ·subst h0
  have HE:=δ hE;clear hE;have hsz:9+C.size≤(fI { V.next with kp:=(dG d V.kp (cG s X)).2.1 } p { o with aA:=fU,F:=F' }).size:=by rw[HC.out.2.2.2];exact Yi rfl
  have hnew:(fI { V.next with kp:=(dG d V.kp (cG s X)).2.1 } p { o with aA:=fU,F:=F' }).toList.take 9++C.toList++(fI { V.next with kp:=(dG d V.kp (cG s X)).2.1 } p { o with aA:=fU,F:=F' }).toList.drop (9+C.size)=(fI { V.next with kp:=(dG d V.kp (cG s X)).2.1,st:=s } p { o with aA:=fU,F:=F',mv:=mv }).toList:=by rw[HC.out.2.2.2,← HC.out.1];rfl
  have hblk:η w4 v 117 (fI { V.next with kp:=(dG d V.kp (cG s X)).2.1 } p { o with aA:=fU,F:=F' }):=H4.out.1.blk;go_wp2_with (first
   |(refine eA _ c H4.out.2.2 underlying115 (by rw[HC.out.2.2.2];kernel_rfl) ?_)
   |(refine ze rfl 115 _ _ rfl v 9 C rfl rfl _ _ (fI { V.next with kp:=(dG d V.kp (cG s X)).2.1,st:=s } p { o with aA:=fU,F:=F',mv:=mv }) hblk hsz hnew HC.out.2.1 (by rw[HC.out.2.2.2];kernel_rfl) ?_
     intro w5 aK ay hs5))
  go_ret
  have tG:ax w5 46 2 mv (s.m.aZ.map cB):=HM.out.1.ε (HT.out.ε.then ay (fun q e=>.inl (.inl e))) (fun b ht=>H.out.sZ ht dC);have h5:=H4.out.1.zy (V' := { V.next with kp:=(dG d V.kp (cG s X)).2.1,st:=s }) ay aK rfl rfl rfl rfl rfl rfl HS.out.2.1 tG;rw[HP.out,ν DV]
  exact⟨rfl,_,h5.1,HT.out.trans h5.2⟩
 ·have eU:(E != 0)=true:=by simpa using h0
  have HE:=τ hE h0;have AB:=δ (Jy H4.out.1 E);clear hE h0;go_wp2_with (first
   |(go_at_call 59;refine AB.out.mono ?_;rintro e w5 ⟨rfl,h5,k5⟩))
  go_ret
  rw[HP.out,π (by rw[HE.out.1];exact HE.out.2),HE.out.1];exact⟨rfl,_,h5,HT.out.trans k5⟩
end
theorem ah8 {k:Nat} : ∀(l:List (List Value)),(∀c ∈ l,c.length=k)→∀(j:Nat) (u:Value),l.flatten[j]? = some u→∃i c r,l[i]? = some c∧c[r]? = some u∧j=i*k+r:=by
 intro l;induction l with
 | nil=>intro _ j u h;simp at h
 | cons x y ih =>
   intro hl j u h;have hx:=hl x sM;rw[Ms] at h;by_cases hj:j<x.length
   ·rw[qi hj] at h
    exact⟨0,x,j,rfl,h,oM⟩
   ·rw[mG oM] at h
    obtain⟨i,c,r,e1,e2,e3⟩:=ih (fun c hc=>hl c (by simp[hc])) _ _ h;exact⟨i+1,c,r,e1,e2,by rw[Mt];omega⟩
theorem Ra {k:Nat} : ∀(l:List (List Value)),(∀c ∈ l,c.length=k)→l.flatten.length=l.length*k:=by
 intro l;induction l with
 | nil=>intro _;simp
 | cons x y ih =>
   intro hl;rw[Ms,aN,ih fun c hc=>hl c (by simp[hc]),hl x sM,eZ,Mt];omega
theorem ax.src {w:World} {t xT e:TypeId} {k:Nat} {v:Value} {cs:List (List Value)} (h:ax w t k v cs) (ht:prog.underlying xT=some (.slice e)) (hk:∀c ∈ cs,c.length=k):Src prog w xT k v cs.length cs.flatten:=by
 obtain⟨A,cap,h1,h2,h3,h4⟩:=h;subst h1;cases A with
 | none =>
   have h0:cs=[]:=AU (agh fun h=>by obtain⟨b,off,cur,t',fr,e1,-⟩:=h4 h;cases e1)
   subst h0;exact Src.of_nil ht cap
 | some a =>
   refine Src.vt ht a _ _ (Ra cs hk) fun j u hj=>?_
   obtain⟨i,c,r,e1,e2,rfl⟩:=ah8 cs hk j u hj;obtain⟨b,off,cur,t',fr,f1,f2,-,f3⟩:=h4 (oN (mF.1 e1).1);cases f1
   have:=f3 i c e1 r u e2;rw[show (⟨b,off,none⟩:Addr).add (i*k+r)=⟨b,off+(i*k+r),none⟩ from by simp[Addr.add]];rw[Fa w b _ cur t' fr f2,← Ip];exact this
theorem aeH {P:Prop} (h:P:=by
 go_ret
 obtain⟨bL,σ,hl2⟩:=H2.out;refine⟨v',rfl,ax.ku (n:=cs.length) (by simpa using bL) rfl (oN HK.out.2.2.2) (fun c hc=>(HK.out.2.2.1 c hc).1),((ζ.refl _ w).alloc _).then σ (fun b e=>.inr (by have e2:=dM (show some w.heap.size=some b from e);omega)),fun q hq=>?_,by simpa using bL⟩;rcases hl2 with e | e
 ·rw[hq] at e
  have e2:q=w.heap.size:=dM e;omega
 ·rw[hq] at e
  have e2:=dM e;rw[dx] at e2;omega):P:=h
theorem aeI {P:Prop} (h:P:=by
 go_wp2_with fail
 go_ret
 have h0:=H0.out;subst h0;exact⟨_,rfl,⟨none,0,rfl,bO _,sM,fun h=>by simp at h⟩,ζ.refl _ _,by simp[Value.ownBlock],Own.nil _ _ _⟩):P:=h
theorem ajp {w:World} {t:TypeId} {v:Value} {cs:List (List Value)} (h:ax w t 2 v cs) (hk:∀c ∈ cs,c.length=2∧∀u ∈ c,u.oneCell'=true) (hl:cs.length≤1000) :
 ς 135 #[v] w fun e w'=>∃v',e=ώ v'∧ax w' 46 2 v' cs∧υ w w'∧(∀q,v'.ownBlock=some q→w.heap.size≤q)∧Own w' 46 2 v' cs.length cs.flatten:=by
 obtain⟨i0,bx,bU,bK,aY⟩:=jD RQ;have H:=δ h;have hone:∀u ∈ cs.flatten,u.oneCell'=true:=fun u hu=>by
  obtain⟨c,hc,hu⟩:=Yj.1 hu;exact(hk c hc).2 u hu
 have hfl:=Ra cs (fun c hc=>(hk c hc).1);obtain⟨A,cap,e,h1,h2,h3⟩:=h;subst e;cases A with
 | none =>
   have hnil:=fun W=>Fs none cs.length cap W 47 _ underlying47
   simp only[aga] at hnil;have h0:cs=[]:=AU (agh fun h=>by obtain⟨b,off,cur,t',fr,e1,-⟩:=h3 h;cases e1)
   have H0:=δ h0;clear h0 h1 h2 h3 hone hfl hk hl;go_enter func135,ntmps135
   exact aeI
 | some a =>
   have hnil:=fun W=>Fs (some a) cs.length cap W 47 _ underlying47
   simp only[agb] at hnil;have HK:=aF hone hfl hk hl;clear h1 h2 h3 hone hfl hk hl;go_enter func135,ntmps135
   have Cs:Own (w.alloc (.cells #[] 46)) 46 2 (.slice (some ⟨w.heap.size,0,none⟩) 0 0) 0 []:=⟨sM,.inr ⟨w.heap.size,0,#[],(0,0),rfl,AP w _,.inl rfl,bO _,sM,rfl,rfl⟩⟩;have Lm:=δ Cs;clear Cs
   go_wp2_with (at_builtin
                refine kr rfl _ _ _ _ rfl 46 i0 _ 2 24 underlying47 bx bU bK aY rfl _ 0 _ rfl Lm.out _ cs.length cs.flatten rfl ((H.out.still ((ζ.refl _ w).alloc _)).src underlying47 fun c hc=>(HK.out.2.2.1 c hc).1) HK.out.1 (by have:=HK.out.2.2.2;unfold maxLen;omega) (oN HK.out.2.2.2) ?_;intro v' w2 bL σ hl2 cn;have H2:=aq bL σ hl2;clear bL σ hl2 cn)
   exact aeH
theorem ZU {w:World} {t:TypeId} {v:Value} {cs:List (List Value)} (h:ax w t 3 v cs) (hk:∀c ∈ cs,c.length=3∧∀u ∈ c,u.oneCell'=true) (hl:cs.length≤1000) :
 ς 68 #[v] w fun e w'=>∃v',e=ώ v'∧ax w' 32 3 v' cs∧υ w w'∧(∀q,v'.ownBlock=some q→w.heap.size≤q)∧Own w' 32 3 v' cs.length cs.flatten:=by
 obtain⟨i0,bx,bU,bK,aY⟩:=jD SV;have H:=δ h;have hone:∀u ∈ cs.flatten,u.oneCell'=true:=fun u hu=>by
  obtain⟨c,hc,hu⟩:=Yj.1 hu;exact(hk c hc).2 u hu
 have hfl:=Ra cs (fun c hc=>(hk c hc).1);obtain⟨A,cap,e,h1,h2,h3⟩:=h;subst e;cases A with
 | none =>
   have hnil:=fun W=>Fs none cs.length cap W 33 _ underlying33
   simp only[aga] at hnil;have h0:cs=[]:=AU (agh fun h=>by obtain⟨b,off,cur,t',fr,e1,-⟩:=h3 h;cases e1)
   have H0:=δ h0;clear h0 h1 h2 h3 hone hfl hk hl;go_enter func68,ntmps68
   exact aeI
 | some a =>
   have hnil:=fun W=>Fs (some a) cs.length cap W 33 _ underlying33
   simp only[agb] at hnil;have HK:=aF hone hfl hk hl;clear h1 h2 h3 hone hfl hk hl;go_enter func68,ntmps68
   have Cs:Own (w.alloc (.cells #[] 32)) 32 3 (.slice (some ⟨w.heap.size,0,none⟩) 0 0) 0 []:=⟨sM,.inr ⟨w.heap.size,0,#[],(0,0),rfl,AP w _,.inl rfl,bO _,sM,rfl,rfl⟩⟩;have Lm:=δ Cs;clear Cs
   go_wp2_with (at_builtin
                refine kr rfl _ _ _ _ rfl 32 i0 _ 3 40 underlying33 bx bU bK aY rfl _ 0 _ rfl Lm.out _ cs.length cs.flatten rfl ((H.out.still ((ζ.refl _ w).alloc _)).src underlying33 fun c hc=>(HK.out.2.2.1 c hc).1) HK.out.1 (by have:=HK.out.2.2.2;unfold maxLen;omega) (oN HK.out.2.2.2) ?_;intro v' w2 bL σ hl2 cn;have H2:=aq bL σ hl2;clear bL σ hl2 cn)
   exact aeH
theorem ajq {w:World} {t:TypeId} {v:Value} {cs:List (List Value)} (h:ax w t 3 v cs) (hk:∀c ∈ cs,c.length=3∧∀u ∈ c,u.oneCell'=true) (hl:cs.length≤1000) :
 ς 68 #[v] w fun e w'=>∃v',e=ώ v'∧ax w' 32 3 v' cs∧υ w w':=by
 refine(ZU h hk hl).mono ?_;rintro e w' ⟨v',h1,h2,h3,-⟩;exact⟨v',h1,h2,h3⟩
theorem akZ (l:List iC):∀c ∈ l.map cB,c.length=2∧∀u ∈ c,u.oneCell'=true:=by
 intro c hc;obtain⟨m,-,rfl⟩:=cu.1 hc;exact⟨rfl,fun u hu=>by simp only[cB,cC,vg,vh] at hu;rcases hu with rfl | rfl<;>rfl⟩
theorem aaM (l:List dn):∀c ∈ l.map bY,c.length=3∧∀u ∈ c,u.oneCell'=true:=by
 intro c hc;obtain⟨m,-,rfl⟩:=cu.1 hc;exact⟨rfl,fun u hu=>by simp only[bY,cC,vg,vh] at hu;rcases hu with rfl | rfl | rfl<;>rfl⟩
theorem ax.one {w:World} {t:TypeId} {k:Nat} {v:Value} {cs:List (List Value)} (h:ax w t k v cs):v.oneCell'=true:=by
 obtain⟨A,cap,rfl,-⟩:=h;rfl
theorem Fl (a b c:Int) {mv S:Value} (h1:mv.oneCell'=true) (h2:S.oneCell'=true):(#[Value.int .i64 a,ι b,ι c,mv,S]).all (·.oneCell')=true:=by
 simp only[Mv,sV,CZ,h1,h2,AX];rfl
theorem acD {w:World} (m:MetaM) {ty:TypeId} {mv:Value} (dK:ax w ty 2 mv (m.aZ.map cB)) (hl:m.aZ.length≤4) :
 ς 76 #[.agg (dD m mv)] w fun e w'=>∃di,e=ώ (.agg (dD m di))∧ax w' 46 2 di (m.aZ.map cB)∧υ w w'∧(∀q,di.ownBlock=some q→w.heap.size≤q)∧Own w' 46 2 di m.aZ.length (m.aZ.map cB).flatten:=by
 have h1:=dK.one;obtain⟨c,hc⟩:=μ w.heap.size;have H:=aF dK h1 hl hc;clear dK h1 hl hc;unfold dD;obtain⟨S,hS⟩:=μ (Value.string (str m.aW));have cz:S.oneCell'=true:=by rw[← hS];rfl
 rw[hS];clear hS;go_enter func76,ntmps76
 go_upto_region 1 with fail
 rw[H.out.2.2.2];generalize bp:World.alloc (World.alloc _ _) _=w2;have aD:η w2 c 50 #[ι m.role,ι m.seen,ι m.aH,mv,S]:=by rw[← bp,← H.out.2.2.2];exact(η.new w _ _).alloc _
 have sP:∃z,z.size=5∧η w2 (c+1) 50 z:=by
  rw[← bp,← H.out.2.2.2];have:=η.new (w.alloc (.cells #[ι m.role,ι m.seen,ι m.aH,mv,S] 50)) 50 #[ι 0,ι 0,ι 0,.slice none 0 0,.string ByteArray.empty];rw[show (w.alloc (.cells #[ι m.role,ι m.seen,ι m.aH,mv,S] 50)).heap.size=w.heap.size+1 by simp] at this;exact⟨_,rfl,this⟩
 have σ:υ w w2:=ya
 clear bp;obtain⟨z,hzs,sP⟩:=sP;have cv:=ajp (H.out.1.still σ) (akZ _) (by rw[bz];have:=H.out.2.2.1;omega);have mZ:=δ cv;have c3:=aD.cell 3;have H2:=aF aD sP σ hzs;clear cv aD sP σ hzs;go_wp2_with (first
  |(go_at_call 135
    refine mZ.out.mono ?_;rintro e w3 ⟨di,rfl,iR,χ,vY,lY⟩;have oz:=iR.one;have aC:=H2.out.1.ε χ id;have H3:=iw iR χ (H2.out.2.1.ε χ id) oz vY lY;clear iR χ vY lY)
  |(refine gJ rfl 47 _ _ rfl c 3 di rfl rfl _ _ aC sM oz kR ?_
    intro w4 aJ au hs4;have hZ4:=H3.out.2.2.1.ε au oM;have oH:=δ au;clear au)
  |(refine gp _ c aJ underlying50 ?_)
  |(refine fG rfl 50 _ _ rfl (c+1) _ rfl rfl _ _ hZ4 (by rw[H2.out.2.2.2];rfl) (Fl _ _ _ oz cz) kR ?_
    intro w5 aK ay hs5))
 refine cJ (jU rfl _ _ (c+1) _ _ _ _ rfl aK underlying50 rfl kR) rfl ⟨di,rfl,(H3.out.1.ε oH.out (fun b ht e=>?_)).ε ay (fun b ht e=>?_),(((H2.out.2.2.1.then H3.out.2.1 φ).then oH.out (fun q e=>.inr ?_)).then ay (fun q e=>.inr ?_)),fun q hq=>ic H2.out.2.2.1.size (H3.out.2.2.2.2.1 q hq),?_⟩
 ·have e2:b=c:=e
  subst e2;have:=(H2.out.1.ε H3.out.2.1 id).ty.inj ht;exact absurd this dC
 ·have e2:b=c+1:=e
  subst e2;have:=(H3.out.2.2.1.ε oH.out oM).ty.inj ht;exact absurd this dC
 ·have e2:q=c:=e
  have:=H.out.2.2.2;omega
 ·have e2:q=c+1:=e
  have:=H.out.2.2.2;omega
 ·have ho:=H3.out.2.2.2.2.2
  rw[bz] at ho;refine(ho.ε oH.out (fun b hb e=>?_)).ε ay (fun b hb e=>?_)
  ·have e2:b=c:=e
   subst e2;exact absurd ((H2.out.1.ε H3.out.2.1 id).ty.inj (ho.ty hb)) dC
  ·have e2:b=c+1:=e
   subst e2;exact absurd (H3.out.2.2.1.ty.inj (ho.ty hb)) dC
theorem acE {w:World} (m:MetaM) {ty:TypeId} {mv:Value} (dK:ax w ty 2 mv (m.aZ.map cB)) (hl:m.aZ.length≤4) :
 ς 76 #[.agg (dD m mv)] w fun e w'=>∃di,e=ώ (.agg (dD m di))∧ax w' 46 2 di (m.aZ.map cB)∧υ w w':=by
 refine(acD m dK hl).mono ?_;rintro e w' ⟨v',h1,h2,h3,-⟩;exact⟨v',h1,h2,h3⟩
theorem og {cs:Array Value} {i n:Nat} {vs:List Value} (h:(cs.toList.drop i).take n=vs) (j:Nat) (u:Value) (hj:vs[j]? = some u):cs[i+j]? = some u:=by
 rw[← h,Mc] at hj;split at hj
 ·rw[Ml] at hj
  simpa using hj
 ·cases hj
section
variable {w w':World} {p v:Nat} {d d':Dk} {V V':aQ} {o o':cR}
theorem al9 (h:aT w p v d V o) (hl:V.st.m.aZ.length≤4) :
 ς 22 #[.pointer (some ⟨v,0,none⟩)] w fun e w'=>∃di,e=ώ (.agg (dD V.st.m di))∧ax w' 46 2 di (V.st.m.aZ.map cB)∧υ w w'∧(∀q,di.ownBlock=some q→w.heap.size≤q)∧Own w' 46 2 di V.st.m.aZ.length (V.st.m.aZ.map cB).flatten:=by
 obtain⟨c,hc⟩:=μ w.heap.size;obtain⟨C,hC⟩:=μ (dD V.st.m o.mv);have ki:((fI V p o).toList.drop 9).take 5=C.toList:=DT
 have kJ:C.size=5:=DT
 have H:=iw h hl hc hC ki kJ;clear h hl hc hC ki kJ;go_enter func22,ntmps22
 go_upto_region 3 with fail
 rw[H.out.2.2.1];generalize bp:World.alloc _ _=w2;have sP:∃z,z.size=5∧η w2 c 50 z:=by
  rw[← bp,← H.out.2.2.1];exact⟨_,rfl,η.new w _ _⟩
 have σ:υ w w2:=yb
 clear bp;obtain⟨z,hzs,sP⟩:=sP;have h2:=H.out.1.still σ;have hown:=acD V.st.m h2.eS H.out.2.1;rw[H.out.2.2.2.1] at hown;have HO:=δ hown;have H2:=aF h2 sP σ hzs;clear h2 hown sP σ hzs;go_wp2_with (first
  |(refine rV rfl _ _ rfl v 9 rfl _ _ C.toList _ H2.out.1.blk (og H.out.2.2.2.2.1) underlying50 rfl (by rw[xo,H.out.2.2.2.2.2];kernel_rfl) ?_)
  |(go_at_call 76
    refine HO.out.mono ?_;rintro e w3 ⟨di,rfl,iR,χ,vY,lY⟩;have oz:=iR.one;have hZ3:=H2.out.2.1.ε χ id;have H3:=aF iR χ vY lY;clear iR χ vY lY)
  |(refine fG rfl 50 _ _ rfl c _ rfl rfl _ _ hZ3 (by rw[H2.out.2.2.2];rfl) (Fl _ _ _ oz rfl) kR ?_
    intro w5 aK ay hs5))
 refine cJ (jU rfl _ _ c _ _ _ _ rfl aK underlying50 rfl kR) rfl ⟨di,rfl,H3.out.1.ε ay (fun b ht e=>?_),(H2.out.2.2.1.then H3.out.2.1 φ).then ay (fun q e=>.inr ?_),fun q hq=>ic H2.out.2.2.1.size (H3.out.2.2.1 q hq),H3.out.2.2.2.ε ay (fun b hb e=>?_)⟩
 ·have e2:b=c:=e
  subst e2;have:=(H2.out.2.1.ε H3.out.2.1 id).ty.inj ht;exact absurd this dC
 ·have e2:q=c:=e
  have:=H.out.2.2.1;omega
 ·have e2:b=c:=e
  subst e2;exact absurd ((H2.out.2.1.ε H3.out.2.1 id).ty.inj (H3.out.2.2.2.ty hb)) dC
theorem al_ (h:aT w p v d V o) (hl:V.st.m.aZ.length≤4) :
 ς 22 #[.pointer (some ⟨v,0,none⟩)] w fun e w'=>∃di,e=ώ (.agg (dD V.st.m di))∧ax w' 46 2 di (V.st.m.aZ.map cB)∧υ w w':=by
 refine(al9 h hl).mono ?_;rintro e w' ⟨v',h1,h2,h3,-⟩;exact⟨v',h1,h2,h3⟩
theorem ak0 (h:aT w p v d V o):ς 12 #[.pointer (some ⟨v,0,none⟩)] w fun e w'=>e=ώ (.tuple #[ι V.at_,ι V.θ])∧υ w w':=by
 have hB:=h.blk;unfold fI at hB;have hc:=hB.SH;clear h hB;go_enter func12,ntmps12
 go_upto_region 3 with fail
 go_quiet (fail)
 go_wp2_with fail
 go_ret2
 exact⟨rfl,(ζ.refl _ w).drewN _⟩
theorem am_ (h:aT w p v d V o):ς 14 #[.pointer (some ⟨v,0,none⟩)] w fun e w'=>e=ώ (ι (V.st.key:Int))∧w=w':=by
 have hc:w.cell? ⟨v,18,none⟩=some (ι (V.st.key:Int)):=h.blk.cell 18;clear h;go_enter func14,ntmps14
 go_wp2_with fail
 go_ret
 exact⟨rfl,rfl⟩
theorem ana (h:aT w p v d V o):ς 18 #[.pointer (some ⟨v,0,none⟩)] w fun e w'=>∃m2 fu,e=ώ (.pointer (some ⟨m2,0,none⟩))∧gy w' m2 fu V.S∧w.heap.size≤m2∧w.heap.size≤fu∧υ w w':=by
 have hc:w.cell? ⟨v,0,none⟩=some (.pointer (some ⟨o.m,0,none⟩)):=h.blk.cell 0;have HT:=δ (abe h.map);clear h;go_enter func18,ntmps18
 go_wp2_with (go_at_call 55;refine HT.out.mono ?_;rintro e w2 ⟨m2,fu,rfl,hm⟩);go_ret
 exact⟨m2,fu,rfl,hm⟩
end
theorem Uq {P:Prop} (h:P:=by rw[← hw1,← HC.out.1];exact η.new w _ _):P:=h
theorem Kf {P:Prop} (h:P:=by rw[HC.out.2.2.1];kernel_rfl):P:=h
theorem Gt {P:Prop} (h:P:=by rw[← hD];rfl):P:=h
theorem Ur {P:Prop} (h:P:=by rw[xo,HD.out.2.2.1];kernel_rfl):P:=h
theorem Us {P:Prop} (h:P:=by rw[QH,xo,HD.out.2.2.1];rfl):P:=h
theorem Ut {P:Prop} (h:P:=by rw[QH,xo,HD.out.2.2.1];kernel_rfl):P:=h
structure xQ (d:Dk) (V:aQ):Prop where
 cur:V.cur≤1048576
 n:V.n<4611686018427387904
 seen:V.kp.seen<18446744073709551616
 at_:V.kp.at_≤1
 from_:V.kp.from_≤4096
 pend:d.pend+20<1000000
section
variable {w w':World} {p v:Nat} {d d':Dk} {V V':aQ} {o o':cR}
theorem mz.anJ {s:dw} (h:mz s) {m:MetaM} (hr:dF m=true) (hn:m.seen≤9223372036854775807∧m.aH≤9223372036854775807):mz { s with m:=m } := ⟨hr,h.place,h.slot,h.log,h.key,h.κ,hn⟩
theorem Uu {P:Prop} (h:P:=by
 rw[hoff] at HS HO;simp only[vf] at HO;go_wp2_with (first
  |(go_at_call 53;refine HO.out.mono ?_;rintro e w2 ⟨rfl,h2,k2,-⟩;have H2:=τ h2 k2;clear h2 k2))
 go_ret
 rw[HS.out];exact⟨rfl,o,H2.out.1,uK.out.trans H2.out.2⟩):P:=h
theorem abU (h:aT w p v d V o) (hst:mz V.st) (hf:xQ d V) (m:MetaM) {ty:TypeId} {mv:Value} (dK:ax w ty 2 mv (m.aZ.map cB)) (hmn:m.seen≤9223372036854775807∧m.aH≤9223372036854775807) (hml:∀x ∈ m.aZ,x.name.length≤1000000) :
 ς 24 #[.pointer (some ⟨v,0,none⟩),.agg (dD m mv)] w fun e w'=>e=ώ (ι (zQ d V m).2.2)∧∃o',aT w' p v (zQ d V m).1 (zQ d V m).2.1 o'∧dc w w' v o o':=by
 obtain⟨A,cap,mb,mo,uC,vQ,vR,pY,tG⟩:=dK.eS;obtain⟨c,hc⟩:=μ w.heap.size;obtain⟨C,hC⟩:=μ (dD m mv);have kJ:C.size=5:=DT
 have hone:=dK.one;have CJ:C.all (·.oneCell')=true:=by rw[← hC];exact Fl _ _ _ hone rfl
 have H:=iw h hst hf dK hmn hml;have HM:=cD uC vQ vR pY tG;have HC:=aF hc hC kJ CJ;rw[hC];clear h hst hf dK hmn hml uC vQ vR pY tG hc hC kJ hone CJ;go_enter func24,ntmps24
 go_upto_region 1 with fail
 rw[HC.out.1];generalize hw1:World.alloc _ _=w1;have aP:η w1 c 50 C:=Uq
 have az:υ w w1:=ry
 have H1:=aq aP az (H.out.1.still az);have HO:=δ (JL (H.out.1.still az));clear aP az hw1;have tE:zQ d V m=if iI d V then (d,{ V with down:=true },14) else if dF m=false then (d,V,1) else dm d V { V.st with m:=m } := rfl
 have HS:=δ tE;clear tE;have uK:=δ (dc.mk (o:=o) (o':=o) (v:=v) (H1.out.2.1.mono φ) (fun q e=>.inl e));cases hoff:iI d V
 ·rw[hoff] at HS HO
  simp only[mH,jj,Yk] at HO;go_upto_region 4 with (first
   |(go_at_call 53;refine HO.out.mono ?_;rintro e w2 ⟨rfl,-,-,bp⟩;subst bp))
  have eX:=Sg (w:=w1) (A:=A) (cap:=cap) (b:=mb) (off:=mo) m HM.out.2.2.2.1 (fun w' hu=>HM.out.2.2.2.2 w' (fun _=>False) (H1.out.2.1.then hu (fun _ e=>.inl e)) (fun _ _ e=>e)) HM.out.2.2.1 HM.out.2.1 H.out.2.2.2.2.2;rw[← HM.out.1,HC.out.2.1] at eX;have HR:=δ eX;clear eX hoff;cases hr:dF m
  ·rw[hr] at HS HR
   clear hr;go_wp2_with (first
    |(refine eA _ c H1.out.1 underlying50 Kf ?_)
    |(go_at_call 41;refine HR.out.mono ?_;rintro e w3 ⟨rfl,χ⟩;have H3:=δ χ;clear χ))
   go_ret
   rw[HS.out];exact⟨rfl,o,H1.out.2.2.still H3.out,uK.out.still H3.out⟩
  ·rw[hr] at HS HR
   have Ql:=δ hr;clear hr;go_upto_region 6 with (first
    |(refine eA _ c H1.out.1 underlying50 Kf ?_)
    |(go_at_call 41;refine HR.out.mono ?_;rintro e w3 ⟨rfl,χ⟩;have H3:=δ χ;clear χ))
   obtain⟨q,hq⟩:=μ w3.heap.size;obtain⟨D,hD⟩:=μ (gN V.st o.mv);have kI:((fI V p o).toList.drop 9).take 11=D.toList:=Gt
   have sI:D.size=11:=Gt
   have h3:=H1.out.2.2.still H3.out;have CL:D.toList.toArray.all (·.oneCell')=true:=by rw[← hD];exact I6 _ _ h3.eS.one
   have HD:=cD hD kI sI CL hq;have aC:=H1.out.1.ε H3.out id;have K3:=aq h3 aC (uK.out.still H3.out);clear hD kI sI CL hq h3 aC;go_upto_region 7 with (first
    |(refine rV rfl _ _ rfl v 9 rfl _ _ D.toList _ K3.out.1.blk (og HD.out.2.1) underlying115 rfl Ur ?_)
    |(refine fG rfl 115 _ _ rfl w3.heap.size _ rfl rfl _ _ (η.new w3 _ _) Us HD.out.2.2.2.1 Ut ?_
      intro w4 aJ au hs4))
   rw[HD.out.2.2.2.2] at aJ au ⊢;have sw:υ w3 w4:=((ζ.refl _ w3).alloc _).then au (fun b e=>.inr (oF e HD.out.2.2.2.2));have pY:=(((H.out.2.2.2.1.still H1.out.2.1).still H3.out).still sw);have hown:=acE m pY (zg Ql.out).eS;rw[HC.out.2.1] at hown;have HOW:=δ hown;have H4:=aq aJ (K3.out.2.1.ε sw id) sw;clear aJ au hs4 sw hown pY;go_upto_region 8 with (first
    |(refine eA _ c H4.out.2.1 underlying50 Kf ?_)
    |(go_at_call 76
      refine HOW.out.mono ?_;rintro e w5 ⟨di,rfl,mT,ay⟩;have anK:=mT.one;have aK:=H4.out.1.ε ay id;have H5:=τ mT ay;clear mT ay)
    |(refine ze rfl 50 _ _ rfl q 0 (dD m di) rfl rfl _ _ (gN { V.st with m:=m } di) aK (by rw[HD.out.2.2.1];exact Yi rfl) (by rw[← HD.out.1];rfl) (Fl _ _ _ anK rfl) kR ?_
      intro w6 cY aB tO))
   have yo:υ w3 w6:=(H4.out.2.2.then H5.out.2 (fun _ e=>.inl e)).then aB (fun b e=>.inr (oF e HD.out.2.2.2.2));have h6:=K3.out.1.still yo;have aeJ:ax w6 46 2 di (m.aZ.map cB):=H5.out.1.ε aB (fun b ht e=>by
    have e2:b=q:=e;subst e2;exact absurd (aK.ty.inj ht) dC)
   have hpf:=H.out.2.2.1;have hput:=N8 h6 { V.st with m:=m } (H.out.2.1.anJ Ql.out H.out.2.2.2.2.1) aeJ rfl hpf.cur hpf.n hpf.seen hpf.at_ hpf.from_ hpf.pend;have HP:=τ hput (K3.out.2.2.still yo);obtain⟨R,hR⟩:=μ (gN { V.st with m:=m } di);have yR:R.size=11:=by rw[← hR];rfl
   rw[hR] at cY HP;have ET:=τ cY yR;clear hput h6 aeJ yo aB cY tO hR yR hpf aK;go_wp2_with (first
    |(refine eA _ q ET.out.1 underlying115 (by rw[ET.out.2];kernel_rfl) ?_)
    |(go_at_call 67;refine HP.out.1.mono ?_;rintro e w7 ⟨rfl,o7,h7,k7⟩;have H7:=τ h7 k7;clear h7 k7))
   go_ret
   rw[HS.out];exact⟨rfl,o7,H7.out.1,HP.out.2.trans H7.out.2⟩
 ·exact Uu
theorem ak1 (d:Dk) (V:aQ) (s:dw):(dm d V s).2.1.cur=V.cur:=by
 unfold dm aQ.told;split<;>rfl
theorem ZV (h:aT w p v d V o) (hst:mz V.st) (hf:xQ d V) (hk:V.st.key<1000000) (hc:V.cur<1048576) :
 ς 34 #[.pointer (some ⟨v,0,none⟩)] w fun e w'=>e=ώ (ι (xI d V).2.2)∧∃o',aT w' p v (xI d V).1 (xI d V).2.1 o'∧dc w w' v o o':=by
 have HO:=δ (JL h);obtain⟨s,hs⟩:∃s:dw,{ V.st with key:=V.st.key+1 } = s:=⟨_,rfl⟩;have tE:xI d V=if iI d V then (d,{ V with down:=true },14) else if (dm d V s).2.2≠0 then dm d V s else ((dm d V s).1,{ (dm d V s).2.1 with cur:=(dm d V s).2.1.cur+1 },0):=by
  unfold xI;rw[hs,ν (show ¬1048576≤V.st.key by omega)]
 have aeK:mz s:=by rw[← hs];exact⟨hst.right,hst.place,hst.slot,hst.log,by show V.st.key+1≤_;omega,hst.κ,hst.mn⟩
 have GP:w.cell? ⟨v,18,none⟩=some (ι (V.st.key:Int)):=h.blk.cell 18;have k0:(0:Int)≤(V.st.key:Int):=oM;have k1:(V.st.key:Int)<1000000:=oM;have HS:=δ tE;have H:=cD h hst hf hk hc;have HX:=τ hs aeK;clear tE h hst hf hk hc hs aeK;obtain⟨K,hK⟩:∃K:Int,(V.st.key:Int)=K:=⟨_,rfl⟩;rw[hK] at GP k0 k1;have HK:=δ hK;clear hK;have k2:¬1048576≤K:=oM;go_enter func34,ntmps34
 cases hoff:iI d V
 ·rw[hoff] at HS HO
  simp only[mH,jj,Yk] at HO;clear hoff;go_upto_region 6 with (first
   |(go_at_call 53;refine HO.out.mono ?_;rintro e w2 ⟨rfl,-,-,bp⟩;subst bp))
  obtain⟨q,hq⟩:=μ w.heap.size;obtain⟨D,hD⟩:=μ (gN V.st o.mv);have kI:((fI V p o).toList.drop 9).take 11=D.toList:=Gt
  have sI:D.size=11:=Gt
  have hD9:D[9]? = some (ι K):=by rw[← hD,← HK.out];rfl
  have CL:D.toList.toArray.all (·.oneCell')=true:=by rw[← hD];exact I6 _ _ H.out.1.eS.one
  have HD:=iw hD kI sI CL hq hD9;clear hD kI sI CL hq hD9;go_upto_region 7 with (first
   |(refine rV rfl _ _ rfl v 9 rfl _ _ D.toList _ H.out.1.blk (og HD.out.2.1) underlying115 rfl Ur ?_)
   |(refine fG rfl 115 _ _ rfl w.heap.size _ rfl rfl _ _ (η.new w _ _) Us HD.out.2.2.2.1 Ut ?_
     intro w4 aJ au hs4))
  rw[HD.out.2.2.2.2.1] at aJ au ⊢;have sw:υ w w4:=((ζ.refl _ w).alloc _).then au (fun b e=>.inr (oF e HD.out.2.2.2.2.1));have c9:w4.cell? ⟨q,9,none⟩=some (ι K):=(aJ.cell 9).trans HD.out.2.2.2.2.2;have hw:IntKind.i64.wrap (K+1)=K+1:=cZ _ oM;have H4:=τ aJ sw;clear aJ au hs4 sw;go_upto_region 8 with (first
   |(refine gJ rfl 3 _ _ rfl q 9 (ι (K+1)) rfl rfl _ _ H4.out.1 (by rw[HD.out.2.2.1];decide) rfl kR ?_
     intro w6 cY aB tO))
  have hR:D.setIfInBounds 9 (ι (K+1))=gN s o.mv:=by
   rw[← HD.out.1,← HX.out.1,← HK.out,show (V.st.key:Int)+1=((V.st.key+1:Nat):Int) by omega];rfl
  rw[hR] at cY;have Uv:υ w w6:=H4.out.2.then aB (fun b e=>.inr (oF e HD.out.2.2.2.2.1));have h6:=H.out.1.still Uv;have hpf:=H.out.2.2.1;have hput:=N8 h6 s HX.out.2 (mv:=o.mv) (by rw[← HX.out.1];exact h6.eS) (by rw[← HX.out.1]) hpf.cur hpf.n hpf.seen hpf.at_ hpf.from_ hpf.pend;have HP:=τ hput (dc.mk (o:=o) (o':=o) (v:=v) (Uv.mono φ) (fun q e=>.inl e));obtain⟨R,wM⟩:=μ (gN s o.mv);have yR:R.size=11:=by rw[← wM];rfl
  rw[wM] at cY HP;have ET:=τ cY yR;clear hput h6 Uv aB cY tO wM yR hpf hR c9;obtain⟨X,hX⟩:=μ (dm d V s);have zT:=ak1 d V s;rw[hX] at HP HS zT;obtain⟨E,hE⟩:=μ X.2.2;rw[hE] at HP HS;have Qe:=τ zT hE;clear hX zT;by_cases h0:E=0
  ·subst h0
   clear hE;go_wp2_with (first
    |(refine eA _ q ET.out.1 underlying115 (by rw[ET.out.2];kernel_rfl) ?_)
    |(go_at_call 67;refine HP.out.1.mono ?_;rintro e w7 ⟨rfl,o7,h7,k7⟩
      have c7:w7.cell? ⟨v,8,none⟩=some (.pointer (some ⟨o7.rb,0,none⟩)):=h7.blk.cell 8;have HRR:=δ (ajh h7.ring (by rw[Qe.out.1];exact H.out.2.2.2.2));have H7:=τ h7 k7;clear h7 k7)
    |(go_at_call 79;refine HRR.out.mono ?_;rintro e w8 ⟨rfl,Hw⟩;have H8:=δ (H7.out.1.zx Hw);clear Hw))
   go_ret
   rw[HS.out];exact⟨rfl,_,H8.out.1,(HP.out.2.trans H7.out.2).trans H8.out.2⟩
  ·have eU:(E != 0)=true:=by simpa using h0
   have H0:=δ h0;clear hE h0;go_wp2_with (first
    |(refine eA _ q ET.out.1 underlying115 (by rw[ET.out.2];kernel_rfl) ?_)
    |(go_at_call 67;refine HP.out.1.mono ?_;rintro e w7 ⟨rfl,o7,h7,k7⟩
      have H7:=τ h7 k7;clear h7 k7))
   go_ret
   rw[HS.out,ν sM,π H0.out,Qe.out.2];exact⟨rfl,o7,H7.out.1,HP.out.2.trans H7.out.2⟩
 ·rw[hoff] at HS HO
  simp only[vf] at HO;go_wp2_with (first
   |(go_at_call 53;refine HO.out.mono ?_;rintro e w2 ⟨rfl,h2,k2,-⟩;have H2:=τ h2 k2;clear h2 k2))
  go_ret
  rw[HS.out];exact⟨rfl,o,H2.out.1,H2.out.2⟩
end
theorem OT {P:Prop} (h:P:=by rw[← HE.out.2.2.2.2.2];rfl):P:=h
theorem ζ.cell_ {F:Nat→Prop} {wa wb:World} (hU:ζ F wa wb) {b i:Nat} (hb:b<wa.heap.size) (hn:¬F b):wb.cell? ⟨b,i,none⟩=wa.cell? ⟨b,i,none⟩:=by
 have h:=hU.block b hb hn;unfold World.cell?;simp only[h]
theorem Dk.al' {d:Dk} (h:d.sync.2=0):d.sync.1.off=false:=by
 unfold Dk.sync at h ⊢;split at h
 ·simp at h
 ·rename_i ho
  rw[ν ho];split at h
  ·rename_i hb
   rw[π hb];show d.dO.1.off=false;have ho':d.off=false:=by simpa using ho
   unfold Dk.dO at hb ⊢;split at hb
   ·simp at hb
   ·rename_i h0
    rw[ν h0];split<;>exact ho'
  ·simp at h
theorem Dk.aaN (d:Dk):d.sync.1.ψ.length=d.ψ.length:=by
 unfold Dk.sync;split
 ·rfl
 ·split
  ·show ((List.range _).map _).length=_
   rw[bz,vj,IZ]
  ·rw[IZ]
theorem Dk.ajr (d:Dk):d.sync.1.pend≤d.pend:=by
 unfold Dk.sync;split
 ·exact bO _
 ·split
  ·rw[Dk.I0];exact xx _
  ·rw[MS];exact bO _
theorem agq {d:Dk} (hl:d.waits.length=d.ψ.length) (slot:Nat) (t:List UInt8):(gw d slot t).1.ψ.length=d.ψ.length∧(gw d slot t).1.pend≤d.pend+80:=by
 unfold gw;split
 ·exact⟨rfl,sM⟩
 ·have h:=ug d (dN slot) (jm t) hl (bS t)
  split
  ·exact⟨by rw[h.1],oM⟩
  ·have:=Dk.ajr (bV d (dN slot) (jm t) (bS t)).1
   exact⟨by rw[Dk.aaN,h.1],oM⟩
theorem ajs {d:Dk} (hl:d.waits.length=d.ψ.length) (k:Kp) (t:List UInt8):(dG d k t).1.ψ.length=d.ψ.length:=by
 unfold dG;have h:=YM d (k.from_+(1 - k.at_)*10) (aU t (k.seen+1)) hl (aM t.length);repeat' split
 all_goals first| rfl | exact aI List.length h.1 |(rw[Dk.aaN,h.1])
theorem ama {d:Dk} {k:Kp} {t:List UInt8} (h:(dG d k t).2.2=0):(dG d k t).1.off=false:=by
 unfold dG at h ⊢;split at h
 ·simp at h
 rename_i h1
 rw[ν h1];split at h
 ·simp at h
 rename_i h2
 rw[ν h2];split at h
 ·simp at h
 rename_i h3
 rw[ν h3];split at h
 ·rename_i h4;exact absurd h h4
 rename_i h4
 rw[ν h4];split at h
 ·rename_i h5;exact absurd h h5
 rename_i h5
 rw[ν h5];exact Dk.al' (by simpa using h5)
theorem ajt {d:Dk} (hl:d.waits.length=d.ψ.length) (V:aQ) (s:dw):(dm d V s).1.ψ.length=d.ψ.length∧((dm d V s).2.2=0→(dm d V s).1.off=false∧(dm d V s).2.1.st=s):=by
 unfold dm;have h:=ajs hl V.kp (cG s (V.wrap er s.m.aW));split
 ·rename_i h1
  exact⟨h,fun e=>absurd e h1⟩
 ·rename_i h1
  exact⟨h,fun _=>⟨ama yc,rfl⟩⟩
section
variable {w w':World} {p v:Nat} {d d':Dk} {V V':aQ} {o o':cR}
theorem aT.anb (h:aT w p v d V o) {q:Nat} (hm:Mp w q) (h1:q ∉ o.F) (h2:q≠o.rk):¬o.mut v q:=by
 intro hq;rcases h.kind hq with e | e | e | e | e | e | e | e | e
 ·exact e.jG hm
 ·exact e.jG hm
 ·exact e.jG hm
 ·exact e.jG hm
 ·exact e.jG hm
 ·exact e.jG hm
 ·exact e.jG hm
 ·exact e.jG hm
 ·rcases e.2 with e | e
  ·exact h1 e
  ·exact h2 e
theorem gy.mp {w:World} {m mb:Nat} {S:List ai} (h:gy w m mb S):Mp w mb:=by
 obtain⟨aA,e1,-⟩:=h.map;exact e1.mp
theorem abj (h:aT w p v d V o) (m:MetaM) {mv:Value} (dK:ax w 46 2 mv (m.aZ.map cB)) (x:List ai) {m2 fu:Nat} (hm2:gy w m2 fu x) (pG:fu ∉ o.F) (hmk:fu≠o.rk) (at_ ep:Int) (hst:mz (V.st.whole m at_ ep)) (hf:xQ d V) (hn:V.n+1<4611686018427387904) (hp:d.pend+300<1000000) (hl:d.ψ.length=500) (sy:V.st.log<1000000) (dJ:V.st.slot≤2) :
 ς 56 #[.pointer (some ⟨v,0,none⟩),.agg (dD m mv),.pointer (some ⟨m2,0,none⟩),ι at_,ι ep] w fun e w'=>e=ώ (ι (gX d V m x at_ ep).2.2)∧∃o',aT w' p v (gX d V m x at_ ep).1 (gX d V m x at_ ep).2.1 o'∧dc w w' v o { o' with m:=o.m,mb:=o.mb } ∧ (o'.mb=o.mb∨o'.mb=fu∨w.heap.size≤o'.mb):=by
 obtain⟨c,hc⟩:=μ w.heap.size;obtain⟨C,hC⟩:=μ (dD m mv);have kJ:C.size=5:=DT
 have hone:=dK.one;have CJ:C.all (·.oneCell')=true:=by rw[← hC];exact Fl _ _ _ hone rfl
 obtain⟨X,hX⟩:=μ (V.wrap kD (gL x));have hpb:=rX hm2.ok;have mS:X.length≤4400:=by
  rw[← hX];have:=RG (k:=kP jo V.cur) (about:=kD) (text:=gL x) hf.cur (show V.st.κ<4294967296 by have:V.st.κ≤1000000:=hst.κ;omega) (show V.n<18446744073709551616 by omega) (show (gL x).length≤8192 by omega);unfold aQ.wrap;omega
 have H:=δ (And.intro h (And.intro dK (And.intro hm2 (And.intro pG (And.intro hmk (And.intro hst (And.intro hf (And.intro hn (And.intro hp (And.intro hl sy))))))))));have pn:=δ dJ;clear dJ;have HC:=aF hc hC kJ CJ;have HX:=aq hX mS hpb;rw[hC];clear h dK hm2 pG hmk hst hf hn hp hl sy hc hC kJ CJ hone hX mS hpb;go_enter func56,ntmps56
 go_upto_region 1 with fail
 rw[HC.out.1];generalize hw1:World.alloc _ _=w1;have aP:η w1 c 50 C:=Uq
 have az:υ w w1:=ry
 have H1:=aq aP az (H.out.1.still az);clear aP az hw1;refine dW ?_;refine eo (S:=fun w'=>η w' c 50 C∧w'.cell? ⟨v,8,none⟩=some (.pointer (some ⟨o.rb,0,none⟩))) (T:=fun _=>false) kR ?_;have aE:η w1.drew c 50 C∧w1.drew.cell? ⟨v,8,none⟩=some (.pointer (some ⟨o.rb,0,none⟩)):=⟨H1.out.1.drew,H1.out.2.2.blk.cell 8⟩;refine ξ 0 ?_;refine ξ 1 ?_;refine ξ 2 ?_;refine aX 3 (fun w' hSw=>hSw.2) ?_;refine ξ 4 ?_;refine bf 5 (fun KK ο=>?_);go_simp
 have Uw:υ w w1.drew:=H1.out.2.1.drew;refine(abQ (H.out.2.2.1.still Uw)).mono ?_;rintro e w2 ⟨pv,rfl,bL,-,σ⟩;have nJ:=(H1.out.2.2.still (ζ.refl (fun _=>False) w1).drew).still σ;have bn:η w2 c 50 C∧w2.cell? ⟨v,8,none⟩=some (.pointer (some ⟨o.rb,0,none⟩)):=⟨aE.1.ε σ id,nJ.blk.cell 8⟩;refine ο.out _ _ bn ?_;have H2:=aF nJ bn bL (Uw.then σ (fun _ e=>.inl e));clear ο nJ bL σ Uw;refine bf 6 (fun KK ο=>?_);go_simp
 have hT:=ax.ku (cs:=x.map bC) (k:=2) (n:=x.length) (by have:=H2.out.2.2.1;rw[rZ,QW] at this;exact this) (bz _) (oN H.out.2.2.1.ok.len) (fun c hc=>by obtain⟨q,-,rfl⟩:=cu.1 hc;rfl)
 obtain⟨A2,fJ,pb,po,rfl,e2,e3,e4,e5⟩:=hT.open_;rw[bz] at e2 e3 e4 ⊢;refine(alY (w:=w2) (A:=A2) (cap:=fJ) (b:=pb) (off:=po) (l:=x) e4 (fun w' hu i hi=>e5 w' _ hu (fun _ _ e=>e) i (bC x[i]) (by simp[hi])) H.out.2.2.1.each H.out.2.2.1.ok.len).mono ?_;rintro e w3 ⟨rfl,χ⟩;have qE:=H2.out.1.still χ;have kg:η w3 c 50 C∧w3.cell? ⟨v,8,none⟩=some (.pointer (some ⟨o.rb,0,none⟩)):=⟨bn.1.ε χ id,qE.blk.cell 8⟩;refine ο.out _ _ kg ?_;have H3:=aq qE kg (H2.out.2.2.2.then χ (fun _ e=>.inl e));clear ο qE χ hT e2 e3 e4 e5;refine bf 7 (fun KK ο=>?_);go_simp
 have me:r_ (kP (str jo).data.toList V.cur) V.cur V.st.κ V.n (str kD).data.toList (str (gL x)).data.toList=X:=by rw[← HX.out.1,cA,cA,cA];rfl
 have hwr:=NB H3.out.1.ring DU H.out.2.2.2.2.2.2.1.cur (by have:V.st.κ≤1000000:=H.out.2.2.2.2.2.1.κ;omega) H.out.2.2.2.2.2.2.1.n (str kD) (str (gL x)) dC (by rw[bR];have:=HX.out.2.2;omega);rw[me] at hwr;refine hwr.mono ?_;rintro e w4 ⟨rfl,fU,hR⟩;have tI:=H3.out.1.zx hR;have aJ:η w4 c 50 C:=kg.1.ε hR.ε (fun e=>by have e1:=H.out.1.lt (i:=5) dC e;have e2:=HC.out.1;omega);have dH:η w4 c 50 C∧w4.cell? ⟨v,8,none⟩=some (.pointer (some ⟨o.rb,0,none⟩)):=⟨aJ,tI.1.blk.cell 8⟩;refine ο.out _ _ dH ?_;have H4:=aq tI aJ H3.out.2.2;clear ο tI aJ me hR hwr;refine ξ 8 ?_;refine ξ 9 ?_;refine ξ 10 ?_;refine ξ 11 ?_;refine ξ 12 ?_;refine dY ?_;refine dz ?_;clear aE bn kg dH;obtain⟨q,hq⟩:=μ w4.heap.size;obtain⟨D,hD⟩:=μ (gN V.st o.mv);have kI:((fI { V with n:=V.n+1 } p { o with aA:=fU }).toList.drop 9).take 11=D.toList:=Gt
 have sI:D.size=11:=Gt
 have CL:D.toList.toArray.all (·.oneCell')=true:=by rw[← hD];exact I6 _ _ H4.out.1.1.eS.one
 have HD:=cD hD kI sI CL hq;clear hD kI sI CL hq;have hblk:η w4 v 117 (fI { V with n:=V.n+1 } p { o with aA:=fU }):=H4.out.1.1.blk;go_upto_region 5 with (first
  |(refine rV rfl _ _ rfl v 9 rfl _ _ D.toList _ hblk (og HD.out.2.1) underlying115 rfl Ur ?_)
  |(refine fG rfl 115 _ _ rfl w4.heap.size _ rfl rfl _ _ (η.new w4 _ _) Us HD.out.2.2.2.1 Ut ?_
    intro w5 aK ay hs5))
 rw[HD.out.2.2.2.2] at aK ay ⊢;have yp:υ w4 w5:=((ζ.refl _ w4).alloc _).then ay (fun b e=>.inr (oF e HD.out.2.2.2.2));have h5:=H4.out.1.1.still yp;have hC5:η w5 c 50 C:=H4.out.2.1.ε yp id;have LC:c<q:=by have:=H4.out.2.1.lt;have:=HD.out.2.2.2.2;omega
 have hvq:v<q:=by have:=H4.out.1.1.blk.lt;have:=HD.out.2.2.2.2;omega
 obtain⟨KS,Wq⟩:∃K:Int,(V.st.slot:Int)=K:=⟨_,rfl⟩;obtain⟨KL,Wr⟩:∃K:Int,(V.st.log:Int)=K:=⟨_,rfl⟩;obtain⟨s1,hs1⟩:∃s:dw,({ V.st with m:=m } : dw)=s:=⟨_,rfl⟩;obtain⟨s2,cn⟩:∃s:dw,({ s1 with at_:=at_ } : dw)=s:=⟨_,rfl⟩;obtain⟨s3,fF⟩:∃s:dw,({ s2 with θ:=ep } : dw)=s:=⟨_,rfl⟩;obtain⟨s4,hs4⟩:∃s:dw,({ s3 with slot:=1+V.st.slot % 2 } : dw)=s:=⟨_,rfl⟩;obtain⟨s5,Ux⟩:∃s:dw,V.st.whole m at_ ep=s:=⟨_,rfl⟩;have e0:D.toList.take 0++C.toList++D.toList.drop (0+C.size)=(gN s1 mv).toList:=by rw[HC.out.2.2.1,← HD.out.1,← HC.out.2.1,← hs1];rfl
 have e1:(gN s1 mv).setIfInBounds 5 (ι at_)=gN s2 mv:=by rw[← cn];rfl
 have e2:(gN s2 mv).setIfInBounds 6 (ι ep)=gN s3 mv:=by rw[← fF];rfl
 have e3:(gN s3 mv).setIfInBounds 7 (ι (IntKind.i64.wrap (1+KS.tmod 2)))=gN s4 mv:=by rw[af6 oM,cZ _ oM,← hs4,← Wq,show 1+(V.st.slot:Int) % 2=((1+V.st.slot % 2:Nat):Int) by omega];rfl
 have e4:(gN s4 mv).setIfInBounds 8 (ω (KL+1))=gN s5 mv:=by rw[← Ux,← Wr,← hs4,← fF,← cn,← hs1,show (V.st.log:Int)+1=((V.st.log+1:Nat):Int) by omega];rfl
 have HE:=iw e0 e1 e2 e3 e4 Ux;have ks0:0≤KS:=oM;have ks2:KS≤1000000:=by have:V.st.slot≤2:=pn.out;omega
 have kl0:0≤KL:=oM;have kl1:KL<1000000:=by have:=H.out.2.2.2.2.2.2.2.2.2.2;omega
 have wl:IntKind.u64.wrap (KL+1)=KL+1:=IntWalk.u64_in _ oM;have c16:w5.cell? ⟨v,16,none⟩=some (ι KS):=by rw[← Wq];exact h5.blk.cell 16
 have c17:w5.cell? ⟨v,17,none⟩=some (ω KL):=by rw[← Wr];exact h5.blk.cell 17
 have H5:=iw h5 hC5 yp LC hvq aK;clear h5 hC5 yp LC hvq aK Wq Wr hs1 cn fF hs4 Ux e0 e1 e2 e3 e4 ay hs5;refine dW ?_;refine eo (S:=fun w'=>η w' c 50 C∧w'.cell? ⟨v,16,none⟩=some (ι KS)∧w'.cell? ⟨v,17,none⟩=some (ω KL)) (T:=fun _=>false) kR ?_;have aE:η w5.drew c 50 C∧w5.drew.cell? ⟨v,16,none⟩=some (ι KS)∧w5.drew.cell? ⟨v,17,none⟩=some (ω KL):=⟨H5.out.2.1.drew,c16,c17⟩;refine iL 0 (.agg C) (lN rfl ak _ _ rfl c ak _ _ _ (fun w' hSw=>hSw.1) underlying50 rfl Kf) ?_
 refine ξ 1 ?_;refine ξ 2 ?_;refine ξ 3 ?_;refine ξ 4 ?_;refine ξ 5 ?_;refine ξ 6 ?_;refine aX 7 (fun w' hSw=>hSw.2.1) ?_;refine ξ 8 ?_;refine ξ 9 ?_;refine ξ 10 ?_;refine ξ 11 ?_;refine ξ 12 ?_;refine ξ 13 ?_;refine aX 14 (fun w' hSw=>hSw.2.2) ?_;refine ξ 15 ?_;refine ξ 16 ?_;have HK:=δ (fun (wa wb:World) (hU:ζ (· = q) wa wb) (hS:η wa c 50 C∧wa.cell? ⟨v,16,none⟩=some (ι KS)∧wa.cell? ⟨v,17,none⟩=some (ω KL)) (hv:v<wa.heap.size)=>(show η wb c 50 C∧wb.cell? ⟨v,16,none⟩=some (ι KS)∧wb.cell? ⟨v,17,none⟩=some (ω KL) from ⟨hS.1.ε hU (oN H5.out.2.2.2.1),(hU.cell_ hv (by have:=H5.out.2.2.2.2.1;show ¬v=q;omega)).trans hS.2.1,(hU.cell_ hv (by have:=H5.out.2.2.2.2.1;show ¬v=q;omega)).trans hS.2.2⟩));have Ws:v<w5.drew.heap.size:=H5.out.1.blk.drew.lt;refine bf 17 (fun KK ο=>?_);rw[π (show Region.wanted _ _=true by rfl)];refine Q1 _ _ _ rfl q 0 C rfl rfl _ _ (gN s1 mv) H5.out.2.2.2.2.2.drew (by rw[HC.out.2.2.1,HD.out.2.2.1];decide) HE.out.1 HC.out.2.2.2 Kf (fun w6 cY aB iT=>?_)
 have cW:=HK.out _ _ aB aE Ws;have Hx:v<w6.heap.size:=by rw[iT];exact Ws
 refine ο.out _ _ cW ?_;clear ο aE;simp only[Act.put];refine ξ 18 ?_;refine bf 19 (fun KK ο=>?_);rw[π (show Region.wanted _ _=true by rfl)];refine nw _ _ _ rfl q 5 (ι at_) rfl rfl _ _ cY (by simp[gN]) rfl kR (fun w7 dI bI jf=>?_);rw[HE.out.2.1] at dI;have mB:=HK.out _ _ bI cW Hx;have Wt:v<w7.heap.size:=by rw[jf];exact Hx
 refine ο.out _ _ mB ?_;clear ο cW cY;simp only[Act.put];refine ξ 20 ?_;refine bf 21 (fun KK ο=>?_);rw[π (show Region.wanted _ _=true by rfl)];refine nw _ _ _ rfl q 6 (ι ep) rfl rfl _ _ dI (by simp[gN]) rfl kR (fun w8 jB cT kX=>?_);rw[HE.out.2.2.1] at jB;have iK:=HK.out _ _ cT mB Wt;have PZ:v<w8.heap.size:=by rw[kX];exact Wt
 refine ο.out _ _ iK ?_;clear ο mB dI;simp only[Act.put];refine ξ 22 ?_;refine bf 23 (fun KK ο=>?_);rw[π (show Region.wanted _ _=true by rfl)];refine nw _ _ _ rfl q 7 (ι (IntKind.i64.wrap (1+KS.tmod 2))) rfl rfl _ _ jB (by simp[gN]) rfl kR (fun w9 dy eW nP=>?_);rw[HE.out.2.2.2.1] at dy;have Cx:=HK.out _ _ eW iK PZ;have hv9:v<w9.heap.size:=by rw[nP];exact PZ
 refine ο.out _ _ Cx ?_;clear ο iK jB;simp only[Act.put];refine ξ 24 ?_;refine bf 25 (fun KK ο=>?_);rw[π (show Region.wanted _ _=true by rfl)];refine nw _ _ _ rfl q 8 (ω (KL+1)) rfl rfl _ _ dy (by simp[gN]) rfl kR (fun w10 nG fE BL=>?_);rw[HE.out.2.2.2.2.1] at nG;have DH:=HK.out _ _ fE Cx hv9;refine ο.out _ _ DH ?_;clear ο Cx dy;simp only[Act.put];refine dY ?_;refine dz ?_;clear DH Ws Hx Wt PZ hv9 HK c16 c17 wl;have Tj:υ w4 w10:=(((((H5.out.2.2.1.drew.then aB (fun b e=>.inr (oF e HD.out.2.2.2.2))).then bI (fun b e=>.inr (oF e HD.out.2.2.2.2))).then cT (fun b e=>.inr (oF e HD.out.2.2.2.2))).then eW (fun b e=>.inr (oF e HD.out.2.2.2.2))).then fE (fun b e=>.inr (oF e HD.out.2.2.2.2)));have h10:=H4.out.1.1.still Tj;have aeL:dc w w10 v o { o with aA:=fU } := ((dc.mk (o:=o) (o':=o) (v:=v) (H4.out.2.2.mono φ) (fun q e=>.inl e)).trans H4.out.1.2).still Tj;have h5s:s5.slot=1+V.st.slot % 2:=OT
 have h5l:s5.log=V.st.log+1:=OT
 have wK:s5.κ=V.st.κ:=OT
 have h5m:s5.m=m:=OT
 have aeM:mz s5:=by rw[← HE.out.2.2.2.2.2];exact H.out.2.2.2.2.2.1
 have hWV:gX d V m x at_ ep=(if (gw d s5.slot X).2≠0 then ((gw d s5.slot X).1,V.next.told (gw d s5.slot X).2,(gw d s5.slot X).2) else if (dm (gw d s5.slot X).1 V.next s5).2.2≠0 then dm (gw d s5.slot X).1 V.next s5 else match nA (dm (gw d s5.slot X).1 V.next s5).1 20 320 s5.log with
  | none=>((dm (gw d s5.slot X).1 V.next s5).1,(dm (gw d s5.slot X).1 V.next s5).2.1.told 9,9)
  | some g=>((dm (gw d s5.slot X).1 V.next s5).1,{ (dm (gw d s5.slot X).1 V.next s5).2.1 with lg:=g,S:=x,at_:=at_,θ:=ep,rows:=[],prev:=ep },0)):=by
  rw[← HE.out.2.2.2.2.2,← HX.out.1];rfl
 have aeN:q<w10.heap.size:=nG.lt;have LH:w.heap.size≤q:=by have:=HD.out.2.2.2.2;have:=H4.out.1.2.ε.size;have:=H4.out.2.2.size;omega
 have HW:=δ hWV;have gT:=cD h10 nG aeL aeN LH;have EU:=cD h5s h5l wK h5m aeM;obtain⟨KS2,Uy⟩:∃K:Int,(s5.slot:Int)=K:=⟨_,rfl⟩;obtain⟨KL2,Uz⟩:∃K:Int,(s5.log:Int)=K:=⟨_,rfl⟩;have Pp:=τ Uy Uz;obtain⟨R5,mT⟩:∃R,gN s5 mv=R:=⟨_,rfl⟩;have h57:R5[7]? = some (ι KS2):=by rw[← mT,← Uy];rfl
 have h58:R5[8]? = some (ω KL2):=by rw[← mT,← Uz];rfl
 have Wo:R5.size=11:=by rw[← mT];rfl
 rw[mT] at gT;have LI:=aF mT h57 h58 Wo;clear h10 nG aeL aeN LH Tj h5s h5l wK h5m aeM hWV aB bI cT eW fE iT jf kX nP BL ks0 ks2 kl0 kl1 Uy Uz mT h57 h58 Wo;have hp1:=H.out.2.2.2.2.2.2.2.2.1;go_upto_region 6 with fail
 have c5:w10.cell? ⟨v,5,none⟩=some (.pointer (some ⟨p,0,none⟩)):=gT.out.1.blk.cell 5;refine dW ?_;refine eo (S:=fun w'=>η w' q 115 R5∧w'.cell? ⟨v,5,none⟩=some (.pointer (some ⟨p,0,none⟩))) (T:=fun _=>false) kR ?_;have aE:η w10.drew q 115 R5∧w10.drew.cell? ⟨v,5,none⟩=some (.pointer (some ⟨p,0,none⟩)):=⟨gT.out.2.1.drew,c5⟩;have uW:=δ (fun (w':World) (h:η w' q 115 R5)=>(h.cell 7).trans LI.out.2.1);refine KO 0 ?_;simp only[Act.put,agi,Mq,jW];refine ξ 1 ?_;refine ξ 2 ?_;refine aX 3 (fun w' hSw=>hSw.2) ?_;refine ξ 4 ?_;refine aX 5 (fun w' hSw=>uW.out _ hSw.1) ?_;refine ξ 6 ?_;refine bf 7 (fun KK ο=>?_);go_simp
 have wF:=al3 (gT.out.1.still (ζ.refl (fun _=>False) w10).drew).bH oM s5.slot (oN EU.out.1) (oN EU.out.1) (str X) (by rw[bR];exact HX.out.2.1);rw[Pp.out.1,cA] at wF;refine wF.mono ?_;rintro e w11 ⟨rfl,F1,hL⟩;have OU:=(gT.out.1.still (ζ.refl (fun _=>False) w10).drew).N7 hL;have gA:η w11 q 115 R5:=aE.1.ε hL.ε (fun e=>by have e1:=H.out.1.lt (i:=1) dC e;have e2:=gT.out.2.2.2.2;omega);have aeO:η w11 q 115 R5∧w11.cell? ⟨v,5,none⟩=some (.pointer (some ⟨p,0,none⟩)):=⟨gA,OU.1.blk.cell 5⟩;refine ο.out _ _ aeO ?_;have ez:=aq OU.1 gA ((gT.out.2.2.1.still (ζ.refl (fun _=>False) w10).drew).trans OU.2);clear ο OU gA hL wF;refine ξ 8 ?_;refine dY ?_;refine dz ?_;clear aE aeO uW c5 hp1;have hsame:=agq H.out.1.bH.wf.len s5.slot X;have Tk:(gw d s5.slot X).1.waits.length=(gw d s5.slot X).1.ψ.length:=ez.out.1.bH.wf.len;obtain⟨d1,l7⟩:=μ (gw d s5.slot X).1;obtain⟨E1,l9⟩:∃E,(gw d s5.slot X).2=E:=⟨_,rfl⟩;rw[l7] at hsame Tk ez HW;rw[l9] at HW ⊢
 have Wu:=τ hsame Tk;clear hsame Tk l7 l9;by_cases h0:E1=0
 ·subst h0
  rw[ν sM] at HW;have hf:=H.out.2.2.2.2.2.2.1;have acF:ax w11 46 2 mv (m.aZ.map cB):=H.out.2.1.ε ez.out.2.2.ε (fun b ht=>H.out.1.sZ ht dC);have hput:=N8 ez.out.1 s5 EU.out.2.2.2.2 (mv:=mv) (by rw[EU.out.2.2.2.1];exact acF) EU.out.2.2.1 hf.cur (by have:=H.out.2.2.2.2.2.2.2.1;exact this) hf.seen hf.at_ hf.from_ (oO Wu.out.1.2 H.out.2.2.2.2.2.2.2.2.1);rw[LI.out.1] at hput;have NU:=ajt (d:=d1) Wu.out.2 V.next s5;have N9:ς 67 #[.pointer (some ⟨v,0,none⟩),.agg R5] w11 fun e w'=>e=ώ (ι (dm d1 V.next s5).2.2)∧∃o',aT w' p v (dm d1 V.next s5).1 (dm d1 V.next s5).2.1 o'∧dc w11 w' v { o with aA:=fU,F:=F1 } o':=hput
  clear hput acF hf;obtain⟨P2,yC⟩:∃P,dm d1 V.next s5=P:=⟨_,rfl⟩;rw[yC] at N9 NU HW;obtain⟨E2,dQ⟩:∃E,P2.2.2=E:=⟨_,rfl⟩;rw[dQ] at N9 NU HW;have HP:=aq N9 NU dQ;clear N9 NU dQ yC;by_cases h2:E2=0
  ·subst h2
   rw[ν sM] at HW;go_upto_region 12 with (first
    |(refine eA _ q ez.out.2.1 underlying115 (by rw[LI.out.2.2.2];kernel_rfl) ?_)
    |(go_at_call 67;refine HP.out.1.mono ?_;rintro e w12 ⟨rfl,o12,h12,k12⟩
      have pX:η w12 q 115 R5:=ez.out.2.1.ε k12.ε (ez.out.1.sZ ez.out.2.1.ty dC);have c5:w12.cell? ⟨v,5,none⟩=some (.pointer (some ⟨p,0,none⟩)):=h12.blk.cell 5;have dU:=aq h12 pX (ez.out.2.2.trans k12);clear h12 k12 pX))
   refine dW ?_;refine eo (S:=fun w'=>η w' q 115 R5∧w'.cell? ⟨v,5,none⟩=some (.pointer (some ⟨p,0,none⟩))) (T:=fun _=>false) kR ?_;have aE:η w12.drew q 115 R5∧w12.drew.cell? ⟨v,5,none⟩=some (.pointer (some ⟨p,0,none⟩)):=⟨dU.out.2.1.drew,c5⟩;have uW:=δ (fun (w':World) (h:η w' q 115 R5)=>(h.cell 8).trans LI.out.2.2.1);refine ξ 0 ?_;refine ξ 1 ?_;refine ξ 2 ?_;refine aX 3 (fun w' hSw=>hSw.2) ?_;refine ξ 4 ?_;refine aX 5 (fun w' hSw=>uW.out _ hSw.1) ?_;refine bf 6 (fun KK ο=>?_);go_simp
   have hop:=aas (dU.out.1.still (ζ.refl (fun _=>False) w12).drew).bH 20 320 s5.log dC (by have h1:=HP.out.2.1.1;have h2:=Wu.out.1.1;have h3:=H.out.2.2.2.2.2.2.2.2.2.1;omega) (oN EU.out.2.1) (by have h1:=EU.out.2.1;have h2:=H.out.2.2.2.2.2.2.2.2.2.2;omega) (HP.out.2.1.2 trivial).1;rw[Pp.out.2] at hop;refine hop.mono ?_;rintro e w13 ⟨gv,rfl,hG⟩;have UA:=(dU.out.1.still (ζ.refl (fun _=>False) w12).drew).still hG.ε;have Kg:η w13 q 115 R5∧w13.cell? ⟨v,5,none⟩=some (.pointer (some ⟨p,0,none⟩)):=⟨aE.1.ε hG.ε id,UA.blk.cell 5⟩;refine ο.out _ _ Kg ?_;have dR:=aq UA hG (((dU.out.2.2.still (ζ.refl (fun _=>False) w12).drew)).still hG.ε);clear ο UA hG hop;refine ξ 7 ?_;refine ξ 8 ?_;refine ξ 9 ?_;refine ξ 10 ?_;refine ξ 11 ?_;refine dY ?_;refine dz ?_;clear aE Kg uW c5;obtain⟨G,hG⟩:=μ (nA P2.1 20 320 s5.log);rw[hG] at HW dR ⊢;clear hG;cases G with
   | none =>
     have e9:Ni none=9:=rfl;rw[e9];have AB:=δ (Jy dR.out.1 9);go_wp2_with (first
      |(go_at_call 59;refine AB.out.mono ?_;rintro e w14 ⟨rfl,h14,k14⟩;have lD:=τ h14 k14;clear h14 k14))
     go_ret
     rw[HW.out];exact⟨rfl,_,lD.out.1,(dR.out.2.2.trans lD.out.2).re (.inl rfl),(dR.out.2.2.trans lD.out.2).EO.imp id .inr⟩
   | some g =>
     have e9:Ni (some g)=0:=rfl;rw[e9];obtain⟨b,v1,rfl,gB,gO,gb,gv⟩:=dR.out.2.1.ok g rfl;have HG:=aF gB gO gb gv;clear gB gO gb gv;have mO:=dR.out.1.blk;have aeP:=δ mO;clear mO;have jf:=aeP.out.frozen 7;have hnew:((fI P2.2.1 p o12).setIfInBounds 7 (.pointer (some ⟨b,0,none⟩))).toList.take 0++(#[.pointer (some ⟨m2,0,none⟩),ι at_,ι ep,.slice none 0 0,ι ep]:Array Value).toList++((fI P2.2.1 p o12).setIfInBounds 7 (.pointer (some ⟨b,0,none⟩))).toList.drop (0+5)=(fI { P2.2.1 with lg:=g,S:=x,at_:=at_,θ:=ep,rows:=[],prev:=ep } p { o12 with lb:=b,lv:=v1,m:=m2,mb:=fu,rv:=.slice none 0 0,aG:=[] }).toList:=rfl;have hsz:0+5≤((fI P2.2.1 p o12).setIfInBounds 7 (.pointer (some ⟨b,0,none⟩))).size:=by rw[Array.size_setIfInBounds];exact Yi rfl
     have HN:=τ hnew hsz;clear hnew hsz;go_wp2_with (first
      |(refine gJ rfl _ _ _ rfl v 7 (.pointer (some ⟨b,0,none⟩)) rfl rfl _ _ aeP.out (by simp[fI]) rfl kR ?_
        intro w14 qz jY apo;have lD:=τ qz jY;clear jY qz jf)
      |(refine ze rfl _ _ _ rfl v 0 #[.pointer (some ⟨m2,0,none⟩),ι at_,ι ep,.slice none 0 0,ι ep] rfl rfl _ _ (fI { P2.2.1 with lg:=g,S:=x,at_:=at_,θ:=ep,rows:=[],prev:=ep } p { o12 with lb:=b,lv:=v1,m:=m2,mb:=fu,rv:=.slice none 0 0,aG:=[] }) lD.out.1 HN.out.2 HN.out.1 jN kR ?_
        intro w15 BJ oC yf))
     go_ret
     have hU:ζ (· = v) w13 w15:=lD.out.2.then oC (fun q e=>.inl e);have hm:∀q,q=v→o12.mut v q:=fun q e=>.inl e
     have DW:=dR.out.2.2;have Li:ζ (o.mut v) w w15:=DW.ε.then hU (fun q e=>DW.sub q (.inl e));have hmap:=H.out.2.2.1;have hmb:¬o.mut v fu:=H.out.1.anb hmap.mp H.out.2.2.2.1 H.out.2.2.2.2.1;have acG:¬o12.mut v fu:=fun e=>(DW.sub _ e).elim hmb (fun e=>oN hmap.lt.2)
     have anL:∀q,w12.drew.heap.size≤q→q ∉ o12.F:=fun q hq e=>by have:=dU.out.1.lt (i:=1) dC e;have e3:w12.drew.heap.size=w12.heap.size:=rfl;omega
     have h15:aT w15 p v P2.1 { P2.2.1 with lg:=g,S:=x,at_:=at_,θ:=ep,rows:=[],prev:=ep } { o12 with lb:=b,lv:=v1,m:=m2,mb:=fu,rv:=.slice none 0 0,aG:=[] } :=
      dR.out.1.Dl hU rfl rfl rfl rfl rfl BJ rfl rfl rfl rfl
       (HG.out.1.ε hU (fun e=>by have e2:b=v:=e;have h1:=HG.out.2.2.1;have h2:=dU.out.1.blk.lt;have e3:w12.drew.heap.size=w12.heap.size:=rfl;omega))
       (HG.out.2.1.ε hU (fun q hq e=>by have e2:q=v:=e;have h1:=HG.out.2.2.2 q hq;have h2:=dU.out.1.blk.lt;have e3:w12.drew.heap.size=w12.heap.size:=rfl;omega))
       (fun q hq=>anL q (HG.out.2.2.2 q hq))
       (hmap.ε Li (H.out.1.sZ hmap.blk.ty dC) hmb)
       (fun e=>acG (.inr (.inl e))) (fun e=>acG (.inr (.inr (.inr (.inr (.inr (.inl (.inr (.inl e)))))))))
       (Own.nil _ _ _) rfl (fun i b ov h1=>by simp at h1) (dR.out.1.eS.ε hU (fun b ht e=>dR.out.1.sZ ht dC (hm _ e)))
     have aow:dc w w15 v o { o12 with lb:=b,lv:=v1,m:=o.m,mb:=o.mb,rv:=.slice none 0 0,aG:=[] } := by
      have hz:∀q,w12.drew.heap.size≤q→w.heap.size≤q:=fun q hq=>ic dU.out.2.2.ε.size hq
      refine⟨Li,fun q hq=>?_,.inl rfl⟩;rcases hq with e | e | e | e | e | e | e
      ·exact DW.sub q (.inl e)
      ·exact DW.sub q (.inr (.inl e))
      ·exact DW.sub q (.inr (.inr (.inl e)))
      ·exact .inr (hz q (by have e2:q=b:=e;rw[e2];exact HG.out.2.2.1))
      ·exact .inr (hz q (HG.out.2.2.2 q e))
      ·exact DW.sub q (.inr (.inr (.inr (.inr (.inr (.inl e))))))
      ·simp[Value.ownBlock] at e
     rw[HW.out];exact⟨rfl,_,h15,aow,.inr (.inl rfl)⟩
  ·have eU:(E2 != 0)=true:=by simpa using h2
   have H0:=δ h2;clear h2;go_wp2_with (first
    |(refine eA _ q ez.out.2.1 underlying115 (by rw[LI.out.2.2.2];kernel_rfl) ?_)
    |(go_at_call 67;refine HP.out.1.mono ?_;rintro e w12 ⟨rfl,o12,h12,k12⟩;have dU:=τ h12 k12;clear h12 k12))
   go_ret
   rw[HW.out,π H0.out,HP.out.2.2];exact⟨rfl,o12,dU.out.1,(ez.out.2.2.trans dU.out.2).re (.inl rfl),(ez.out.2.2.trans dU.out.2).EO.imp id .inr⟩
 ·have eU:(E1 != 0)=true:=by simpa using h0
  have H0:=δ h0;have AB:=δ (Jy ez.out.1 E1);clear h0;go_wp2_with (first
   |(go_at_call 59;refine AB.out.mono ?_;rintro e w12 ⟨rfl,h12,k12⟩;have dU:=τ h12 k12;clear h12 k12))
  go_ret
  rw[HW.out,π H0.out];exact⟨rfl,_,dU.out.1,(ez.out.2.2.trans dU.out.2).re (.inl rfl),(ez.out.2.2.trans dU.out.2).EO.imp id .inr⟩
theorem amb (h:aT w p v d V o) (m:MetaM) {mv:Value} (dK:ax w 46 2 mv (m.aZ.map cB)) (x:List ai) {m2 fu:Nat} (hm2:gy w m2 fu x) (pG:fu ∉ o.F) (hmk:fu≠o.rk) (aox:fu=o.mb∨w.heap.size≤fu) (at_ ep:Int) (hst:mz (V.st.whole m at_ ep)) (hf:xQ d V) (hn:V.n+1<4611686018427387904) (hp:d.pend+300<1000000) (hl:d.ψ.length=500) (sy:V.st.log<1000000) (dJ:V.st.slot≤2) :
 ς 56 #[.pointer (some ⟨v,0,none⟩),.agg (dD m mv),.pointer (some ⟨m2,0,none⟩),ι at_,ι ep] w fun e w'=>e=ώ (ι (gX d V m x at_ ep).2.2)∧∃o',aT w' p v (gX d V m x at_ ep).1 (gX d V m x at_ ep).2.1 o'∧dc w w' v o o':=by
 refine(abj h m dK x hm2 pG hmk at_ ep hst hf hn hp hl sy dJ).mono ?_;rintro e w' ⟨he,o',h1,h2,h3⟩;refine⟨he,o',h1,h2.re (m:=o'.m) (mb:=o'.mb) ?_⟩;rcases h3 with e | e | e
 ·exact .inl e
 ·rw[e];exact aox
 ·exact .inr e
end
end
end Go.Proofs.YtbhjgfibhegddaaGreat
