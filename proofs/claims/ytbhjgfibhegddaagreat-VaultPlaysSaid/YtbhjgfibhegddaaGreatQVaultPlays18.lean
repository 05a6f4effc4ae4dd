/-
  Parts of the proof of VaultPlays: VatO, VatP, VatQ, VatR, VatS, VatT.
-/
import Derived.Test.YtbhjgfibhegddaaGreatQVaultPlays17
set_option maxRecDepth 100000
set_option maxHeartbeats 16000000
namespace Go.Proofs.YtbhjgfibhegddaaGreat
abbrev Un:=@forall_const
abbrev NS:=@List.flatMap_def
abbrev aa_:=@List.getElem_toArray
open Tryz
section
open Go Go.RowKit
theorem af4 (l:List gW):∀c ∈ l.map ct,c.length=2∧∀u ∈ c,u.oneCell'=true:=by
 intro c hc;obtain⟨m,-,rfl⟩:=bZ.1 hc;exact⟨rfl,fun u hu=>by simp only[ct,cn,ue,uf] at hu;rcases hu with rfl | rfl<;>rfl⟩
theorem Wt (l:List cT):∀c ∈ l.map bU,c.length=3∧∀u ∈ c,u.oneCell'=true:=by
 intro c hc;obtain⟨m,-,rfl⟩:=bZ.1 hc;exact⟨rfl,fun u hu=>by simp only[bU,cn,ue,uf] at hu;rcases hu with rfl | rfl | rfl<;>rfl⟩
theorem au.one {w:World} {t:TypeId} {k:Nat} {v:Value} {cs:List (List Value)} (h:au w t k v cs):v.oneCell'=true:=by
 obtain⟨A,cap,rfl,-⟩:=h;rfl
theorem Dt (a b c:Int) {mv S:Value} (h1:mv.oneCell'=true) (h2:S.oneCell'=true):(#[Value.int .i64 a,ι b,ι c,mv,S]).all (·.oneCell')=true:=by
 simp only[J7,rN,Bb,h1,h2,y6];rfl
theorem Ya {w:World} (m:MetaM) {ty:TypeId} {mv:Value} (dJ:au w ty 2 mv (m.aW.map ct)) (hl:m.aW.length≤4) :
 ς 76 #[.agg (dy m mv)] w fun e w'=>∃dz,e=ώ (.agg (dy m dz))∧au w' 46 2 dz (m.aW.map ct)∧υ w w'∧(∀q,dz.ownBlock=some q→w.heap.size≤q)∧Own w' 46 2 dz m.aW.length (m.aW.map ct).flatten:=by
 have h1:=dJ.one;obtain⟨c,hc⟩:=κ w.heap.size;have H:=aD dJ h1 hl hc;clear dJ h1 hl hc;unfold dy;obtain⟨S,hS⟩:=κ (Value.string (str m.bu));have b9:S.oneCell'=true:=by rw[← hS];rfl
 rw[hS];clear hS;go_enter func76,ntmps76
 go_upto_region 1 with fail
 rw[H.out.2.2.2];generalize aH:World.alloc (World.alloc _ _) _=w2;have aB:η w2 c 50 #[ι m.role,ι m.seen,ι m.aG,mv,S]:=by rw[← aH,← H.out.2.2.2];exact(η.new w _ _).alloc _
 have rJ:∃z,z.size=5∧η w2 (c+1) 50 z:=by
  rw[← aH,← H.out.2.2.2];have:=η.new (w.alloc (.cells #[ι m.role,ι m.seen,ι m.aG,mv,S] 50)) 50 #[ι 0,ι 0,ι 0,.slice none 0 0,.string ByteArray.empty];rw[show (w.alloc (.cells #[ι m.role,ι m.seen,ι m.aG,mv,S] 50)).heap.size=w.heap.size+1 by simp] at this;exact⟨_,rfl,this⟩
 have π:υ w w2:=by rw[← aH];exact((ζ.refl _ w).alloc _).alloc _
 clear aH;obtain⟨z,hzs,rJ⟩:=rJ;have cu:=aeq (H.out.1.still π) (af4 _) (by rw[bp];have:=H.out.2.2.1;omega);have mu:=δ cu;have c3:=aB.cell 3;have H2:=aD aB rJ π hzs;clear cu aB rJ π hzs;go_wp2_with (first
  |(go_at_call 135
    refine mu.out.mono ?_;rintro e w3 ⟨dz,rfl,iA,χ,uQ,lC⟩;have nG:=iA.one;have aA:=H2.out.1.ε χ (fun e=>e);have H3:=gU iA χ (H2.out.2.1.ε χ (fun e=>e)) nG uQ lC;clear iA χ uQ lC)
  |(refine gw rfl 47 _ _ rfl c 3 dz rfl rfl _ _ aA sM nG kR ?_
    intro w4 aE ag hs4;have hZ4:=H3.out.2.2.1.ε ag oM;have nM:=δ ag;clear ag)
  |(refine fV _ c aE underlying50 ?_)
  |(refine fk rfl 50 _ _ rfl (c+1) _ rfl rfl _ _ hZ4 (by rw[H2.out.2.2.2];rfl) (Dt _ _ _ nG b9) kR ?_
    intro w5 aF av hs5))
 refine cy (jx rfl _ _ (c+1) _ _ _ _ rfl aF underlying50 rfl kR) rfl ⟨dz,rfl,(H3.out.1.ε nM.out (fun b ht e=>?_)).ε av (fun b ht e=>?_),(((H2.out.2.2.1.then H3.out.2.1 φ).then nM.out (fun q e=>.inr ?_)).then av (fun q e=>.inr ?_)),fun q hq=>iE H2.out.2.2.1.size (H3.out.2.2.2.2.1 q hq),?_⟩
 ·have e2:b=c:=e
  subst e2;have:=(H2.out.1.ε H3.out.2.1 (fun e=>e)).ty.inj ht;exact absurd this dC
 ·have e2:b=c+1:=e
  subst e2;have:=(H3.out.2.2.1.ε nM.out oM).ty.inj ht;exact absurd this dC
 ·have e2:q=c:=e
  have:=H.out.2.2.2;omega
 ·have e2:q=c+1:=e
  have:=H.out.2.2.2;omega
 ·have ho:=H3.out.2.2.2.2.2
  rw[bp] at ho;refine(ho.ε nM.out (fun b hb e=>?_)).ε av (fun b hb e=>?_)
  ·have e2:b=c:=e
   subst e2;exact absurd ((H2.out.1.ε H3.out.2.1 (fun e=>e)).ty.inj (ho.ty hb)) dC
  ·have e2:b=c+1:=e
   subst e2;exact absurd (H3.out.2.2.1.ty.inj (ho.ty hb)) dC
theorem Yb {w:World} (m:MetaM) {ty:TypeId} {mv:Value} (dJ:au w ty 2 mv (m.aW.map ct)) (hl:m.aW.length≤4) :
 ς 76 #[.agg (dy m mv)] w fun e w'=>∃dz,e=ώ (.agg (dy m dz))∧au w' 46 2 dz (m.aW.map ct)∧υ w w':=by
 refine(Ya m dJ hl).mono ?_;rintro e w' ⟨v',h1,h2,h3,-⟩;exact⟨v',h1,h2,h3⟩
theorem nt {cs:Array Value} {i n:Nat} {vs:List Value} (h:(cs.toList.drop i).take n=vs) (j:Nat) (u:Value) (hj:vs[j]? = some u):cs[i+j]? = some u:=by
 rw[← h,JP] at hj;split at hj
 ·rw[FD] at hj
  simpa using hj
 ·cases hj
section
variable {w w':World} {p v:Nat} {d d':Dk} {V V':aV} {o o':cR}
theorem ahe (h:aR w p v d V o) (hl:V.st.m.aW.length≤4) :
 ς 22 #[.pointer (some ⟨v,0,none⟩)] w fun e w'=>∃dz,e=ώ (.agg (dy V.st.m dz))∧au w' 46 2 dz (V.st.m.aW.map ct)∧υ w w'∧(∀q,dz.ownBlock=some q→w.heap.size≤q)∧Own w' 46 2 dz V.st.m.aW.length (V.st.m.aW.map ct).flatten:=by
 obtain⟨c,hc⟩:=κ w.heap.size;obtain⟨C,hC⟩:=κ (dy V.st.m o.mv);have jD:((eX V p o).toList.drop 9).take 5=C.toList:=by rw[← hC];rfl
 have jW:C.size=5:=by rw[← hC];rfl
 have H:=gU h hl hc hC jD jW;clear h hl hc hC jD jW;go_enter func22,ntmps22
 go_upto_region 3 with fail
 rw[H.out.2.2.1];generalize aH:World.alloc _ _=w2;have rJ:∃z,z.size=5∧η w2 c 50 z:=by
  rw[← aH,← H.out.2.2.1];exact⟨_,rfl,η.new w _ _⟩
 have π:υ w w2:=by rw[← aH];exact(ζ.refl _ w).alloc _
 clear aH;obtain⟨z,hzs,rJ⟩:=rJ;have h2:=H.out.1.still π;have hown:=Ya V.st.m h2.eD H.out.2.1;rw[H.out.2.2.2.1] at hown;have HO:=δ hown;have H2:=aD h2 rJ π hzs;clear h2 hown rJ π hzs;go_wp2_with (first
  |(refine qL rfl _ _ rfl v 9 rfl _ _ C.toList _ H2.out.1.blk (nt H.out.2.2.2.2.1) underlying50 rfl (by rw[pM,H.out.2.2.2.2.2];kernel_rfl) ?_)
  |(go_at_call 76
    refine HO.out.mono ?_;rintro e w3 ⟨dz,rfl,iA,χ,uQ,lC⟩;have nG:=iA.one;have hZ3:=H2.out.2.1.ε χ (fun e=>e);have H3:=aD iA χ uQ lC;clear iA χ uQ lC)
  |(refine fk rfl 50 _ _ rfl c _ rfl rfl _ _ hZ3 (by rw[H2.out.2.2.2];rfl) (Dt _ _ _ nG rfl) kR ?_
    intro w5 aF av hs5))
 refine cy (jx rfl _ _ c _ _ _ _ rfl aF underlying50 rfl kR) rfl ⟨dz,rfl,H3.out.1.ε av (fun b ht e=>?_),(H2.out.2.2.1.then H3.out.2.1 φ).then av (fun q e=>.inr ?_),fun q hq=>iE H2.out.2.2.1.size (H3.out.2.2.1 q hq),H3.out.2.2.2.ε av (fun b hb e=>?_)⟩
 ·have e2:b=c:=e
  subst e2;have:=(H2.out.2.1.ε H3.out.2.1 (fun e=>e)).ty.inj ht;exact absurd this dC
 ·have e2:q=c:=e
  have:=H.out.2.2.1;omega
 ·have e2:b=c:=e
  subst e2;exact absurd ((H2.out.2.1.ε H3.out.2.1 (fun e=>e)).ty.inj (H3.out.2.2.2.ty hb)) dC
theorem ahf (h:aR w p v d V o) (hl:V.st.m.aW.length≤4) :
 ς 22 #[.pointer (some ⟨v,0,none⟩)] w fun e w'=>∃dz,e=ώ (.agg (dy V.st.m dz))∧au w' 46 2 dz (V.st.m.aW.map ct)∧υ w w':=by
 refine(ahe h hl).mono ?_;rintro e w' ⟨v',h1,h2,h3,-⟩;exact⟨v',h1,h2,h3⟩
theorem af5 (h:aR w p v d V o):ς 12 #[.pointer (some ⟨v,0,none⟩)] w fun e w'=>e=ώ (.tuple #[ι V.at_,ι V.θ])∧υ w w':=by
 have hB:=h.blk;unfold eX at hB;have hc:=hB.Pz;clear h hB;go_enter func12,ntmps12
 go_upto_region 3 with fail
 go_quiet (fail)
 go_wp2_with fail
 go_ret2
 exact⟨rfl,(ζ.refl _ w).drewN _⟩
theorem aid (h:aR w p v d V o):ς 14 #[.pointer (some ⟨v,0,none⟩)] w fun e w'=>e=ώ (ι (V.st.key:Int))∧w=w':=by
 have hc:w.cell? ⟨v,18,none⟩=some (ι (V.st.key:Int)):=h.blk.cell 18;clear h;go_enter func14,ntmps14
 go_wp2_with fail
 go_ret
 exact⟨rfl,rfl⟩
theorem aie (h:aR w p v d V o):ς 18 #[.pointer (some ⟨v,0,none⟩)] w fun e w'=>∃m2 eH,e=ώ (.pointer (some ⟨m2,0,none⟩))∧fY w' m2 eH V.S∧w.heap.size≤m2∧w.heap.size≤eH∧υ w w':=by
 have hc:w.cell? ⟨v,0,none⟩=some (.pointer (some ⟨o.m,0,none⟩)):=h.blk.cell 0;have HT:=δ (WT h.map);clear h;go_enter func18,ntmps18
 go_wp2_with (go_at_call 55;refine HT.out.mono ?_;rintro e w2 ⟨m2,eH,rfl,hm⟩);go_ret
 exact⟨m2,eH,rfl,hm⟩
end
structure BB (d:Dk) (V:aV):Prop where
 cur:V.cur≤1048576
 n:V.n<4611686018427387904
 seen:V.kp.seen<18446744073709551616
 at_:V.kp.at_≤1
 from_:V.kp.from_≤4096
 pend:d.pend+20<1000000
section
variable {w w':World} {p v:Nat} {d d':Dk} {V V':aV} {o o':cR}
theorem lT.aiO {s:cY} (h:lT s) {m:MetaM} (hr:dS m=true) (hn:m.seen≤9223372036854775807∧m.aG≤9223372036854775807):lT { s with m:=m } := ⟨hr,h.place,h.slot,h.log,h.key,h.μ,hn⟩
theorem Q4 {P:Prop} (h:P:=by
 rw[hoff] at HS HO;simp only[vI] at HO;go_wp2_with (first
  |(go_at_call 53;refine HO.out.mono ?_;rintro e w2 ⟨rfl,h2,k2,-⟩;have H2:=τ h2 k2;clear h2 k2))
 go_ret
 rw[HS.out];exact⟨rfl,o,H2.out.1,tG.out.trans H2.out.2⟩):P:=h
theorem aif (h:aR w p v d V o) (hst:lT V.st) (hf:BB d V) (m:MetaM) {ty:TypeId} {mv:Value} (dJ:au w ty 2 mv (m.aW.map ct)) (hmn:m.seen≤9223372036854775807∧m.aG≤9223372036854775807) (hml:∀x ∈ m.aW,x.name.length≤1000000) :
 ς 24 #[.pointer (some ⟨v,0,none⟩),.agg (dy m mv)] w fun e w'=>e=ώ (ι (Ep d V m).2.2)∧∃o',aR w' p v (Ep d V m).1 (Ep d V m).2.1 o'∧di w w' v o o':=by
 obtain⟨A,cap,mb,mo,th,uI,uJ,o4,sg⟩:=dJ.eD;obtain⟨c,hc⟩:=κ w.heap.size;obtain⟨C,hC⟩:=κ (dy m mv);have jW:C.size=5:=by rw[← hC];rfl
 have hone:=dJ.one;have AE:C.all (·.oneCell')=true:=by rw[← hC];exact Dt _ _ _ hone rfl
 have H:=gU h hst hf dJ hmn hml;have HM:=cx th uI uJ o4 sg;have HC:=aD hc hC jW AE;rw[hC];clear h hst hf dJ hmn hml th uI uJ o4 sg hc hC jW hone AE;go_enter func24,ntmps24
 go_upto_region 1 with fail
 rw[HC.out.1];generalize hw1:World.alloc _ _=w1;have aM:η w1 c 50 C:=by rw[← hw1,← HC.out.1];exact η.new w _ _
 have ax:υ w w1:=by rw[← hw1];exact(ζ.refl _ w).alloc _
 have H1:=aj aM ax (H.out.1.still ax);have HO:=δ (Ls (H.out.1.still ax));clear aM ax hw1;have sd:Ep d V m=if kq d V then (d,{ V with down:=true },14) else if dS m=false then (d,V,1) else ez d V { V.st with m:=m } := rfl
 have HS:=δ sd;clear sd;have tG:=δ (di.mk (o:=o) (o':=o) (v:=v) (H1.out.2.1.mono φ) (fun q e=>.inl e));cases hoff:kq d V
 ·rw[hoff] at HS HO
  simp only[oG,lK,Un] at HO;go_upto_region 4 with (first
   |(go_at_call 53;refine HO.out.mono ?_;rintro e w2 ⟨rfl,-,-,aH⟩;subst aH))
  have eE:=Pc (w:=w1) (A:=A) (cap:=cap) (b:=mb) (off:=mo) m HM.out.2.2.2.1 (fun w' hu=>HM.out.2.2.2.2 w' (fun _=>False) (H1.out.2.1.then hu (fun _ e=>.inl e)) (fun _ _ e=>e)) HM.out.2.2.1 HM.out.2.1 H.out.2.2.2.2.2;rw[← HM.out.1,HC.out.2.1] at eE;have HR:=δ eE;clear eE hoff;cases hr:dS m
  ·rw[hr] at HS HR
   clear hr;go_wp2_with (first
    |(refine eL _ c H1.out.1 underlying50 (by rw[HC.out.2.2.1];kernel_rfl) ?_)
    |(go_at_call 41;refine HR.out.mono ?_;rintro e w3 ⟨rfl,χ⟩;have H3:=δ χ;clear χ))
   go_ret
   rw[HS.out];exact⟨rfl,o,H1.out.2.2.still H3.out,tG.out.still H3.out⟩
  ·rw[hr] at HS HR
   have Nd:=δ hr;clear hr;go_upto_region 6 with (first
    |(refine eL _ c H1.out.1 underlying50 (by rw[HC.out.2.2.1];kernel_rfl) ?_)
    |(go_at_call 41;refine HR.out.mono ?_;rintro e w3 ⟨rfl,χ⟩;have H3:=δ χ;clear χ))
   obtain⟨q,hq⟩:=κ w3.heap.size;obtain⟨D,hD⟩:=κ (gz V.st o.mv);have jU:((eX V p o).toList.drop 9).take 11=D.toList:=by rw[← hD];rfl
   have rC:D.size=11:=by rw[← hD];rfl
   have h3:=H1.out.2.2.still H3.out;have AG:D.toList.toArray.all (·.oneCell')=true:=by rw[← hD];exact F6 _ _ h3.eD.one
   have HD:=cx hD jU rC AG hq;have aA:=H1.out.1.ε H3.out (fun e=>e);have K3:=aj h3 aA (tG.out.still H3.out);clear hD jU rC AG hq h3 aA;go_upto_region 7 with (first
    |(refine qL rfl _ _ rfl v 9 rfl _ _ D.toList _ K3.out.1.blk (nt HD.out.2.1) underlying115 rfl (by rw[pM,HD.out.2.2.1];kernel_rfl) ?_)
    |(refine fk rfl 115 _ _ rfl w3.heap.size _ rfl rfl _ _ (η.new w3 _ _) (by rw[AX,pM,HD.out.2.2.1];rfl) HD.out.2.2.2.1 (by rw[AX,pM,HD.out.2.2.1];kernel_rfl) ?_
      intro w4 aE ag hs4))
   rw[HD.out.2.2.2.2] at aE ag ⊢;have q_:υ w3 w4:=((ζ.refl _ w3).alloc _).then ag (fun b e=>.inr (by have e2:b=q:=e;have:=HD.out.2.2.2.2;omega));have o4:=(((H.out.2.2.2.1.still H1.out.2.1).still H3.out).still q_);have hown:=Yb m o4 (xC Nd.out).eD;rw[HC.out.2.1] at hown;have HOW:=δ hown;have H4:=aj aE (K3.out.2.1.ε q_ (fun e=>e)) q_;clear aE ag hs4 q_ hown o4;go_upto_region 8 with (first
    |(refine eL _ c H4.out.2.1 underlying50 (by rw[HC.out.2.2.1];kernel_rfl) ?_)
    |(go_at_call 76
      refine HOW.out.mono ?_;rintro e w5 ⟨dz,rfl,mm,av⟩;have aiP:=mm.one;have aF:=H4.out.1.ε av (fun e=>e);have H5:=τ mm av;clear mm av)
    |(refine xB rfl 50 _ _ rfl q 0 (dy m dz) rfl rfl _ _ (gz { V.st with m:=m } dz) aF (by rw[HD.out.2.2.1];exact Ul rfl) (by rw[← HD.out.1];rfl) (Dt _ _ _ aiP rfl) kR ?_
      intro w6 cI az wW))
   have wF:υ w3 w6:=(H4.out.2.2.then H5.out.2 (fun _ e=>.inl e)).then az (fun b e=>.inr (by have e2:b=q:=e;have:=HD.out.2.2.2.2;omega));have h6:=K3.out.1.still wF;have ZP:au w6 46 2 dz (m.aW.map ct):=H5.out.1.ε az (fun b ht e=>by
    have e2:b=q:=e;subst e2;exact absurd (aF.ty.inj ht) dC)
   have hpf:=H.out.2.2.1;have hput:=Lt h6 { V.st with m:=m } (H.out.2.1.aiO Nd.out H.out.2.2.2.2.1) ZP rfl hpf.cur hpf.n hpf.seen hpf.at_ hpf.from_ hpf.pend;have HP:=τ hput (K3.out.2.2.still wF);obtain⟨R,hR⟩:=κ (gz { V.st with m:=m } dz);have Jo:R.size=11:=by rw[← hR];rfl
   rw[hR] at cI HP;have CY:=τ cI Jo;clear hput h6 ZP wF az cI wW hR Jo hpf aF;go_wp2_with (first
    |(refine eL _ q CY.out.1 underlying115 (by rw[CY.out.2];kernel_rfl) ?_)
    |(go_at_call 67;refine HP.out.1.mono ?_;rintro e w7 ⟨rfl,o7,h7,k7⟩;have H7:=τ h7 k7;clear h7 k7))
   go_ret
   rw[HS.out];exact⟨rfl,o7,H7.out.1,HP.out.2.trans H7.out.2⟩
 ·exact Q4
theorem af6 (d:Dk) (V:aV) (s:cY):(ez d V s).2.1.cur=V.cur:=by
 unfold ez aV.told;split<;>rfl
theorem aes (h:aR w p v d V o) (hst:lT V.st) (hf:BB d V) (hk:V.st.key<1000000) (hc:V.cur<1048576) :
 ς 34 #[.pointer (some ⟨v,0,none⟩)] w fun e w'=>e=ώ (ι (Bt d V).2.2)∧∃o',aR w' p v (Bt d V).1 (Bt d V).2.1 o'∧di w w' v o o':=by
 have HO:=δ (Ls h);obtain⟨s,hs⟩:∃s:cY,{ V.st with key:=V.st.key+1 } = s:=⟨_,rfl⟩;have sd:Bt d V=if kq d V then (d,{ V with down:=true },14) else if (ez d V s).2.2≠0 then ez d V s else ((ez d V s).1,{ (ez d V s).2.1 with cur:=(ez d V s).2.1.cur+1 },0):=by
  unfold Bt;rw[hs,ν (show ¬1048576≤V.st.key by omega)]
 have ZQ:lT s:=by rw[← hs];exact⟨hst.right,hst.place,hst.slot,hst.log,by show V.st.key+1≤_;omega,hst.μ,hst.mn⟩
 have EF:w.cell? ⟨v,18,none⟩=some (ι (V.st.key:Int)):=h.blk.cell 18;have k0:(0:Int)≤(V.st.key:Int):=oM;have k1:(V.st.key:Int)<1000000:=oM;have HS:=δ sd;have H:=cx h hst hf hk hc;have HX:=τ hs ZQ;clear sd h hst hf hk hc hs ZQ;obtain⟨K,hK⟩:∃K:Int,(V.st.key:Int)=K:=⟨_,rfl⟩;rw[hK] at EF k0 k1;have HK:=δ hK;clear hK;have k2:¬1048576≤K:=oM;go_enter func34,ntmps34
 cases hoff:kq d V
 ·rw[hoff] at HS HO
  simp only[oG,lK,Un] at HO;clear hoff;go_upto_region 6 with (first
   |(go_at_call 53;refine HO.out.mono ?_;rintro e w2 ⟨rfl,-,-,aH⟩;subst aH))
  obtain⟨q,hq⟩:=κ w.heap.size;obtain⟨D,hD⟩:=κ (gz V.st o.mv);have jU:((eX V p o).toList.drop 9).take 11=D.toList:=by rw[← hD];rfl
  have rC:D.size=11:=by rw[← hD];rfl
  have hD9:D[9]? = some (ι K):=by rw[← hD,← HK.out];rfl
  have AG:D.toList.toArray.all (·.oneCell')=true:=by rw[← hD];exact F6 _ _ H.out.1.eD.one
  have HD:=gU hD jU rC AG hq hD9;clear hD jU rC AG hq hD9;go_upto_region 7 with (first
   |(refine qL rfl _ _ rfl v 9 rfl _ _ D.toList _ H.out.1.blk (nt HD.out.2.1) underlying115 rfl (by rw[pM,HD.out.2.2.1];kernel_rfl) ?_)
   |(refine fk rfl 115 _ _ rfl w.heap.size _ rfl rfl _ _ (η.new w _ _) (by rw[AX,pM,HD.out.2.2.1];rfl) HD.out.2.2.2.1 (by rw[AX,pM,HD.out.2.2.1];kernel_rfl) ?_
     intro w4 aE ag hs4))
  rw[HD.out.2.2.2.2.1] at aE ag ⊢;have q_:υ w w4:=((ζ.refl _ w).alloc _).then ag (fun b e=>.inr (by have e2:b=q:=e;have:=HD.out.2.2.2.2.1;omega));have c9:w4.cell? ⟨q,9,none⟩=some (ι K):=(aE.cell 9).trans HD.out.2.2.2.2.2;have hw:IntKind.i64.wrap (K+1)=K+1:=bX _ oM;have H4:=τ aE q_;clear aE ag hs4 q_;go_upto_region 8 with (first
   |(refine gw rfl 3 _ _ rfl q 9 (ι (K+1)) rfl rfl _ _ H4.out.1 (by rw[HD.out.2.2.1];decide) rfl kR ?_
     intro w6 cI az wW))
  have hR:D.setIfInBounds 9 (ι (K+1))=gz s o.mv:=by
   rw[← HD.out.1,← HX.out.1,← HK.out,show (V.st.key:Int)+1=((V.st.key+1:Nat):Int) by omega];rfl
  rw[hR] at cI;have Q5:υ w w6:=H4.out.2.then az (fun b e=>.inr (by have e2:b=q:=e;have:=HD.out.2.2.2.2.1;omega));have h6:=H.out.1.still Q5;have hpf:=H.out.2.2.1;have hput:=Lt h6 s HX.out.2 (mv:=o.mv) (by rw[← HX.out.1];exact h6.eD) (by rw[← HX.out.1]) hpf.cur hpf.n hpf.seen hpf.at_ hpf.from_ hpf.pend;have HP:=τ hput (di.mk (o:=o) (o':=o) (v:=v) (Q5.mono φ) (fun q e=>.inl e));obtain⟨R,vj⟩:=κ (gz s o.mv);have Jo:R.size=11:=by rw[← vj];rfl
  rw[vj] at cI HP;have CY:=τ cI Jo;clear hput h6 Q5 az cI wW vj Jo hpf hR c9;obtain⟨X,hX⟩:=κ (ez d V s);have yb:=af6 d V s;rw[hX] at HP HS yb;obtain⟨E,hE⟩:=κ X.2.2;rw[hE] at HP HS;have M6:=τ yb hE;clear hX yb;by_cases h0:E=0
  ·subst h0
   clear hE;go_wp2_with (first
    |(refine eL _ q CY.out.1 underlying115 (by rw[CY.out.2];kernel_rfl) ?_)
    |(go_at_call 67;refine HP.out.1.mono ?_;rintro e w7 ⟨rfl,o7,h7,k7⟩
      have c7:w7.cell? ⟨v,8,none⟩=some (.pointer (some ⟨o7.rb,0,none⟩)):=h7.blk.cell 8;have HRR:=δ (aei h7.ring (by rw[M6.out.1];exact H.out.2.2.2.2));have H7:=τ h7 k7;clear h7 k7)
    |(go_at_call 79;refine HRR.out.mono ?_;rintro e w8 ⟨rfl,E9⟩;have H8:=δ (H7.out.1.xM E9);clear E9))
   go_ret
   rw[HS.out];exact⟨rfl,_,H8.out.1,(HP.out.2.trans H7.out.2).trans H8.out.2⟩
  ·have eA:(E != 0)=true:=by simpa using h0
   have H0:=δ h0;clear hE h0;go_wp2_with (first
    |(refine eL _ q CY.out.1 underlying115 (by rw[CY.out.2];kernel_rfl) ?_)
    |(go_at_call 67;refine HP.out.1.mono ?_;rintro e w7 ⟨rfl,o7,h7,k7⟩
      have H7:=τ h7 k7;clear h7 k7))
   go_ret
   rw[HS.out,ν sM,σ H0.out,M6.out.2];exact⟨rfl,o7,H7.out.1,HP.out.2.trans H7.out.2⟩
 ·rw[hoff] at HS HO
  simp only[vI] at HO;go_wp2_with (first
   |(go_at_call 53;refine HO.out.mono ?_;rintro e w2 ⟨rfl,h2,k2,-⟩;have H2:=τ h2 k2;clear h2 k2))
  go_ret
  rw[HS.out];exact⟨rfl,o,H2.out.1,H2.out.2⟩
end
theorem ζ.cell_ {F:Nat→Prop} {wa wb:World} (hU:ζ F wa wb) {b i:Nat} (hb:b<wa.heap.size) (hn:¬F b):wb.cell? ⟨b,i,none⟩=wa.cell? ⟨b,i,none⟩:=by
 have h:=hU.block b hb hn;unfold World.cell?;simp only[h]
theorem Dk.ahg {d:Dk} (h:d.sync.2=0):d.sync.1.off=false:=by
 unfold Dk.sync at h ⊢;split at h
 ·simp at h
 ·rename_i ho
  rw[ν ho];split at h
  ·rename_i hb
   rw[σ hb];show d.eO.1.off=false;have ho':d.off=false:=by simpa using ho
   unfold Dk.eO at hb ⊢;split at hb
   ·simp at hb
   ·rename_i h0
    rw[ν h0];split<;>exact ho'
  ·simp at h
theorem Dk.Wu (d:Dk):d.sync.1.af.length=d.af.length:=by
 unfold Dk.sync;split
 ·rfl
 ·split
  ·show ((List.range _).map _).length=_
   rw[bp,uh,FW]
  ·rw[FW]
theorem Dk.aet (d:Dk):d.sync.1.pend≤d.pend:=by
 unfold Dk.sync;split
 ·exact bQ _
 ·split
  ·rw[Dk.FX];exact vL _
  ·rw[Kw];exact bQ _
theorem abh {d:Dk} (hl:d.waits.length=d.af.length) (slot:Nat) (t:List UInt8):(gP d slot t).1.af.length=d.af.length∧(gP d slot t).1.pend≤d.pend+80:=by
 unfold gP;split
 ·exact⟨rfl,sM⟩
 ·have h:=Bd d (cE slot) (jf t) hl (bR t)
  split
  ·exact⟨by rw[h.1],oM⟩
  ·have:=Dk.aet (dM d (cE slot) (jf t) (bR t)).1
   exact⟨by rw[Dk.Wu,h.1],oM⟩
theorem aeu {d:Dk} (hl:d.waits.length=d.af.length) (k:Kp) (t:List UInt8):(eu d k t).1.af.length=d.af.length:=by
 unfold eu;have h:=UL d (k.from_+(1 - k.at_)*10) (aX t (k.seen+1)) hl (aO t.length);repeat' split
 all_goals first| rfl | exact aJ List.length h.1 |(rw[Dk.Wu,h.1])
theorem ahh {d:Dk} {k:Kp} {t:List UInt8} (h:(eu d k t).2.2=0):(eu d k t).1.off=false:=by
 unfold eu at h ⊢;split at h
 ·simp at h
 rename_i h1
 rw[ν h1];split at h
 ·simp at h
 rename_i h2
 rw[ν h2];split at h
 ·simp at h
 rename_i h3
 rw[ν h3];split at h
 ·rename_i h4;exact absurd h h4
 rename_i h4
 rw[ν h4];split at h
 ·rename_i h5;exact absurd h h5
 rename_i h5
 rw[ν h5];exact Dk.ahg (by simpa using h5)
theorem aev {d:Dk} (hl:d.waits.length=d.af.length) (V:aV) (s:cY):(ez d V s).1.af.length=d.af.length∧((ez d V s).2.2=0→(ez d V s).1.off=false∧(ez d V s).2.1.st=s):=by
 unfold ez;have h:=aeu hl V.kp (dr s (V.wrap gy s.m.bu));split
 ·rename_i h1
  exact⟨h,fun e=>absurd e h1⟩
 ·rename_i h1
  exact⟨h,fun _=>⟨ahh (by simpa using h1),rfl⟩⟩
section
variable {w w':World} {p v:Nat} {d d':Dk} {V V':aV} {o o':cR}
theorem aR.aih (h:aR w p v d V o) {q:Nat} (hm:Mp w q) (h1:q ∉ o.F) (h2:q≠o.rk):¬o.mut v q:=by
 intro hq;rcases h.kind hq with e | e | e | e | e | e | e | e | e
 ·exact e.ji hm
 ·exact e.ji hm
 ·exact e.ji hm
 ·exact e.ji hm
 ·exact e.ji hm
 ·exact e.ji hm
 ·exact e.ji hm
 ·exact e.ji hm
 ·rcases e.2 with e | e
  ·exact h1 e
  ·exact h2 e
theorem fY.mp {w:World} {m mb:Nat} {S:List ai} (h:fY w m mb S):Mp w mb:=by
 obtain⟨ay,e1,-⟩:=h.map;exact e1.mp
theorem WX (h:aR w p v d V o) (m:MetaM) {mv:Value} (dJ:au w 46 2 mv (m.aW.map ct)) (x:List ai) {m2 eH:Nat} (hm2:fY w m2 eH x) (oC:eH ∉ o.F) (hmk:eH≠o.rk) (at_ ep:Int) (hst:lT (V.st.whole m at_ ep)) (hf:BB d V) (hn:V.n+1<4611686018427387904) (hp:d.pend+300<1000000) (hl:d.af.length=500) (ri:V.st.log<1000000) (dP:V.st.slot≤2) :
 ς 56 #[.pointer (some ⟨v,0,none⟩),.agg (dy m mv),.pointer (some ⟨m2,0,none⟩),ι at_,ι ep] w fun e w'=>e=ώ (ι (iU d V m x at_ ep).2.2)∧∃o',aR w' p v (iU d V m x at_ ep).1 (iU d V m x at_ ep).2.1 o'∧di w w' v o { o' with m:=o.m,mb:=o.mb } ∧ (o'.mb=o.mb∨o'.mb=eH∨w.heap.size≤o'.mb):=by
 obtain⟨c,hc⟩:=κ w.heap.size;obtain⟨C,hC⟩:=κ (dy m mv);have jW:C.size=5:=by rw[← hC];rfl
 have hone:=dJ.one;have AE:C.all (·.oneCell')=true:=by rw[← hC];exact Dt _ _ _ hone rfl
 obtain⟨X,hX⟩:=κ (V.wrap oZ (ke x));have hpb:=qg hm2.ok;have mh:X.length≤4400:=by
  rw[← hX];have:=OE (k:=kf jI V.cur) (about:=oZ) (text:=ke x) hf.cur (show V.st.μ<4294967296 by have:V.st.μ≤1000000:=hst.μ;omega) (show V.n<18446744073709551616 by omega) (show (ke x).length≤8192 by omega);unfold aV.wrap;omega
 have H:=δ (And.intro h (And.intro dJ (And.intro hm2 (And.intro oC (And.intro hmk (And.intro hst (And.intro hf (And.intro hn (And.intro hp (And.intro hl ri))))))))));have ou:=δ dP;clear dP;have HC:=aD hc hC jW AE;have HX:=aj hX mh hpb;rw[hC];clear h dJ hm2 oC hmk hst hf hn hp hl ri hc hC jW AE hone hX mh hpb;go_enter func56,ntmps56
 go_upto_region 1 with fail
 rw[HC.out.1];generalize hw1:World.alloc _ _=w1;have aM:η w1 c 50 C:=by rw[← hw1,← HC.out.1];exact η.new w _ _
 have ax:υ w w1:=by rw[← hw1];exact(ζ.refl _ w).alloc _
 have H1:=aj aM ax (H.out.1.still ax);clear aM ax hw1;refine dB ?_;refine dK (S:=fun w'=>η w' c 50 C∧w'.cell? ⟨v,8,none⟩=some (.pointer (some ⟨o.rb,0,none⟩))) (T:=fun _=>false) kR ?_;have aC:η w1.drew c 50 C∧w1.drew.cell? ⟨v,8,none⟩=some (.pointer (some ⟨o.rb,0,none⟩)):=⟨H1.out.1.drew,H1.out.2.2.blk.cell 8⟩;refine ξ 0 ?_;refine ξ 1 ?_;refine ξ 2 ?_;refine aQ 3 (fun w' hSw=>hSw.2) ?_;refine ξ 4 ?_;refine aY 5 (fun KK ο=>?_);go_simp
 have Q6:υ w w1.drew:=H1.out.2.1.drew;refine(Xu (H.out.2.2.1.still Q6)).mono ?_;rintro e w2 ⟨pv,rfl,bH,-,π⟩;have mO:=(H1.out.2.2.still (ζ.refl (fun _=>False) w1).drew).still π;have a_:η w2 c 50 C∧w2.cell? ⟨v,8,none⟩=some (.pointer (some ⟨o.rb,0,none⟩)):=⟨aC.1.ε π (fun e=>e),mO.blk.cell 8⟩;refine ο.out _ _ a_ ?_;have H2:=aD mO a_ bH (Q6.then π (fun _ e=>.inl e));clear ο mO bH π Q6;refine aY 6 (fun KK ο=>?_);go_simp
 have hT:=au.jK (cs:=x.map bz) (k:=2) (n:=x.length) (by have:=H2.out.2.2.1;rw[qP,NS] at this;exact this) (bp _) (oN H.out.2.2.1.ok.len) (fun c hc=>by obtain⟨q,-,rfl⟩:=bZ.1 hc;rfl)
 obtain⟨A2,eY,pb,po,rfl,e2,e3,e4,e5⟩:=hT.open_;rw[bp] at e2 e3 e4 ⊢;refine(ag5 (w:=w2) (A:=A2) (cap:=eY) (b:=pb) (off:=po) (l:=x) e4 (fun w' hu i hi=>e5 w' _ hu (fun _ _ e=>e) i (bz x[i]) (by simp[hi])) H.out.2.2.1.each H.out.2.2.1.ok.len).mono ?_;rintro e w3 ⟨rfl,χ⟩;have p6:=H2.out.1.still χ;have jC:η w3 c 50 C∧w3.cell? ⟨v,8,none⟩=some (.pointer (some ⟨o.rb,0,none⟩)):=⟨a_.1.ε χ (fun e=>e),p6.blk.cell 8⟩;refine ο.out _ _ jC ?_;have H3:=aj p6 jC (H2.out.2.2.2.then χ (fun _ e=>.inl e));clear ο p6 χ hT e2 e3 e4 e5;refine aY 7 (fun KK ο=>?_);go_simp
 have lJ:qT (kf (str jI).data.toList V.cur) V.cur V.st.μ V.n (str oZ).data.toList (str (ke x)).data.toList=X:=by rw[← HX.out.1,bS,bS,bS];rfl
 have hwr:=K1 H3.out.1.ring (by rw[bf];decide) H.out.2.2.2.2.2.2.1.cur (by have:V.st.μ≤1000000:=H.out.2.2.2.2.2.1.μ;omega) H.out.2.2.2.2.2.2.1.n (str oZ) (str (ke x)) dC (by rw[bf];have:=HX.out.2.2;omega);rw[lJ] at hwr;refine hwr.mono ?_;rintro e w4 ⟨rfl,fH,hR⟩;have sj:=H3.out.1.xM hR;have aE:η w4 c 50 C:=jC.1.ε hR.ε (fun e=>by have e1:=H.out.1.lt (i:=5) dC e;have e2:=HC.out.1;omega);have dh:η w4 c 50 C∧w4.cell? ⟨v,8,none⟩=some (.pointer (some ⟨o.rb,0,none⟩)):=⟨aE,sj.1.blk.cell 8⟩;refine ο.out _ _ dh ?_;have H4:=aj sj aE H3.out.2.2;clear ο sj aE lJ hR hwr;refine ξ 8 ?_;refine ξ 9 ?_;refine ξ 10 ?_;refine ξ 11 ?_;refine ξ 12 ?_;refine dF ?_;refine cZ ?_;clear aC a_ jC dh;obtain⟨q,hq⟩:=κ w4.heap.size;obtain⟨D,hD⟩:=κ (gz V.st o.mv);have jU:((eX { V with n:=V.n+1 } p { o with ay:=fH }).toList.drop 9).take 11=D.toList:=by rw[← hD];rfl
 have rC:D.size=11:=by rw[← hD];rfl
 have AG:D.toList.toArray.all (·.oneCell')=true:=by rw[← hD];exact F6 _ _ H4.out.1.1.eD.one
 have HD:=cx hD jU rC AG hq;clear hD jU rC AG hq;have hblk:η w4 v 117 (eX { V with n:=V.n+1 } p { o with ay:=fH }):=H4.out.1.1.blk;go_upto_region 5 with (first
  |(refine qL rfl _ _ rfl v 9 rfl _ _ D.toList _ hblk (nt HD.out.2.1) underlying115 rfl (by rw[pM,HD.out.2.2.1];kernel_rfl) ?_)
  |(refine fk rfl 115 _ _ rfl w4.heap.size _ rfl rfl _ _ (η.new w4 _ _) (by rw[AX,pM,HD.out.2.2.1];rfl) HD.out.2.2.2.1 (by rw[AX,pM,HD.out.2.2.1];kernel_rfl) ?_
    intro w5 aF av hs5))
 rw[HD.out.2.2.2.2] at aF av ⊢;have wG:υ w4 w5:=((ζ.refl _ w4).alloc _).then av (fun b e=>.inr (by have e2:b=q:=e;have:=HD.out.2.2.2.2;omega));have h5:=H4.out.1.1.still wG;have hC5:η w5 c 50 C:=H4.out.2.1.ε wG (fun e=>e);have Jj:c<q:=by have:=H4.out.2.1.lt;have:=HD.out.2.2.2.2;omega
 have hvq:v<q:=by have:=H4.out.1.1.blk.lt;have:=HD.out.2.2.2.2;omega
 obtain⟨KS,SX⟩:∃K:Int,(V.st.slot:Int)=K:=⟨_,rfl⟩;obtain⟨KL,SY⟩:∃K:Int,(V.st.log:Int)=K:=⟨_,rfl⟩;obtain⟨s1,hs1⟩:∃s:cY,({ V.st with m:=m } : cY)=s:=⟨_,rfl⟩;obtain⟨s2,bV⟩:∃s:cY,({ s1 with at_:=at_ } : cY)=s:=⟨_,rfl⟩;obtain⟨s3,eU⟩:∃s:cY,({ s2 with θ:=ep } : cY)=s:=⟨_,rfl⟩;obtain⟨s4,hs4⟩:∃s:cY,({ s3 with slot:=1+V.st.slot % 2 } : cY)=s:=⟨_,rfl⟩;obtain⟨s5,Q7⟩:∃s:cY,V.st.whole m at_ ep=s:=⟨_,rfl⟩;have e0:D.toList.take 0++C.toList++D.toList.drop (0+C.size)=(gz s1 mv).toList:=by rw[HC.out.2.2.1,← HD.out.1,← HC.out.2.1,← hs1];rfl
 have e1:(gz s1 mv).setIfInBounds 5 (ι at_)=gz s2 mv:=by rw[← bV];rfl
 have e2:(gz s2 mv).setIfInBounds 6 (ι ep)=gz s3 mv:=by rw[← eU];rfl
 have e3:(gz s3 mv).setIfInBounds 7 (ι (IntKind.i64.wrap (1+KS.tmod 2)))=gz s4 mv:=by rw[NC oM,bX _ oM,← hs4,← SX,show 1+(V.st.slot:Int) % 2=((1+V.st.slot % 2:Nat):Int) by omega];rfl
 have e4:(gz s4 mv).setIfInBounds 8 (ω (KL+1))=gz s5 mv:=by rw[← Q7,← SY,← hs4,← eU,← bV,← hs1,show (V.st.log:Int)+1=((V.st.log+1:Nat):Int) by omega];rfl
 have HE:=gU e0 e1 e2 e3 e4 Q7;have ks0:0≤KS:=oM;have ks2:KS≤1000000:=by have:V.st.slot≤2:=ou.out;omega
 have kl0:0≤KL:=oM;have kl1:KL<1000000:=by have:=H.out.2.2.2.2.2.2.2.2.2.2;omega
 have wl:IntKind.u64.wrap (KL+1)=KL+1:=IntWalk.u64_in _ oM;have c16:w5.cell? ⟨v,16,none⟩=some (ι KS):=by rw[← SX];exact h5.blk.cell 16
 have c17:w5.cell? ⟨v,17,none⟩=some (ω KL):=by rw[← SY];exact h5.blk.cell 17
 have H5:=gU h5 hC5 wG Jj hvq aF;clear h5 hC5 wG Jj hvq aF SX SY hs1 bV eU hs4 Q7 e0 e1 e2 e3 e4 av hs5;refine dB ?_;refine dK (S:=fun w'=>η w' c 50 C∧w'.cell? ⟨v,16,none⟩=some (ι KS)∧w'.cell? ⟨v,17,none⟩=some (ω KL)) (T:=fun _=>false) kR ?_;have aC:η w5.drew c 50 C∧w5.drew.cell? ⟨v,16,none⟩=some (ι KS)∧w5.drew.cell? ⟨v,17,none⟩=some (ω KL):=⟨H5.out.2.1.drew,c16,c17⟩;refine iq 0 (.agg C) (kX rfl (by rfl) _ _ rfl c (by rfl) _ _ _ (fun w' hSw=>hSw.1) underlying50 rfl (by rw[HC.out.2.2.1];kernel_rfl)) ?_
 refine ξ 1 ?_;refine ξ 2 ?_;refine ξ 3 ?_;refine ξ 4 ?_;refine ξ 5 ?_;refine ξ 6 ?_;refine aQ 7 (fun w' hSw=>hSw.2.1) ?_;refine ξ 8 ?_;refine ξ 9 ?_;refine ξ 10 ?_;refine ξ 11 ?_;refine ξ 12 ?_;refine ξ 13 ?_;refine aQ 14 (fun w' hSw=>hSw.2.2) ?_;refine ξ 15 ?_;refine ξ 16 ?_;have HK:=δ (fun (wa wb:World) (hU:ζ (· = q) wa wb) (hS:η wa c 50 C∧wa.cell? ⟨v,16,none⟩=some (ι KS)∧wa.cell? ⟨v,17,none⟩=some (ω KL)) (hv:v<wa.heap.size)=>(show η wb c 50 C∧wb.cell? ⟨v,16,none⟩=some (ι KS)∧wb.cell? ⟨v,17,none⟩=some (ω KL) from ⟨hS.1.ε hU (oN H5.out.2.2.2.1),(hU.cell_ hv (by have:=H5.out.2.2.2.2.1;show ¬v=q;omega)).trans hS.2.1,(hU.cell_ hv (by have:=H5.out.2.2.2.2.1;show ¬v=q;omega)).trans hS.2.2⟩));have SZ:v<w5.drew.heap.size:=H5.out.1.blk.drew.lt;refine aY 17 (fun KK ο=>?_);rw[σ (show Region.wanted _ _=true by rfl)];refine NX _ _ _ rfl q 0 C rfl rfl _ _ (gz s1 mv) H5.out.2.2.2.2.2.drew (by rw[HC.out.2.2.1,HD.out.2.2.1];decide) HE.out.1 HC.out.2.2.2 (by rw[HC.out.2.2.1];kernel_rfl) (fun w6 cI az iB=>?_)
 have cH:=HK.out _ _ az aC SZ;have E_:v<w6.heap.size:=by rw[iB];exact SZ
 refine ο.out _ _ cH ?_;clear ο aC;simp only[Act.put];refine ξ 18 ?_;refine aY 19 (fun KK ο=>?_);rw[σ (show Region.wanted _ _=true by rfl)];refine mD _ _ _ rfl q 5 (ι at_) rfl rfl _ _ cI (by simp[gz]) rfl kR (fun w7 dG bK jq=>?_);rw[HE.out.2.1] at dG;have lU:=HK.out _ _ bK cH E_;have S3:v<w7.heap.size:=by rw[jq];exact E_
 refine ο.out _ _ lU ?_;clear ο cH cI;simp only[Act.put];refine ξ 20 ?_;refine aY 21 (fun KK ο=>?_);rw[σ (show Region.wanted _ _=true by rfl)];refine mD _ _ _ rfl q 6 (ι ep) rfl rfl _ _ dG (by simp[gz]) rfl kR (fun w8 jc cC kC=>?_);rw[HE.out.2.2.1] at jc;have ij:=HK.out _ _ cC lU S3;have MR:v<w8.heap.size:=by rw[kC];exact S3
 refine ο.out _ _ ij ?_;clear ο lU dG;simp only[Act.put];refine ξ 22 ?_;refine aY 23 (fun KK ο=>?_);rw[σ (show Region.wanted _ _=true by rfl)];refine mD _ _ _ rfl q 7 (ι (IntKind.i64.wrap (1+KS.tmod 2))) rfl rfl _ _ jc (by simp[gz]) rfl kR (fun w9 cW eC mT=>?_);rw[HE.out.2.2.2.1] at cW;have Ar:=HK.out _ _ eC ij MR;have hv9:v<w9.heap.size:=by rw[mT];exact MR
 refine ο.out _ _ Ar ?_;clear ο ij jc;simp only[Act.put];refine ξ 24 ?_;refine aY 25 (fun KK ο=>?_);rw[σ (show Region.wanted _ _=true by rfl)];refine mD _ _ _ rfl q 8 (ω (KL+1)) rfl rfl _ _ cW (by simp[gz]) rfl kR (fun w10 mJ eT zC=>?_);rw[HE.out.2.2.2.2.1] at mJ;have BW:=HK.out _ _ eT Ar hv9;refine ο.out _ _ BW ?_;clear ο Ar cW;simp only[Act.put];refine dF ?_;refine cZ ?_;clear BW SZ E_ S3 MR hv9 HK c16 c17 wl;have Qi:υ w4 w10:=(((((H5.out.2.2.1.drew.then az (fun b e=>.inr (by have e2:b=q:=e;have:=HD.out.2.2.2.2;omega))).then bK (fun b e=>.inr (by have e2:b=q:=e;have:=HD.out.2.2.2.2;omega))).then cC (fun b e=>.inr (by have e2:b=q:=e;have:=HD.out.2.2.2.2;omega))).then eC (fun b e=>.inr (by have e2:b=q:=e;have:=HD.out.2.2.2.2;omega))).then eT (fun b e=>.inr (by have e2:b=q:=e;have:=HD.out.2.2.2.2;omega)));have h10:=H4.out.1.1.still Qi;have ZR:di w w10 v o { o with ay:=fH } := ((di.mk (o:=o) (o':=o) (v:=v) (H4.out.2.2.mono φ) (fun q e=>.inl e)).trans H4.out.1.2).still Qi
 have h5s:s5.slot=1+V.st.slot % 2:=by rw[← HE.out.2.2.2.2.2];rfl
 have h5l:s5.log=V.st.log+1:=by rw[← HE.out.2.2.2.2.2];rfl
 have yE:s5.μ=V.st.μ:=by rw[← HE.out.2.2.2.2.2];rfl
 have h5m:s5.m=m:=by rw[← HE.out.2.2.2.2.2];rfl
 have ZS:lT s5:=by rw[← HE.out.2.2.2.2.2];exact H.out.2.2.2.2.2.1
 have hWV:iU d V m x at_ ep=(if (gP d s5.slot X).2≠0 then ((gP d s5.slot X).1,V.next.told (gP d s5.slot X).2,(gP d s5.slot X).2) else if (ez (gP d s5.slot X).1 V.next s5).2.2≠0 then ez (gP d s5.slot X).1 V.next s5 else match nE (ez (gP d s5.slot X).1 V.next s5).1 20 320 s5.log with
  | none=>((ez (gP d s5.slot X).1 V.next s5).1,(ez (gP d s5.slot X).1 V.next s5).2.1.told 9,9)
  | some g=>((ez (gP d s5.slot X).1 V.next s5).1,{ (ez (gP d s5.slot X).1 V.next s5).2.1 with lg:=g,S:=x,at_:=at_,θ:=ep,rows:=[],prev:=ep },0)):=by
  rw[← HE.out.2.2.2.2.2,← HX.out.1];rfl
 have ZT:q<w10.heap.size:=mJ.lt;have Jp:w.heap.size≤q:=by have:=HD.out.2.2.2.2;have:=H4.out.1.2.ε.size;have:=H4.out.2.2.size;omega
 have HW:=δ hWV;have iL:=cx h10 mJ ZR ZT Jp;have CZ:=cx h5s h5l yE h5m ZS;obtain⟨KS2,Q8⟩:∃K:Int,(s5.slot:Int)=K:=⟨_,rfl⟩;obtain⟨KL2,Q9⟩:∃K:Int,(s5.log:Int)=K:=⟨_,rfl⟩;have Ms:=τ Q8 Q9;obtain⟨R5,mm⟩:∃R,gz s5 mv=R:=⟨_,rfl⟩;have h57:R5[7]? = some (ι KS2):=by rw[← mm,← Q8];rfl
 have h58:R5[8]? = some (ω KL2):=by rw[← mm,← Q9];rfl
 have SU:R5.size=11:=by rw[← mm];rfl
 rw[mm] at iL;have Jq:=aD mm h57 h58 SU;clear h10 mJ ZR ZT Jp Qi h5s h5l yE h5m ZS hWV az bK cC eC eT iB jq kC mT zC ks0 ks2 kl0 kl1 Q8 Q9 mm h57 h58 SU;have hp1:=H.out.2.2.2.2.2.2.2.2.1;go_upto_region 6 with fail
 have c5:w10.cell? ⟨v,5,none⟩=some (.pointer (some ⟨p,0,none⟩)):=iL.out.1.blk.cell 5;refine dB ?_;refine dK (S:=fun w'=>η w' q 115 R5∧w'.cell? ⟨v,5,none⟩=some (.pointer (some ⟨p,0,none⟩))) (T:=fun _=>false) kR ?_;have aC:η w10.drew q 115 R5∧w10.drew.cell? ⟨v,5,none⟩=some (.pointer (some ⟨p,0,none⟩)):=⟨iL.out.2.1.drew,c5⟩;have pH:=δ (fun (w':World) (h:η w' q 115 R5)=>(h.cell 7).trans Jq.out.2.1);refine Iv 0 ?_;simp only[Act.put,aa_,J2,jy];refine ξ 1 ?_;refine ξ 2 ?_;refine aQ 3 (fun w' hSw=>hSw.2) ?_;refine ξ 4 ?_;refine aQ 5 (fun w' hSw=>pH.out _ hSw.1) ?_;refine ξ 6 ?_;refine aY 7 (fun KK ο=>?_);go_simp
 have yA:=ag_ (iL.out.1.still (ζ.refl (fun _=>False) w10).drew).bO oM s5.slot (oN CZ.out.1) (oN CZ.out.1) (str X) (by rw[bf];exact HX.out.2.1);rw[Ms.out.1,bS] at yA;refine yA.mono ?_;rintro e w11 ⟨rfl,F1,hL⟩;have L7:=(iL.out.1.still (ζ.refl (fun _=>False) w10).drew).Qg hL;have f_:η w11 q 115 R5:=aC.1.ε hL.ε (fun e=>by have e1:=H.out.1.lt (i:=1) dC e;have e2:=iL.out.2.2.2.2;omega);have ZU:η w11 q 115 R5∧w11.cell? ⟨v,5,none⟩=some (.pointer (some ⟨p,0,none⟩)):=⟨f_,L7.1.blk.cell 5⟩;refine ο.out _ _ ZU ?_;have eZ:=aj L7.1 f_ ((iL.out.2.2.1.still (ζ.refl (fun _=>False) w10).drew).trans L7.2);clear ο L7 f_ hL yA;refine ξ 8 ?_;refine dF ?_;refine cZ ?_;clear aC ZU pH c5 hp1;have hsame:=abh H.out.1.bO.wf.len s5.slot X;have Qj:(gP d s5.slot X).1.waits.length=(gP d s5.slot X).1.af.length:=eZ.out.1.bO.wf.len;obtain⟨d1,oy⟩:=κ (gP d s5.slot X).1;obtain⟨E1,lH⟩:∃E,(gP d s5.slot X).2=E:=⟨_,rfl⟩;rw[oy] at hsame Qj eZ HW;rw[lH] at HW ⊢
 have S4:=τ hsame Qj;clear hsame Qj oy lH;by_cases h0:E1=0
 ·subst h0
  rw[ν sM] at HW;have hf:=H.out.2.2.2.2.2.2.1;have Yc:au w11 46 2 mv (m.aW.map ct):=H.out.2.1.ε eZ.out.2.2.ε (fun b ht=>H.out.1.sU ht dC);have hput:=Lt eZ.out.1 s5 CZ.out.2.2.2.2 (mv:=mv) (by rw[CZ.out.2.2.2.1];exact Yc) CZ.out.2.2.1 hf.cur (by have:=H.out.2.2.2.2.2.2.2.1;exact this) hf.seen hf.at_ hf.from_ (oO S4.out.1.2 H.out.2.2.2.2.2.2.2.2.1);rw[Jq.out.1] at hput;have Ld:=aev (d:=d1) S4.out.2 V.next s5;have Lu:ς 67 #[.pointer (some ⟨v,0,none⟩),.agg R5] w11 fun e w'=>e=ώ (ι (ez d1 V.next s5).2.2)∧∃o',aR w' p v (ez d1 V.next s5).1 (ez d1 V.next s5).2.1 o'∧di w11 w' v { o with ay:=fH,F:=F1 } o':=hput
  clear hput Yc hf;obtain⟨P2,wN⟩:∃P,ez d1 V.next s5=P:=⟨_,rfl⟩;rw[wN] at Lu Ld HW;obtain⟨E2,dX⟩:∃E,P2.2.2=E:=⟨_,rfl⟩;rw[dX] at Lu Ld HW;have HP:=aj Lu Ld dX;clear Lu Ld dX wN;by_cases h2:E2=0
  ·subst h2
   rw[ν sM] at HW;go_upto_region 12 with (first
    |(refine eL _ q eZ.out.2.1 underlying115 (by rw[Jq.out.2.2.2];kernel_rfl) ?_)
    |(go_at_call 67;refine HP.out.1.mono ?_;rintro e w12 ⟨rfl,o12,h12,k12⟩
      have oY:η w12 q 115 R5:=eZ.out.2.1.ε k12.ε (eZ.out.1.sU eZ.out.2.1.ty dC);have c5:w12.cell? ⟨v,5,none⟩=some (.pointer (some ⟨p,0,none⟩)):=h12.blk.cell 5;have gf:=aj h12 oY (eZ.out.2.2.trans k12);clear h12 k12 oY))
   refine dB ?_;refine dK (S:=fun w'=>η w' q 115 R5∧w'.cell? ⟨v,5,none⟩=some (.pointer (some ⟨p,0,none⟩))) (T:=fun _=>false) kR ?_;have aC:η w12.drew q 115 R5∧w12.drew.cell? ⟨v,5,none⟩=some (.pointer (some ⟨p,0,none⟩)):=⟨gf.out.2.1.drew,c5⟩;have pH:=δ (fun (w':World) (h:η w' q 115 R5)=>(h.cell 8).trans Jq.out.2.2.1);refine ξ 0 ?_;refine ξ 1 ?_;refine ξ 2 ?_;refine aQ 3 (fun w' hSw=>hSw.2) ?_;refine ξ 4 ?_;refine aQ 5 (fun w' hSw=>pH.out _ hSw.1) ?_;refine aY 6 (fun KK ο=>?_);go_simp
   have hop:=We (gf.out.1.still (ζ.refl (fun _=>False) w12).drew).bO 20 320 s5.log dC (by have h1:=HP.out.2.1.1;have h2:=S4.out.1.1;have h3:=H.out.2.2.2.2.2.2.2.2.2.1;omega) (oN CZ.out.2.1) (by have h1:=CZ.out.2.1;have h2:=H.out.2.2.2.2.2.2.2.2.2.2;omega) (HP.out.2.1.2 trivial).1;rw[Ms.out.2] at hop;refine hop.mono ?_;rintro e w13 ⟨gv,rfl,hG⟩;have Q_:=(gf.out.1.still (ζ.refl (fun _=>False) w12).drew).still hG.ε;have He:η w13 q 115 R5∧w13.cell? ⟨v,5,none⟩=some (.pointer (some ⟨p,0,none⟩)):=⟨aC.1.ε hG.ε (fun e=>e),Q_.blk.cell 5⟩;refine ο.out _ _ He ?_;have iZ:=aj Q_ hG (((gf.out.2.2.still (ζ.refl (fun _=>False) w12).drew)).still hG.ε);clear ο Q_ hG hop;refine ξ 7 ?_;refine ξ 8 ?_;refine ξ 9 ?_;refine ξ 10 ?_;refine ξ 11 ?_;refine dF ?_;refine cZ ?_;clear aC He pH c5;obtain⟨G,hG⟩:=κ (nE P2.1 20 320 s5.log);rw[hG] at HW iZ ⊢;clear hG;cases G with
   | none =>
     have e9:KM none=9:=rfl;rw[e9];have yL:=δ (Gx iZ.out.1 9);go_wp2_with (first
      |(go_at_call 59;refine yL.out.mono ?_;rintro e w14 ⟨rfl,h14,k14⟩;have kM:=τ h14 k14;clear h14 k14))
     go_ret
     rw[HW.out];exact⟨rfl,_,kM.out.1,(iZ.out.2.2.trans kM.out.2).re (.inl rfl),(iZ.out.2.2.trans kM.out.2).CV.imp id .inr⟩
   | some g =>
     have e9:KM (some g)=0:=rfl;rw[e9];obtain⟨b,v1,rfl,gB,gO,gb,gv⟩:=iZ.out.2.1.ok g rfl;have HG:=aD gB gO gb gv;clear gB gO gb gv;have l9:=iZ.out.1.blk;have ZV:=δ l9;clear l9;have jq:=ZV.out.frozen 7;have hnew:((eX P2.2.1 p o12).setIfInBounds 7 (.pointer (some ⟨b,0,none⟩))).toList.take 0++(#[.pointer (some ⟨m2,0,none⟩),ι at_,ι ep,.slice none 0 0,ι ep]:Array Value).toList++((eX P2.2.1 p o12).setIfInBounds 7 (.pointer (some ⟨b,0,none⟩))).toList.drop (0+5)=(eX { P2.2.1 with lg:=g,S:=x,at_:=at_,θ:=ep,rows:=[],prev:=ep } p { o12 with lb:=b,lv:=v1,m:=m2,mb:=eH,rv:=.slice none 0 0,aI:=[] }).toList:=rfl;have hsz:0+5≤((eX P2.2.1 p o12).setIfInBounds 7 (.pointer (some ⟨b,0,none⟩))).size:=by rw[Array.size_setIfInBounds];exact Ul rfl
     have HN:=τ hnew hsz;clear hnew hsz;go_wp2_with (first
      |(refine gw rfl _ _ _ rfl v 7 (.pointer (some ⟨b,0,none⟩)) rfl rfl _ _ ZV.out (by simp[eX]) rfl kR ?_
        intro w14 pX jA akl;have kM:=τ pX jA;clear jA pX jq)
      |(refine xB rfl _ _ _ rfl v 0 #[.pointer (some ⟨m2,0,none⟩),ι at_,ι ep,.slice none 0 0,ι ep] rfl rfl _ _ (eX { P2.2.1 with lg:=g,S:=x,at_:=at_,θ:=ep,rows:=[],prev:=ep } p { o12 with lb:=b,lv:=v1,m:=m2,mb:=eH,rv:=.slice none 0 0,aI:=[] }) kM.out.1 HN.out.2 HN.out.1 (by simp[Value.oneCell']) kR ?_
        intro w15 zA nJ wD))
     go_ret
     have hU:ζ (· = v) w13 w15:=kM.out.2.then nJ (fun q e=>.inl e);have hm:∀q,q=v→o12.mut v q:=fun q e=>.inl e
     have B9:=iZ.out.2.2;have I3:ζ (o.mut v) w w15:=B9.ε.then hU (fun q e=>B9.sub q (.inl e));have hmap:=H.out.2.2.1;have hmb:¬o.mut v eH:=H.out.1.aih hmap.mp H.out.2.2.2.1 H.out.2.2.2.2.1;have Yd:¬o12.mut v eH:=fun e=>(B9.sub _ e).elim hmb (fun e=>by have:=hmap.lt.2;omega)
     have aiQ:∀q,w12.drew.heap.size≤q→q ∉ o12.F:=fun q hq e=>by have:=gf.out.1.lt (i:=1) dC e;have e3:w12.drew.heap.size=w12.heap.size:=rfl;omega
     have h15:aR w15 p v P2.1 { P2.2.1 with lg:=g,S:=x,at_:=at_,θ:=ep,rows:=[],prev:=ep } { o12 with lb:=b,lv:=v1,m:=m2,mb:=eH,rv:=.slice none 0 0,aI:=[] } :=
      iZ.out.1.BA hU rfl rfl rfl rfl rfl zA rfl rfl rfl rfl
       (HG.out.1.ε hU (fun e=>by have e2:b=v:=e;have h1:=HG.out.2.2.1;have h2:=gf.out.1.blk.lt;have e3:w12.drew.heap.size=w12.heap.size:=rfl;omega))
       (HG.out.2.1.ε hU (fun q hq e=>by have e2:q=v:=e;have h1:=HG.out.2.2.2 q hq;have h2:=gf.out.1.blk.lt;have e3:w12.drew.heap.size=w12.heap.size:=rfl;omega))
       (fun q hq=>aiQ q (HG.out.2.2.2 q hq))
       (hmap.ε I3 (H.out.1.sU hmap.blk.ty dC) hmb)
       (fun e=>Yd (.inr (.inl e))) (fun e=>Yd (.inr (.inr (.inr (.inr (.inr (.inl (.inr (.inl e)))))))))
       (Own.nil _ _ _) rfl (fun i b ov h1=>by simp at h1) (iZ.out.1.eD.ε hU (fun b ht e=>iZ.out.1.sU ht dC (hm _ e)))
     have ajz:di w w15 v o { o12 with lb:=b,lv:=v1,m:=o.m,mb:=o.mb,rv:=.slice none 0 0,aI:=[] } := by
      have hz:∀q,w12.drew.heap.size≤q→w.heap.size≤q:=fun q hq=>iE gf.out.2.2.ε.size hq
      refine⟨I3,fun q hq=>?_,.inl rfl⟩;rcases hq with e | e | e | e | e | e | e
      ·exact B9.sub q (.inl e)
      ·exact B9.sub q (.inr (.inl e))
      ·exact B9.sub q (.inr (.inr (.inl e)))
      ·exact .inr (hz q (by have e2:q=b:=e;rw[e2];exact HG.out.2.2.1))
      ·exact .inr (hz q (HG.out.2.2.2 q e))
      ·exact B9.sub q (.inr (.inr (.inr (.inr (.inr (.inl e))))))
      ·simp[Value.ownBlock] at e
     rw[HW.out];exact⟨rfl,_,h15,ajz,.inr (.inl rfl)⟩
  ·have eA:(E2 != 0)=true:=by simpa using h2
   have H0:=δ h2;clear h2;go_wp2_with (first
    |(refine eL _ q eZ.out.2.1 underlying115 (by rw[Jq.out.2.2.2];kernel_rfl) ?_)
    |(go_at_call 67;refine HP.out.1.mono ?_;rintro e w12 ⟨rfl,o12,h12,k12⟩;have gf:=τ h12 k12;clear h12 k12))
   go_ret
   rw[HW.out,σ H0.out,HP.out.2.2];exact⟨rfl,o12,gf.out.1,(eZ.out.2.2.trans gf.out.2).re (.inl rfl),(eZ.out.2.2.trans gf.out.2).CV.imp id .inr⟩
 ·have eA:(E1 != 0)=true:=by simpa using h0
  have H0:=δ h0;have yL:=δ (Gx eZ.out.1 E1);clear h0;go_wp2_with (first
   |(go_at_call 59;refine yL.out.mono ?_;rintro e w12 ⟨rfl,h12,k12⟩;have gf:=τ h12 k12;clear h12 k12))
  go_ret
  rw[HW.out,σ H0.out];exact⟨rfl,_,gf.out.1,(eZ.out.2.2.trans gf.out.2).re (.inl rfl),(eZ.out.2.2.trans gf.out.2).CV.imp id .inr⟩
theorem ahi (h:aR w p v d V o) (m:MetaM) {mv:Value} (dJ:au w 46 2 mv (m.aW.map ct)) (x:List ai) {m2 eH:Nat} (hm2:fY w m2 eH x) (oC:eH ∉ o.F) (hmk:eH≠o.rk) (ajA:eH=o.mb∨w.heap.size≤eH) (at_ ep:Int) (hst:lT (V.st.whole m at_ ep)) (hf:BB d V) (hn:V.n+1<4611686018427387904) (hp:d.pend+300<1000000) (hl:d.af.length=500) (ri:V.st.log<1000000) (dP:V.st.slot≤2) :
 ς 56 #[.pointer (some ⟨v,0,none⟩),.agg (dy m mv),.pointer (some ⟨m2,0,none⟩),ι at_,ι ep] w fun e w'=>e=ώ (ι (iU d V m x at_ ep).2.2)∧∃o',aR w' p v (iU d V m x at_ ep).1 (iU d V m x at_ ep).2.1 o'∧di w w' v o o':=by
 refine(WX h m dJ x hm2 oC hmk at_ ep hst hf hn hp hl ri dP).mono ?_;rintro e w' ⟨he,o',h1,h2,h3⟩;refine⟨he,o',h1,h2.re (m:=o'.m) (mb:=o'.mb) ?_⟩;rcases h3 with e | e | e
 ·exact .inl e
 ·rw[e];exact ajA
 ·exact .inr e
end
theorem OT:(prog.info? 35).map (fun i=>(i.zero,i.size,i.bytes))=some (some (.agg #[ι 0,ι 0,.slice none 0 0]),3,40):=kR
theorem Oq:∀(l:List bL) (s:List Value),s.length=l.length→∀(b:bL) (ov:Value),s6 (l++[b]) (s++[ov])=s6 l s++[ι b.index,ι b.θ,ov]
 | [],[],_,_,_=>rfl
 | a::r,x::s,h,b,ov=>by
   have:=Oq r s (by simpa using h) b ov;show _::_::_::s6 (r++[b]) (s++[ov])=_;rw[this];rfl
theorem Src.abR {P:Program} {w:World} {xT t e:TypeId} {size n:Nat} (ht:P.underlying xT=some (.slice t)) (news:List Value) (hn:news.length=n*size) :
 Src P (w.alloc (.cells news.toArray e)).drew xT size (.slice (some ⟨w.heap.size,0,none⟩) n n) n news :=
 .uq ht _ _ _ hn fun j u hu=>by
  have iY:(⟨w.heap.size,0,none⟩:Addr).add j=⟨w.heap.size,j,none⟩:=by unfold Addr.add;split<;>simp_all
  rw[iY];show (w.alloc _).cell? _=_;rw[aaS];simpa using hu
theorem VR {a b:Int} {v:Value} (h:v.oneCell'=true):∀u ∈ [Value.int .i64 a,ι b,v],u.oneCell'=true:=by
 intro u hu;simp only[cn,ue,uf] at hu;rcases hu with rfl | rfl | rfl
 ·rfl
 ·rfl
 ·exact h
section
variable {w w':World} {p v:Nat} {d d':Dk} {V V':aV} {o o':cR}
theorem aR.aiR {Z:Nat→Prop} (h:aR w p v d V o) (hu:ζ Z w w') (hz:∀q,Z q→o.cl v 0 q∨o.cl v 6 q∨o.cl v 6 q) {qE:Value} {B_:List Value} (hB:η w' v 117 (eX V' p { o with rv:=qE,aI:=B_ })) (hk:V'.kp=V.kp) (hl:V'.lg=V.lg) (hS:V'.S=V.S) (hc:V'.cur=V.cur) (hn:V'.n=V.n) (hst:V'.st=V.st)
 (om:Own w' 35 3 qE V'.rows.length (s6 V'.rows B_)) (ju:B_.length=V'.rows.length) (Qh:∀(i:Nat) (b:bL) (ov:Value),V'.rows[i]? = some b→B_[i]? = some ov→au w' 32 3 ov (b.ops.map bU)) (hsub:∀q,qE.ownBlock=some q→o.rv.ownBlock=some q∨w.heap.size≤q) :
 aR w' p v d V' { o with rv:=qE,aI:=B_ } ∧ di w w' v o { o with rv:=qE,aI:=B_ } := by
 have hm:∀q,Z q→o.mut v q:=fun q e=>(hz q e).elim cR.qQ fun e=>e.elim cR.qQ cR.qQ
 refine⟨⟨h.bO.ε hu (fun q e=>h.off hz (j:=1) dC e),hB,?_,?_,?_,h.sep,?_,h.xp,?_,h.qb,h.tX,om,ju,Qh,?_⟩,di.CX (hu.mono fun q e=>.inl (hm q e)) _ rfl (fun q e=>.inl e) (.inl rfl) (.inl rfl) (fun q e=>.inl e) (fun q e=>.inl e) hsub⟩
 ·rw[hk];exact h.kept.ε hu (h.off hz (j:=2) dC rfl)
 ·rw[hl];exact h.log.ε hu (h.off hz (j:=3) dC rfl)
 ·rw[hl];exact h.recs.ε hu (fun q e=>h.off hz (j:=4) dC e)
 ·rw[hc,hn,hst];exact h.ring.move hu (fun q e=>h.off hz (j:=5) dC e)
 ·rw[hS];exact h.DK hu hm
 ·rw[hst];exact h.Bn hu hm
theorem Xy (h:aR w p v d V o) (b:bL) {ty:TypeId} {ov:Value} (ju:au w ty 3 ov (b.ops.map bU)) (hl:b.ops.length≤1000) (hr:V.rows.length≤1000) :
 ς 60 #[.pointer (some ⟨v,0,none⟩),.agg #[ι b.index,ι b.θ,ov]] w fun e w'=>e=ώ (.tuple #[])∧∃o',aR w' p v d { V with rows:=V.rows++[b],at_:=b.index,θ:=b.θ } o'∧di w w' v o o'∧o'.m=o.m∧o'.mb=o.mb∧o'.F=o.F:=by
 obtain⟨c,hc⟩:=κ w.heap.size;obtain⟨i0,bx,bN,bG,aT⟩:=je OT;have HI:=aD bx bN bG aT;have hone:=ju.one;have H:=gU h ju hl hr hc hone;clear h ju hl hr hc bx bN bG aT hone;go_enter func60,ntmps60
 go_upto_region 1 with fail
 rw[H.out.2.2.2.2.1];generalize hw1:World.alloc _ _=w1;have aM:η w1 c 35 #[ι b.index,ι b.θ,ov]:=by rw[← hw1,← H.out.2.2.2.2.1];exact η.new w _ _
 have ax:υ w w1:=by rw[← hw1];exact(ζ.refl _ w).alloc _
 have c2:=aM.cell 2;have mu:=δ (aer (H.out.2.1.still ax) (Wt _) (by rw[bp];exact H.out.2.2.1));have H1:=τ aM ax;clear aM ax hw1;go_upto_region 2 with (first
  |(go_at_call 68
    refine mu.out.mono ?_;rintro e w2 ⟨iP,rfl,gl,π⟩;have Qk:=gl.one;have aB:=H1.out.1.ε π (fun e=>e);have H2:=τ gl π;clear gl π)
  |(refine gw rfl 33 _ _ rfl c 2 iP rfl rfl _ _ aB sM Qk kR ?_
    intro w3 aA χ fK))
 rw[show (#[Value.int .i64 b.index,ι b.θ,ov]:Array Value).setIfInBounds 2 iP=#[ι b.index,ι b.θ,iP] from rfl] at aA;have yc:υ w w3:=(H1.out.2.then H2.out.2 (fun _ e=>.inl e)).then χ (fun q e=>.inr (by have e2:q=c:=e;have:=H.out.2.2.2.2.1;omega));have iA:au w3 32 3 iP (b.ops.map bU):=H2.out.1.ε χ (fun q ht e=>by
  have e2:q=c:=e;subst e2;exact absurd (aB.ty.inj ht) dC)
 have h3:=H.out.1.still yc;have H3:=aD h3 iA aA yc;have hcv:c≠v:=by have:=H.out.1.blk.lt;have:=H.out.2.2.2.2.1;omega
 have S5:=δ hcv;have jR:=δ Qk;clear h3 iA aA yc χ fK aB hcv Qk c2;refine dB ?_;refine dK (S:=fun w'=>η w' c 35 #[ι b.index,ι b.θ,iP]∧w'.cell? ⟨v,3,none⟩=some o.rv) (T:=fun i=>i == 12) kR ?_;have aC:η w3.drew c 35 #[ι b.index,ι b.θ,iP]∧w3.drew.cell? ⟨v,3,none⟩=some o.rv:=⟨H3.out.2.2.1.drew,H3.out.1.blk.cell 3⟩;refine ξ 0 ?_;refine ξ 1 ?_;refine ξ 2 ?_;refine ξ 3 ?_;refine ξ 4 ?_;refine aQ 5 (fun w' hSw=>hSw.2) ?_;refine iq 6 (.agg #[ι b.index,ι b.θ,iP]) (kX rfl (by rfl) _ _ rfl c (by rfl) _ _ _ (fun w' hSw=>hSw.1) underlying35 rfl kR) ?_;refine aY 7 (fun KK ο=>?_);go_simp
 have b9:η ((w3.alloc (.cells #[ι b.index,ι b.θ,iP] 35)).drew) c 35 #[ι b.index,ι b.θ,iP]∧((w3.alloc (.cells #[ι b.index,ι b.θ,iP] 35)).drew).cell? ⟨v,3,none⟩=some o.rv:=⟨(H3.out.2.2.1.alloc _).drew,(H3.out.1.blk.alloc _).drew.cell 3⟩;refine ο.out _ _ b9 ?_;clear ο;refine aY 8 (fun KK ο=>?_);refine pQ (by rfl) _ _ _ _ (by rfl) 35 i0 _ 3 40 underlying38 HI.out.1 HI.out.2.1 HI.out.2.2.1 HI.out.2.2.2 rfl o.rv V.rows.length (s6 V.rows o.aI) (by rfl) (H3.out.1.rows.alloc _).drew _ 1 [ι b.index,ι b.θ,iP] (by rfl) (Src.abR (e:=35) (n:=1) (size:=3) underlying38 [ι b.index,ι b.θ,iP] rfl) (VR jR.out) (by have:=H.out.2.2.2.1;unfold maxLen;omega) (oN H.out.2.2.2.1) ?_;intro qE w4 jT ag nO cG;have Ra:o.rv.ownBlock≠some v:=fun e=>H3.out.1.apart (i:=6) (j:=0) dC dC dC e rfl
 have L8:o.rv.ownBlock≠some c:=fun e=>by have e1:=H.out.1.lt (i:=6) dC e;have e2:=H.out.2.2.2.2.1;omega
 have aE:η w4 v 117 (eX V p o):=(H3.out.1.blk.alloc _).drew.ε ag Ra;have dh:η w4 c 35 #[ι b.index,ι b.θ,iP]∧w4.cell? ⟨v,3,none⟩=some o.rv:=⟨b9.1.ε ag L8,aE.cell 3⟩;refine ο.out _ _ dh ?_;clear ο;simp only[Act.put,jy];refine ξ 9 ?_;refine ξ 10 ?_;refine ξ 11 ?_;refine kO 12 (fun KK ο=>?_);rw[σ (show Region.wanted _ _=true by rfl)];refine mD _ _ _ rfl v 3 qE rfl rfl _ _ aE (by simp[eX]) jT.one kR (fun w5 aF av iz=>?_);refine ο.out _ _ ?_;clear ο;simp only[Act.put];refine dF ?_;refine cZ ?_;clear aC b9 dh;rw[show (eX V p o).setIfInBounds 3 qE=eX V p { o with rv:=qE } from rfl] at aF;have om:Own w4 35 3 qE (V.rows.length+1) (s6 (V.rows++[b]) (o.aI++[iP])):=by rw[Oq _ _ H3.out.1.qD];exact jT
 have q_:ζ (fun k=>o.rv.ownBlock=some k) w3 w4:=(((ζ.refl _ w3).alloc _).drew).then ag (fun q e=>.inl e);have H5:=zO aF av om q_ nO aE L8 Ra;have ZW:η w5 c 35 #[ι b.index,ι b.θ,iP]:=((H3.out.2.2.1.ε q_ L8)).ε av (fun e=>S5.out e);have ZX:=δ ZW;clear aF av om q_ nO aE iz jT ag cG L8 Ra ZW;go_upto_region 3 with fail
 refine dB ?_;refine dK (S:=fun w'=>η w' c 35 #[ι b.index,ι b.θ,iP]) (T:=fun _=>false) kR ?_;have aC:η w5.drew c 35 #[ι b.index,ι b.θ,iP]:=ZX.out.drew;refine Iv 0 ?_;simp only[Act.put,aa_,J2,jy];refine ξ 1 ?_;refine ξ 2 ?_;refine aQ 3 (fun w' hSw=>hSw.cell 0) ?_;refine ξ 4 ?_;refine aQ 5 (fun w' hSw=>hSw.cell 1) ?_;refine ξ 6 ?_;refine ξ 7 ?_;refine ξ 8 ?_;refine aY 9 (fun KK ο=>?_);rw[σ (show Region.wanted _ _=true by rfl)];refine mD _ _ _ rfl v 1 (ι b.index) rfl rfl _ _ H5.out.1.drew (by simp[eX]) rfl kR (fun w6 cI az iB=>?_);have cH:η w6 c 35 #[ι b.index,ι b.θ,iP]:=ZX.out.drew.ε az (fun e=>S5.out e);refine ο.out _ _ cH ?_;clear ο;simp only[Act.put];refine ξ 10 ?_;refine ξ 11 ?_;refine ξ 12 ?_;refine aY 13 (fun KK ο=>?_);rw[σ (show Region.wanted _ _=true by rfl)];refine mD _ _ _ rfl v 2 (ι b.θ) rfl rfl _ _ cI (by simp[eX]) rfl kR (fun w7 dG bK jq=>?_);have lU:η w7 c 35 #[ι b.index,ι b.θ,iP]:=cH.ε bK (fun e=>S5.out e)
 refine ο.out _ _ lU ?_;clear ο;simp only[Act.put];refine dF ?_;refine cZ ?_;clear aC cH lU;rw[show ((eX V p { o with rv:=qE }).setIfInBounds 1 (ι b.index)).setIfInBounds 2 (ι b.θ)=eX { V with rows:=V.rows++[b],at_:=b.index,θ:=b.θ } p { o with rv:=qE,aI:=o.aI++[iP] } from rfl] at dG;have ZY:ζ (· = v) w5 w7:=((ζ.refl (fun q=>q=v) w5).drew.then az (fun q e=>.inl e)).then bK (fun q e=>.inl e);have HE:=τ dG ZY;clear dG ZY cI az bK iB jq;go_wp2_with fail
 go_end0
 have Rc:ζ (fun q=>q=v∨o.rv.ownBlock=some q) w3 w7:=((H5.out.2.2.2.1.mono (fun q e=>.inl (.inr e))).then H5.out.2.1 (fun q e=>.inl (.inl e))).then HE.out.2 (fun q e=>.inl (.inl e));have ajB:ζ (· = v) w4 w7:=H5.out.2.1.then HE.out.2 (fun q e=>.inl e);have hz:∀q,(q=v∨o.rv.ownBlock=some q)→o.cl v 0 q∨o.cl v 6 q∨o.cl v 6 q:=fun q e=>e.imp id .inl
 have hm:∀q,(q=v∨o.rv.ownBlock=some q)→o.mut v q:=fun q e=>(hz q e).elim cR.qQ fun e=>e.elim cR.qQ cR.qQ
 have hnew:∀q,qE.ownBlock=some q→o.rv.ownBlock=some q∨w3.heap.size≤q:=fun q hq=>by
  rcases H5.out.2.2.2.2.1 with e | e
  ·exact .inl (by rw[← e];exact hq)
  ·rw[e] at hq
   have:=dw hq;right
   have e2:((w3.alloc (.cells #[ι b.index,ι b.θ,iP] 35)).drew).heap.size=w3.heap.size+1:=by
    show (w3.alloc _).heap.size=_;simp
   omega
 have hx:=H3.out.1.aiR (V' := { V with rows:=V.rows++[b],at_:=b.index,θ:=b.θ }) (qE:=qE) (B_:=o.aI++[iP]) Rc hz HE.out.1 rfl rfl rfl rfl rfl rfl
  (by rw[show (V.rows++[b]).length=V.rows.length+1 by simp];exact H5.out.2.2.1.ε ajB (fun q hq e=>by
    have e2:q=v:=e;subst e2;rcases hnew q hq with e | e
    ·exact H5.out.2.2.2.2.2.2.2 e
    ·have:=H3.out.1.blk.lt;omega))
  (by simp[H3.out.1.qD])
  (fun i x Fa h1 h2=>by
    have hold:=H3.out.1.Bi Rc hm;have ju:=H3.out.1.qD;by_cases hi:i<V.rows.length
    ·rw[pL hi] at h1
     rw[pL oM] at h2;exact hold i x Fa h1 h2
    ·rw[lM oM] at h1
     rw[lM oM] at h2;have bx:i - V.rows.length=0:=by
      have:=(kT.1 h1).1;simpa using this
     rw[bx] at h1;rw[show i - o.aI.length=0 by omega] at h2;cases h1
     cases h2
     exact H3.out.2.1.ε Rc (fun q ht e=>H3.out.1.sU ht dC (hm q e)))
  hnew
 exact⟨rfl,_,hx.1,(di.mk (H3.out.2.2.2.mono φ) (fun q e=>.inl e)).trans hx.2,rfl,rfl,rfl⟩
theorem Xz (h:aR w p v d V o) (b:bL) {ty:TypeId} {ov:Value} (ju:au w ty 3 ov (b.ops.map bU)) (hl:b.ops.length≤1000) (hr:V.rows.length≤1000) :
 ς 60 #[.pointer (some ⟨v,0,none⟩),.agg #[ι b.index,ι b.θ,ov]] w fun e w'=>e=ώ (.tuple #[])∧∃o',aR w' p v d { V with rows:=V.rows++[b],at_:=b.index,θ:=b.θ } o'∧di w w' v o o' :=
 (Xy h b ju hl hr).mono fun _ _ ⟨h1,o',h2,h3,_⟩=>⟨h1,o',h2,h3⟩
end
section
variable {w w':World} {p v:Nat} {d d':Dk} {V V':aV} {o o':cR}
theorem ac9 (h:aR w p v d V o) (hst:lT V.st) (hf:BB d V) (hn:V.n+1<4611686018427387904) (hp:d.pend+300<1000000) (hl:d.af.length=500) (ri:V.st.log<1000000)
 (m:MetaM) {ty:TypeId} {mv:Value} (dJ:au w ty 2 mv (m.aW.map ct)) (hmn:m.seen≤9223372036854775807∧m.aG≤9223372036854775807) (hml:∀x ∈ m.aW,x.name.length≤1000000)
 (l:List ai) {tl:TypeId} {lv:Value} (hlv:au w tl 2 lv (l.map bz)) (hls:∀p ∈ l,p.1.length≤1000000∧p.2.length≤1000000) (at_ ep:Int) (fB:ep≤9223372036854775807) :
 ς 21 #[.pointer (some ⟨v,0,none⟩),.agg (dy m mv),lv,ι at_,ι ep] w fun e w'=>e=ώ (ι (DI d V m l at_ ep).2.2)∧∃o',aR w' p v (DI d V m l at_ ep).1 (DI d V m l at_ ep).2.1 o'∧di w w' v o o':=by
 obtain⟨A,cap,mb,mo,th,uI,uJ,o4,sg⟩:=dJ.eD;obtain⟨LA,ajC,lb,lo,Re,Rf,Et,Rg,ZZ⟩:=hlv.open_;rw[bp] at Re Rf Et Rg;obtain⟨c,hc⟩:=κ w.heap.size;obtain⟨C,hC⟩:=κ (dy m mv);have jW:C.size=5:=by rw[← hC];rfl
 have H:=o_ h hst hf hn hp hl ri;have HM:=zO dJ hmn hml th uI uJ o4 sg;have HL:=gU Re Rf Et Rg ZZ hls;have HC:=aj hc hC jW;have HEP:=δ fB;rw[hC];clear h hst hf hn hp hl ri dJ hmn hml th uI uJ o4 sg hlv Re Rf Et Rg ZZ hls hc hC jW fB;go_enter func21,ntmps21
 go_upto_region 1 with fail
 rw[HC.out.1];generalize hw1:World.alloc _ _=w1;have aM:η w1 c 50 C:=by rw[← hw1,← HC.out.1];exact η.new w _ _
 have ax:υ w w1:=by rw[← hw1];exact(ζ.refl _ w).alloc _
 have H1:=aj aM ax (H.out.1.still ax);have HO:=δ (Ls (H.out.1.still ax));clear aM ax hw1;have sd:DI d V m l at_ ep=if kq d V then (d,{ V with down:=true },14) else if dS m=false∨mE at_ ep=false then (d,V,1) else if (fL l).2≠0 then (d,V,(fL l).2) else iU d V m (fL l).1 at_ ep:=rfl
 have HS:=δ sd;clear sd;have tG:=δ (di.mk (o:=o) (o':=o) (v:=v) (H1.out.2.1.mono φ) (fun q e=>.inl e));cases hoff:kq d V
 ·rw[hoff] at HS HO
  simp only[oG,lK,Un] at HO;have eE:=Pc (w:=w1) (A:=A) (cap:=cap) (b:=mb) (off:=mo) m HM.out.2.2.2.2.2.2.1 (fun w' hu=>HM.out.2.2.2.2.2.2.2 w' (fun _=>False) (H1.out.2.1.then hu (fun _ e=>.inl e)) (fun _ _ e=>e)) HM.out.2.2.2.2.2.1 HM.out.2.2.2.2.1 HM.out.2.2.1;rw[← HM.out.2.2.2.1,HC.out.2.1] at eE;have HR:=δ eE;clear eE hoff;go_upto_region 4 with (first
   |(go_at_call 53;refine HO.out.mono ?_;rintro e w2 ⟨rfl,-,-,aH⟩;subst aH))
  obtain⟨B1,aM⟩:∃B,decide (at_=0∧ep=0)=B:=⟨_,rfl⟩;obtain⟨B2,aB⟩:∃B,decide (1≤at_∧at_≤4611686018427387904∧1≤ep)=B:=⟨_,rfl⟩;have qz:=δ aM;have jQ:=δ aB;clear aM aB;go_cut [12] (fun t12 wx=>t12=.bool B1∧w1=wx)
  case first =>
   cases h1:(at_ == 0)
   ·go_wp2_with fail
    go_meet
    refine⟨?_,rfl⟩;rw[← qz.out];have h1':at_≠0:=by simpa using h1
    simp[h1']
   ·go_wp2_with fail
    go_meet
    refine⟨?_,rfl⟩;rw[← qz.out];have h1':at_=0:=by simpa using h1
    simp[h1',Bool.beq_eq_decide_eq]
  case rest =>
   obtain⟨rfl,rfl⟩:=hcut;go_upto_region 5 with fail
   go_cut [13] (fun t13 wx=>t13=.bool B2∧w1=wx)
   case first =>
    by_cases h1:1≤at_<;>by_cases h2:at_≤4611686018427387904<;>by_cases h3:1≤ep<;>
    (go_wp2_with fail
     go_meet
     refine⟨?_,rfl⟩;rw[← jQ.out];first
      | exact aJ Value.bool (fe oM).symm
      | exact aJ Value.bool (gN oM).symm)
   case rest =>
    obtain⟨rfl,rfl⟩:=hcut;go_upto_region 6 with fail
    have XA:mE at_ ep=(B1 || B2):=by rw[← qz.out,← jQ.out];rfl
    obtain⟨B3,aA⟩:∃B,(dS m && mE at_ ep)=B:=⟨_,rfl⟩;have wR:=τ aA XA;clear aA XA;go_cut [47] (fun t47 wx=>t47=.bool (!B3)∧υ w1 wx)
    case first =>
     obtain⟨Z,hZ⟩:=κ (dS m);have fK:=wR.out;rw[hZ] at HR fK;have HZ3:=δ fK;clear fK hZ;cases Z<;>cases B1<;>cases B2<;>
     (go_wp2_with (first
       |(refine eL _ c H1.out.1 underlying50 (by rw[HC.out.2.2];kernel_rfl) ?_)
       |(go_at_call 41;refine HR.out.mono ?_;rintro e w3 ⟨rfl,χ⟩;have H3:=δ χ;clear χ))
      go_meet
      refine⟨?_,H3.out⟩;rw[← HZ3.out.1,HZ3.out.2];rfl)
    case rest =>
     obtain⟨rfl,χ⟩:=hcut;have h3:=H1.out.2.2.still χ;have mz:=tG.out.still χ;have Hf:=H1.out.2.1.then χ (fun _ e=>.inl e);have Z0:=H1.out.1.ε χ (fun e=>e);have H3:=aD h3 mz Hf Z0;clear h3 mz Hf Z0 χ;cases hb:B3
     ·have hno:dS m=false∨mE at_ ep=false:=by
       have:=wR.out.1;rw[hb] at this;cases hr:dS m
       ·exact .inl rfl
       ·rw[hr] at this;exact .inr (by simpa using this)
      have C0:=δ hno;clear hno hb;go_wp2_with fail
      go_ret
      rw[HS.out,ν sM,σ C0.out];exact⟨rfl,o,H3.out.1,H3.out.2.1⟩
     ·have hyes:dS m=true∧mE at_ ep=true:=by
       have:=wR.out.1;rw[hb] at this;simpa using this
      have HY:=δ hyes;have lX:=X5 (w:=wc) (A:=LA) (cap:=ajC) (b:=lb) (off:=lo) (l:=l) HL.out.2.2.2.1 (fun w' hu i hi=>HL.out.2.2.2.2.1 w' (fun _=>False) (H3.out.2.2.1.then hu (fun _ e=>.inl e)) (fun _ _ e=>e) i (bz l[i]) (by simp[hi])) HL.out.2.2.2.2.2 HL.out.2.2.1;rw[← HL.out.1] at lX;have Au:=δ lX;clear hyes hb lX;obtain⟨R,hR⟩:=κ (fL l);rw[hR] at HS;by_cases h0:R.2=0
      ·have HE:=τ hR h0
       clear hR h0;go_upto_region 9 with (first
        |(go_at_call 75;refine Au.out.mono ?_;intro e w4 C6
          obtain⟨m2,eH,rfl,uX,tY,C7⟩:=C6.yes (by rw[HE.out.1];exact HE.out.2);have H4:=aD uX tY C7 C6.ε;clear uX tY C7 C6))
       have hwc:w.heap.size≤wc.heap.size:=H3.out.2.2.1.size;have h4:=H3.out.1.still H4.out.2.2.2;have o4:=(HM.out.1.still H3.out.2.2.1).still H4.out.2.2.2;have hown:=Yb m o4 (xC HY.out.1).eD;rw[HC.out.2.1] at hown;have HOW:=δ hown;have aE:=H3.out.2.2.2.ε H4.out.2.2.2 (fun e=>e);have Hg:lT (V.st.whole m at_ ep):=by
        have hst:=H.out.2.1;have hpk:=HY.out.2;have he:=HEP.out;unfold mE at hpk;simp only[FB,dR] at hpk;refine⟨HY.out.1,⟨?_,?_,?_,?_⟩,?_,?_,hst.key,hst.μ,HM.out.2.1⟩
        ·show 0≤at_;omega
        ·show at_≤_;omega
        ·show 0≤ep;omega
        ·show ep≤_;omega
        ·show 1+V.st.slot % 2≤2;omega
        ·show V.st.log+1≤1000000
         have:=H.out.2.2.2.2.2.2;omega
       have oC:eH ∉ o.F:=fun e=>by
        have h1:=H.out.1.lt (i:=1) dC e;have h2:=H4.out.2.2.1;omega
       have hmk:eH≠o.rk:=fun e=>by
        have h1:=H.out.1.lt (i:=5) (q:=o.rk) dC (.inr (.inl rfl));have h2:=H4.out.2.2.1;omega
       have HW:=δ (fun (w5:World) (dz:Value) (mm:au w5 46 2 dz (m.aW.map ct)) (av:υ w4 w5)=>WX (h4.still av) m mm (fL l).1 (H4.out.1.still av) oC hmk at_ ep Hg H.out.2.2.1 H.out.2.2.2.1 H.out.2.2.2.2.1 H.out.2.2.2.2.2.1 H.out.2.2.2.2.2.2 H.out.2.1.slot);have iN:=δ aE;clear h4 o4 hown aE Hg oC hmk hwc;go_wp2_with (first
        |(refine eL _ c iN.out underlying50 (by rw[HC.out.2.2];kernel_rfl) ?_)
        |(go_at_call 76
          refine HOW.out.mono ?_;rintro e w5 ⟨dz,rfl,mm,av⟩;have H5:=τ mm av;clear mm av)
        |(go_at_call 56
          refine(HW.out _ _ H5.out.1 H5.out.2).mono ?_;rintro e w6 ⟨rfl,o6,h6,k6,km⟩;have H6:=aj h6 k6 km;clear h6 k6 km))
       go_ret
       rw[HS.out,ν sM,ν (by rw[HY.out.1,HY.out.2];simp),ν (by rw[HE.out.2];simp),← HE.out.1]
       refine⟨rfl,o6,H6.out.1,(((H3.out.2.1.still H4.out.2.2.2).still H5.out.2).trans H6.out.2.1).re (m:=o6.m) (mb:=o6.mb) ?_⟩;rcases H6.out.2.2 with e | e | e
       ·exact .inl e
       ·rw[e]
        exact .inr (iE H3.out.2.1.ε.size H4.out.2.2.1)
       ·exact .inr (iE ((H3.out.2.1.still H4.out.2.2.2).still H5.out.2).ε.size e)
      ·obtain⟨E,hE⟩:=κ R.2
       have HE:=τ hR hE;rw[hE] at h0;have eA:(E != 0)=true:=by simpa using h0
       have H0:=δ h0;clear hR hE h0;go_wp2_with (first
        |(go_at_call 75;refine Au.out.mono ?_;intro e w4 C6
          obtain rfl:=C6.no (by rw[HE.out.1,HE.out.2];exact H0.out);rw[HE.out.1,HE.out.2];have H4:=δ C6.ε;clear C6))
       go_ret
       rw[HS.out,ν sM,ν (by rw[HY.out.1,HY.out.2];simp),HE.out.2,σ H0.out]
       exact⟨rfl,o,H3.out.1.still H4.out,H3.out.2.1.still H4.out⟩
 ·exact Q4
end
structure wu (g:Lg):Prop where
 from_:g.from_≤5000
 dZ:g.dZ≤5000
 used:g.used≤g.dZ
 len:g.l.length≤g.used
 θ:g.θ<18446744073709551616
 last:g.last<18446744073709551616
 aq:g.aq<18446744073709551616
theorem VS:∀(n:Nat) (g:Lg) (row:List Lp),wu g→g.used+row.length≤g.dZ→(∀q ∈ row,q.aq<18446744073709551616)→wu (qV n g row)
 | 0,_,_,h,_,_=>h
 | n + 1,g,row,h,hu,hs=>by
   unfold qV;split
   ·rename_i hf
    obtain⟨h1,h2,h3,h4⟩:=N1 hf;refine VS n _ _ ⟨h.from_,h.dZ,?_,?_,h.θ,?_,h.aq⟩ ?_ (fun q hq=>hs q (Dr hq))
    ·show g.used+_≤g.dZ
     omega
    ·show (g.l++[_]).length≤g.used+_
     have:=h.len;rw[aL,A6];omega
    ·show (row.headD _).aq<_
     cases row with
     | nil=>simp at h1
     | cons a r=>exact hs a sM
    ·show g.used+_+(row.drop _).length≤g.dZ
     rw[gM];omega
   ·exact h
theorem VT {d:Dk} {f n e:Nat} {g:Lg} (hf:f≤5000) (hn:n≤5000) (he:e<18446744073709551616) (h:nE d f n e=some g):wu g:=by
 unfold nE at h;split at h
 ·cases h
 ·cases h
  have h1:=Ol d f n;have h2:=VA d f n;exact VS _ _ _ ⟨hf,hn,by show 0≤n;omega,sM,he,by show 0<_;omega,h2.2⟩ (by show 0+_≤n;omega) (fun q hq=>(h2.1 q hq).2.2)
theorem WY {w:World} {p b:Nat} {d:Dk} {F:List Nat} {g:Lg} {v:Value} (hD:bI w p d F) (hB:η w b 199 (g.cells p v)) (hO:Own w 9 1 v g.l.length (strs g.l)) (hsep:∀q,v.ownBlock=some q→q ∉ F) (s:ByteArray)
 (hg:wu g) (hp:d.pend+40<1000000) :
 ς 58 #[.pointer (some ⟨b,0,none⟩),.string s] w fun e w'=>e=ώ (ι (lR d g s).2.2)∧Gr w w' p b (lR d g s).1 (lR d g s).2.1 F v:=by
 have hlen:=hg.len;have D8:=hg.used;have s9:=hg.dZ;have GJ:=hg.aq;by_cases h:g.broken=true∨1024<s.size∨g.dZ - g.used<partsOf s.size∨g.aq=18446744073709551615
 ·refine(ab6 (p:=p) ⟨v,hB,hO⟩ s hg.used hg.dZ h).mono ?_
  rintro e w' ⟨rfl,hu⟩;have hno:Gr w w' p b d g F v:=⟨⟨F,v,hD.ε hu (fun _ _ e=>e),fun q e=>.inl e,hB.ε hu (fun e=>e),hO.ε hu (fun _ _ e=>e),fun q e=>.inl e,hsep⟩,hu.mono φ⟩;unfold lR;by_cases h1:g.broken=true
  ·rw[σ h1,σ h1];exact⟨rfl,hno⟩
  ·rw[ν h1,ν h1]
   by_cases h2:1024<s.size
   ·rw[σ h2,σ h2];exact⟨rfl,hno⟩
   ·rw[ν h2,ν h2,σ (by rcases h with h | h | h;exact absurd h h1;exact absurd h h2;exact h)];exact⟨rfl,hno⟩
 ·simp only[pO] at h
  exact afp hD hB hO hsep s (by simpa using h.1) oM oM oM hg.from_ hg.dZ hg.used oM hg.θ hg.last hp
end
end Go.Proofs.YtbhjgfibhegddaaGreat
