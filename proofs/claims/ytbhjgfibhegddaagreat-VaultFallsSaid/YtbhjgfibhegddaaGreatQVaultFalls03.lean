/-
  Parts of the proof of VaultFalls: BatA, PackQ, BatB, ShaM, Big.
-/
import Derived.Test.YtbhjgfibhegddaaGreatQVaultFalls02
import Derived.IntWalk
import Derived.Laws.Bits64b
import Derived.Laws.Closers25b
set_option maxRecDepth 100000
set_option maxHeartbeats 16000000
namespace Go.Proofs.YtbhjgfibhegddaaGreat
abbrev CV:=@Go.ByteArray.toList_eq
abbrev xp:=@UInt8.toNat_inj
abbrev XZ:=@Classical.em
abbrev Mh:=@List.length_eq_zero_iff
abbrev fo:=@decide_eq_true
abbrev gI:=@decide_eq_false
abbrev Iu:=@List.length_pos_iff
abbrev AY:=@ne_eq
abbrev QI:=@not_true_eq_false
abbrev Iv:=@not_false_eq_true
abbrev vf:=@if_true
abbrev xq:=@List.flatMap_append
abbrev Iw:=@List.mem_of_mem_take
abbrev Fg:=@List.take_zero
abbrev sW:=@List.take_length
abbrev X3:=@Int.emod_nonneg
abbrev X4:=@Int.emod_lt_of_pos
abbrev nv:=@List.getElem?_eq_none
abbrev Ix:=@List.length_set
abbrev vg:=@List.not_mem_nil
abbrev vh:=@or_false
abbrev CW:=@List.drop_drop
abbrev jE:=@List.length_replicate
open Tryz
section
open Go Go.RowKit
theorem JU {P:Prop} (h:P:=by rw[← hV,bR]):P:=h
theorem Gc {P:Prop} (h:P:=by rw[← fk,← hq];exact η.new w _ _):P:=h
theorem DA {P:Prop} (h:P:=by rw[← fk];exact(ζ.refl _ w).alloc _):P:=h
def bY (o:dn):List Value:=[ϋ (o.kind.toNat:Int),.string (str o.path),.string (str o.value)]
def vB (w:World) (b off:Nat) (l:List dn):Prop:=∀i (h:i<l.length),w.rangeAt b (off+i*3) (bY l[i])
def qo (l:List dn):Prop:=∀o ∈ l,o.path.length≤1000000∧o.value.length≤1000000
theorem YE {l:List dn} {k:Nat} (hk:k<l.length):pP (l.drop k)=if jr l[k]≠0 then jr l[k] else pP (l.drop (k+1)):=by
 rw[vc hk,pP]
theorem ac9 {P:Prop} (h:P:=by
 go_enter func139,ntmps139
 go_wp2_with fail
 refine(HC.out _).mono ?_;rintro e w1 ⟨rfl,hU⟩;have HU:=δ hU;clear hU;go_wp2_with fail
 go_ret
 exact⟨rfl,HU.out⟩):P:=h
theorem ajK (s:ByteArray) (hs:s.size≤1000000) (w:World) :
 ς 139 #[.string s] w fun e w'=>e=ώ (ι (if jF s.data.toList=false then 20 else 0))∧υ w w':=by
 have hc:=fun W=>abw s hs W
 obtain⟨a,ha⟩:=μ (str (nE s.data.toList).1);obtain⟨b,hb⟩:∃a,str (nE s.data.toList).2.1=a:=⟨_,rfl⟩;obtain⟨B,hB⟩:∃a,jF s.data.toList=a:=⟨_,rfl⟩;rw[ha,hb,hB] at hc;rw[hB];have HC:=δ hc;clear hc ha hb hB;cases B
 ·exact ac9
 ·exact ac9
theorem ac_ {P:Prop} (h:P:=by
 have Vj:Hid (pP (l.drop (k+1))=E):=by
  have e0:jr o=0:=by rw[Ac.out,ν (fun e=>e.2 (Pe.out.1 g2))]
  have:=HE.out;rw[e0] at this;exact δ (by simpa using this)
 have g3:V=ByteArray.empty:=by
  apply ByteArray.ext
  apply afX
  exact g2
 subst g3;clear g2 g1;go_wp2_with fail
 go_roundw
 case rel=>exact⟨k+1,oM,by go_num,gD.out,Vj.out⟩
 case measure=>simp[intOf]<;>omega):P:=h
theorem ada {P:Prop} (h:P:=by
 obtain rfl:(20:Int)=E:=by
  have e3:jr o=20:=by rw[tH.out];rfl
  have:=HE.out;rw[e3] at this;simpa using this
 go_wp2_with fail
 refine(Og.out _).mono ?_;rintro e w6 ⟨rfl,aB⟩;have gD:=δ (dB.out.1.then aB φ);clear aB c0 c1 c2;go_wp2_with fail
 go_ret
 exact⟨rfl,gD.out⟩):P:=h
theorem adb {P:Prop} (h:P:=by
 obtain rfl:(3:Int)=E:=by
  have e3:jr o=3:=by rw[tH.out,ν sM,π oM]
  have:=HE.out;rw[e3] at this;simpa using this
 go_wp2_with fail
 go_ret
 exact⟨rfl,gD.out⟩):P:=h
theorem ade {P:Prop} (h:P:=by
 rw[CV];have:V.data.toList≠[]:=fun e=>g2 (by have h:=aI List.length e;simpa using h)
 simpa using this):P:=h
theorem amD {A:Option Addr} {cap b off:Nat} {l:List dn} {w:World} (hA:0<l.length→A=some ⟨b,off,none⟩) (hb:∀w',υ w w'→vB w' b off l) (hs:qo l) (hl:l.length≤1000000) :
 ς 138 #[.slice A l.length cap,.func (.func 139) #[] #[]] w fun e w'=>e=ώ (ι (pP l))∧υ w w':=by
 obtain⟨E,hE⟩:=μ (pP l);rw[hE];have HB:=δ hb;have HS:=τ hs hE;clear hb hs hE;go_enter func138,ntmps138
 go_wp2_with fail
 go_loopw [6,7,10] (fun _ _ i wr=>∃k:Nat,k≤l.length∧i=ι (k:Int)∧υ w wr∧pP (l.drop k)=E) (fun _ _ i _=>l.length - (intOf i).toNat)
 case atStart=>exact⟨0,oM,rfl,ζ.refl _ _,HS.out.2⟩
 case round =>
  obtain⟨k,hk,rfl,hU,hE⟩:=hrel;by_cases hlt:k<l.length
  ·obtain rfl:=hA oM
   have hrow:=HB.out wr hU k hlt;have gS:=HS.out.1 _ (eE hlt);rw[YE hlt] at hE;obtain⟨o,ho⟩:=μ (l[k]);rw[ho] at hrow gS hE;have HR:=δ hrow;have HE:=δ hE;have HU:=δ hU;clear hrow hE hU ho;have j1:(k:Int)<(l.length:Int):=oM;have h25:=fun W=>ajK (str o.path) (by rw[bR];exact gS.1) W
   rw[cA] at h25;obtain⟨P,hP⟩:=μ (str o.path);obtain⟨V,hV⟩:∃P,str o.value=P:=⟨_,rfl⟩;obtain⟨K,hK⟩:∃K:Int,(o.kind.toNat:Int)=K:=⟨_,rfl⟩;have hrw:bY o=[ϋ K,.string P,.string V]:=by unfold bY;rw[hP,hV,hK]
   rw[hrw] at HR;rw[hP] at h25;have sC:V.size=o.value.length:=JU
   have H25:=δ h25;have HV:=aq sC hV hK;clear h25 hrw hP hV sC hK gS;obtain⟨q,hq⟩:=μ wr.heap.size;have HQ:=δ hq;go_upto_region 4 with (first
    |(refine ve rfl _ _ rfl b (off+k*3) rfl [ϋ K,.string P,.string V] _ HR.out underlying32 rfl kR ?_))
   generalize fk:World.alloc _ _=w5;have aK:η w5 q 32 #[ϋ K,.string P,.string V]:=by rw[← fk,← HQ.out];exact η.new wr _ _
   have ay:υ w w5:=by rw[← fk];exact HU.out.alloc _
   obtain⟨c0,c1,c2⟩:=aK.gd;have dB:=τ ay aK;clear ay aK fk hq HR;by_cases DB:o.kind≠1∧o.kind≠2
   ·have anY:E=10:=by rw[← HE.out];unfold jr;rw[π DB];simp
    subst anY;have k1:(K != 1)=true:=by
     rw[kq,← HV.out.2.2];intro e;exact DB.1 (xp.1 (show o.kind.toNat=1 by omega))
    have k2:(K != 2)=true:=by
     rw[kq,← HV.out.2.2];intro e;exact DB.2 (xp.1 (show o.kind.toNat=2 by omega))
    clear DB;go_wp2_with fail
    go_ret
    exact⟨rfl,dB.out.1⟩
   ·have Oh:K=1∧o.kind=1∨K=2∧o.kind=2:=by
     rcases XZ (o.kind=1) with e | e
     ·exact .inl ⟨by rw[← HV.out.2.2,e];rfl,e⟩
     ·refine .inr ?_
      have e2:o.kind=2:=yY fun c=>DB ⟨e,c⟩
      exact⟨by rw[← HV.out.2.2,e2];rfl,e2⟩
    have TD:=δ Oh;have HN:=δ DB;clear DB Oh;rcases TD.out with ⟨rfl,uE⟩ | ⟨rfl,uE⟩
    ·have eU:jr o=if jF o.path=false then 20 else if 32<o.value.length then 3 else if o.kind=2∧o.value≠[] then 1 else 0:=by
      unfold jr;rw[ν HN.out]
     have Vk:=δ uE;have KE:V.size=0↔o.value=[]:=by rw[HV.out.1,Mh]
     rw[← HV.out.1] at eU;obtain⟨B,hB⟩:=μ (jF o.path);have h25:=H25.out;rw[hB] at eU h25;have Og:=δ h25;have tH:=δ eU;have Pe:=δ KE;clear hB h25 eU TD uE KE;cases B
     ·exact ada
     ·go_wp2_with fail
      refine(Og.out _).mono ?_;rintro e w6 ⟨rfl,aB⟩;have gD:=δ (dB.out.1.then aB φ);obtain⟨c0,c1,c2⟩:=(dB.out.2.ε aB id).gd;clear aB;by_cases g1:(32:Int)<(V.size:Int)
      ·exact adb
      ·have B7:jr o=if o.kind=2∧o.value≠[] then 1 else 0:=by rw[tH.out,ν sM,ν oM]
       have Ac:=δ B7;clear B7;by_cases g2:V.size=0
       ·exact ac_
       ·have g4:(!V.toList.isEmpty)=true:=by
         exact ade
        have D_:=δ (fun e=>g2 (Pe.out.2 e));clear g2;have Vj:Hid (pP (l.drop (k+1))=E):=by
         have e0:jr o=0:=by rw[Ac.out,ν (fun e=>by have:=e.1;rw[Vk.out] at this;exact absurd this dC)]
         have:=HE.out;rw[e0] at this;exact δ (by simpa using this)
        go_wp2_with fail
        go_roundw
        case rel=>exact⟨k+1,oM,by go_num,gD.out,Vj.out⟩
        case measure=>simp[intOf]<;>omega
    ·have eU:jr o=if jF o.path=false then 20 else if 32<o.value.length then 3 else if o.kind=2∧o.value≠[] then 1 else 0:=by
      unfold jr;rw[ν HN.out]
     have Vk:=δ uE;have KE:V.size=0↔o.value=[]:=by rw[HV.out.1,Mh]
     rw[← HV.out.1] at eU;obtain⟨B,hB⟩:=μ (jF o.path);have h25:=H25.out;rw[hB] at eU h25;have Og:=δ h25;have tH:=δ eU;have Pe:=δ KE;clear hB h25 eU TD uE KE;cases B
     ·exact ada
     ·go_wp2_with fail
      refine(Og.out _).mono ?_;rintro e w6 ⟨rfl,aB⟩;have gD:=δ (dB.out.1.then aB φ);obtain⟨c0,c1,c2⟩:=(dB.out.2.ε aB id).gd;clear aB;by_cases g1:(32:Int)<(V.size:Int)
      ·exact adb
      ·have B7:jr o=if o.kind=2∧o.value≠[] then 1 else 0:=by rw[tH.out,ν sM,ν oM]
       have Ac:=δ B7;clear B7;by_cases g2:V.size=0
       ·exact ac_
       ·have g4:(!V.toList.isEmpty)=true:=by
         exact ade
        have D_:=δ (fun e=>g2 (Pe.out.2 e));clear g2;obtain rfl:(1:Int)=E:=by
         have e3:jr o=1:=by rw[Ac.out,π ⟨Vk.out,D_.out⟩]
         have:=HE.out;rw[e3] at this;simpa using this
        go_wp2_with fail
        go_ret
        exact⟨rfl,gD.out⟩
  ·obtain rfl:E=0:=by rw[← hE,qj oM];rfl
   obtain rfl:k=l.length:=oM;have HU:=δ hU;clear hU hE;go_wp2_with fail
   go_ret
   exact⟨rfl,HU.out⟩
def mm (i e:Int) (ov:Value):Array Value:=#[ι i,ι e,ov]
theorem Nb {A:Option Addr} {cap b off:Nat} {l:List dn} {w:World} {i ep:Int} (hA:0<l.length→A=some ⟨b,off,none⟩) (hb:∀w',υ w w'→vB w' b off l) (hs:qo l) (hl:l.length≤1000000) :
 ς 81 #[.agg (mm i ep (.slice A l.length cap))] w fun e w'=>e=ώ (ι (d_ i ep l))∧υ w w':=by
 have vZ:=fun W (hW:υ w W)=>amD (cap:=cap) (w:=W) hA (fun w' h=>hb w' (hW.then h φ)) hs hl
 obtain⟨E,hE⟩:=μ (d_ i ep l);obtain⟨E2,dQ⟩:∃E,pP l=E:=⟨_,rfl⟩;rw[hE];unfold d_ at hE;rw[dQ] at hE vZ;have KF:=δ vZ;have HE:=δ hE;clear vZ hE dQ hb hs hA;unfold mm;go_enter func81,ntmps81
 go_upto_region 1 with fail
 generalize fk:World.alloc _ _=w5;obtain⟨q,hq⟩:=μ w.heap.size;rw[hq];have aK:η w5 q 35 #[ι i,ι ep,.slice A l.length cap]:=Gc
 have ay:υ w w5:=DA
 obtain⟨c0,c1,c2⟩:=aK.gd;have dB:=δ ay;clear ay aK fk hq;by_cases h1:i<1
 ·obtain rfl:(1:Int)=E:=by rw[← HE.out,π (.inl h1)]
  go_wp2_with fail
  go_ret
  exact⟨rfl,dB.out⟩
 ·by_cases h2:(4611686018427387904:Int)<i
  ·obtain rfl:(1:Int)=E:=by rw[← HE.out,π (.inr (.inl h2))]
   go_wp2_with fail
   go_ret
   exact⟨rfl,dB.out⟩
  ·by_cases h3:ep<1
   ·obtain rfl:(1:Int)=E:=by rw[← HE.out,π (.inr (.inr h3))]
    go_wp2_with fail
    go_ret
    exact⟨rfl,dB.out⟩
   ·by_cases h4:(4:Int)<(l.length:Int)
    ·obtain rfl:(3:Int)=E:=by rw[← HE.out,ν oM,π oM]
     go_wp2_with fail
     go_ret
     exact⟨rfl,dB.out⟩
    ·obtain rfl:E2=E:=by rw[← HE.out,ν oM,ν oM]
     go_wp2_with fail
     refine(KF.out _ dB.out).mono ?_;rintro e w6 ⟨rfl,aB⟩;have gD:=δ (dB.out.then aB φ);clear aB c0 c1 c2;go_wp2_with fail
     go_ret
     exact⟨rfl,gD.out⟩
structure eF (F:Nat→Prop) (w0 w:World) (o:Nat) (l:List UInt8):Prop where
 ex:∃v,η w o 171 #[v]∧Own w 5 1 v l.length (aO l)∧∀q,v.ownBlock=some q→F q∨w0.heap.size≤q
 new:F o∨w0.heap.size≤o
 ε:ζ F w0 w
theorem eF.still {F:Nat→Prop} {w0 w w':World} {o:Nat} {l:List UInt8} (h:eF F w0 w o l) (hu:υ w w'):eF F w0 w' o l:=by
 obtain⟨v,h1,h2,h3⟩:=h.ex;exact⟨⟨v,h1.ε hu id,h2.ε hu (fun _ _ e=>e),h3⟩,h.new,h.ε.then hu φ⟩
theorem eF.start (w:World):eF (fun _=>False) w (w.alloc (.cells #[.slice none 0 0] 171)) w.heap.size [] :=
 ⟨⟨_,η.new w _ _,Own.nil _ _ _,fun q hq=>by simp[Value.ownBlock] at hq⟩,.inr (bO _),(ζ.refl _ w).alloc _⟩
theorem eF.here {F:Nat→Prop} {w0 w:World} {o:Nat} {l:List UInt8} (h:eF F w0 w o l):∃G:Nat→Prop,eF G w w o l∧(∀q,G q→F q∨w0.heap.size≤q)∧∀g t cs,η w g t cs→t≠171→t≠5→¬G g:=by
 obtain⟨v,h1,h2,h3⟩:=h.ex;refine⟨fun q=>q=o∨v.ownBlock=some q,⟨⟨v,h1,h2,fun q hq=>.inl (.inr hq)⟩,.inl (.inl rfl),ζ.refl _ _⟩,fun q hq=>?_,fun g t cs hB n1 n2 e=>?_⟩
 ·rcases hq with rfl | hq
  ·exact h.new
  ·exact h3 q hq
 ·rcases e with rfl | e
  ·exact absurd rfl (hB.B5 h1 n1)
  ·exact h2.f_ hB (fun e2=>n2 e2.symm) e
theorem eF.back {F G:Nat→Prop} {w0 w w':World} {o:Nat} {l l':List UInt8} (h:eF F w0 w o l) (hG:∀q,G q→F q∨w0.heap.size≤q) (h':eF G w w' o l'):eF F w0 w' o l':=by
 obtain⟨v,h1,h2,h3⟩:=h'.ex;have hs:=h.ε.size;have key:∀q,G q∨w.heap.size≤q→F q∨w0.heap.size≤q:=fun q hq=>hq.elim (hG q) (fun e=>.inr oM)
 exact⟨⟨v,h1,h2,fun q hq=>key q (h3 q hq)⟩,h.new,h.ε.then h'.ε hG⟩
theorem abx {F:Nat→Prop} {w0 w:World} {o:Nat} {l:List UInt8} (h:eF F w0 w o l) {src:Value} {n:Nat} {news:List UInt8} (hs:Src prog w 89 1 src n (aO news)) (hn:news.length=n) (hm:l.length+n≤1000000) :
 ς 156 #[.pointer (some ⟨o,0,none⟩),src] w fun e w'=>e=ώ (.tuple #[])∧eF F w0 w' o (l++news):=by
 obtain⟨i0,bx,bU,bK,aY⟩:=jD Dh;obtain⟨v,hB,hO,hv⟩:=h.ex;have hc:=hB.dX;have hf:=hB.frozen 0;have hne:=hO.f_ hB dC;go_enter func156,ntmps156
 go_wp2_with (at_builtin
              refine kr rfl _ _ _ _ rfl 5 i0 _ 1 1 underlying89 bx bU bK aY rfl v l.length _ rfl hO _ n _ rfl hs (C8 _) ke oM ?_;intro v2 w2 bL σ hl2 cn;have aD:=hB.ε σ (fun e=>hne e);have hc2:=aD.dX;have Ab:=aD.frozen 0;obtain⟨A2,fJ,rfl,Ea,nJ⟩:=bL.shape)
 go_end0
 have hn2:(Value.slice A2 (l.length+n) fJ).ownBlock≠some o:=by
  rcases hl2 with e | e
  ·rw[e];exact hne
  ·rw[e];intro e2;have:=hB.lt;have:=dM e2;omega
 refine⟨rfl,⟨_,aD.bE 0 _,?_,fun q hq=>?_⟩,h.new,?_⟩
 ·have:=bL.b9 (p:=⟨o,0,none⟩) hn2 (Value.slice A2 (l.length+n) fJ)
  rw[aN,hn,rW];exact this
 ·rcases hl2 with e | e
  ·rw[e] at hq;exact hv q hq
  ·rw[e] at hq;have:=h.ε.size;have:=dM hq;exact .inr oM
 ·exact(h.ε.then σ (fun q hq=>hv q hq)).setCell (p:=⟨o,0,none⟩) h.new _
theorem Rg {F:Nat→Prop} {w0 w:World} {o:Nat} {l:List UInt8} (h:eF F w0 w o l) (b:UInt8) {z:Int} (hz:z=(b.toNat:Int)) (hm:l.length+1≤1000000) :
 ς 156 #[.pointer (some ⟨o,0,none⟩),.slice (some ⟨w.heap.size,0,none⟩) 1 1] (w.alloc (.cells #[ϋ z] 5)) fun e w'=>e=ώ (.tuple #[])∧eF F w0 w' o (l++[b]):=by
 subst hz;exact abx (h.still ((ζ.refl _ w).alloc _)) (news:=[b]) (Src.Bi underlying89 _) rfl hm
theorem FP {F:Nat→Prop} {w0 w:World} {o:Nat} {l:List UInt8} (h:eF F w0 w o l) (n:Nat) (hn:n<18446744073709551616) (hm:l.length≤900000) :
 ς 98 #[.pointer (some ⟨o,0,none⟩),ω (n:Int)] w fun e w'=>e=ώ (.tuple #[])∧eF F w0 w' o (l++aR n):=by
 have h10:=dA hn;go_enter func98,ntmps98
 go_wp2_with fail
 refine(abv n _ hn).mono ?_;rintro e w' ⟨rfl,rfl⟩;have H:=δ h;clear h;go_wp2_with fail
 go_loopw [1,4] (fun x i wr=>∃(k:Nat) (r:List UInt8),x=ω (k:Int)∧i=ι (bD k:Int)∧eF F w0 wr o (l++r)∧r++aR k=aR n∧k<18446744073709551616∧r.length≤10) (fun _ i _=>(intOf i).toNat)
 case atStart=>exact⟨n,[],rfl,rfl,by simpa using H.out,sM,hn,sM⟩
 case round =>
  obtain⟨k,r,rfl,rfl,ho,hr,hk,hl⟩:=hrel;clear H;have HO:=δ ho;clear ho;by_cases hlt:k<128
  ·have hs1:=Bb hlt
   rw[hs1];go_wp2_with fail
   refine(Rg HO.out (UInt8.ofNat k) (by rw[Fv oM]) iy).mono ?_;rintro e w2 ⟨rfl,h2⟩;go_wp2_with fail
   go_end0
   rw[← hr,Jg hlt,← eC];exact⟨rfl,h2⟩
  ·have hs1:=Bc (n:=k) oM
   have hp:=MO (k / 128);have ao_:=dA (n:=k / 128) oM;go_wp2_with fail
   refine(Rg HO.out (UInt8.ofNat (k % 128+128)) (by rw[Fv oM];exact amy k) iy).mono ?_;rintro e w2 ⟨rfl,h2⟩;have H2:=δ h2;clear h2;go_wp2_with fail
   go_roundw
   case rel =>
    refine⟨k / 128,r++[UInt8.ofNat (k % 128+128)],by go_num,by go_num,?_,?_,oM,?_⟩
    ·rw[← eC];exact H2.out
    ·rw[← hr,FH (n:=k) oM,eC];rfl
    ·have h1:=aI List.length hr
     rw[aN,iY,iY] at h1;rw[aN];simp;omega
   case measure=>simp[intOf];omega
theorem I1 {F:Nat→Prop} {w0 w:World} {o:Nat} {l:List UInt8} (h:eF F w0 w o l) :
 ς 101 #[.pointer (some ⟨o,0,none⟩)] w fun e w'=>e=ώ (.string (str l))∧w=w':=by
 obtain⟨v,hB,hO,hv⟩:=h.ex;have hc:=hB.dX;have hcv:=xE hO;obtain⟨A,cap,rfl,h1,h2⟩:=hO.shape;go_enter func101,ntmps101
 go_wp2_with fail
 go_ret
 exact⟨rfl,rfl⟩
theorem xH {F:Nat→Prop} {w0 w:World} {o:Nat} {l:List UInt8} (h:eF F w0 w o l) (s:ByteArray) (hs:s.size≤60000) (hm:l.length≤800000) :
 ς 100 #[.pointer (some ⟨o,0,none⟩),.string s] w fun e w'=>e=ώ (.tuple #[])∧eF F w0 w' o (l++bJ s.data.toList):=by
 have h2:=dA (n:=s.size) oM;have HN:=δ (FP h s.size oM oM);have HE:=δ (show l++aR s.size++s.data.toList=l++bJ s.data.toList by unfold bJ;rw[eC];rfl)
 have HL:=δ (show (l++aR s.size).length=l.length+bD s.size by rw[aN,iY]);clear h;go_enter func100,ntmps100
 go_wp2_with fail
 refine HN.out.mono ?_;rintro e w1 ⟨rfl,h1⟩;have H1:=δ h1;clear h1;obtain⟨v2,w2,hcv,hown,hU,Pg,hsz⟩:=Q4 w1 s ke;have H2:=τ hown hU;clear hown hU Pg hsz;go_wp2_with fail
 refine(abx (H1.out.still H2.out.2) (Src.ku underlying89 H2.out.1) rfl (oN HL.out)).mono ?_;rintro e w3 ⟨rfl,h3⟩;have H3:=δ h3;clear h3;go_wp2_with fail
 go_end0
 rw[← HE.out];exact⟨rfl,H3.out⟩
theorem Nq {F:Nat→Prop} {w0 w:World} {o:Nat} {l:List UInt8} (h:eF F w0 w o l) (b:UInt8) (hm:l.length≤800000) :
 ς 99 #[.pointer (some ⟨o,0,none⟩),ϋ (b.toNat:Int)] w fun e w'=>e=ώ (.tuple #[])∧eF F w0 w' o (l++[b]):=by
 have H:=δ (Rg h b rfl oM);clear h;go_enter func99,ntmps99
 go_wp2_with fail
 refine H.out.mono ?_;rintro e w3 ⟨rfl,h3⟩;have H3:=δ h3;clear h3;go_wp2_with fail
 go_end0
 exact⟨rfl,H3.out⟩
structure ct (F:Nat→Prop) (w0 w:World) (x:Nat) (i:eM):Prop where
 blk:η w x 318 #[.string (str i.rest),ι (i.read:Int),ι i.fail]
 new:F x∨w0.heap.size≤x
 ε:ζ F w0 w
theorem ct.start (w:World) (s:ByteArray):ct (fun _=>False) w (w.alloc (.cells #[.string s,ι 0,ι 0] 318)) w.heap.size ⟨s.data.toList,0,0⟩ :=
 ⟨η.new w _ _,.inr (bO _),(ζ.refl _ w).alloc _⟩
theorem ct.still {F:Nat→Prop} {w0 w w':World} {x:Nat} {i:eM} (h:ct F w0 w x i) (hu:υ w w'):ct F w0 w' x i:=⟨h.blk.ε hu id,h.new,h.ε.then hu φ⟩
theorem ct.here {F:Nat→Prop} {w0 w:World} {x:Nat} {i:eM} (h:ct F w0 w x i):ct (· = x) w w x i:=⟨h.blk,.inl rfl,ζ.refl _ _⟩
theorem ct.back {F:Nat→Prop} {w0 w w':World} {x:Nat} {i i':eM} (h:ct F w0 w x i) (h':ct (· = x) w w' x i'):ct F w0 w' x i':=⟨h'.blk,h.new,h.ε.then h'.ε (fun q e=>by have e2:q=x:=e;rw[e2];exact h.new)⟩
section
variable {F:Nat→Prop} {w0 w:World} {x:Nat} {i:eM}
theorem Ji (h:ct F w0 w x i):ς 217 #[.pointer (some ⟨x,0,none⟩)] w fun e w'=>e=ώ (.bool (decide (i.fail=0)))∧w=w':=by
 have hc:=h.blk.gd;clear h;obtain⟨r,k,f⟩:=i;simp only at hc
 go_enter func217,ntmps217
 go_wp2_with fail
 go_ret
 exact⟨rfl,rfl⟩
theorem Rh (h:ct F w0 w x i) (b e:Int) (he:e≠0):ς 219 #[.pointer (some ⟨x,0,none⟩),ι b,ι e] w fun en w'=>en=ώ (.bool false)∧ct F w0 w' x ⟨i.rest,i.read,e⟩:=by
 have hc:=h.blk.gd;have hf:=h.blk.frozen 2;have HB:=δ h;clear h;go_enter func219,ntmps219
 go_wp2_with fail
 go_ret
 refine⟨rfl,?_,HB.out.new,HB.out.ε.setCell (p:=⟨x,2,none⟩) HB.out.new _⟩;have:=HB.out.blk.bE 2 (ι e);simpa using this
theorem MJ (h:ct F w0 w x i) (b:Nat) (hb:b≤i.rest.length) (hr:i.read+b≤1000000000000):ς 219 #[.pointer (some ⟨x,0,none⟩),ι (b:Int),ι 0] w fun en w'=>en=ώ (.bool true)∧ct F w0 w' x ⟨i.rest.drop b,i.read+b,0⟩:=by
 have hc:=h.blk.gd;have Eb:=h.blk.frozen 0;have Pd:=h.blk.frozen 1;have Ab:=h.blk.frozen 2;have hsz:(str i.rest).size=i.rest.length:=bR _;have HB:=δ h;have e1:str (i.rest.drop b)=(str i.rest).extract b i.rest.length:=by
  rw[uc,cA,dV sM]
 obtain⟨s,hs⟩:=μ (str i.rest);rw[hs] at hc hsz e1;have hb':b≤s.size:=oM;clear h;go_enter func219,ntmps219
 go_wp2_with fail
 go_ret
 refine⟨rfl,?_,HB.out.new,((HB.out.ε.setCell (p:=⟨x,2,none⟩) HB.out.new _).setCell (p:=⟨x,0,none⟩) HB.out.new _).setCell (p:=⟨x,1,none⟩) HB.out.new _⟩;have:=((HB.out.blk.bE 2 (ι 0)).bE 0 (.string (s.extract b i.rest.length))).bE 1 (ι ((i.read:Int)+(b:Int)));rw[← e1] at this;simpa [e1] using this
theorem KG {P:Prop} (h:P:=by
 go_wp2_with fail
 refine HR.out.mono ?_;rintro e w' ⟨rfl,rfl⟩;go_wp2_with fail
 refine v_.out.mono ?_;rintro e w' ⟨rfl,rfl⟩;go_wp2_with fail
 refine HT.out.mono ?_;rintro e w' ⟨rfl,hX⟩;have HX:=δ hX;clear hX;go_wp2_with fail
 go_ret
 exact⟨rfl,HX.out⟩):P:=h
theorem Oi {P:Prop} (h:P:=by
 go_wp2_with fail
 refine HR.out.mono ?_;rintro e w' ⟨rfl,rfl⟩;go_wp2_with fail
 go_ret
 exact⟨rfl,HB.out⟩):P:=h
theorem FQ (h:ct F w0 w x i) (m:Nat) (hm:m≤9223372036854775807) (hr:i.read≤100000000000) :
 ς 176 #[.pointer (some ⟨x,0,none⟩),ι (m:Int)] w fun en w'=>en=ώ (ι ((i.most m).1:Int))∧ct F w0 w' x (i.most m).2:=by
 have hc:=h.blk.gd;have hR:=Ji h;have hB:=Zs (str i.rest) m hm w;rw[cA] at hB;have hT:=MJ h;have p9:=Rh h;have hbd:=Zo i.rest m;have hfit:=Na i.rest;have HB:=δ h;unfold eM.most;clear h;by_cases hf:i.fail=0
 ·rw[fo hf] at hR
  rw[π hf];obtain⟨⟨a,b,c⟩,hq⟩:∃q,i7 i.rest m=q:=⟨_,rfl⟩;rw[hq] at hB hbd ⊢;simp only at hB hbd ⊢
  by_cases h0:c=0
  ·subst h0
   have eO:=(aag hq).2;rw[eO] at hfit;simp only at hfit
   have HT:=δ (hT b hfit.2.2.1 oM);have HR:=δ hR;have v_:=δ hB;clear hT p9 hR hB hbd hq eO hfit;rw[π rfl];go_enter func176,ntmps176
   exact KG
  ·have HT:=δ (p9 (b:Int) c h0)
   have HR:=δ hR;have v_:=δ hB;clear hT p9 hR hB hq hfit hbd;rw[ν h0];go_enter func176,ntmps176
   exact KG
 ·rw[gI hf] at hR
  rw[ν hf];have HR:=δ hR;clear hT p9 hR hB hbd hfit;go_enter func176,ntmps176
  exact Oi
theorem Sq (h:ct F w0 w x i):ς 185 #[.pointer (some ⟨x,0,none⟩)] w fun e w'=>∃n:Int,e=ώ (.tuple #[ι i.fail,ι n])∧υ w w':=by
 have hc:=h.blk.gd;have HR:=δ (Ji h);clear h;by_cases hf:i.fail=0
 ·rw[fo hf] at HR
  rw[hf];go_enter func185,ntmps185
  go_wp2_with fail
  refine HR.out.mono ?_;rintro e w' ⟨rfl,rfl⟩;go_wp2_with fail
  go_ret2
  exact⟨_,rfl,ζ.refl _ _⟩
 ·rw[gI hf] at HR
  go_enter func185,ntmps185
  go_wp2_with fail
  refine HR.out.mono ?_;rintro e w' ⟨rfl,rfl⟩;go_wp2_with fail
  go_region
  all_goals go_wp2
  all_goals go_ret2
  all_goals exact⟨_,rfl,(ζ.refl _ _).drewN _⟩
theorem amE (h:ct F w0 w x i):ς 221 #[.pointer (some ⟨x,0,none⟩)] w fun e w'=>e=ώ (ι (i.rest.length:Int))∧w=w':=by
 have hc:=h.blk.gd;have hsz:(str i.rest).size=i.rest.length:=bR _;obtain⟨s,hs⟩:=μ (str i.rest);rw[hs] at hc hsz;clear h hs;go_enter func221,ntmps221
 go_wp2_with fail
 go_ret
 exact⟨rfl,rfl⟩
theorem adf {P:Prop} (h:P:=by
 go_enter func179,ntmps179
 go_wp2_with fail
 refine HF.out.mono ?_;rintro e w1 ⟨n,rfl,hU⟩;have HU:=δ hU;clear hU;go_wp2_with fail
 refine(HL.out _ HU.out).mono ?_;rintro e w2 ⟨rfl,rfl⟩;go_wp2_with fail
 go_ret
 exact⟨rfl,HU.out⟩):P:=h
theorem NX (h:ct F w0 w x i):ς 179 #[.pointer (some ⟨x,0,none⟩)] w fun e w'=>e=ώ (ι (if i.fail≠0 then i.fail else if i.rest≠[] then 8 else 0))∧υ w w':=by
 have HF:=δ (Sq h);have HL:Hid (∀W,υ w W→ς 221 #[.pointer (some ⟨x,0,none⟩)] W fun e w'=>e=ώ (ι (i.rest.length:Int))∧W=w') :=
  δ fun W hU=>amE (F:=F) (w0:=w0) ⟨h.blk.ε hU id,h.new,h.ε.then hU φ⟩
 clear h;by_cases hf:i.fail=0
 ·rw[hf] at HF
  by_cases hr:i.rest=[]
  ·have hl:(i.rest.length:Int)=0:=by rw[hr];rfl
   rw[ν (by simp[hf]),ν (by simp[hr])];rw[hl] at HL;exact adf
  ·have hl:0<i.rest.length:=Iu.2 hr
   rw[ν (by simp[hf]),π hr];exact adf
 ·rw[π hf]
  go_enter func179,ntmps179
  go_wp2_with fail
  refine HF.out.mono ?_;rintro e w1 ⟨n,rfl,hU⟩;have HU:=δ hU;clear hU;go_wp2_with fail
  go_ret
  exact⟨rfl,HU.out⟩
theorem aby (h:ct F w0 w x i) (hr:i.read≤100000000000) :
 ς 175 #[.pointer (some ⟨x,0,none⟩)] w fun en w'=>en=ώ (ω (i.num.1:Int))∧ct F w0 w' x i.num.2:=by
 have hc:=h.blk.gd;have hR:=Ji h;have hB:=aal (str i.rest) w;rw[cA] at hB;have hT:=MJ h;have p9:=Rh h;have hfit:=Na i.rest;have HB:=δ h;unfold eM.num;clear h;by_cases hf:i.fail=0
 ·rw[fo hf] at hR
  rw[π hf];obtain⟨⟨a,b,c⟩,hq⟩:∃q,gz i.rest=q:=⟨_,rfl⟩;rw[hq] at hB hfit ⊢;simp only at hB hfit ⊢
  by_cases h0:c=0
  ·subst h0
   have HT:=δ (hT b hfit.2.2.1 oM);have HR:=δ hR;have v_:=δ hB;clear hT p9 hR hB hq hfit;rw[π rfl];go_enter func175,ntmps175
   exact KG
  ·have HT:=δ (p9 (b:Int) c h0)
   have HR:=δ hR;have v_:=δ hB;clear hT p9 hR hB hq hfit;rw[ν h0];go_enter func175,ntmps175
   exact KG
 ·rw[gI hf] at hR
  rw[ν hf];have HR:=δ hR;clear hT p9 hR hB hfit;go_enter func175,ntmps175
  exact Oi
theorem Jj (h:ct F w0 w x i) (m:Nat) (hm:m≤9223372036854775807) (hr:i.read≤100000000000) (hlen:i.rest.length≤100000) :
 ς 177 #[.pointer (some ⟨x,0,none⟩),ι (m:Int)] w fun en w'=>en=ώ (.string (str (i.text m).1))∧ct F w0 w' x (i.text m).2:=by
 have hc:=h.blk.gd;have hR:=Ji h;have hB:=Zs (str i.rest) m hm w;rw[cA] at hB;have hT:=MJ h;have p9:=Rh h;have hbd:=Zo i.rest m;have hfit:=Na i.rest;have hsz:(str i.rest).size=i.rest.length:=bR _;have HB:=δ h;unfold eM.text;clear h;by_cases hf:i.fail=0
 ·rw[fo hf] at hR
  rw[π hf];obtain⟨⟨a,b,c⟩,hq⟩:∃q,i7 i.rest m=q:=⟨_,rfl⟩;unfold NV;rw[hq] at hB hbd ⊢;simp only at hB hbd ⊢
  by_cases h0:c=0
  ·subst h0
   obtain⟨hb0,eO⟩:=aag hq;rw[eO] at hfit;simp only at hfit
   simp only[AY,QI,jj];by_cases hn:i.rest.length - b<a
   ·have HT:=δ (p9 ((b:Int)+(a:Int)) 7 dC)
    have GI:Hid (∀z:Int,ς 219 #[.pointer (some ⟨x,0,none⟩),ι z,ι 7] w fun en w'=>en=ώ (.bool false)∧ct F w0 w' x ⟨i.rest,i.read,7⟩):=δ fun z=>p9 z 7 dC
    have HR:=δ hR;have v_:=δ hB;have hd:decide ((i.rest.length:Int) - (b:Int)<(a:Int))=true:=fo oM;have hle:b≤i.rest.length:=hfit.2.2.1;simp only[π hn];rw[ν dC];obtain⟨s,hs⟩:=μ (str i.rest);rw[hs] at hc hsz v_;obtain⟨L,hL⟩:=μ i.rest.length;rw[hL] at hsz hd hle hlen;clear hT p9 hR hB hq hfit hbd hb0 eO hs hn hL;go_enter func177,ntmps177
    go_wp2_with fail
    refine HR.out.mono ?_;rintro e w' ⟨rfl,rfl⟩;go_wp2_with fail
    refine v_.out.mono ?_;rintro e w' ⟨rfl,rfl⟩;go_wp2_with fail
    refine(GI.out _).mono ?_;rintro e w' ⟨rfl,hX⟩;have HX:=δ hX;clear hX;go_wp2_with fail
    go_ret
    exact⟨rfl,HX.out⟩
   ·have HT:=δ (hT (b+a) oM oM)
    have HR:=δ hR;have v_:=δ hB;have hd:decide ((i.rest.length:Int) - (b:Int)<(a:Int))=false:=gI oM;have hle:b+a≤i.rest.length:=oM;simp only[ν hn];have e1:str ((i.rest.drop b).take a)=(str i.rest).extract b (b+a):=by
     rw[uc,cA];congr 2
     omega
    rw[π trivial,e1];obtain⟨s,hs⟩:=μ (str i.rest);rw[hs] at hc hsz v_;rw[hs];obtain⟨L,hL⟩:=μ i.rest.length;rw[hL] at hsz hd hle hlen;rw[show (((b+a:Nat)):Int)=(b:Int)+(a:Int) by omega] at HT;clear hT p9 hR hB hq hfit hbd hb0 eO hs hn hL e1;go_enter func177,ntmps177
    exact KG
  ·have HT:=δ (fun z=>p9 z c h0)
   have HR:=δ hR;have v_:=δ hB;rcases hbd with hbd | hbd | hbd
   ·exact absurd hbd h0
   all_goals
    injection hbd with e1 e2;injection e2 with e2 e3;subst e1 e2 e3;clear hT p9 hR hB hq hfit hsz h0;simp only[AY,show ¬(7:Int)=0 by decide,show ¬(8:Int)=0 by decide,Iv,vf,jj];go_enter func177,ntmps177
    go_wp2_with fail
    refine HR.out.mono ?_;rintro e w' ⟨rfl,rfl⟩;go_wp2_with fail
    refine v_.out.mono ?_;rintro e w' ⟨rfl,rfl⟩;go_wp2_with fail
    refine(HT.out _).mono ?_;rintro e w' ⟨rfl,hX⟩;have HX:=δ hX;clear hX;go_wp2_with fail
    go_ret
    exact⟨rfl,HX.out⟩
 ·rw[gI hf] at hR
  rw[ν hf];have HR:=δ hR;clear hT p9 hR hB hbd hfit;go_enter func177,ntmps177
  exact Oi
theorem Nr (h:ct F w0 w x i) (hr:i.read≤100000000000) :
 ς 178 #[.pointer (some ⟨x,0,none⟩)] w fun en w'=>en=ώ (ϋ (i.byte.1.toNat:Int))∧ct F w0 w' x i.byte.2:=by
 have hc:=h.blk.gd;have hfz:=h.blk.frozen 2;have hR:=Ji h;have hT:=MJ h;have HB:=δ h;have hsz:(str i.rest).size=i.rest.length:=bR _;unfold eM.byte;clear h;by_cases hf:i.fail=0
 ·rw[fo hf] at hR
  rw[π hf];have HR:=δ hR;by_cases h0:i.rest=[]
  ·rw[π h0]
   have e0:str i.rest=ByteArray.empty:=by rw[h0];rfl
   have h00:=δ h0;rw[e0] at hc;clear hT hR hsz h0 e0 hr;go_enter func178,ntmps178
   go_wp2_with fail
   refine HR.out.mono ?_;rintro e w' ⟨rfl,rfl⟩;go_wp2_with fail
   go_ret
   refine⟨rfl,?_,HB.out.new,HB.out.ε.setCell (p:=⟨x,2,none⟩) HB.out.new _⟩;have:=HB.out.blk.bE 2 (ι 7);simpa using this
  ·rw[ν h0]
   have hl:0<i.rest.length:=Iu.2 h0;have HT:=δ (hT 1 oM oM);have hne:(i.rest == ([]:List UInt8))=false:=by simpa using h0
   have h0s:0<(str i.rest).size:=oM;have Dz:(str i.rest).toList.isEmpty=false:=by rw[CV,cA];simpa using h0
   obtain⟨s,hs⟩:=μ (str i.rest);rw[hs] at hc hsz h0s Dz;have HG:=δ (show i.rest.getD 0 0=s[0] from by
    have hg:=qw s 0 h0s;subst hs;exact hg)
   rw[show ((1:Nat):Int)=1 from rfl] at HT;clear hT hR hsz hs hne h0 hl hr;go_enter func178,ntmps178
   go_wp2_with fail
   refine HR.out.mono ?_;rintro e w' ⟨rfl,rfl⟩;go_wp2_with fail
   refine HT.out.mono ?_;rintro e w' ⟨rfl,hX⟩;have HX:=δ hX;clear hX;go_wp2_with fail
   go_ret
   refine⟨?_,HX.out⟩;rw[HG.out];rfl
 ·rw[gI hf] at hR
  rw[ν hf];have HR:=δ hR;clear hT hR;go_enter func178,ntmps178
  exact Oi
end
theorem DC {P:Prop} (h:P:=by rw[← hP,cA]):P:=h
theorem Oj {P:Prop} (h:P:=by rw[← zD,← HQ.out];exact η.new wr _ _):P:=h
theorem Ol {P:Prop} (h:P:=by rw[← zD];exact lW.out.still ((ζ.refl _ wr).alloc _)):P:=h
theorem aiu {l:List dn} {k:Nat} (hk:k<l.length):jt (l.take (k+1))=jt (l.take k)++Aa l[k]:=by
 rw[ia hk];unfold jt;rw[xq];simp
theorem agG {l:List dn} (h:∀o ∈ l,jr o=0) (k:Nat) (hl:l.length≤4):(jt (l.take k)).length≤280:=by
 have:=RX (l:=l.take k) (fun o ho=>h o (Iw ho));rw[iW] at this;have:70*min k l.length≤280:=oM;omega
theorem ahy {A:Option Addr} {cap b off:Nat} {l:List dn} {w:World} {i ep:Int} (hA:0<l.length→A=some ⟨b,off,none⟩) (hb:∀w',υ w w'→vB w' b off l) (hs:qo l) (hl:l.length≤1000000) (eU:d_ i ep l≠0) :
 ς 54 #[.agg (mm i ep (.slice A l.length cap))] w fun e w'=>e=ώ (.tuple #[.string ByteArray.empty,ι (d_ i ep l)])∧υ w w':=by
 have vZ:=fun W (hW:υ w W)=>Nb (cap:=cap) (i:=i) (ep:=ep) (w:=W) hA (fun w' h=>hb w' (hW.then h φ)) hs hl
 obtain⟨E,hE⟩:=μ (d_ i ep l);rw[hE] at eU vZ ⊢;have KF:=δ vZ;have k1:(E != 0)=true:=by simpa using eU
 clear vZ hE hb hs hA eU;go_enter func54,ntmps54
 go_upto_region 1 with fail
 generalize fk:World.alloc _ _=w5;obtain⟨q,hq⟩:=μ w.heap.size;rw[hq];have aK:η w5 q 35 (mm i ep (.slice A l.length cap)):=Gc
 have ay:υ w w5:=DA
 have dB:=τ ay aK;clear ay aK fk hq;go_wp2_with (first
  |(refine lM rfl _ _ rfl q rfl _ _ _ dB.out.2 underlying35 rfl kR ?_)
  |(go_at_call 81
    refine(KF.out _ dB.out.1).mono ?_;rintro e w6 ⟨rfl,aB⟩;have gD:=δ (dB.out.1.then aB φ);clear aB))
 go_ret2
 exact⟨rfl,gD.out⟩
theorem aiv {A:Option Addr} {cap b off:Nat} {l:List dn} {w:World} {i ep:Nat} (hA:0<l.length→A=some ⟨b,off,none⟩) (hb:∀w',υ w w'→vB w' b off l) (hs:qo l) (eV:ep≤9223372036854775807) (eU:d_ i ep l=0) :
 ς 54 #[.agg (mm i ep (.slice A l.length cap))] w fun e w'=>e=ώ (.tuple #[.string (str (zB i ep l)),ι 0])∧υ w w':=by
 obtain⟨b1,b2,b3,b4,b5⟩:=ue eU;have vZ:=fun W (hW:υ w W)=>Nb (cap:=cap) (i:=i) (ep:=ep) (w:=W) hA (fun w' h=>hb w' (hW.then h φ)) hs oM
 rw[eU] at vZ;have s1:=dA (n:=i) oM;have s2:=dA (n:=ep) oM;have s3:=dA (n:=l.length) oM;obtain⟨N,hN⟩:=μ (aR i++(aR ep++aR l.length));have p8:N.length≤30:=by rw[← hN];simp only[aN,iY];omega
 have de:zB i ep l=N++jt l:=by rw[← hN];unfold zB;simp only[eC]
 rw[de];have KF:=δ vZ;have HN:=τ hN p8;have HO:=τ b5 b4;have HB:=δ hb;have i1:(i:Int)≤4611686018427387904:=oM;have e1:(ep:Int)≤9223372036854775807:=oM;have l1:(l.length:Int)≤4:=oM;clear vZ eU hb hs hN p8 de s1 s2 s3 b1 b2 b3 b4 b5;go_enter func54,ntmps54
 go_upto_region 1 with fail
 generalize fk:World.alloc _ _=w5;obtain⟨q,hq⟩:=μ w.heap.size;rw[hq];have aK:η w5 q 35 (mm i ep (.slice A l.length cap)):=Gc
 have ay:υ w w5:=DA
 have dB:=τ ay aK;clear ay aK fk hq;go_upto_region 4 with (first
  |(refine lM rfl _ _ rfl q rfl _ _ _ dB.out.2 underlying35 rfl kR ?_)
  |(go_at_call 81
    refine(KF.out _ dB.out.1).mono ?_;rintro e w6 ⟨rfl,aB⟩;have gD:=τ (dB.out.1.then aB φ) (dB.out.2.ε aB id);clear aB))
 obtain⟨o,ho⟩:=μ w6.heap.size;go_upto_region 5 with (fail)
 generalize wg:World.alloc _ _=w7;have Ad:eF (fun _=>False) w6 w7 o []:=by rw[← wg,← ho];exact eF.start w6
 obtain⟨c0,c1,c2⟩:=(gD.out.2.ε Ad.ε id).gd;have KH:=δ Ad;clear Ad wg ho;have step:∀(n:Nat) (acc:List UInt8) (W:World),n<18446744073709551616→acc.length≤300→eF (fun _=>False) w6 W o acc→ς 98 #[.pointer (some ⟨o,0,none⟩),ω (n:Int)] W fun e w'=>e=ώ (.tuple #[])∧eF (fun _=>False) w6 w' o (acc++aR n):=fun n acc W h1 h2 h3=>FP h3 n h1 oM
 have gl:=δ step;clear step;go_wp2_with fail
 refine(gl.out i _ _ oM sM KH.out).mono ?_;rintro e w8 ⟨rfl,h8⟩;obtain⟨c0,c1,c2⟩:=(gD.out.2.ε h8.ε id).gd;have H8:=δ h8;clear h8;go_wp2_with fail
 refine(gl.out ep _ _ oM (by rw[oR,iY];have:=dA (n:=i) oM;omega) H8.out).mono ?_;rintro e w9 ⟨rfl,h9⟩;obtain⟨c0,c1,c2⟩:=(gD.out.2.ε h9.ε id).gd;have H9:=δ h9;clear h9 H8;go_wp2_with fail
 refine(gl.out l.length _ _ oM (by rw[oR,aN,iY,iY];have:=dA (n:=i) oM;have:=dA (n:=ep) oM;omega) H9.out).mono ?_;rintro e w10 ⟨rfl,h10⟩;rw[oR,eC,HN.out.1] at h10;obtain⟨c0,c1,c2⟩:=(gD.out.2.ε h10.ε id).gd;have gT:=δ h10;clear h10 H9 gl;go_wp2_with fail
 go_loopw [7,34] (fun _ u wr=>∃k:Nat,k≤l.length∧u=ι (k:Int)∧eF (fun _=>False) w6 wr o (N++jt (l.take k))) (fun _ u _=>l.length - (intOf u).toNat)
 case atStart=>exact⟨0,oM,rfl,by rw[Fg];simpa [jt] using gT.out⟩
 case round =>
  obtain⟨k,hk,rfl,hO⟩:=hrel;have Ph:(N++jt (l.take k)).length≤310:=by
   rw[aN];have:=agG HO.out.1 k HO.out.2;have:=HN.out.2;omega
  obtain⟨M,hM⟩:=μ (N++jt (l.take k));rw[hM] at hO Ph;by_cases hlt:k<l.length
  ·obtain rfl:=hA oM
   have hrow:=HB.out wr (gD.out.1.then hO.ε φ) k hlt;have mP:=HO.out.1 _ (eE hlt);have cy:N++jt (l.take (k+1))=M++Aa l[k]:=by rw[aiu hlt,← eC,hM]
   obtain⟨x,hx⟩:∃o,l[k]=o:=⟨_,rfl⟩;rw[hx] at hrow mP cy;obtain⟨x1,-,x3,x4,-⟩:=C6 mP;obtain⟨P,hP⟩:=μ (str x.path);obtain⟨V,hV⟩:∃P,str x.value=P:=⟨_,rfl⟩;have lX:P.data.toList=x.path:=DC
   have kV:V.data.toList=x.value:=by rw[← hV,cA]
   have jc:P.size≤33:=by rw[← hP,bR];exact x3
   have sC:V.size≤32:=by rw[← hV,bR];exact x4
   obtain⟨Kb,rF⟩:∃K,x.kind=K:=⟨_,rfl⟩;have hrw:bY x=[ϋ (Kb.toNat:Int),.string P,.string V]:=by unfold bY;rw[hP,hV,rF]
   rw[hrw] at hrow;have hop:Aa x=Kb::(bJ P.data.toList++if Kb=1 then bJ V.data.toList else []):=by unfold Aa;rw[lX,kV,rF]
   rw[hop] at cy;rw[rF] at x1;have tP:(bJ P.data.toList).length≤40:=by
    rw[jl];have:=lP (n:=P.data.toList.length) iy;have:P.data.toList.length=P.size:=gZ
    omega
   have mQ:=cD cy Ph jc sC tP;have HR:=δ hrow;have lW:=δ hO;have GJ:=δ x1;clear hrow mP cy hx x1 x3 x4 hP hV lX kV jc sC hrw hop hO hM Ph rF tP;have j1:(k:Int)<(l.length:Int):=oM;obtain⟨g,hg⟩:∃q,wr.heap.size=q:=⟨_,rfl⟩;have HQ:=δ hg;rcases GJ.out with rfl | rfl
   ·go_upto_region 11 with (first
     |(refine ve rfl _ _ rfl b (off+k*3) rfl [ϋ 1,.string P,.string V] _ HR.out underlying32 rfl kR ?_))
    generalize zD:World.alloc _ _=w11;have gA:η w11 g 32 #[ϋ 1,.string P,.string V]:=Oj
    have h11:eF (fun _=>False) w6 w11 o M:=Ol
    obtain⟨c0,c1,c2⟩:=gA.gd;have GK:w6.heap.size≤g:=by rw[← HQ.out];exact lW.out.ε.size
    have ez:=aq h11 gA GK;clear h11 gA zD hg GK;obtain⟨G,g1,g2,g3⟩:=ez.out.1.here;have HG:=aq g1 g2 (g3 g _ _ ez.out.2.1 dC dC);clear g1 g2 g3;go_wp2_with fail
    refine(Nq HG.out.1 1 (oN mQ.out.2.1)).mono ?_;rintro e w12 ⟨rfl,h12⟩;obtain⟨c0,c1,c2⟩:=(ez.out.2.1.ε h12.ε HG.out.2.2).gd;have dU:=δ h12;clear h12;go_wp2_with fail
    refine(xH dU.out P (oN mQ.out.2.2.1) (by have:=mQ.out.2.1;rw[aN];simp;omega)).mono ?_;rintro e w13 ⟨rfl,h13⟩;obtain⟨c0,c1,c2⟩:=(ez.out.2.1.ε h13.ε HG.out.2.2).gd;have dR:=δ h13;clear h13;go_wp2_with fail
    refine(xH dR.out V (oN mQ.out.2.2.2.1) (by have:=mQ.out.2.1;have:=mQ.out.2.2.2.2;simp only[aN,eZ,AV];omega)).mono ?_;rintro e w14 ⟨rfl,h14⟩;have lD:=δ (ez.out.1.back HG.out.2.1 h14);clear h14 c0 c1 c2;go_wp2_with fail
    go_roundw
    case rel =>
     refine⟨k+1,oM,by go_num,?_⟩;rw[mQ.out.1,π trivial];simpa [List.append_assoc] using lD.out
    case measure=>simp[intOf]<;>omega
   ·go_upto_region 11 with (first
     |(refine ve rfl _ _ rfl b (off+k*3) rfl [ϋ 2,.string P,.string V] _ HR.out underlying32 rfl kR ?_))
    generalize zD:World.alloc _ _=w11;have gA:η w11 g 32 #[ϋ 2,.string P,.string V]:=Oj
    have h11:eF (fun _=>False) w6 w11 o M:=Ol
    obtain⟨c0,c1,c2⟩:=gA.gd;have GK:w6.heap.size≤g:=by rw[← HQ.out];exact lW.out.ε.size
    have ez:=aq h11 gA GK;clear h11 gA zD hg GK;obtain⟨G,g1,g2,g3⟩:=ez.out.1.here;have HG:=aq g1 g2 (g3 g _ _ ez.out.2.1 dC dC);clear g1 g2 g3;go_wp2_with fail
    refine(Nq HG.out.1 2 (oN mQ.out.2.1)).mono ?_;rintro e w12 ⟨rfl,h12⟩;obtain⟨c0,c1,c2⟩:=(ez.out.2.1.ε h12.ε HG.out.2.2).gd;have dU:=δ h12;clear h12;go_wp2_with fail
    refine(xH dU.out P (oN mQ.out.2.2.1) (by have:=mQ.out.2.1;rw[aN];simp;omega)).mono ?_;rintro e w13 ⟨rfl,h13⟩;obtain⟨c0,c1,c2⟩:=(ez.out.2.1.ε h13.ε HG.out.2.2).gd;have dR:=δ h13;clear h13;go_wp2_with fail
    have lD:=δ (ez.out.1.back HG.out.2.1 dR.out);clear c0 c1 c2;go_roundw
    case rel =>
     refine⟨k+1,oM,by go_num,?_⟩;rw[mQ.out.1,ν dC,y7];simpa [List.append_assoc] using lD.out
    case measure=>simp[intOf]<;>omega
  ·obtain rfl:k=l.length:=oM
   rw[sW] at hM;subst hM;have hst:=I1 hO;have gl:=δ hst;have HU:=δ (gD.out.1.then hO.ε φ);clear hst hO hlt hk Ph;go_wp2_with fail
   refine gl.out.mono ?_;rintro e wz ⟨rfl,rfl⟩;go_wp2_with fail
   go_ret2
   exact⟨rfl,HU.out⟩
def jw (x:Nat):Nat→List UInt8
 | 0=>[]
 | n+1=>UInt8.ofNat (x / 2 ^ (8*n))::jw x n
theorem vu (x n:Nat):(jw x n).length=n:=by
 induction n with
 | zero=>rfl
 | succ n ih=>simp[jw,ih]
def uF (l:List UInt8):Nat:=l.foldl (fun a b=>a*256+b.toNat) 0
theorem ajL (l:List UInt8) (b:UInt8):uF (l++[b])=uF l*256+b.toNat:=by simp[uF]
theorem abz (l:List UInt8):uF l<2 ^ (8*l.length):=by
 have key:∀(l:List UInt8) (a:Nat),l.foldl (fun a b=>a*256+b.toNat) a<(a+1)*2 ^ (8*l.length):=by
  intro l;induction l with
  | nil=>intro a;simp
  | cons b r ih =>
    intro a;have h:=ih (a*256+b.toNat);have hb:=b.toNat_lt;rw[List.foldl_cons,eZ];have e:2 ^ (8*(r.length+1))=256*2 ^ (8*r.length):=by rw[E_,XV];omega
    rw[e,← Nat.mul_assoc];exact nY h (afZ _ oM)
 have:=key l 0;simpa [uF] using this
def Ec (z:Int):Prop:=0≤z∧z<4294967296
def eG (l:List Int):Array Value:=(l.map (Value.int .u32)).toArray
def kB (l:List Int):Prop:=∀z ∈ l,Ec z
theorem Om (a:Int):Ec (a % 4294967296):=⟨X3 _ dC,X4 _ dC⟩
theorem Fu (l:List Int):(eG l).size=l.length:=by simp[eG]
theorem ajM (l:List Int) (i:Nat) (h:i<l.length):(eG l)[i]? = some (.int .u32 (l.getD i 0)):=by simp[eG,h]
theorem aam (l:List Int) (i:Nat) (z:Int):(eG l).setIfInBounds i (.int .u32 z)=eG (l.set i z):=by simp[eG,List.map_set]
theorem kB.get {l:List Int} (h:kB l) (i:Nat):Ec (l.getD i 0):=by
 by_cases hi:i<l.length
 ·rw[bN,bu hi]
  exact h _ (eE hi)
 ·rw[bN,nv oM]
  exact⟨sM,sM⟩
theorem kB.set {l:List Int} (h:kB l) (i:Nat) {z:Int} (hz:Ec z):kB (l.set i z):=by
 intro u hu;rcases List.mem_or_eq_of_mem_set hu with h1 | h1
 ·exact h u h1
 ·rw[h1];exact hz
def rotl (x:Int) (r:Nat):Int:=bits .or .u32 (x*2 ^ r % 4294967296) (x / 2 ^ (32 - r))
def qC (k:Int):Nat:=(IntKind.u64.wrap k).toNat % 32
def sg0 (x:Int):Int:=bits .xor .u32 (bits .xor .u32 (rotl x 25) (rotl x 14)) (x / 8)
def sg1 (y:Int):Int:=bits .xor .u32 (bits .xor .u32 (rotl y 15) (rotl y 13)) (y / 1024)
def FR (s:List UInt8) (i:Nat):Int:=(uF ((s.drop (4*i)).take 4):Int)
def NY (l:List Int) (i:Nat):Int:=(((l.getD (i - 16) 0+sg0 (l.getD (i - 15) 0)) % 4294967296+l.getD (i - 7) 0) % 4294967296+sg1 (l.getD (i - 2) 0)) % 4294967296
def uG (s:List UInt8) (k:Nat):List Int:=(List.range k).foldl (fun l i=>l.set i (FR s i)) (List.replicate 64 0)
def uH (l:List Int) (k:Nat):List Int:=(List.range k).foldl (fun l j=>l.set (16+j) (NY l (16+j))) l
theorem RY (s:List UInt8) (k:Nat):uG s (k+1)=(uG s k).set k (FR s k):=by simp[uG,List.range_succ]
theorem RZ (l:List Int) (k:Nat):uH l (k+1)=(uH l k).set (16+k) (NY (uH l k) (16+k)):=by simp[uH,List.range_succ]
theorem aa3 (s:List UInt8) (k:Nat):(uG s k).length=64:=by
 induction k with
 | zero=>simp[uG]
 | succ k ih=>rw[RY,Ix,ih]
theorem Sr (l:List Int) (k:Nat):(uH l k).length=l.length:=by
 induction k with
 | zero=>simp[uH]
 | succ k ih=>rw[RZ,Ix,ih]
theorem Tc (s:List UInt8) (i:Nat):Ec (FR s i):=by
 have h:=abz ((s.drop (4*i)).take 4);have h2:uF ((s.drop (4*i)).take 4)<4294967296:=nY h (ic (AO oM (show 8*((s.drop (4*i)).take 4).length≤32 by simp;omega)) dC);exact⟨by unfold FR;omega,by unfold FR;omega⟩
theorem alz (s:List UInt8) (k:Nat):kB (uG s k):=by
 induction k with
 | zero=>intro z hz;have:=(List.mem_replicate.1 (show z ∈ List.replicate 64 0 from hz)).2;rw[this];exact⟨dC,dC⟩
 | succ k ih=>rw[RY];exact ih.set _ (Tc s k)
theorem aa4 {l:List Int} (h:kB l) (k:Nat):kB (uH l k):=by
 induction k with
 | zero=>exact h
 | succ k ih=>rw[RZ];exact ih.set _ (Om _)
def SM (e b5 b6 b7 k w:Int):Int :=
 ((b7+bits .xor .u32 (bits .xor .u32 (rotl e (qC (-6))) (rotl e (qC (-11)))) (rotl e (qC (-25)))+bits .xor .u32 (bits .and .u32 e b5) (bits .and .u32 (bits .xor .u32 4294967295 e) b6)+k) % 4294967296+w) % 4294967296
def abA (a b1 b2:Int):Int :=
 (bits .xor .u32 (bits .xor .u32 (rotl a (qC (-2))) (rotl a (qC (-13)))) (rotl a (qC (-22)))+bits .xor .u32 (bits .xor .u32 (bits .and .u32 a b1) (bits .and .u32 a b2)) (bits .and .u32 b1 b2)) % 4294967296
def Ju:List Int→Int→Int→List Int
 | [b0,b1,b2,b3,b4,b5,b6,b7],k,w=>[(SM b4 b5 b6 b7 k w+abA b0 b1 b2) % 4294967296,b0,b1,b2,(b3+SM b4 b5 b6 b7 k w) % 4294967296,b4,b5,b6]
 | l,_,_=>l
def rounds (K W b:List Int) (k:Nat):List Int:=(List.range k).foldl (fun b i=>Ju b (K.getD i 0) (W.getD i 0)) b
theorem rounds_succ (K W b:List Int) (k:Nat):rounds K W b (k+1)=Ju (rounds K W b k) (K.getD k 0) (W.getD k 0):=by simp[rounds,List.range_succ]
theorem eight {l:List Int} (h:l.length=8):∃a b c d e f g i,l=[a,b,c,d,e,f,g,i]:=by
 match l,h with
 | [a,b,c,d,e,f,g,i],_=>exact⟨a,b,c,d,e,f,g,i,rfl⟩
theorem ahz {l:List Int} (h:l.length=8) (k w:Int):(Ju l k w).length=8:=by
 obtain⟨a,b,c,d,e,f,g,i,rfl⟩:=eight h;rfl
theorem ahA {l:List Int} (h:l.length=8) (hl:kB l) (k w:Int):kB (Ju l k w):=by
 obtain⟨a,b,c,d,e,f,g,i,rfl⟩:=eight h;intro z hz;simp only[Ju,cC,vg,vh] at hz;rcases hz with rfl | rfl | rfl | rfl | rfl | rfl | rfl | rfl
 ·exact Om _
 ·exact hl _ sM
 ·exact hl _ sM
 ·exact hl _ sM
 ·exact Om _
 ·exact hl _ sM
 ·exact hl _ sM
 ·exact hl _ sM
theorem Zu {K W b:List Int} (h:b.length=8) (hb:kB b) (k:Nat):(rounds K W b k).length=8∧kB (rounds K W b k):=by
 induction k with
 | zero=>exact⟨h,hb⟩
 | succ k ih=>rw[rounds_succ];exact⟨ahz ih.1 _ _,ahA ih.1 ih.2 _ _⟩
def vJ (h b:List Int) (k:Nat):List Int:=(List.range k).foldl (fun l i=>l.set i ((l.getD i 0+b.getD i 0) % 4294967296)) h
theorem RB (h b:List Int) (k:Nat):vJ h b (k+1)=(vJ h b k).set k (((vJ h b k).getD k 0+b.getD k 0) % 4294967296):=by simp[vJ,List.range_succ]
theorem R4 (h b:List Int) (k:Nat):(vJ h b k).length=h.length:=by
 induction k with
 | zero=>simp[vJ]
 | succ k ih=>rw[RB,Ix,ih]
theorem ajN {h b:List Int} (hh:kB h) (k:Nat):kB (vJ h b k):=by
 induction k with
 | zero=>exact hh
 | succ k ih=>rw[RB];exact ih.set _ (Om _)
def zw (h b K:List Int) (s:List UInt8):List Int:=vJ h (rounds K (uH (uG s 16) 48) b 64) 8
def rf:List Int:=[0x6a09e667,0xbb67ae85,0x3c6ef372,0xa54ff53a,0x510e527f,0x9b05688c,0x1f83d9ab,0x5be0cd19]
def oy:List Int:=[0x428a2f98,0x71374491,0xb5c0fbcf,0xe9b5dba5,0x3956c25b,0x59f111f1,0x923f82a4,0xab1c5ed5,
 0xd807aa98,0x12835b01,0x243185be,0x550c7dc3,0x72be5d74,0x80deb1fe,0x9bdc06a7,0xc19bf174,
 0xe49b69c1,0xefbe4786,0x0fc19dc6,0x240ca1cc,0x2de92c6f,0x4a7484aa,0x5cb0a9dc,0x76f988da,
 0x983e5152,0xa831c66d,0xb00327c8,0xbf597fc7,0xc6e00bf3,0xd5a79147,0x06ca6351,0x14292967,
 0x27b70a85,0x2e1b2138,0x4d2c6dfc,0x53380d13,0x650a7354,0x766a0abb,0x81c2c92e,0x92722c85,
 0xa2bfe8a1,0xa81a664b,0xc24b8b70,0xc76c51a3,0xd192e819,0xd6990624,0xf40e3585,0x106aa070,
 0x19a4c116,0x1e376c08,0x2748774c,0x34b0bcb5,0x391c0cb3,0x4ed8aa4a,0x5b9cca4f,0x682e6ff3,
 0x748f82ee,0x78a5636f,0x84c87814,0x8cc70208,0x90befffa,0xa4506ceb,0xbef9a3f7,0xc67178f2]
theorem RC {h b K:List Int} {s:List UInt8} : (zw h b K s).length=h.length:=R4 _ _ _
theorem Zv {h b K:List Int} {s:List UInt8} (hh:kB h):kB (zw h b K s):=ajN hh _
def lQ:Nat→List Int→List UInt8→List Int
 | 0,h,_=>h
 | n+1,h,s=>lQ n (zw h h oy (s.take 64)) (s.drop 64)
theorem Nc {h:List Int} (h8:h.length=8) (hh:kB h) (n:Nat) (s:List UInt8):(lQ n h s).length=8∧kB (lQ n h s):=by
 induction n generalizing h s with
 | zero=>exact⟨h8,hh⟩
 | succ n ih=>exact ih (RC.trans h8) (Zv hh) _
theorem YU (n:Nat) (h:List Int) (s:List UInt8):lQ (n+1) h s=zw (lQ n h s) (lQ n h s) oy ((s.drop (64*n)).take 64):=by
 induction n generalizing h s with
 | zero=>simp[lQ]
 | succ n ih =>
   rw[lQ,ih];have e:(s.drop 64).drop (64*n)=s.drop (64*(n+1)):=by rw[CW];congr 1;omega
   rw[e];rfl
def vK (rest:List UInt8) (n:Nat):List UInt8:=rest++128::(List.replicate ((119 - rest.length % 64) % 64) 0++jw (8*n) 8)
def pU (h:List Int):List UInt8:=h.flatMap fun n=>jw n.toNat 4
def zE (s:List UInt8):List UInt8 :=
 let rest:=s.drop (64*(s.length / 64))
 pU (lQ ((vK rest s.length).length / 64) (lQ (s.length / 64) rf s) (vK rest s.length))
theorem Fx:rf.length=8∧kB rf:=by
 refine⟨dC,?_⟩;intro z hz;have:∀z ∈ rf,0≤z∧z<4294967296:=dC;exact this z hz
theorem Fy:oy.length=64∧kB oy:=by
 refine⟨dC,?_⟩;intro z hz;have:∀z ∈ oy,0≤z∧z<4294967296:=dC;exact this z hz
theorem Nd {h:List Int} : (pU h).length=4*h.length:=by
 induction h with
 | nil=>rfl
 | cons a r ih =>
   unfold pU at ih ⊢;rw[yZ,aN,ih,vu,eZ];omega
theorem R6 (s:List UInt8):(zE s).length=32:=by
 unfold zE;rw[Nd,(Nc (Nc Fx.1 Fx.2 _ _).1 (Nc Fx.1 Fx.2 _ _).2 _ _).1]
theorem ajO (rest:List UInt8) (n:Nat) (h:rest.length<64):64 ∣ (vK rest n).length∧(vK rest n).length≤128:=by
 unfold vK;simp only[aN,eZ,jE,vu];omega
theorem Ja (z:Nat) (h:z<18446744073709551616):IntKind.u64.wrap (z:Int)=(z:Int):=by
 simp only[IntKind.wrap,IntKind.bits,IntKind.signed];simp
 omega
theorem alA (N b:Nat) (h:256*N<18446744073709551616) (hb:b<256):bits .or .u64 ((N:Int)*256) (b:Int)=((N*256+b:Nat):Int):=by
 have e:((N:Int)*256)=((N*256:Nat):Int):=oM;rw[e,u64_or_nat (N*256) b oM oM,nat_join 8 _ _ oM oM]
theorem ajP (s:ByteArray) (n:Nat) (w:World) (hn:n≤7) (hs:n≤s.size) :
 ς 303 #[.string s,ι (n:Int)] w fun e w'=>e=ώ (ω (uF (s.data.toList.take n):Int))∧w=w':=by
 go_enter func303,ntmps303
 go_wp2_with fail
 go_loop [4,7] (fun x i=>∃k:Nat,k≤n∧i=ι k∧x=ω (uF (s.data.toList.take k):Int)) (fun _ i=>n - (intOf i).toNat)
 case atStart=>exact⟨0,oM,rfl,rfl⟩
 case round =>
  obtain⟨k,hk,rfl,rfl⟩:=hrel;by_cases hlt:k<n
  ·have hlt':k<s.size:=oM
   have hl:=abz (s.data.toList.take k);have hl2:uF (s.data.toList.take k)<281474976710656:=nY hl (ic (AO oM (show 8*(s.data.toList.take k).length≤48 by simp;omega)) dC);have hts:=δ (YT s k hlt');clear hl;obtain⟨N,hN⟩:=μ (uF (s.data.toList.take k));have HN:=δ hN;rw[hN] at hl2 ⊢;clear hN;have hb:=(s[k]).toNat_lt;have e1:=alA N (s[k]).toNat oM oM;go_wp2
   go_round
   case rel =>
    refine⟨k+1,oM,by go_num,?_⟩;rw[hts.out,ajL,HN.out];first| rfl |(rw[← e1];done)|(congr 1;rw[← e1];done)
   case measure=>simp[intOf];omega
  ·obtain rfl:k=n:=oM
   go_wp2
   go_ret
   exact⟨rfl,rfl⟩
theorem ajQ (x n:Nat):aO [UInt8.ofNat (x / 2 ^ (8*n))]=[ϋ ((x:Int) / 2 ^ (8*n) % 256)]:=by simp only[aO,kO,AW];rw[JA];simp
theorem MD {A P:Prop} (f:A) (h:A→P:=by
 intro H;clear H;obtain⟨i0,bx,bU,bK,aY⟩:=jD Dh;first| go_enter func293,ntmps293 | go_enter func246,ntmps246 | go_enter func209,ntmps209 | go_enter func215,ntmps215
 go_wp2_with fail
 go_loopw [0,7] (fun u i wr=>∃(j:Nat) (d:List UInt8),i=ι ((j:Int) - 1)∧d++jw x j=jw x n∧Own wr 5 1 u (m+d.length) (xs++aO d)∧ζ (fun k=>v.ownBlock=some k) w wr∧(u.ownBlock=v.ownBlock∨∃q,u.ownBlock=some q∧w.heap.size≤q)) (fun _ i _=>(intOf i+1).toNat)
 case atStart=>exact⟨n,[],by first| rfl | go_num,rfl,by simpa [aO] using hown,ζ.refl _ _,.inl rfl⟩
 case round =>
  obtain⟨j,d,rfl,hd,ho,hU,hl⟩:=hrel;clear hown;have hdl:=aI List.length hd;rw[aN,vu,vu] at hdl;cases j with
  | succ j =>
    rw[show ((j+1:Nat):Int) - 1=(j:Int) by omega];have HX:=aq hd hU hl;have hj:j<8:=oM;have Pj:d.length≤8:=oM;clear hd hU hl hdl;obtain⟨D,hD⟩:=μ d.length;rw[hD] at ho Pj;have HD:=δ hD;clear hD;go_wp2_with (at_builtin;refine kr rfl _ _ _ _ rfl 5 i0 _ 1 1 underlying89 bx bU bK aY rfl u0 (m+D) _ rfl (ho.alloc _) _ 1 [_] rfl (Src.Bi underlying89 _) jN ke oM ?_;intro v2 w2 kf σ hl2 cn);obtain⟨hd,hU,hl⟩:=HX.out;go_roundw
    case rel =>
     refine⟨j,d++[UInt8.ofNat (x / 2 ^ (8*j))],by first| rfl | go_num,?_,?_,(hU.alloc _).then σ (fun b hb=>?_),?_⟩
     ·rw[eC];exact hd
     ·rw[rW,ajQ,← eC,aN,HD.out];exact kf
     ·exact ac6
     ·have hsz:=hU.size
      rcases hl2 with h | h
      ·rw[h];exact hl
      ·exact .inr ⟨_,h,by simp;omega⟩
    case measure=>simp[intOf]<;>omega
  | zero =>
    obtain rfl:d=jw x n:=by simpa [jw] using hd
    rw[vu] at ho;have e1:((0:Nat):Int) - 1=-1:=rfl;rw[e1];clear hd hdl;go_wp2
    go_ret
    exact⟨u0,rfl,ho,hU,hl⟩):P:=h f
theorem YV (v:Value) (m:Nat) (xs:List Value) (x n:Nat) (w:World) (hown:Own w 5 1 v m xs) (hn:n≤8) (hm:m≤1000000) :
 ς 293 #[v,ω (x:Int),ι (n:Int)] w fun e w'=>∃v',e=ώ v'∧Own w' 5 1 v' (m+n) (xs++aO (jw x n))∧ζ (fun k=>v.ownBlock=some k) w w'∧(v'.ownBlock=v.ownBlock∨∃q,v'.ownBlock=some q∧w.heap.size≤q):=by
 exact MD (And.intro hown (And.intro hn hm))
theorem ahB (v:Value) (m:Nat) (xs:List Value) (x n:Nat) (w:World) (hown:Own w 5 1 v m xs) (hn:n≤8) (hm:m≤1000000) :
 ς 246 #[v,ω (x:Int),ι (n:Int)] w fun e w'=>∃v',e=ώ v'∧Own w' 5 1 v' (m+n) (xs++aO (jw x n))∧ζ (fun k=>v.ownBlock=some k) w w'∧(v'.ownBlock=v.ownBlock∨∃q,v'.ownBlock=some q∧w.heap.size≤q):=by
 exact MD (And.intro hown (And.intro hn hm))
theorem YF (v:Value) (m:Nat) (xs:List Value) (x n:Nat) (w:World) (hown:Own w 5 1 v m xs) (hn:n≤8) (hm:m≤1000000) :
 ς 209 #[v,ω (x:Int),ι (n:Int)] w fun e w'=>∃v',e=ώ v'∧Own w' 5 1 v' (m+n) (xs++aO (jw x n))∧ζ (fun k=>v.ownBlock=some k) w w'∧(v'.ownBlock=v.ownBlock∨∃q,v'.ownBlock=some q∧w.heap.size≤q):=by
 exact MD (And.intro hown (And.intro hn hm))
theorem ag1 (v:Value) (m:Nat) (xs:List Value) (x n:Nat) (w:World) (hown:Own w 5 1 v m xs) (hn:n≤8) (hm:m≤1000000) :
 ς 215 #[v,ω (x:Int),ι (n:Int)] w fun e w'=>∃v',e=ώ v'∧Own w' 5 1 v' (m+n) (xs++aO (jw x n))∧ζ (fun k=>v.ownBlock=some k) w w'∧(v'.ownBlock=v.ownBlock∨∃q,v'.ownBlock=some q∧w.heap.size≤q):=by
 exact MD (And.intro hown (And.intro hn hm))
end
end Go.Proofs.YtbhjgfibhegddaaGreat
