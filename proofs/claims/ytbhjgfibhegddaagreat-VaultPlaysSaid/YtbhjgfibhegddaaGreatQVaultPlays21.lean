/-
  Parts of the proof of VaultPlays: Ref13A, Ref13B, Ref13C, Ref13D, Ref13E, Ref12B, Ref13F, Ref17A.
-/
import Derived.Test.YtbhjgfibhegddaaGreatQVaultPlays20
set_option maxRecDepth 100000
set_option maxHeartbeats 16000000
namespace Go.Proofs.YtbhjgfibhegddaaGreat
abbrev aba:=@List.cons_lt_cons_iff
abbrev NT:=@UInt8.lt_iff_toNat_lt
abbrev JY:=@Nat.le_of_not_lt
abbrev abb:=@List.flatten_append
open Tryz
section
open Go Go.RowKit
theorem Yq:∀(k:Nat) (l m:List UInt8) (h1:k<l.length) (h2:k<m.length),l.take k=m.take k→l[k]≠m[k]→(l<m↔l[k]<m[k])
 | 0,a::l,b::m,_,_,_,hne=>by
   simp only[J2] at hne ⊢;rw[aba];exact⟨fun h=>h.elim id fun h=>absurd h.1 hne,.inl⟩
 | k+1,a::l,b::m,h1,h2,ht,hne=>by
   simp only[AY,sJ] at ht;simp only[List.getElem_cons_succ] at hne ⊢;rw[aba,← Yq k l m (by simpa using h1) (by simpa using h2) ht.2 hne];obtain⟨rfl,-⟩:=ht;exact⟨fun h=>h.elim (fun h=>absurd h (UInt8.lt_irrefl _)) And.right,fun h=>.inr ⟨rfl,h⟩⟩
theorem PZ:∀(k:Nat) (l m:List UInt8),k≤l.length→k≤m.length→(k=l.length∨k=m.length)→l.take k=m.take k→(l<m↔l.length<m.length)
 | 0,[],[],_,_,_,_=>by simp
 | 0,[],b::m,_,_,_,_=>by simp
 | 0,a::l,[],_,_,_,_=>by simp
 | 0,a::l,b::m,_,_,h,_=>by simp at h
 | k+1,[],m,h,_,_,_=>by simp at h
 | k+1,a::l,[],_,h,_,_=>by simp at h
 | k+1,a::l,b::m,h1,h2,h3,ht=>by
   simp only[AY,sJ] at ht;obtain⟨rfl,ht⟩:=ht;rw[aba];simp only[eS] at h1 h2 h3 ⊢;have:=PZ k l m oM oM oM ht;rw[show (l.length+1<m.length+1)↔l.length<m.length by omega,← this];exact⟨fun h=>h.elim (fun h=>absurd h (UInt8.lt_irrefl _)) And.right,fun h=>.inr (by simpa using h)⟩
theorem aik (a b:ByteArray) (ha:a.size≤1000000) (hb:b.size≤1000000) (w:World) :
 ς 244 #[.string a,.string b] w fun e w'=>e=ώ (.bool (decide (a.data.toList<b.data.toList)))∧υ w w':=by
 have hla:a.data.toList.length=a.size:=by simp
 have hlb:b.data.toList.length=b.size:=by simp
 obtain⟨r,hr⟩:=κ (decide (a.data.toList<b.data.toList));rw[hr];have HR:=aj hr hla hlb;clear hr hla hlb;go_enter func244,ntmps244
 go_wp2_with fail
 go_loopw [5] (fun i wr=>∃k:Nat,k≤a.size∧k≤b.size∧i=ι k∧υ w wr∧a.data.toList.take k=b.data.toList.take k) (fun i _=>a.size - (intOf i).toNat)
 case atStart=>exact⟨0,oM,oM,rfl,ζ.refl _ _,rfl⟩
 case round =>
  obtain⟨k,hk,hk2,rfl,hu,dn⟩:=hrel;have HT:=aj dn hk hk2;clear dn;by_cases h1:k<a.size
  ·by_cases h2:k<b.size
   ·have j1:(k:Int)<(a.size:Int):=oM
    have j2:(k:Int)<(b.size:Int):=oM;have g1:=pV a k h1;have g2:=pV b k h2;have hwk:IntKind.i64.wrap ((k:Int)+1)=(k:Int)+1:=bX _ oM;have e1:a.data.toList[k]'(by rw[HR.out.2.1];exact h1)=a[k]:=by simp[ByteArray.getElem_eq_getElem_data]
    have e2:b.data.toList[k]'(by rw[HR.out.2.2];exact h2)=b[k]:=by simp[ByteArray.getElem_eq_getElem_data]
    obtain⟨x,hx⟩:=κ (a[k]);obtain⟨y,hy⟩:=κ (b[k]);have HX:=aD hx hy (e1.trans hx) (e2.trans hy);by_cases he:x=y
    ·have q:((a[k].toNat:Int) == (b[k].toNat:Int))=true:=by rw[kV,hx,hy,he]
     have q2:((a[k].toNat:Int) != (b[k].toNat:Int))=false:=by rw[bne,q];rfl
     have HE:=δ he;clear g1 g2 e1 e2 hx hy he;go_wp2_with fail
     go_quiet (fail)
     go_wp2_with fail
     go_roundw
     case rel =>
      refine⟨k+1,oM,oM,sM,hu.drewN _,Kh (by rw[HR.out.2.1];exact h1) (by rw[HR.out.2.2];exact h2) HT.out.1 ?_⟩;rw[HX.out.2.2.1,HX.out.2.2.2,HE.out]
     case measure=>simp[intOf]<;>omega
    ·have ajN:x.toNat≠y.toNat:=fun e=>he (ud.1 e)
     have q:((a[k].toNat:Int) == (b[k].toNat:Int))=false:=by rw[eV,hx,hy];omega
     have q2:((a[k].toNat:Int) != (b[k].toNat:Int))=true:=by rw[bne,q];rfl
     have hl:=Yq k _ _ (by rw[HR.out.2.1];exact h1) (by rw[HR.out.2.2];exact h2) HT.out.1 (by rw[HX.out.2.2.1,HX.out.2.2.2];exact he);rw[HX.out.2.2.1,HX.out.2.2.2] at hl;have rK:decide (a[k].toNat<b[k].toNat)=r:=by
      rw[← HR.out.1,J9,hl,hx,hy,NT]
     have HL:=δ hl;clear g1 g2 e1 e2 hx hy he hl ajN;go_wp2_with fail
     go_quiet (fail)
     go_wp2_with fail
     go_quiet (fail)
     go_wp2_with fail
     go_ret
     exact⟨rfl,(hu.drewN _).drewN _⟩
   ·have j1:(k:Int)<(a.size:Int):=oM
    have j2:¬(k:Int)<(b.size:Int):=oM;have hl:=PZ k _ _ (by rw[HR.out.2.1];exact hk) (by rw[HR.out.2.2];exact hk2) (by rw[HR.out.2.2];omega) HT.out.1;have rK:decide (a.size<b.size)=r:=by
     rw[← HR.out.1,J9,hl,HR.out.2.1,HR.out.2.2]
    clear hl;go_wp2_with fail
    go_ret
    exact⟨rfl,hu⟩
  ·have j1:¬(k:Int)<(a.size:Int):=oM
   have hl:=PZ k _ _ (by rw[HR.out.2.1];exact hk) (by rw[HR.out.2.2];exact hk2) (by rw[HR.out.2.1];omega) HT.out.1;have rK:decide (a.size<b.size)=r:=by
    rw[← HR.out.1,J9,hl,HR.out.2.1,HR.out.2.2]
   clear hl;go_wp2_with fail
   go_ret
   exact⟨rfl,hu⟩
def iW (k:List UInt8):List ai→Nat
 | []=>0
 | p::r=>if p.1<k then iW k r+1 else 0
theorem Pd (k:List UInt8) (l:List ai):iW k l≤l.length:=by
 induction l with
 | nil=>exact bQ _
 | cons p r ih =>
   unfold iW;split
   ·simpa using ih
   ·exact vL _
theorem Vk (k:List UInt8) (l:List ai) (i:Nat) (hi:i<l.length) (h:i≤iW k l):i+1≤iW k l↔l[i].1<k:=by
 induction l generalizing i with
 | nil=>simp at hi
 | cons p r ih =>
   unfold iW at h ⊢;cases i with
   | zero =>
     simp only[J2];split
     ·rename_i c
      exact⟨fun _=>c,fun _=>by omega⟩
     ·rename_i c
      exact⟨fun e=>by omega,fun e=>absurd e c⟩
   | succ i =>
     simp only[List.getElem_cons_succ];split at h
     ·rename_i c
      rw[σ c,← ih i (by simpa using hi) oM];omega
     ·omega
def gR (k:List UInt8) (l:List ai):Bool:=decide ((l[iW k l]?).map (·.1)=some k)
theorem aeC (k v:List UInt8) (l:List ai):jm k v l=l.take (iW k l)++(k,v)::l.drop (iW k l+if gR k l then 1 else 0):=by
 induction l with
 | nil=>rfl
 | cons p r ih =>
   unfold jm;by_cases c:p.1<k
   ·have e:iW k (p::r)=iW k r+1:=by show (if p.1<k then _ else _)=_;rw[σ c]
    have e2:gR k (p::r)=gR k r:=by unfold gR;rw[e,pP]
    rw[σ c,ih,e,e2,AY,oF,show iW k r+1+(if gR k r then 1 else 0)=(iW k r+if gR k r then 1 else 0)+1 by omega,TT]
   ·have e:iW k (p::r)=0:=by show (if p.1<k then _ else _)=_;rw[ν c]
    rw[ν c,e];by_cases c2:p.1=k
    ·have e2:gR k (p::r)=true:=by unfold gR;rw[e,dR];simp[c2]
     rw[σ c2,e2];rfl
    ·have e2:gR k (p::r)=false:=by unfold gR;rw[e,nj];simp[c2]
     rw[ν c2,e2];rfl
theorem VU {k:List UInt8} {l:List ai} (h:fX l):qw k l=if gR k l then l.take (iW k l)++l.drop (iW k l+1) else l:=by
 induction l with
 | nil=>rfl
 | cons p r ih =>
   have h1:=(xA.1 h).1;have h2:fX r:=(xA.1 h).2;have ih:=ih h2;unfold qw at ih ⊢;by_cases c:p.1<k
   ·have e:iW k (p::r)=iW k r+1:=by show (if p.1<k then _ else _)=_;rw[σ c]
    have e2:gR k (p::r)=gR k r:=by unfold gR;rw[e,pP]
    rw[List.filter_cons_of_pos (by simpa using zv c),ih,e,e2];split
    ·rw[AY,oF,TT]
    ·rfl
   ·have e:iW k (p::r)=0:=by show (if p.1<k then _ else _)=_;rw[ν c]
    by_cases c2:p.1=k
    ·have e2:gR k (p::r)=true:=by unfold gR;rw[e,dR];simp[c2]
     rw[e2,e,σ rfl,List.filter_cons_of_neg (by simpa using c2)];show _=r;exact sI.2 fun q hq=>by simpa using fun e:q.1=k=>zv (h1 q hq) (by rw[c2,e])
    ·have e2:gR k (p::r)=false:=by unfold gR;rw[e,nj];simp[c2]
     rw[e2,ν sM,List.filter_cons_of_pos (by simpa using c2)];congr 1
     refine sI.2 fun q hq=>?_
     have hk:k<p.1:=by
      rcases PO p.1 k with x | x | x
      ·exact absurd x c
      ·exact absurd x c2
      ·exact x
     simpa using fun x:q.1=k=>zv (List.lt_trans hk (h1 q hq)) x.symm
theorem aeD {k:List UInt8} {l:List ai} (h:fX l):(lq k l).isSome=gR k l:=by
 have hd:=VU (k:=k) h;cases ht:gR k l
 ·rw[ht,ν sM] at hd
  rw[OL fun p hp=>?_]
  ·rfl
  ·have:p ∈ qw k l:=by rw[hd];exact hp
   simpa using (yW.1 this).2
 ·unfold gR at ht
  rw[dR] at ht;cases hg:l[iW k l]? with
  | none=>rw[hg] at ht;simp at ht
  | some p =>
    rw[hg] at ht;have e:p.1=k:=by simpa using ht
    rw[← e,Pa h (sH hg)];rfl
theorem VV {k:List UInt8} {l:List ai} {i:Nat} (h:i≤iW k l) (he:i=l.length∨∃hi:i<l.length,¬l[i].1<k):i=iW k l:=by
 rcases he with rfl | ⟨hi,he⟩
 ·have:=Pd k l
  omega
 ·apply Nat.le_antisymm h
  apply JY
  intro hc;exact he ((Vk k l i hi h).1 hc)
theorem aeE {k:List UInt8} {l:List ai} {i:Nat} (h:i=iW k l) (hi:i<l.length):gR k l=decide (l[i].1=k):=by
 subst h;unfold gR;rw[bD hi];simp
theorem adh {k:List UInt8} {l:List ai} (h:l.length=iW k l):gR k l=false:=by
 unfold gR;rw[← h,nh (bQ _)];rfl
theorem P0 {w:World} {ty:TypeId} {lv:Value} {S:List ai} (hT:au w ty 2 lv (S.map bz)) (hs:∀q ∈ S,q.1.length≤1000000) (p:ByteArray) (hp:p.size≤1000000) :
 ς 202 #[.agg #[lv],.string p] w fun e w'=>e=ώ (.tuple #[ι (iW p.data.toList S:Nat),.bool (gR p.data.toList S)])∧υ w w':=by
 obtain⟨A,cap,b,off,rfl,hcap,hl,hA,hat⟩:=hT.open_;simp only[bp] at hcap hl hA ⊢;obtain⟨F,hF⟩:=κ (iW p.data.toList S);obtain⟨T,wI⟩:=κ (gR p.data.toList S);rw[hF,wI];have HF:=cx hF wI hat hs hp;obtain⟨c,hc⟩:=κ w.heap.size;have Hc:=δ hc;clear hF wI hat hs hT hc;go_enter func202,ntmps202
 go_upto_region 1 with fail
 rw[Hc.out];generalize hw1:World.alloc _ _=w1;have aM:η w1 c 93 #[.slice A S.length cap]:=by rw[← hw1,← Hc.out];exact η.new w _ _
 have ax:υ w w1:=by rw[← hw1];exact(ζ.refl _ w).alloc _
 have H1:=τ aM ax;clear hw1 aM ax;go_wp2_with fail
 go_loopw [6] (fun i wr=>∃k:Nat,k≤S.length∧i=ι k∧υ w1 wr∧k≤F) (fun i _=>S.length - (intOf i).toNat)
 case atStart=>exact⟨0,oM,rfl,ζ.refl _ _,oM⟩
 case round =>
  obtain⟨k,hk,rfl,hu,Fg⟩:=hrel;have c0:wr.cell? ⟨c,0,none⟩=some (.slice A S.length cap):=(H1.out.1.ε hu (fun e=>e)).cell 0;have HT:=aj hu hk Fg;have hwk:IntKind.i64.wrap ((k:Int)+1)=(k:Int)+1:=bX _ oM;by_cases hlt:k<S.length
  ·obtain rfl:=hA oM
   obtain⟨x,hx⟩:=κ (S[k]);obtain⟨X,hX⟩:=κ (str x.1);have mh:X.data.toList=x.1:=by rw[← hX,bS]
   have Jl:X.size≤1000000:=by
    rw[← hX,bf];exact HF.out.2.2.2.1 x (hx ▸ eM hlt)
   have cX:wr.cell? ⟨b,off+k*2,none⟩=some (.string X):=HF.out.2.2.1 wr _ (H1.out.2.then hu φ) (fun _ _ e=>e) k (bz x) (by rw[gu,bD hlt,hx];rfl) 0 _ (by rw[← hX];rfl)
   have BN:=aik X p Jl HF.out.2.2.2.2 wr;rw[mh] at BN;have hstep:=Vk p.data.toList S k hlt (by rw[HF.out.1];exact Fg);rw[hx,HF.out.1] at hstep;have mS:(X.toList == p.toList)=decide (x.1=p.data.toList):=by
    rw[y7,y7,mh,vH,kV,dR]
   have HX:=aD hx hstep hlt mS;have j1:(k:Int)<(S.length:Int):=oM;by_cases hl2:x.1<p.data.toList
   ·rw[fe hl2] at BN
    have HL:=τ BN hl2;clear hx hX mh Jl hstep mS BN hl2;go_wp2_with (first
     |(go_at_call 244;refine HL.out.1.mono ?_;rintro e w2 ⟨rfl,π⟩;have H2:=δ (hu.then π φ);clear π))
    go_roundw
    case rel=>exact⟨k+1,oM,sM,H2.out,HX.out.2.1.2 HL.out.2⟩
    case measure=>simp[intOf]<;>omega
   ·rw[gN hl2] at BN
    have hend:=VV (by rw[HF.out.1];exact Fg) (.inr ⟨hlt,by rw[hx];exact hl2⟩);have yH:=aeE hend hlt;rw[hx,HF.out.2.1] at yH;rw[HF.out.1] at hend;subst hend;have HL:=τ BN yH;have HCX:Hid (∀W,υ w1 W→W.cell? ⟨b,off+k*2,none⟩=some (.string X)):=δ fun W hW=>HF.out.2.2.1 W _ (H1.out.2.then hW φ) (fun _ _ e=>e) k (bz x) (by rw[gu,bD hlt,hx];rfl) 0 _ (by rw[← hX];rfl)
    clear hx hX mh Jl hstep BN hl2 Fg yH;obtain⟨bt,jt⟩:=κ (decide (x.1=p.data.toList));rw[jt] at mS;have Ts:=δ jt;clear jt;go_upto_region 4 with (first
     |(go_at_call 244;refine HL.out.1.mono ?_;rintro e w2 ⟨rfl,π⟩
       have qA:=hu.then π φ;have c0':w2.cell? ⟨c,0,none⟩=some (.slice (some ⟨b,off,none⟩) S.length cap):=(H1.out.1.ε qA (fun e=>e)).cell 0;have cX':=HCX.out w2 qA;have H2:=δ qA;clear π qA))
    go_quiet (fail)
    go_wp2_with fail
    go_ret2
    exact⟨by rw[HL.out.2,Ts.out];rfl,(H1.out.2.then H2.out φ).drewN _⟩
  ·have j1:¬(k:Int)<(S.length:Int):=oM
   obtain rfl:k=S.length:=oM;have hend:=VV (by rw[HF.out.1];exact Fg) (.inl rfl);have yH:=adh hend;rw[HF.out.2.1] at yH;rw[HF.out.1] at hend;subst yH;have HE:=δ hend;clear hend Fg;go_wp2_with fail
   go_quiet (fail)
   go_wp2_with fail
   go_ret2
   exact⟨by rw[← HE.out];rfl,(H1.out.2.then hu φ).drewN _⟩
theorem VW {w:World} {b k:Nat} : ∀(cs:List (List Value)) (o:Nat),(∀i c,cs[i]? = some c→c.length=k∧w.rangeAt b (o+i*k) c)→∀j u,cs.flatten[j]? = some u→w.cell? ⟨b,o+j,none⟩=some u
 | [],_,_,j,u,hj=>by simp at hj
 | c :: r,o,h,j,u,hj=>by
   have h0:=h 0 c rfl;rw[J4] at hj;by_cases hjc:j<c.length
   ·rw[pL hjc] at hj
    have:=h0.2 j u hj;rwa [Nat.zero_mul,rM] at this
   ·rw[lM oM] at hj
    have:=VW r (o+k) (fun i c' hc=>by
     have h2:=h (i+1) c' (by simpa using hc);rw[J5,show o+(i*k+k)=o+k+i*k by omega] at h2;exact h2) (j - c.length) u hj
    rw[← this,h0.1];congr 2
    omega
theorem Ww {k:Nat} : ∀(cs:List (List Value)),(∀c ∈ cs,c.length=k)→cs.flatten.length=cs.length*k
 | [],_=>by simp
 | c::r,h=>by
   rw[J4,aL,Ww r (fun x hx=>h x (Uj _ hx)),h c sM,eS,J5,TS]
theorem Src.W3 {P:Program} {w:World} {xT t:TypeId} (ht:P.underlying xT=some (.slice t)) {A:Option Addr} {cap l h k b off:Nat} {cs:List (List Value)} (hA:l<h→A=some ⟨b,off,none⟩) (hlh:l≤h) (hh:h≤cap) (hn:h≤cs.length)
 (hcs:∀i c,cs[i]? = some c→c.length=k∧w.rangeAt b (off+i*k) c):Src P w xT k (sliced A l h cap k) (h - l) ((cs.drop l).take (h - l)).flatten:=by
 unfold sliced;by_cases e:l=h
 ·subst e
  rw[Dn,Fw];show Src P w xT k _ 0 [];generalize (if cap=l then A else A.map (·.add (l*k)):Option Addr)=X;rcases X with _ | a
  ·exact .of_nil ht _
  ·exact .uq ht a 0 _ sM (fun j u hj=>by simp at hj)
 ·have hlt:l<h:=oM
  rw[hA hlt,ν oM];have hrow:∀i c,((cs.drop l).take (h - l))[i]? = some c→c.length=k∧w.rangeAt b (off+l*k+i*k) c:=fun i c hc=>by
   rw[JP] at hc;split at hc
   ·rw[FD] at hc
    have:=hcs _ _ hc;rwa [TZ,← Fq] at this
   ·cases hc
  have iY:∀m o,(⟨b,o,none⟩:Addr).add m=⟨b,o+m,none⟩:=fun m o=>by unfold Addr.add;split<;>simp_all
  refine .uq ht _ _ _ ?_ fun j u hj=>?_
  ·rw[Ww (k:=k) _ fun c hc=>?_]
   ·rw[fF,gM,vM oM]
   ·obtain⟨i,hi⟩:=AU hc
    exact(hrow i c hi).1
  ·show w.cell? (((⟨b,off,none⟩:Addr).add (l*k)).add j)=some u
   rw[iY,iY];exact VW _ _ hrow j u hj
theorem F8 (l:List ai):∀u ∈ (l.map bz).flatten,u.oneCell'=true:=by
 intro u hu;obtain⟨r,hr,Tt⟩:=Um.1 hu;obtain⟨q,-,rfl⟩:=bZ.1 hr;unfold bz at Tt;simp only[cn,ue,uf] at Tt;rcases Tt with rfl | rfl<;>rfl
def uz (w w':World) (c g:Nat) (lv v:Value) (n:Nat) (xs:List Value):Prop :=
 η w' c 93 #[lv]∧η w' (c+1) 93 #[.slice none 0 0]∧η w' g 93 #[v]∧Own w' 55 2 v n xs∧υ w w'∧(∀q,v.ownBlock=some q→g<q)
theorem uz.step {w w' wa w2 w3:World} {c g n n2:Nat} {lv v v2:Value} {xs Ak:List Value} (h:uz w w' c g lv v n xs) (hc:w.heap.size=c) (hg:c+1<g) (ha:υ w' wa) (hO:Own w2 55 2 v2 n2 Ak) (hU:ζ (fun k=>v.ownBlock=some k) wa w2) (hl:v2.ownBlock=v.ownBlock∨v2.ownBlock=some wa.heap.size) (hB:η w3 g 93 #[v2]) (χ:ζ (· = g) w2 w3):uz w w3 c g lv v2 n2 Ak:=by
 obtain⟨h1,h2,h3,h4,h5,h6⟩:=h;have CN:=(h3.ε ha (fun e=>e)).lt;have AA:∀q,v2.ownBlock=some q→g<q:=fun q hq=>by
  rcases hl with e | e
  ·exact h6 q (by rw[← e];exact hq)
  ·rw[hq] at e
   have:=dw e;omega
 refine⟨((h1.ε ha (fun e=>e)).ε hU (fun e=>?_)).ε χ (fun e=>?_),((h2.ε ha (fun e=>e)).ε hU (fun e=>?_)).ε χ (fun e=>?_),hB,hO.ε χ (fun q hq e=>?_),((h5.then ha φ).then hU (fun q e=>.inr ?_)).then χ (fun q e=>.inr ?_),AA⟩
 ·have:=h6 _ e;omega
 ·have e2:c=g:=e;omega
 ·have:=h6 _ e;omega
 ·have e2:c+1=g:=e;omega
 ·have:=AA q hq;have e2:q=g:=e;omega
 ·have:=h6 _ e;omega
 ·have e2:q=g:=e;omega
theorem ot {v:Value} (h:v.oneCell'=true):#[v].all (·.oneCell')=true:=by simp[h]
theorem Wx {w:World} {v8:Value} {S:List ai} {F l:Nat} {p v:ByteArray} (h:Own w 55 2 v8 (F+1+(S.length - l)) (((S.take F).map bz).flatten++[.string p,.string v]++((S.drop l).map bz).flatten)) (hF:F≤S.length) (hl:l≤S.length) (hS:S.length≤100000) :
 au w 55 2 v8 ((S.take F++(p.data.toList,v.data.toList)::S.drop l).map bz):=by
 have e:bz (p.data.toList,v.data.toList)=[.string p,.string v]:=rfl;refine au.jK (n:=F+1+(S.length - l)) ?_ ?_ oM ?_
 ·rw[kG,jY,abb,J4,e,← dQ]
  exact h
 ·simp
  omega
 ·intro c hc
  obtain⟨q,-,rfl⟩:=bZ.1 hc;rfl
theorem P3 (w:World):(sizeOf 55).run prog w=.ok 2 w:=kR
theorem aaq {P:Prop} (h:P:=by
 refine⟨sliced A l S.length cap 2,fun W=>?_,fun W hW=>?_⟩
 ·rw[run_slice_l (P:=prog) W _ _ _ _ underlying56 .i64 l oM oM]
  show ((sizeOf 55).run prog W).andThen _=_;rw[P3];rfl
 ·have:=Src.W3 (h:=S.length) (l:=l) (cap:=cap) (A:=A) underlying56 (fun h=>hA oM) hl hcap (by rw[bp];exact bQ _) (hcs W hW)
  rw[dH sM,← Nz] at this;exact this):P:=h
theorem aar {P:Prop} (h:P:=by
 refine cy (jx rfl _ _ (c+1) _ _ _ _ rfl mJ underlying93 rfl kR) rfl ⟨v8,rfl,?_,H9.out.2.2.2.2.1.then eT (fun q e=>.inr ?_),fun q e=>?_⟩
 ·have:=HX.out.ε eT (fun q ht e=>by
   have e2:q=c+1:=e;subst e2;exact absurd (H9.out.2.1.ty.inj ht) dC)
  simpa using this
 ·have e2:q=c+1:=e
  have:=Hc.out;omega
 ·have:=H9.out.2.2.2.2.2 q e
  have:=H3.out.2.2.2.2;have:=Hc.out;omega):P:=h
theorem aas {P:Prop} (h:P:=by
 have:=Src.W3 (h:=F) (l:=0) (cap:=cap) (A:=A) underlying56 (fun h=>hA oM) oM oM (by rw[bp];omega) (hcs W hW);rw[List.drop_zero,Nat.sub_zero,← Dm] at this;exact this):P:=h
theorem XB {w:World} {ty:TypeId} {lv:Value} {S:List ai} (hT:au w ty 2 lv (S.map bz)) (hs:∀q ∈ S,q.1.length≤1000000) (hS:S.length≤100000) (p v:ByteArray) (hp:p.size≤1000000) :
 ς 203 #[.agg #[lv],.string p,.string v] w fun e w'=>∃gK,e=ώ (.agg #[gK])∧au w' 55 2 gK ((jm p.data.toList v.data.toList S).map bz)∧υ w w'∧(∀q,gK.ownBlock=some q→w.heap.size≤q):=by
 have hfind:=fun W (hW:υ w W)=>P0 (hT.still hW) hs p hp
 obtain⟨A,cap,b,off,rfl,hcap,hl,hA,hat⟩:=hT.open_;have hcs:∀W,υ w W→∀i c,(S.map bz)[i]? = some c→c.length=2∧W.rangeAt b (off+i*2) c:=fun W hW i c hc=>⟨by
  obtain⟨q,-,rfl⟩:=bZ.1 (sH hc);rfl,hat W _ hW (fun _ _ e=>e) i c hc⟩
 simp only[bp] at hcap hl hA hfind;obtain⟨F,hF⟩:=κ (iW p.data.toList S);obtain⟨B,hB⟩:=κ (gR p.data.toList S);have yS:=Pd p.data.toList S;have hBl:B=true→F+1≤S.length:=fun e=>by
  rw[← hB] at e;unfold gR at e;rw[hF,dR] at e;apply Nat.lt_of_not_le
  intro hc;rw[nh hc] at e;cases e
 rw[hF] at yS;rw[hF,hB] at hfind;rw[aeC,hF,hB,bp];have BO:∀W,υ w W→Src prog W 56 2 (sliced A 0 F cap 2) F ((S.take F).map bz).flatten:=fun W hW=>by
  exact aas
 have sZ:∀W:World,(Instr.slice 56 (.slice A S.length cap) none (some (ι F)) none).run prog W=.ok (sliced A 0 F cap 2) W:=fun W=>by
  rw[run_slice_h (P:=prog) W _ _ _ _ underlying56 .i64 F oM oM];show ((sizeOf 55).run prog W).andThen _=_;rw[P3];rfl
 have dP:∀l,l≤S.length→∃s2,(∀W:World,(Instr.slice 56 (.slice A S.length cap) (some (ι (l:Int))) none none).run prog W=.ok s2 W)∧∀W,υ w W→Src prog W 56 2 s2 (S.length - l) ((S.drop l).map bz).flatten:=fun l hl=>by
  exact aaq
 obtain⟨s1,hs1⟩:=κ (sliced A 0 F cap 2);rw[hs1] at BO sZ;have HF:=o_ hfind BO dP sZ yS hBl hS;have HN:=τ yS hS;obtain⟨c,hc⟩:=κ w.heap.size;have Hc:=δ hc;obtain⟨i0,bx,bN,bG,aT⟩:=je KP;have HI:=aD bx bN bG aT;clear hF hB hat hs hT hc hfind yS hA hcap hl hS bx bN bG aT BO dP sZ hBl hs1 hcs;go_enter func203,ntmps203
 go_upto_region 1 with fail
 rw[Hc.out];generalize hw1:World.alloc (World.alloc _ _) _=w1;have aM:η w1 c 93 #[.slice A S.length cap]:=by rw[← hw1,← Hc.out];exact(η.new w _ _).alloc _
 have oB:η w1 (c+1) 93 #[.slice none 0 0]:=by
  have:=η.new (w.alloc (.cells #[.slice A S.length cap] 93)) 93 #[.slice none 0 0];rw[cM,Hc.out] at this;rw[← hw1];exact this
 have ax:υ w w1:=by rw[← hw1];exact((ζ.refl _ w).alloc _).alloc _
 have c0:w1.cell? ⟨c,0,none⟩=some (.slice A S.length cap):=aM.cell 0;have H1:=aj aM oB ax;have HC:=δ (HF.out.1 w1 ax);clear hw1 aM oB ax;go_upto_region 3 with (first
  |(go_at_call 202
    refine HC.out.mono ?_;rintro e w2 ⟨rfl,π⟩;have H2:=δ π;clear π))
 obtain⟨g,hg⟩:=κ w2.heap.size;rw[hg];generalize fJ:World.alloc _ _=w3;have eR:c+1<g:=by have:=(H1.out.2.1.ε H2.out (fun e=>e)).lt;omega
 have aA:η w3 c 93 #[.slice A S.length cap]:=by rw[← fJ];exact(H1.out.1.ε H2.out (fun e=>e)).alloc _
 have iA:η w3 (c+1) 93 #[.slice none 0 0]:=by rw[← fJ];exact(H1.out.2.1.ε H2.out (fun e=>e)).alloc _
 have gm:η w3 g 93 #[.slice none 0 0]:=by rw[← fJ,← hg];exact η.new w2 _ _
 have χ:υ w w3:=by rw[← fJ];exact(H1.out.2.2.then H2.out φ).alloc _
 have H3:=cx aA iA gm χ eR;clear hg fJ eR aA iA gm χ c0;refine dB ?_;refine dK (S:=fun w'=>η w' c 93 #[.slice A S.length cap]∧η w' g 93 #[.slice none 0 0]) (T:=fun i=>i == 8) kR ?_;have aC:η w3.drew c 93 #[.slice A S.length cap]∧η w3.drew g 93 #[.slice none 0 0]:=⟨H3.out.1.drew,H3.out.2.2.1.drew⟩;refine ξ 0 ?_;refine aQ 1 (fun w' hSw=>hSw.2.cell 0) ?_;refine ξ 2 ?_;refine aQ 3 (fun w' hSw=>hSw.1.cell 0) ?_;refine ξ 4 ?_;refine aQ 5 (fun w' hSw=>HF.out.2.2.2.1 w') ?_;refine aY 6 (fun KK ο=>?_);refine pQ (by rfl) _ _ _ _ (by rfl) 55 i0 _ 2 32 underlying56 HI.out.1 HI.out.2.1 HI.out.2.2.1 HI.out.2.2.2 rfl (.slice none 0 0) 0 [] (by rfl) (Own.nil _ _ _) s1 F ((S.take F).map bz).flatten (by rfl) (HF.out.2.1 _ H3.out.2.2.2.1.drew) (F8 _) (by have:=HN.out;unfold maxLen;omega) (oN HN.out) ?_;intro v4 w4 jT ag nO cG;have dh:η w4 c 93 #[.slice A S.length cap]∧η w4 g 93 #[.slice none 0 0]:=⟨aC.1.ε ag (by simp[Value.ownBlock]),aC.2.ε ag (by simp[Value.ownBlock])⟩;refine ο.out _ _ dh ?_;clear ο;simp only[Act.put,jy]
 refine ξ 7 ?_;refine kO 8 (fun KK ο=>?_);rw[σ (show Region.wanted _ _=true by rfl)];refine mD _ _ _ rfl g 0 v4 rfl rfl _ _ dh.2 sM jT.one kR (fun w5 aF av iz=>?_);refine ο.out _ _ ?_;clear ο;simp only[Act.put];refine dF ?_;refine cZ ?_;have h5:uz w w5 c g (.slice A S.length cap) v4 F ((S.take F).map bz).flatten :=
  uz.step (v:=.slice none 0 0) (n:=0) (xs:=[]) ⟨H3.out.1,H3.out.2.1,H3.out.2.2.1,Own.nil _ _ _,H3.out.2.2.2.1,by simp[Value.ownBlock]⟩ Hc.out H3.out.2.2.2.2 ((ζ.refl _ w3).drewN 1) (by simpa using jT) ag nO aF av
 have H5:=δ h5;clear h5 aF av iz aC dh jT ag nO cG;have c4:w5.cell? ⟨g,0,none⟩=some v4:=H5.out.2.2.1.cell 0;obtain⟨A4,zz,rfl,-,-⟩:=H5.out.2.2.2.1.shape;go_upto_region 5 with (first
  |(at_builtin
    refine jH rfl _ _ _ _ rfl 55 i0 _ 2 32 underlying56 HI.out.1 HI.out.2.1 HI.out.2.2.1 HI.out.2.2.2 rfl (.slice A4 F zz) F _ rfl (H5.out.2.2.2.1.alloc _) _ 1 [.string p,.string v] rfl (Src.qN underlying56 _ rfl) (by simp[Value.oneCell']) (by have:=HN.out;unfold maxLen;omega) (oN HN.out) ?_;intro v6 w6 qG az vC wW;have cI:η w6 g 93 #[.slice A4 F zz]:=(H5.out.2.2.1.alloc _).ε az (fun e=>absurd (H5.out.2.2.2.2.2 _ e) (J3 _));have Yr:=qG.one)
  |(refine gw rfl 56 _ _ rfl g 0 v6 rfl rfl _ _ cI sM Yr kR ?_
    intro w7 dG bK jq))
 have h7:=uz.step H5.out Hc.out H3.out.2.2.2.2 ((ζ.refl _ w5).alloc _) qG az vC dG bK;have H7:=δ h7;clear h7 dG bK jq qG az vC wW cI Yr c4 H5;have hl:∀l,l≤S.length→F+1+(S.length - l)≤maxLen∧(F+1+(S.length - l))*32≤140737488355328:=fun l hl=>by
  have h1:=HF.out.2.2.2.2.2.2;have h2:=HF.out.2.2.2.2.1;unfold maxLen;omega
 have HL:=δ hl;clear hl;cases B
 ·obtain⟨s2,hr2,bV⟩:=HF.out.2.2.1 (F) HF.out.2.2.2.2.1
  have ou:=τ hr2 bV;clear hr2 bV;go_upto_region 7 with fail
  refine dB ?_;refine dK (S:=fun w'=>η w' c 93 #[.slice A S.length cap]∧η w' g 93 #[v6]) (T:=fun i=>i == 8) kR ?_;have aC:η w7.drew c 93 #[.slice A S.length cap]∧η w7.drew g 93 #[v6]:=⟨H7.out.1.drew,H7.out.2.2.1.drew⟩;refine ξ 0 ?_;refine aQ 1 (fun w' hSw=>hSw.2.cell 0) ?_;refine ξ 2 ?_;refine aQ 3 (fun w' hSw=>hSw.1.cell 0) ?_;refine ξ 4 ?_;refine aQ 5 (fun w' hSw=>ou.out.1 w') ?_;refine aY 6 (fun KK ο=>?_);refine pQ (by rfl) _ _ _ _ (by rfl) 55 i0 _ 2 32 underlying56 HI.out.1 HI.out.2.1 HI.out.2.2.1 HI.out.2.2.2 rfl v6 (F+1) _ (by rfl) H7.out.2.2.2.1.drew s2 (S.length - (F)) ((S.drop (F)).map bz).flatten (by rfl) (ou.out.2 _ H7.out.2.2.2.2.1.drew) (F8 _) (HL.out _ HF.out.2.2.2.2.1).1 (HL.out _ HF.out.2.2.2.2.1).2 ?_;intro v8 w8 qC cC ry kC;have ij:η w8 c 93 #[.slice A S.length cap]∧η w8 g 93 #[v6]:=⟨aC.1.ε cC (fun e=>by have:=H7.out.2.2.2.2.2 _ e;have:=H3.out.2.2.2.2;omega),aC.2.ε cC (fun e=>absurd (H7.out.2.2.2.2.2 _ e) (J3 _))⟩;refine ο.out _ _ ij ?_;clear ο;simp only[Act.put,jy];refine ξ 7 ?_;refine kO 8 (fun KK ο=>?_)
  rw[σ (show Region.wanted _ _=true by rfl)];refine mD _ _ _ rfl g 0 v8 rfl rfl _ _ ij.2 sM qC.one kR (fun w9 cW eC mT=>?_);refine ο.out _ _ ?_;clear ο;simp only[Act.put];refine dF ?_;refine cZ ?_;have h9:=uz.step H7.out Hc.out H3.out.2.2.2.2 ((ζ.refl _ w7).drewN 1) qC cC ry cW eC;have H9:=δ h9;clear h9 cW eC mT aC ij qC cC ry kC;go_wp2_with (first
   |(refine kW rfl 93 _ rfl g rfl _ #[v8] _ H9.out.2.2.1 underlying93 rfl kR ?_)
   |(refine ef 93 (c+1) #[v8] H9.out.2.1 (ot H9.out.2.2.2.1.one) ?_
     intro w10 mJ eT zC))
  have HX:=δ (Wx H9.out.2.2.2.1 HN.out.1 HF.out.2.2.2.2.1 HN.out.2);exact aar
 ·have Fh:F+1≤S.length:=HF.out.2.2.2.2.2.1 rfl
  have Fi:=δ Fh;clear Fh;have hw:IntKind.i64.wrap ((F:Int)+1)=(F:Int)+1:=bX _ (oO HF.out.2.2.2.2.1 HN.out);obtain⟨s2,hr2,bV⟩:=HF.out.2.2.1 (F+1) Fi.out;rw[show ((F+1:Nat):Int)=(F:Int)+1 by omega] at hr2;have ou:=τ hr2 bV;clear hr2 bV;go_upto_region 7 with fail
  refine dB ?_;refine dK (S:=fun w'=>η w' c 93 #[.slice A S.length cap]∧η w' g 93 #[v6]) (T:=fun i=>i == 8) kR ?_;have aC:η w7.drew c 93 #[.slice A S.length cap]∧η w7.drew g 93 #[v6]:=⟨H7.out.1.drew,H7.out.2.2.1.drew⟩;refine ξ 0 ?_;refine aQ 1 (fun w' hSw=>hSw.2.cell 0) ?_;refine ξ 2 ?_;refine aQ 3 (fun w' hSw=>hSw.1.cell 0) ?_;refine ξ 4 ?_;refine aQ 5 (fun w' hSw=>ou.out.1 w') ?_;refine aY 6 (fun KK ο=>?_);refine pQ (by rfl) _ _ _ _ (by rfl) 55 i0 _ 2 32 underlying56 HI.out.1 HI.out.2.1 HI.out.2.2.1 HI.out.2.2.2 rfl v6 (F+1) _ (by rfl) H7.out.2.2.2.1.drew s2 (S.length - (F+1)) ((S.drop (F+1)).map bz).flatten (by rfl) (ou.out.2 _ H7.out.2.2.2.2.1.drew) (F8 _) (HL.out _ Fi.out).1 (HL.out _ Fi.out).2 ?_;intro v8 w8 qC cC ry kC;have ij:η w8 c 93 #[.slice A S.length cap]∧η w8 g 93 #[v6]:=⟨aC.1.ε cC (fun e=>by have:=H7.out.2.2.2.2.2 _ e;have:=H3.out.2.2.2.2;omega),aC.2.ε cC (fun e=>absurd (H7.out.2.2.2.2.2 _ e) (J3 _))⟩;refine ο.out _ _ ij ?_;clear ο;simp only[Act.put,jy];refine ξ 7 ?_;refine kO 8 (fun KK ο=>?_)
  rw[σ (show Region.wanted _ _=true by rfl)];refine mD _ _ _ rfl g 0 v8 rfl rfl _ _ ij.2 sM qC.one kR (fun w9 cW eC mT=>?_);refine ο.out _ _ ?_;clear ο;simp only[Act.put];refine dF ?_;refine cZ ?_;have h9:=uz.step H7.out Hc.out H3.out.2.2.2.2 ((ζ.refl _ w7).drewN 1) qC cC ry cW eC;have H9:=δ h9;clear h9 cW eC mT aC ij qC cC ry kC;go_wp2_with (first
   |(refine kW rfl 93 _ rfl g rfl _ #[v8] _ H9.out.2.2.1 underlying93 rfl kR ?_)
   |(refine ef 93 (c+1) #[v8] H9.out.2.1 (ot H9.out.2.2.2.1.one) ?_
     intro w10 mJ eT zC))
  have HX:=δ (Wx H9.out.2.2.2.1 HN.out.1 Fi.out HN.out.2);exact aar
theorem aeF {w:World} {v8:Value} {S:List ai} {F:Nat} (h:Own w 55 2 v8 (F+(S.length - (F+1))) (((S.take F).map bz).flatten++((S.drop (F+1)).map bz).flatten)) (hF:F+1≤S.length) (hS:S.length≤100000) :
 au w 55 2 v8 ((S.take F++S.drop (F+1)).map bz):=by
 refine au.jK (n:=F+(S.length - (F+1))) ?_ ?_ oM ?_
 ·rw[kG,abb]
  exact h
 ·simp
  omega
 ·intro c hc
  obtain⟨q,-,rfl⟩:=bZ.1 hc;rfl
theorem aeG {w:World} {ty:TypeId} {lv:Value} {S:List ai} (hT:au w ty 2 lv (S.map bz)) (hs:∀q ∈ S,q.1.length≤1000000) (hS:S.length≤100000) (hR:fX S) (p:ByteArray) (hp:p.size≤1000000) :
 ς 243 #[.agg #[lv],.string p] w fun e w'=>∃gK,e=ώ (.agg #[gK])∧au w' gd 2 gK ((qw p.data.toList S).map bz)∧υ w w'∧(gK=lv∨∀q,gK.ownBlock=some q→w.heap.size≤q):=by
 have hfind:=fun W (hW:υ w W)=>P0 (hT.still hW) hs p hp
 obtain⟨A,cap,b,off,rfl,hcap,hl,hA,hat⟩:=hT.open_;have hcs:∀W,υ w W→∀i c,(S.map bz)[i]? = some c→c.length=2∧W.rangeAt b (off+i*2) c:=fun W hW i c hc=>⟨by
  obtain⟨q,-,rfl⟩:=bZ.1 (sH hc);rfl,hat W _ hW (fun _ _ e=>e) i c hc⟩
 simp only[bp] at hcap hl hA hfind;obtain⟨F,hF⟩:=κ (iW p.data.toList S);obtain⟨B,hB⟩:=κ (gR p.data.toList S);have yS:=Pd p.data.toList S;have hBl:B=true→F+1≤S.length:=fun e=>by
  rw[← hB] at e;unfold gR at e;rw[hF,dR] at e;apply Nat.lt_of_not_le
  intro hc;rw[nh hc] at e;cases e
 rw[hF] at yS;rw[hF,hB] at hfind;rw[VU hR,hF,hB,bp];have BO:∀W,υ w W→Src prog W 56 2 (sliced A 0 F cap 2) F ((S.take F).map bz).flatten:=fun W hW=>by
  exact aas
 have sZ:∀W:World,(Instr.slice 56 (.slice A S.length cap) none (some (ι F)) none).run prog W=.ok (sliced A 0 F cap 2) W:=fun W=>by
  rw[run_slice_h (P:=prog) W _ _ _ _ underlying56 .i64 F oM oM];show ((sizeOf 55).run prog W).andThen _=_;rw[P3];rfl
 have dP:∀l,l≤S.length→∃s2,(∀W:World,(Instr.slice 56 (.slice A S.length cap) (some (ι (l:Int))) none none).run prog W=.ok s2 W)∧∀W,υ w W→Src prog W 56 2 s2 (S.length - l) ((S.drop l).map bz).flatten:=fun l hl=>by
  exact aaq
 obtain⟨s1,hs1⟩:=κ (sliced A 0 F cap 2);rw[hs1] at BO sZ;have HF:=o_ hfind BO dP sZ yS hBl hS;have HN:=τ yS hS;have HTA:=δ hT.any;obtain⟨c,hc⟩:=κ w.heap.size;have Hc:=δ hc;obtain⟨i0,bx,bN,bG,aT⟩:=je KP;have HI:=aD bx bN bG aT;clear hR hF hB hat hs hT hc hfind yS hA hcap hl hS bx bN bG aT BO dP sZ hBl hs1 hcs;go_enter func243,ntmps243
 go_upto_region 1 with fail
 rw[Hc.out];generalize hw1:World.alloc (World.alloc _ _) _=w1;have aM:η w1 c 93 #[.slice A S.length cap]:=by rw[← hw1,← Hc.out];exact(η.new w _ _).alloc _
 have oB:η w1 (c+1) 93 #[.slice none 0 0]:=by
  have:=η.new (w.alloc (.cells #[.slice A S.length cap] 93)) 93 #[.slice none 0 0];rw[cM,Hc.out] at this;rw[← hw1];exact this
 have ax:υ w w1:=by rw[← hw1];exact((ζ.refl _ w).alloc _).alloc _
 have c0:w1.cell? ⟨c,0,none⟩=some (.slice A S.length cap):=aM.cell 0;have H1:=aj aM oB ax;have HC:=δ (HF.out.1 w1 ax);clear hw1 aM oB ax;go_upto_region 2 with (first
  |(go_at_call 202
    refine HC.out.mono ?_;rintro e w2 ⟨rfl,π⟩;have H2:=δ π;clear π))
 cases B
 ·have aB:=H1.out.1.ε H2.out (fun e=>e)
  have gl:=H1.out.2.1.ε H2.out (fun e=>e);go_wp2_with (first
   |(refine fV 93 c aB underlying93 ?_)
   |(refine ef 93 (c+1) #[.slice A S.length cap] gl (ot rfl) ?_
     intro w3 aA χ fK))
  have yc:=(H1.out.2.2.then H2.out φ).then χ (fun q e=>.inr (by have e2:q=c+1:=e;have:=Hc.out;omega));refine cy (jx rfl _ _ (c+1) _ _ _ _ rfl aA underlying93 rfl kR) rfl ⟨.slice A S.length cap,rfl,?_,yc,.inl rfl⟩;have h3:=HTA.out.still yc;simpa using h3
 ·have Fh:F+1≤S.length:=HF.out.2.2.2.2.2.1 rfl
  obtain⟨s2,hr2,bV⟩:=HF.out.2.2.1 (F+1) Fh;rw[show ((F+1:Nat):Int)=(F:Int)+1 by omega] at hr2;have hw:IntKind.i64.wrap ((F:Int)+1)=(F:Int)+1:=bX _ (oN HN.out);have HW:=δ hw;have ou:=τ hr2 bV;have Fi:=δ Fh;clear hr2 bV Fh hw;go_upto_region 5 with fail
  obtain⟨g,hg⟩:=κ w2.heap.size;rw[hg];generalize fJ:World.alloc _ _=w3;have eR:c+1<g:=by have:=(H1.out.2.1.ε H2.out (fun e=>e)).lt;omega
  have aA:η w3 c 93 #[.slice A S.length cap]:=by rw[← fJ];exact(H1.out.1.ε H2.out (fun e=>e)).alloc _
  have iA:η w3 (c+1) 93 #[.slice none 0 0]:=by rw[← fJ];exact(H1.out.2.1.ε H2.out (fun e=>e)).alloc _
  have gm:η w3 g 93 #[.slice none 0 0]:=by rw[← fJ,← hg];exact η.new w2 _ _
  have χ:υ w w3:=by rw[← fJ];exact(H1.out.2.2.then H2.out φ).alloc _
  have H3:=cx aA iA gm χ eR;clear hg fJ eR aA iA gm χ;refine dB ?_;refine dK (S:=fun w'=>η w' c 93 #[.slice A S.length cap]∧η w' g 93 #[.slice none 0 0]) (T:=fun i=>i == 8) kR ?_;have aC:η w3.drew c 93 #[.slice A S.length cap]∧η w3.drew g 93 #[.slice none 0 0]:=⟨H3.out.1.drew,H3.out.2.2.1.drew⟩;refine ξ 0 ?_;refine aQ 1 (fun w' hSw=>hSw.2.cell 0) ?_;refine ξ 2 ?_;refine aQ 3 (fun w' hSw=>hSw.1.cell 0) ?_;refine ξ 4 ?_;refine aQ 5 (fun w' hSw=>HF.out.2.2.2.1 w') ?_;refine aY 6 (fun KK ο=>?_);refine pQ (by rfl) _ _ _ _ (by rfl) 55 i0 _ 2 32 underlying56 HI.out.1 HI.out.2.1 HI.out.2.2.1 HI.out.2.2.2 rfl (.slice none 0 0) 0 [] (by rfl) (Own.nil _ _ _) s1 F ((S.take F).map bz).flatten (by rfl) (HF.out.2.1 _ H3.out.2.2.2.1.drew) (F8 _) (by have:=HN.out;unfold maxLen;omega) (oN HN.out) ?_;intro v4 w4 jT ag nO cG;have dh:η w4 c 93 #[.slice A S.length cap]∧η w4 g 93 #[.slice none 0 0]:=⟨aC.1.ε ag (by simp[Value.ownBlock]),aC.2.ε ag (by simp[Value.ownBlock])⟩;refine ο.out _ _ dh ?_;clear ο;simp only[Act.put,jy]
  refine ξ 7 ?_;refine kO 8 (fun KK ο=>?_);rw[σ (show Region.wanted _ _=true by rfl)];refine mD _ _ _ rfl g 0 v4 rfl rfl _ _ dh.2 sM jT.one kR (fun w5 aF av iz=>?_);refine ο.out _ _ ?_;clear ο;simp only[Act.put];refine dF ?_;refine cZ ?_;have h5:uz w w5 c g (.slice A S.length cap) v4 F ((S.take F).map bz).flatten :=
   uz.step (v:=.slice none 0 0) (n:=0) (xs:=[]) ⟨H3.out.1,H3.out.2.1,H3.out.2.2.1,Own.nil _ _ _,H3.out.2.2.2.1,by simp[Value.ownBlock]⟩ Hc.out H3.out.2.2.2.2 ((ζ.refl _ w3).drewN 1) (by simpa using jT) ag nO aF av
  have H5:=δ h5;clear h5 aF av iz aC dh jT ag nO cG;go_upto_region 6 with fail
  refine dB ?_;refine dK (S:=fun w'=>η w' c 93 #[.slice A S.length cap]∧η w' g 93 #[v4]) (T:=fun i=>i == 9) kR ?_;have aC:η w5.drew c 93 #[.slice A S.length cap]∧η w5.drew g 93 #[v4]:=⟨H5.out.1.drew,H5.out.2.2.1.drew⟩;refine Iv 0 ?_;simp only[Act.put,aa_,J2,jy];refine aQ 1 (fun w' hSw=>hSw.2.cell 0) ?_;refine ξ 2 ?_;refine aQ 3 (fun w' hSw=>hSw.1.cell 0) ?_;refine ξ 4 ?_;refine aQ 5 (fun w' hSw=>HW.out) ?_;refine aQ 6 (fun w' hSw=>ou.out.1 w') ?_;refine aY 7 (fun KK ο=>?_);refine pQ (by rfl) _ _ _ _ (by rfl) 55 i0 _ 2 32 underlying56 HI.out.1 HI.out.2.1 HI.out.2.2.1 HI.out.2.2.2 rfl v4 F _ (by rfl) H5.out.2.2.2.1.drew s2 (S.length - (F+1)) ((S.drop (F+1)).map bz).flatten (by rfl) (ou.out.2 _ H5.out.2.2.2.2.1.drew) (F8 _) (by have:=HN.out;unfold maxLen;omega) (oN HN.out) ?_;intro v8 w8 qC cC ry kC;have ij:η w8 c 93 #[.slice A S.length cap]∧η w8 g 93 #[v4]:=⟨aC.1.ε cC (fun e=>by have:=H5.out.2.2.2.2.2 _ e;have:=H3.out.2.2.2.2;omega),aC.2.ε cC (fun e=>absurd (H5.out.2.2.2.2.2 _ e) (J3 _))⟩
  refine ο.out _ _ ij ?_;clear ο;simp only[Act.put,jy];refine ξ 8 ?_;refine kO 9 (fun KK ο=>?_);rw[σ (show Region.wanted _ _=true by rfl)];refine mD _ _ _ rfl g 0 v8 rfl rfl _ _ ij.2 sM qC.one kR (fun w9 cW eC mT=>?_);refine ο.out _ _ ?_;clear ο;simp only[Act.put];refine dF ?_;refine cZ ?_;have h9:=uz.step H5.out Hc.out H3.out.2.2.2.2 ((ζ.refl _ w5).drewN 1) qC cC ry cW eC;have H9:=δ h9;clear h9 cW eC mT aC ij qC cC ry kC;go_wp2_with (first
   |(refine kW rfl 93 _ rfl g rfl _ #[v8] _ H9.out.2.2.1 underlying93 rfl kR ?_)
   |(refine ef 93 (c+1) #[v8] H9.out.2.1 (ot H9.out.2.2.2.1.one) ?_
     intro w10 mJ eT zC))
  have HX:=δ (aeF H9.out.2.2.2.1 Fi.out HN.out.2);refine cy (jx rfl _ _ (c+1) _ _ _ _ rfl mJ underlying93 rfl kR) rfl ⟨v8,rfl,?_,H9.out.2.2.2.2.1.then eT (fun q e=>.inr ?_),Or.inr fun q e=>?_⟩
  ·have:=HX.out.ε eT (fun q ht e=>by
    have e2:q=c+1:=e;subst e2;exact absurd (H9.out.2.1.ty.inj ht) dC)
   simpa using this.any
  ·have e2:q=c+1:=e
   have:=Hc.out;omega
  ·have:=H9.out.2.2.2.2.2 q e
   have:=H3.out.2.2.2.2;have:=Hc.out;omega
theorem au.keep {w0 w w':World} {t0:TypeId} {k0 k:Nat} {lv:Value} {cs0 cs:List (List Value)} {Z:Nat→Prop} (h0:au w0 t0 k0 lv cs0) (h:au w gd k lv cs) (hu:ζ Z w w') (hz:∀q,Z q→w0.heap.size≤q):au w' gd k lv cs:=by
 obtain⟨A0,aat,e0,-,-,h4⟩:=h0;obtain⟨A,cap,e1,e2,e3,g4⟩:=h;rw[e0] at e1;injection e1 with a1 a2 a3;refine⟨A,cap,by rw[e0,a1,a2,a3],e2,e3,fun hn=>?_⟩;obtain⟨b0,ako,akp,t0',fr0,f1,f2,-,-⟩:=h4 oM;obtain⟨b,off,cur,t',fr,g1,g2,g3,g5⟩:=g4 hn;rw[← a1,f1] at g1;injection g1 with g1;injection g1 with g1 g1';have hb:=(ng.1 f2).1;refine⟨b,off,cur,t',fr,by rw[← a1,f1,g1,g1'],(hu.block b (ng.1 g2).1 (fun hZ=>?_)).trans g2,g3,g5⟩;have:=hz b hZ;omega
theorem aeH {l:List cT} (hl:∀o ∈ l,o.path.length≤1000000):∀ {S:List ai},fX S→(∀q ∈ S,q.1.length≤1000000)→(∀q ∈ cJ S l,q.1.length≤1000000)∧(cJ S l).length≤S.length+l.length:=by
 induction l with
 | nil=>exact fun _ h=>⟨h,bQ _⟩
 | cons o r ih =>
   intro S hR h;show (∀q ∈ cJ (if o.kind=2 then qw o.path S else jm o.path o.value S) r,_)∧(cJ (if o.kind=2 then qw o.path S else jm o.path o.value S) r).length≤_;have ih:=@ih (fun x hx=>hl x (Uj _ hx)) (if o.kind=2 then qw o.path S else jm o.path o.value S) (by split;exact Oi hR;exact Bh hR) (by
    split
    ·exact fun q hq=>h q (yW.1 hq).1
    ·intro q hq
     rcases (zb hR q).1 hq with rfl | ⟨hq,-⟩
     ·exact hl o sM
     ·exact h q hq)
   refine⟨ih.1,iE ih.2 ?_⟩;rw[eS];split
   ·have:(qw o.path S).length≤S.length:=List.length_filter_le _ _
    omega
   ·have:=O_ o.path o.value S
    omega
theorem GQ {w w2 w3:World} {ty:TypeId} {k c:Nat} {lv dA:Value} {cs0 cs:List (List Value)} (h0:au w ty 2 lv cs0) (hT:au w2 gd k dA cs) (hl:dA=lv∨∀q,dA.ownBlock=some q→c+1<q) (hc:w.heap.size=c) (hU:ζ (fun q=>q=c∨q=c+1) w2 w3):au w3 gd k dA cs:=by
 rcases hl with rfl | hl
 ·exact h0.keep hT hU fun q e=>by omega
 ·exact hT.tg hU fun q hq _ e=>by have:=hl q hq;omega
def uA (w wr:World) (c:Nat) (lv er:Value) (S:List ai):Prop :=
 υ w wr∧η wr c 93 #[er]∧η wr (c+1) 93 #[.slice none 0 0]∧au wr gd 2 er (S.map bz)∧(er=lv∨∀q,er.ownBlock=some q→c+1<q)
theorem uA.step {w wr wa w2 w3:World} {ty:TypeId} {c:Nat} {lv er dA:Value} {S S2:List ai} {cs0:List (List Value)} (h0:au w ty 2 lv cs0) (h:uA w wr c lv er S) (hc:w.heap.size=c) (ha:υ wr wa) (lE:au w2 gd 2 dA (S2.map bz)) (π:υ wa w2) (hl:dA=er∨∀q,dA.ownBlock=some q→wa.heap.size≤q) (aA:η w3 c 93 #[dA]) (χ:ζ (· = c) w2 w3):uA w w3 c lv dA S2:=by
 obtain⟨h1,h2,h3,h4,h5⟩:=h;have h6:=(h3.ε ha (fun e=>e)).lt;have hl2:dA=lv∨∀q,dA.ownBlock=some q→c+1<q:=by
  rcases hl with rfl | hl
  ·exact h5
  ·exact .inr fun q hq=>by have:=hl q hq;omega
 refine⟨((h1.then ha φ).then π φ).then χ (fun q e=>.inr (by have e2:q=c:=e;omega)),aA,((h3.ε ha (fun e=>e)).ε π (fun e=>e)).ε χ (fun e=>by have e2:c+1=c:=e;omega),GQ h0 lE hl2 hc (χ.mono fun q (e:q=c)=>.inl (.inl e)),hl2⟩
theorem aau {P:Prop} (h:P:=by
 have aM:η w1 c 93 #[lv]:=by rw[← hw1,← Hc.out];exact(η.new w _ _).alloc _
 have oB:η w1 (c+1) 93 #[.slice none 0 0]:=by
  have:=η.new (w.alloc (.cells #[lv] 93)) 93 #[.slice none 0 0];rw[cM,Hc.out] at this;rw[← hw1];exact this
 have ax:υ w w1:=by rw[← hw1];exact((ζ.refl _ w).alloc _).alloc _
 exact⟨ax,aM,oB,(HT.out.still ax).any,.inl rfl⟩):P:=h
theorem agm {w:World} {ty JG:TypeId} {lv ov:Value} {S:List ai} {l:List cT} (hT:au w ty 2 lv (S.map bz)) (hs:∀q ∈ S,q.1.length≤1000000) (hS:S.length≤1000) (hR:fX S) (hO:au w JG 3 ov (l.map bU)) (iO:qh l) (hlo:l.length≤1000) :
 ς 201 #[.agg #[lv],ov] w fun e w'=>∃gK,e=ώ (.agg #[gK])∧au w' gd 2 gK ((cJ S l).map bz)∧υ w w'∧(gK=lv∨∀q,gK.ownBlock=some q→w.heap.size≤q):=by
 have hone:=hT.one;obtain⟨A,cap,b,off,rfl,hcap,hl,hA,hat⟩:=hO.open_;simp only[bp] at hcap hl hA ⊢;have hrow:∀W,υ w W→∀k (h:k<l.length),W.rangeAt b (off+k*3) (bU l[k]):=fun W hW k h=>hat W _ hW (fun _ _ e=>e) k (bU l[k]) (by rw[gu,bD h];rfl)
 have gD:∀k,k≤l.length→(∀q ∈ cJ S (l.take k),q.1.length≤1000000)∧(cJ S (l.take k)).length≤100000∧fX (cJ S (l.take k)):=fun k hk=>by
  have:=aeH (l:=l.take k) (fun o ho=>(iO o (JW ho)).1) hR hs;rw[fF] at this;exact⟨this.1,oM,VI hR _⟩
 have HT:=δ hT;have HF:=aD hrow gD iO hlo;obtain⟨c,hc⟩:=κ w.heap.size;have Hc:=δ hc;have HA:=δ hA;clear hs hS hR hO iO hlo hc hrow gD hat;go_enter func201,ntmps201
 go_upto_region 1 with fail
 rw[Hc.out];generalize hw1:World.alloc (World.alloc _ _) _=w1;have h1:uA w w1 c lv lv (cJ S (l.take 0)):=by
  exact aau
 have H1:=δ h1;clear h1 hw1 hT;go_wp2_with fail
 go_loopw [5] (fun i wr=>∃(k:Nat) (er:Value),k≤l.length∧i=ι (k:Int)∧uA w wr c lv er (cJ S (l.take k))) (fun i _=>l.length - (intOf i).toNat)
 case atStart=>exact⟨0,lv,oM,rfl,H1.out⟩
 case round =>
  obtain⟨k,er,hk,rfl,hD⟩:=hrel;have HD:=τ hD hk;have hwk:IntKind.i64.wrap ((k:Int)+1)=(k:Int)+1:=bX _ oM;clear hD;by_cases hlt:k<l.length
  ·obtain rfl:=hA oM
   have j1:(k:Int)<(l.length:Int):=oM;obtain⟨o,ho⟩:=κ (l[k]);have iO:=HF.out.2.2.1 _ (eM hlt);rw[ho] at iO;have hstep:=Wo (S:=S) hlt;rw[ho] at hstep;obtain⟨P,hP⟩:=κ (str o.path);obtain⟨V,hV⟩:∃P,str o.value=P:=⟨_,rfl⟩;obtain⟨K,hK⟩:∃K:Int,(o.kind.toNat:Int)=K:=⟨_,rfl⟩;have hrw:∀W,υ w W→W.rangeAt b (off+k*3) [ϋ K,.string P,.string V]:=fun W hW=>by
    have:=HF.out.1 W hW k hlt;rw[ho] at this;unfold bU at this;rwa [hP,hV,hK] at this
   have lB:P.data.toList=o.path:=by rw[← hP,bS]
   have kz:V.data.toList=o.value:=by rw[← hV,bS]
   have iM:P.size≤1000000:=by rw[← hP,bf];exact iO.1
   obtain⟨T,hTk⟩:=κ (cJ S (l.take k));have tM:=HF.out.2.1 k hk;have ck:wr.cell? ⟨b,off+k*3,none⟩=some (ϋ K):=hrw wr HD.out.1.1 0 _ rfl;have hD:=HD.out.1;rw[hTk] at hstep hD tM;have HX:=o_ hrw lB kz iM hstep tM hlt;have m_:=δ hD;clear iO hstep hrw lB kz iM hTk tM hP hV HD hD;by_cases tu:o.kind=2
   ·have Fj:K=2:=by rw[← hK,tu];rfl
    subst Fj;have hst:=HX.out.2.2.2.2.1;rw[σ tu] at hst;have fT:=δ hst;clear hst tu hK ho;go_upto_region 5 with fail
    refine dB ?_;refine dK (S:=fun w'=>η w' c 93 #[er]∧w'.cell? ⟨b,off+k*3+1,none⟩=some (.string P)) (T:=fun i=>i == 7) kR ?_;have aC:η wr.drew c 93 #[er]∧wr.drew.cell? ⟨b,off+k*3+1,none⟩=some (.string P):=⟨m_.out.2.1.drew,HX.out.1 _ m_.out.1.drew 1 _ rfl⟩;refine iq 0 (.agg #[er]) (kX rfl (by rfl) _ _ rfl c (by rfl) _ _ _ (fun w' hSw=>hSw.1) underlying93 rfl kR) ?_;refine ξ 1 ?_;refine ξ 2 ?_;refine ξ 3 ?_;refine ξ 4 ?_;refine aQ 5 (fun w' hSw=>hSw.2) ?_;refine aY 6 (fun KK ο=>?_);go_simp
    refine(aeG (m_.out.2.2.2.1.still (ζ.refl _ wr).drew) HX.out.2.2.2.2.2.1.1 HX.out.2.2.2.2.2.1.2.1 HX.out.2.2.2.2.2.1.2.2 P HX.out.2.2.2.1).mono ?_;rintro e w2 ⟨dA,rfl,lE,π,hl2⟩;have a_:η w2 c 93 #[er]∧w2.cell? ⟨b,off+k*3+1,none⟩=some (.string P):=⟨aC.1.ε π (fun e=>e),HX.out.1 _ (m_.out.1.drew.then π φ) 1 _ rfl⟩;refine ο.out _ _ a_ ?_;clear ο;refine kO 7 (fun KK ο=>?_);rw[σ (show Region.wanted _ _=true by rfl)];refine FI _ _ _ rfl c #[dA] rfl rfl _ _ a_.1 rfl (ot lE.one) kR (fun w3 aA χ fK=>?_);refine ο.out _ _ ?_;clear ο;simp only[Act.put];refine dF ?_;refine cZ ?_;have pF:=uA.step HT.out m_.out Hc.out ((ζ.refl _ wr).drewN 1) lE π hl2 aA χ;rw[HX.out.2.1,← fT.out] at pF;have H3:=δ pF;clear pF aA χ lE π hl2;go_wp2_with fail
    go_roundw
    case rel=>exact⟨k+1,dA,oM,sM,H3.out⟩
    case measure=>simp[intOf]<;>omega
   ·have Fj:(K == 2)=false:=by
     rw[eV,← hK];intro e;exact tu (ud.1 (show o.kind.toNat=2 by omega))
    have hst:=HX.out.2.2.2.2.1;rw[ν tu] at hst;have fT:=δ hst;clear hst tu hK ho;go_upto_region 6 with fail
    refine dB ?_;refine dK (S:=fun w'=>η w' c 93 #[er]∧w'.cell? ⟨b,off+k*3+1,none⟩=some (.string P)∧w'.cell? ⟨b,off+k*3+2,none⟩=some (.string V)) (T:=fun i=>i == 12) kR ?_;have aC:η wr.drew c 93 #[er]∧wr.drew.cell? ⟨b,off+k*3+1,none⟩=some (.string P)∧wr.drew.cell? ⟨b,off+k*3+2,none⟩=some (.string V):=⟨m_.out.2.1.drew,HX.out.1 _ m_.out.1.drew 1 _ rfl,HX.out.1 _ m_.out.1.drew 2 _ rfl⟩;refine iq 0 (.agg #[er]) (kX rfl (by rfl) _ _ rfl c (by rfl) _ _ _ (fun w' hSw=>hSw.1) underlying93 rfl kR) ?_;refine ξ 1 ?_;refine ξ 2 ?_;refine ξ 3 ?_;refine ξ 4 ?_;refine aQ 5 (fun w' hSw=>hSw.2.1) ?_;refine ξ 6 ?_;refine ξ 7 ?_;refine ξ 8 ?_;refine ξ 9 ?_;refine aQ 10 (fun w' hSw=>hSw.2.2) ?_;refine aY 11 (fun KK ο=>?_);go_simp
    refine(XB (m_.out.2.2.2.1.still (ζ.refl _ wr).drew) HX.out.2.2.2.2.2.1.1 HX.out.2.2.2.2.2.1.2.1 P V HX.out.2.2.2.1).mono ?_;rintro e w2 ⟨dA,rfl,aav,π,GZ⟩;have lE:=aav.any;have hl2:dA=er∨∀q,dA.ownBlock=some q→wr.drew.heap.size≤q:=.inr GZ;have a_:η w2 c 93 #[er]∧w2.cell? ⟨b,off+k*3+1,none⟩=some (.string P)∧w2.cell? ⟨b,off+k*3+2,none⟩=some (.string V):=⟨aC.1.ε π (fun e=>e),HX.out.1 _ (m_.out.1.drew.then π φ) 1 _ rfl,HX.out.1 _ (m_.out.1.drew.then π φ) 2 _ rfl⟩;refine ο.out _ _ a_ ?_;clear ο aav GZ;refine kO 12 (fun KK ο=>?_);rw[σ (show Region.wanted _ _=true by rfl)];refine FI _ _ _ rfl c #[dA] rfl rfl _ _ a_.1 rfl (ot lE.one) kR (fun w3 aA χ fK=>?_);refine ο.out _ _ ?_;clear ο;simp only[Act.put];refine dF ?_;refine cZ ?_;have pF:=uA.step HT.out m_.out Hc.out ((ζ.refl _ wr).drewN 1) lE π hl2 aA χ;rw[HX.out.2.1,HX.out.2.2.1,← fT.out] at pF;have H3:=δ pF;clear pF aA χ lE π hl2;go_wp2_with fail
    go_roundw
    case rel=>exact⟨k+1,dA,oM,sM,H3.out⟩
    case measure=>simp[intOf]<;>omega
  ·obtain rfl:k=l.length:=oM
   have j1:¬(l.length:Int)<(l.length:Int):=oM;have hD:=HD.out.1;rw[rO] at hD;have m_:=τ hD (ot hD.2.2.2.1.one);clear hD HD;go_wp2_with (first
    |(refine kW rfl 93 _ rfl c rfl _ #[er] _ m_.out.1.2.1 underlying93 rfl kR ?_)
    |(refine ef 93 (c+1) #[er] m_.out.1.2.2.1 m_.out.2 ?_
      intro w3 aA χ fK))
   refine cy (jx rfl _ _ (c+1) _ _ _ _ rfl aA underlying93 rfl kR) rfl ⟨er,rfl,GQ HT.out m_.out.1.2.2.2.1 m_.out.1.2.2.2.2 Hc.out (χ.mono fun q (e:q=c+1)=>.inl (.inr e)),m_.out.1.1.then χ (fun q e=>.inr (by have e2:q=c+1:=e;have:=Hc.out;omega)),m_.out.1.2.2.2.2.imp id fun h q e=>by have:=h q e;have:=Hc.out;omega⟩
theorem ahr (K:Int) (P V:ByteArray) (w:World) :
 ς 200 #[.agg #[ϋ K,.string P,.string V]] w fun e w'=>e=ώ (ι (if 32<V.size then 3 else if K=2∧V.size≠0 then 1 else 0))∧υ w w':=by
 obtain⟨E,hE⟩:∃E:Int,(if 32<V.size then 3 else if K=2∧V.size≠0 then 1 else 0)=E:=⟨_,rfl⟩;rw[hE];have HE:=δ hE;clear hE;go_enter func200,ntmps200
 go_upto_region 1 with fail
 obtain⟨q,hq⟩:=κ w.heap.size;rw[hq];generalize cF:World.alloc _ _=w5;have aF:η w5 q 32 #[ϋ K,.string P,.string V]:=by rw[← cF,← hq];exact η.new w _ _
 have av:υ w w5:=by rw[← cF];exact(ζ.refl _ w).alloc _
 obtain⟨c0,c1,c2⟩:=aF.fP;have de:=δ av;clear av aF cF hq;by_cases h1:(32:Int)<(V.size:Int)
 ·obtain rfl:(3:Int)=E:=by rw[← HE.out,σ oM]
  go_wp2_with fail
  go_ret
  exact⟨rfl,de.out⟩
 ·by_cases h2:K=2
  ·subst h2
   by_cases h3:V.size=0
   ·obtain rfl:(0:Int)=E:=by rw[← HE.out,ν oM,ν (fun e=>e.2 h3)]
    have g3:V=ByteArray.empty:=by
     apply ByteArray.ext
     apply aaO
     exact h3
    subst g3;clear h3 h1;go_wp2_with fail
    go_ret
    exact⟨rfl,de.out⟩
   ·obtain rfl:(1:Int)=E:=by rw[← HE.out,ν oM,σ ⟨rfl,h3⟩]
    have g4:(!V.toList.isEmpty)=true:=by
     rw[y7];have:V.data.toList≠[]:=fun e=>h3 (by have h:=aJ List.length e;simpa using h)
     simpa using this
    clear h3;go_wp2_with fail
    go_ret
    exact⟨rfl,de.out⟩
  ·obtain rfl:(0:Int)=E:=by rw[← HE.out,ν oM,ν (fun e=>h2 e.1)]
   have h4:(K == 2)=false:=by rw[eV];exact h2
   go_wp2_with fail
   go_ret
   exact⟨rfl,de.out⟩
theorem VX {w:World} {ty:TypeId} {ov:Value} {i ep:Int} {l:List cT} (hO:au w ty 3 ov (l.map bU)) (hs:qh l) :
 ς 152 #[.agg (lP i ep ov)] w fun e w'=>e=ώ (ι (d_ i ep l))∧υ w w':=by
 obtain⟨A,cap,b,off,rfl,hcap,hl,hA,hat⟩:=hO.open_;simp only[bp] at hcap hl hA ⊢;have hrow:∀W,υ w W→uw W b off l:=fun W hW k h=>hat W _ hW (fun _ _ e=>e) k (bU l[k]) (by rw[gu,bD h];rfl)
 obtain⟨E,hE⟩:=κ (d_ i ep l);rw[hE];unfold d_ at hE;have HE:=δ hE;have HF:=τ hrow hs;obtain⟨q,hq⟩:=κ w.heap.size;have Hq:=δ hq;clear hE hrow hs hat hq hO;unfold lP;go_enter func152,ntmps152
 go_upto_region 1 with fail
 rw[Hq.out];generalize cF:World.alloc _ _=w5;have aF:η w5 q 35 #[ι i,ι ep,.slice A l.length cap]:=by rw[← cF,← Hq.out];exact η.new w _ _
 have av:υ w w5:=by rw[← cF];exact(ζ.refl _ w).alloc _
 obtain⟨c0,c1,c2⟩:=aF.fP;have de:=τ av aF;clear av aF cF;by_cases h1:i<1
 ·obtain rfl:(1:Int)=E:=by rw[← HE.out,σ (.inl h1)]
  go_wp2_with fail
  go_ret
  exact⟨rfl,de.out.1⟩
 by_cases h2:(4611686018427387904:Int)<i
 ·obtain rfl:(1:Int)=E:=by rw[← HE.out,σ (.inr (.inl h2))]
  go_wp2_with fail
  go_ret
  exact⟨rfl,de.out.1⟩
 by_cases h3:ep<1
 ·obtain rfl:(1:Int)=E:=by rw[← HE.out,σ (.inr (.inr h3))]
  go_wp2_with fail
  go_ret
  exact⟨rfl,de.out.1⟩
 by_cases h4:(4:Int)<(l.length:Int)
 ·obtain rfl:(3:Int)=E:=by rw[← HE.out,ν oM,σ oM]
  go_wp2_with fail
  go_ret
  exact⟨rfl,de.out.1⟩
 have AH:Hid (oQ l=E):=δ (by rw[← HE.out,ν oM,ν oM]);clear HE;go_upto_region 5 with fail
 clear h1 h2 h3 c0 c1 c2;go_wp2_with fail
 go_loopw [3,4,5,6,7] (fun i _ _ _ _ wr=>∃k:Nat,k≤l.length∧i=ι (k:Int)∧υ w5 wr∧oQ (l.drop k)=E) (fun i _ _ _ _ _=>l.length - (intOf i).toNat)
 case atStart=>exact⟨0,oM,rfl,ζ.refl _ _,AH.out⟩
 case round =>
  obtain⟨k,hk,rfl,hU,hE⟩:=hrel;have HU:=τ hU hk;have hwk:IntKind.i64.wrap ((k:Int)+1)=(k:Int)+1:=bX _ oM;have c2:wr.cell? ⟨q,2,none⟩=some (.slice A l.length cap):=(de.out.2.ε hU (fun e=>e)).cell 2;clear hU;by_cases hlt:k<l.length
  ·obtain rfl:=hA oM
   have j1:(k:Int)<(l.length:Int):=oM;obtain⟨o,ho⟩:=κ (l[k]);have iO:=HF.out.2 _ (eM hlt);rw[UD hlt,ho] at hE;rw[ho] at iO;obtain⟨P,hP⟩:=κ (str o.path);obtain⟨V,hV⟩:∃P,str o.value=P:=⟨_,rfl⟩;obtain⟨K,hK⟩:∃K:Int,(o.kind.toNat:Int)=K:=⟨_,rfl⟩;have hrw:∀W,υ w5 W→W.rangeAt b (off+k*3) [ϋ K,.string P,.string V]:=fun W hW=>by
    have:=HF.out.1 W (de.out.1.then hW φ) k hlt;rw[ho] at this;unfold bU at this;rwa [hP,hV,hK] at this
   have lB:P.data.toList=o.path:=by rw[← hP,bS]
   have iM:P.size≤1000000:=by rw[← hP,bf];exact iO.1
   have kz:V.size=o.value.length:=by rw[← hV,bf]
   have hcut:=fun W=>Yp P iM W
   unfold Ev at hcut;obtain⟨a,ha⟩:=κ (str (mI P.data.toList).1);obtain⟨b',hb'⟩:∃a,str (mI P.data.toList).2.1=a:=⟨_,rfl⟩;obtain⟨B,hB⟩:∃a,(mI P.data.toList).2.2=a:=⟨_,rfl⟩;simp only[ha,hb',hB] at hcut;rw[lB] at hB;have aB:jg o.path=B:=hB;have e1:iK o=if K≠1∧K≠2 then 10 else if B=false then 20 else if 32<V.size then 3 else if K=2∧V.size≠0 then 1 else 0:=by
    have k1:K=1↔o.kind=1:=by rw[← hK];exact⟨fun e=>ud.1 (show o.kind.toNat=1 by omega),fun e=>by rw[e];rfl⟩
    have k2:K=2↔o.kind=2:=by rw[← hK];exact⟨fun e=>ud.1 (show o.kind.toNat=2 by omega),fun e=>by rw[e];rfl⟩
    unfold iK;simp only[ne_eq,k1,k2,aB,kz,JV]
   obtain⟨E1,lH⟩:=κ (iK o);rw[lH] at e1 hE;have Tu:wr.cell? ⟨b,off+k*3,none⟩=some (ϋ K):=hrw wr HU.out.1 0 _ rfl;have Ni:wr.cell? ⟨b,off+k*3+1,none⟩=some (.string P):=hrw wr HU.out.1 1 _ rfl;have HX:=aj hrw e1 hE;have JH:=δ hcut;have hv:=fun W=>ahr K P V W
   obtain⟨F,hF⟩:∃F:Int,(if 32<V.size then 3 else if K=2∧V.size≠0 then 1 else 0)=F:=⟨_,rfl⟩;simp only[hF] at hv;have HFF:=δ hF;have HV:=δ hv;clear hF hv iO hrw lB iM kz hcut ha hb' hB aB e1 lH hE ho hP hV hK;by_cases Ew:K≠1∧K≠2
   ·have k1:(K != 1)=true:=by rw[jZ];exact Ew.1
    have k2:(K != 2)=true:=by rw[jZ];exact Ew.2
    obtain rfl:(10:Int)=E:=by
     have h1:=HX.out.2.1;rw[σ Ew] at h1;have h2:=HX.out.2.2;rw[h1,σ dC] at h2;exact h2
    clear Ew;go_wp2_with fail
    go_ret
    exact⟨rfl,de.out.1.then HU.out.1 φ⟩
   have MT:E1=if B=false then 20 else F:=by rw[HX.out.2.1,ν Ew,HFF.out]
   have Io:=δ MT;clear MT;have LG:K=1∨K=2:=oM;clear Ew;rcases LG with rfl | rfl
   all_goals
    cases B
    ·obtain rfl:(20:Int)=E:=by
      have h1:=Io.out;rw[σ rfl] at h1;have h2:=HX.out.2.2;rw[h1,σ dC] at h2;exact h2
     go_wp2_with (first
      |(go_at_call 199
        refine(JH.out _).mono ?_;rintro e w6 ⟨rfl,az⟩;have H6:=δ (HU.out.1.then az φ);clear az))
     go_ret
     exact⟨rfl,de.out.1.then H6.out φ⟩
    ·obtain rfl:E1=F:=by rw[Io.out,ν sM]
     clear Io;go_upto_region 13 with (first
      |(go_at_call 199
        refine(JH.out _).mono ?_;rintro e w6 ⟨rfl,az⟩;have qx:=HU.out.1.then az φ;have c26:w6.cell? ⟨q,2,none⟩=some (.slice (some ⟨b,off,none⟩) l.length cap):=(de.out.2.ε qx (fun e=>e)).cell 2;have H6:=δ qx;clear az qx c2 Tu Ni))
     go_upto_region 14 with (first
      |(refine uc rfl _ _ rfl b (off+k*3) rfl _ _ (HX.out.1 _ H6.out) underlying32 rfl kR ?_)
      |(go_at_call 200
        refine(HV.out _).mono ?_;rintro e w7 ⟨rfl,bK⟩;have H7:=δ (H6.out.then bK φ);clear bK))
     by_cases h0:E1=0
     ·subst h0
      have yg:Hid (oQ (l.drop (k+1))=E):=δ (by have:=HX.out.2.2;simpa using this)
      go_wp2_with fail
      go_roundw
      case rel=>exact⟨k+1,oM,sM,H7.out,yg.out⟩
      case measure=>simp[intOf]<;>omega
     ·have h0':(E1 != 0)=true:=by rw[jZ];exact h0
      obtain rfl:E1=E:=by have:=HX.out.2.2;rwa [σ h0] at this
      go_wp2_with fail
      go_ret
      exact⟨rfl,de.out.1.then H7.out φ⟩
  ·obtain rfl:E=0:=by rw[← hE,pN oM];rfl
   obtain rfl:k=l.length:=oM;clear hE;go_wp2_with fail
   go_ret
   exact⟨rfl,de.out.1.then HU.out.1 φ⟩
theorem uA.still {w wr wa:World} {c:Nat} {lv er:Value} {S:List ai} (h:uA w wr c lv er S) (ha:υ wr wa):uA w wa c lv er S :=
 ⟨h.1.then ha φ,h.2.1.ε ha (fun e=>e),h.2.2.1.ε ha (fun e=>e),h.2.2.2.1.still ha,h.2.2.2.2⟩
theorem abS {i e:Int} {l:List cT} (h:d_ i e l=0):l.length≤4:=(sP h).2.2.2.1
theorem ail {w:World} {ty JG:TypeId} {lv ov:Value} {S:List ai} {l:List cT} (hT:au w ty 2 lv (S.map bz)) (hs:∀q ∈ S,q.1.length≤1000000) (hS:S.length≤1000) (hR:fX S) (hO:au w JG 3 ov (l.map bU)) (iO:qh l) :
 ς 153 #[.agg #[lv],ov] w fun e w'=>∃gK,e=ώ (.tuple #[.agg #[gK],ι (fW S l)])∧au w' gd 2 gK ((if fW S l=0 then cJ S l else S).map bz)∧υ w w'∧(gK=lv∨∀q,gK.ownBlock=some q→w.heap.size≤q):=by
 have hone:=hT.one;have eE:=fun W (hW:υ w W)=>VX (i:=1) (ep:=1) (hO.still hW) iO
 have jF:=fun (h:d_ 1 1 l=0) W (hTW:au W gd 2 lv (S.map bz)) (hW:υ w W)=>agm hTW hs hS hR (hO.still hW) iO (oN (abS h))
 obtain⟨A,cap,b,off,rfl,-,-,-,-⟩:=hO.open_;obtain⟨n,hn⟩:=κ (l.map bU).length;rw[hn] at eE jF ⊢;obtain⟨E,hE⟩:=κ (d_ 1 1 l);have hD:fW S l=if E≠0 then E else if 48<(cJ S l).length then 6 else 0:=by unfold fW;rw[hE]
 rw[hE] at eE jF;obtain⟨D,Fl⟩:=κ (fW S l);rw[Fl] at hD ⊢;obtain⟨T,wI⟩:=κ (cJ S l);rw[wI] at jF hD ⊢;have HT:=δ hT;have HF:=aj eE jF hD;have fR:=δ (ot hone);obtain⟨c,hc⟩:=κ w.heap.size;have Hc:=δ hc;clear hs hS hR hO iO hc eE jF hD hE Fl wI hn hone;go_enter func153,ntmps153
 go_upto_region 1 with fail
 rw[Hc.out];generalize hw1:World.alloc (World.alloc _ _) _=w1;have h1:uA w w1 c lv lv S:=by
  exact aau
 have H1:=δ h1;clear h1 hw1 hT;go_upto_region 2 with (first
  |(refine qf rfl _ _ rfl [(0,ι 1),(1,ι 1),(2,.slice A n cap)] _ (by first| rfl | kernel_rfl) (OQ _ _ _) ?_)
  |(go_at_call 152
    refine(HF.out.1 _ H1.out.1).mono ?_;rintro e w2 ⟨rfl,π⟩;have H2:=δ (H1.out.still π);clear π))
 by_cases hE:E=0
 ·subst hE
  go_upto_region 5 with (first
   |(refine kW rfl 93 _ rfl c rfl _ #[lv] _ H2.out.2.1 underlying93 rfl kR ?_)
   |(go_at_call 201
     refine(HF.out.2.1 rfl _ H2.out.2.2.2.1 H2.out.1).mono ?_;rintro e w3 ⟨cD,rfl,mz,χ,fI⟩;have Tv:=H2.out.still χ;have nG:=ot mz.one)
   |(refine ef 93 w3.heap.size #[cD] (η.new w3 _ _) nG ?_
     intro w5 aF av iz))
  obtain⟨g,hg⟩:=κ w3.heap.size;rw[hg] at aF av ⊢;have eR:c+1<g:=by have:=Tv.2.2.1.lt;omega
  have fS:υ w3 w5:=((ζ.refl _ w3).alloc _).then av (fun q e=>.inr (by have e2:q=g:=e;omega));have aaw:cD=lv∨∀q,cD.ownBlock=some q→c+1<q:=fI.imp id fun h q e=>by have:=h q e;have:=H2.out.2.2.1.lt;omega
  have H5:=gU (Tv.still fS) aF (mz.still fS) aaw eR nG;clear Tv fS aaw aF av iz hg eR χ fI nG;obtain⟨A3,zx,b3,akq,rfl,-,-,-,-⟩:=mz.open_;rw[bp] at H5 ⊢;have c5:w5.cell? ⟨g,0,none⟩=some (.slice A3 T.length zx):=H5.out.2.1.cell 0;have hD:=HF.out.2.2;simp only[ne_eq,not_true_eq_false,lK] at hD;clear mz;by_cases h48:(48:Int)<(T.length:Int)
  ·rw[σ oM] at hD
   subst hD;go_wp2_with (first
    |(refine kW rfl 93 _ rfl c rfl _ #[lv] _ H5.out.1.2.1 underlying93 rfl kR ?_)
    |(refine ef 93 (c+1) #[lv] H5.out.1.2.2.1 fR.out ?_
      intro w6 cI az iB))
   refine cy (iR rfl _ _ (c+1) _ _ _ _ rfl cI underlying93 rfl kR _ rfl) rfl ⟨lv,rfl,?_,H5.out.1.1.then az (fun q e=>.inr (by have e2:q=c+1:=e;have:=Hc.out;omega)),.inl rfl⟩;have:=GQ HT.out H5.out.1.2.2.2.1 (.inl rfl) Hc.out (az.mono fun q (e:q=c+1)=>.inl (.inr e));simpa using this
  ·rw[ν oM] at hD
   subst hD;go_wp2_with (first
    |(refine kW rfl 93 _ rfl g rfl _ #[.slice A3 T.length zx] _ H5.out.2.1 underlying93 rfl kR ?_)
    |(refine ef 93 (c+1) #[.slice A3 T.length zx] H5.out.1.2.2.1 H5.out.2.2.2.2.2 ?_
      intro w6 cI az iB))
   refine cy (iR rfl _ _ (c+1) _ _ _ _ rfl cI underlying93 rfl kR _ rfl) rfl ⟨.slice A3 T.length zx,rfl,?_,H5.out.1.1.then az (fun q e=>.inr (by have e2:q=c+1:=e;have:=Hc.out;omega)),H5.out.2.2.2.1.imp id fun h q e=>by have:=h q e;have:=Hc.out;omega⟩;have:=GQ HT.out H5.out.2.2.1 H5.out.2.2.2.1 Hc.out (az.mono fun q (e:q=c+1)=>.inl (.inr e));simpa using this
 ·have hE':(E != 0)=true:=by rw[jZ];exact hE
  obtain rfl:E=D:=by have:=HF.out.2.2;rw[σ hE] at this;exact this.symm
  go_wp2_with (first
   |(refine kW rfl 93 _ rfl c rfl _ #[lv] _ H2.out.2.1 underlying93 rfl kR ?_)
   |(refine ef 93 (c+1) #[lv] H2.out.2.2.1 fR.out ?_
     intro w3 aA χ fK))
  refine cy (iR rfl _ _ (c+1) _ _ _ _ rfl aA underlying93 rfl kR _ rfl) rfl ⟨lv,rfl,?_,H2.out.1.then χ (fun q e=>.inr (by have e2:q=c+1:=e;have:=Hc.out;omega)),.inl rfl⟩;have:=GQ HT.out H2.out.2.2.2.1 (.inl rfl) Hc.out (χ.mono fun q (e:q=c+1)=>.inl (.inr e));simpa [hE] using this
def ku (a b c:Int) (mv:Value) (S:ByteArray) (lv:Value) (at_ ep:Int) (rv:Value) (pr ky:Int):Array Value:=#[ι a,ι b,ι c,mv,.string S,lv,ι at_,ι ep,rv,ι pr,ι ky]
theorem uo {a b c:Int} {mv:Value} {S:ByteArray} {lv:Value} {at_ ep:Int} {rv:Value} {pr ky:Int} (h1:mv.oneCell'=true) (h2:lv.oneCell'=true) (h3:rv.oneCell'=true):(ku a b c mv S lv at_ ep rv pr ky).all (·.oneCell')=true:=by
 simp only[ku,J7,rN,Bb,h1,h2,h3,y6];rfl
theorem Ys (w:World) (C Z:Array Value) {c:Nat} (hc:w.heap.size=c):η ((w.alloc (.cells C 95)).alloc (.cells Z 95)) c 95 C∧η ((w.alloc (.cells C 95)).alloc (.cells Z 95)) (c+1) 95 Z∧υ w ((w.alloc (.cells C 95)).alloc (.cells Z 95)):=by
 refine⟨by rw[← hc];exact(η.new w _ _).alloc _,?_,((ζ.refl _ w).alloc _).alloc _⟩;have:=η.new (w.alloc (.cells C 95)) 95 Z;rw[cM,hc] at this;exact this
theorem Wy {w:World} {a b d:Int} {mv:Value} {S:ByteArray} {lv:Value} {at_ ep:Int} {rv:Value} {pr ky:Int} (h1:mv.oneCell'=true) (h2:lv.oneCell'=true) :
 ς 52 #[.agg (ku a b d mv S lv at_ ep rv pr ky)] w fun e w'=>e=ώ (.agg (ku a b d mv S lv at_ ep (.slice none 0 0) ep ky))∧υ w w':=by
 have fR:=δ (uo (a:=a) (b:=b) (c:=d) (S:=S) (at_:=at_) (ep:=ep) (rv:=.slice none 0 0) (pr:=ep) (ky:=ky) h1 h2 rfl);obtain⟨c,hc⟩:=κ w.heap.size;have Hc:=δ hc;clear hc h1 h2;unfold ku at fR ⊢;go_enter func52,ntmps52
 go_upto_region 1 with fail
 rw[Hc.out];generalize hw1:World.alloc (World.alloc _ _) _=w1;have mS:=Ys w #[ι a,ι b,ι d,mv,.string S,lv,ι at_,ι ep,rv,ι pr,ι ky] #[ι 0,ι 0,ι 0,.slice none 0 0,.string ⟨#[]⟩,.slice none 0 0,ι 0,ι 0,.slice none 0 0,ι 0,ι 0] Hc.out;rw[hw1] at mS;obtain⟨aM,pK,ax⟩:=mS;have H1:=τ pK ax;clear hw1 pK ax;go_upto_region 2 with (first
  |(refine gw rfl 38 _ _ rfl c 8 (.slice none 0 0) rfl rfl _ _ aM sM rfl kR ?_
    intro w2 aB π aT))
 rw[show (#[ι a,ι b,ι d,mv,.string S,lv,ι at_,ι ep,rv,ι pr,ι ky]:Array Value).setIfInBounds 8 (.slice none 0 0)=#[ι a,ι b,ι d,mv,.string S,lv,ι at_,ι ep,.slice none 0 0,ι pr,ι ky] from rfl] at aB;have zN:υ w w2:=H1.out.2.then π (fun q e=>.inr (by have e2:q=c:=e;have:=Hc.out;omega));have H2:=τ (H1.out.1.ε π (fun e=>by have e2:c+1=c:=e;omega)) zN;have c7:w2.cell? ⟨c,7,none⟩=some (ι ep):=aB.cell 7;clear π aT zN aM;go_upto_region 3 with (first
  |(refine gw rfl 3 _ _ rfl c 9 (ι ep) rfl rfl _ _ aB sM rfl kR ?_
    intro w3 aA χ fK))
 rw[show (#[ι a,ι b,ι d,mv,.string S,lv,ι at_,ι ep,.slice none 0 0,ι pr,ι ky]:Array Value).setIfInBounds 9 (ι ep)=#[ι a,ι b,ι d,mv,.string S,lv,ι at_,ι ep,.slice none 0 0,ι ep,ι ky] from rfl] at aA;have yc:υ w w3:=H2.out.2.then χ (fun q e=>.inr (by have e2:q=c:=e;have:=Hc.out;omega));have H3:=aj (H2.out.1.ε χ (fun e=>by have e2:c+1=c:=e;omega)) yc aA;clear χ fK yc aB c7 aA;go_wp2_with (first
  |(refine fV 95 c H3.out.2.2 underlying95 ?_)
  |(refine ef 95 (c+1) #[ι a,ι b,ι d,mv,.string S,lv,ι at_,ι ep,.slice none 0 0,ι ep,ι ky] H3.out.1 fR.out ?_
    intro w4 aE ag cG))
 exact cy (jx rfl _ _ (c+1) _ _ _ _ rfl aE underlying95 rfl kR) rfl ⟨rfl,H3.out.2.1.then ag (fun q e=>.inr (by have e2:q=c+1:=e;have:=Hc.out;omega))⟩
theorem agn {w:World} {a b d:Int} {mv:Value} {S:ByteArray} {lv:Value} {at_ ep:Int} {rv:Value} {pr ky:Int} (h1:mv.oneCell'=true) (h2:lv.oneCell'=true) (h3:rv.oneCell'=true) (I6:0≤ky) :
 ς 96 #[.agg (ku a b d mv S lv at_ ep rv pr ky)] w fun e w'=>e=ώ (.tuple #[.agg (ku a b d mv S lv at_ ep rv pr (if ky<1048576 then ky+1 else ky)),ι (if ky<1048576 then 0 else 6)])∧υ w w':=by
 have fR:=τ (uo (a:=a) (b:=b) (c:=d) (S:=S) (at_:=at_) (ep:=ep) (pr:=pr) (ky:=ky) h1 h2 h3) (uo (a:=a) (b:=b) (c:=d) (S:=S) (at_:=at_) (ep:=ep) (pr:=pr) (ky:=ky+1) h1 h2 h3);obtain⟨c,hc⟩:=κ w.heap.size;have Hc:=δ hc;obtain⟨K2,Fj⟩:=κ (if ky<1048576 then ky+1 else ky);obtain⟨E,hE⟩:∃E:Int,(if ky<1048576 then 0 else 6)=E:=⟨_,rfl⟩;rw[Fj,hE];have HE:=τ Fj hE;clear hc h1 h2 h3 Fj hE;unfold ku at fR ⊢;go_enter func96,ntmps96
 go_upto_region 1 with fail
 rw[Hc.out];generalize hw1:World.alloc (World.alloc _ _) _=w1;have mS:=Ys w #[ι a,ι b,ι d,mv,.string S,lv,ι at_,ι ep,rv,ι pr,ι ky] #[ι 0,ι 0,ι 0,.slice none 0 0,.string ⟨#[]⟩,.slice none 0 0,ι 0,ι 0,.slice none 0 0,ι 0,ι 0] Hc.out;rw[hw1] at mS;obtain⟨aM,pK,ax⟩:=mS;have H1:=aj pK ax aM;have c10:w1.cell? ⟨c,10,none⟩=some (ι ky):=aM.cell 10;clear hw1 pK ax;by_cases hk:ky<1048576
 ·have e1:=HE.out.1
  have e2:=HE.out.2;rw[σ hk] at e1 e2;subst e1 e2;have hwk:IntKind.i64.wrap (ky+1)=ky+1:=bX _ oM;go_upto_region 4 with (first
   |(refine gw rfl 3 _ _ rfl c 10 (ι (ky+1)) rfl rfl _ _ aM sM rfl kR ?_
     intro w2 aB π aT))
  rw[show (#[ι a,ι b,ι d,mv,.string S,lv,ι at_,ι ep,rv,ι pr,ι ky]:Array Value).setIfInBounds 10 (ι (ky+1))=#[ι a,ι b,ι d,mv,.string S,lv,ι at_,ι ep,rv,ι pr,ι (ky+1)] from rfl] at aB;have zN:υ w w2:=H1.out.2.1.then π (fun q e=>.inr (by have e2:q=c:=e;have:=Hc.out;omega));have H2:=aj (H1.out.1.ε π (fun e=>by have e2:c+1=c:=e;omega)) zN aB;clear π aT zN aM aB;go_wp2_with (first
   |(refine fV 95 c H2.out.2.2 underlying95 ?_)
   |(refine ef 95 (c+1) #[ι a,ι b,ι d,mv,.string S,lv,ι at_,ι ep,rv,ι pr,ι (ky+1)] H2.out.1 fR.out.2 ?_
     intro w4 aE ag cG))
  exact cy (iR rfl _ _ (c+1) _ _ _ _ rfl aE underlying95 rfl kR _ rfl) rfl ⟨rfl,H2.out.2.1.then ag (fun q e=>.inr (by have e2:q=c+1:=e;have:=Hc.out;omega))⟩
 ·have e1:=HE.out.1
  have e2:=HE.out.2;rw[ν hk] at e1 e2;subst e1 e2;clear aM;go_wp2_with (first
   |(refine fV 95 c H1.out.2.2 underlying95 ?_)
   |(refine ef 95 (c+1) #[ι a,ι b,ι d,mv,.string S,lv,ι at_,ι ep,rv,ι pr,ι ky] H1.out.1 fR.out.1 ?_
     intro w4 aE ag cG))
  exact cy (iR rfl _ _ (c+1) _ _ _ _ rfl aE underlying95 rfl kR _ rfl) rfl ⟨rfl,H1.out.2.1.then ag (fun q e=>.inr (by have e2:q=c+1:=e;have:=Hc.out;omega))⟩
end
end Go.Proofs.YtbhjgfibhegddaaGreat
