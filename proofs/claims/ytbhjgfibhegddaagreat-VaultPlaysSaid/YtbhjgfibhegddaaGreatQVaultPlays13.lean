/-
  Parts of the proof of VaultPlays: Last, VaultM, VaultL, VaultN.
-/
import Derived.Test.YtbhjgfibhegddaaGreatQVaultPlays12
import Derived.ChangeOld
import Derived.Deep.RegionHeld3
import Derived.OpenShut
import Derived.Outline
import Derived.ProofKit
import Derived.ShutString
import Derived.SliceStrings
import Derived.Test.YtbhjgfibhegddaaGreatProg
import Derived.WalkSpells
set_option maxRecDepth 100000
set_option maxHeartbeats 16000000
namespace Go.Proofs.YtbhjgfibhegddaaGreat
abbrev A_:=@Option.some.injEq
abbrev NQ:=@Option.map_some
abbrev NR:=@Nat.mul_le_mul_left
open Tryz
section
open Go Go.RowKit
theorem ad_ (n j:Nat) (hj:j<n):(Dk.fresh n).now j=oL:=by
 unfold Dk.now Dk.at_ Dk.last Dk.fresh;simp only[bJ,Uh];rw[σ hj,σ hj];rfl
theorem acW (n:Nat):(Dk.fresh n).pend=0:=by
 unfold Dk.pend Dk.fresh;simp
section
variable {d:Dk} {g:Lg} {n ep:Nat} {hv:List ByteArray} {cut:Bool} {QN:ByteArray} {aq:Nat}
end
def QO:Option Pt→ByteArray
 | none=>oL
 | some p=>p.sec
structure rU (d:Dk) (a:Nat) (L:List (Option Pt)):Prop where
 len:L.length=10
 cell:∀i (h:i<L.length),d.now (a+i)=QO L[i]
 ok:∀p,some p ∈ L→p.ok
def cB:List (Option Pt)→List Pt
 | some p::r=>p::cB r
 | _=>[]
def ia (L:List (Option Pt)) (s:Nat):Nat:=L.foldl (fun m o=>max m (o.elim 0 Pt.gen)) s
theorem ad' (A:List (Option Pt)) (p:Pt):cB (A++[some p])=if A.all Option.isSome then cB A++[p] else cB A:=by
 induction A with
 | nil=>rfl
 | cons x A ih =>
   cases x with
   | none=>rfl
   | some q =>
     simp only[oF,cB,ih,rN,Option.isSome_some,FF];split<;>rfl
theorem aea (A:List (Option Pt)):cB (A++[none])=cB A:=by
 induction A with
 | nil=>rfl
 | cons x A ih =>
   cases x with
   | none=>rfl
   | some q=>simp only[oF,cB,ih]
theorem afG (l:List Pt) (R:List (Option Pt)):cB (l.map some++R)=l++cB R:=by
 induction l with
 | nil=>rfl
 | cons p l ih=>simp only[jY,oF,cB,ih]
theorem Wi {L:List (Option Pt)} {p:Pt} (h:p ∈ cB L):some p ∈ L:=by
 induction L with
 | nil=>simp[cB] at h
 | cons x L ih =>
   cases x with
   | none=>simp[cB] at h
   | some q =>
     simp only[cB,cn] at h;rcases h with rfl | h
     ·simp
     ·exact Uj _ (ih h)
theorem afH {L:List (Option Pt)} {i:Nat} (h:i<(cB L).length):L[i]? = some (some (cB L)[i]):=by
 induction L generalizing i with
 | nil=>simp[cB] at h
 | cons x L ih =>
   cases x with
   | none=>simp[cB] at h
   | some q =>
     cases i with
     | zero=>simp[cB]
     | succ i =>
       simp only[cB,eS] at h;have:=ih (i:=i) oM;simpa [cB] using this
theorem acf {A B:List (Option Pt)} {n:Nat} (h:∀i,i<n→A[i]? = B[i]?) (hn:n≤(cB A).length):n≤(cB B).length∧(cB A).take n=(cB B).take n:=by
 induction n generalizing A B with
 | zero=>simp
 | succ n ih =>
   cases A with
   | nil=>simp[cB] at hn
   | cons x A =>
     cases x with
     | none=>simp[cB] at hn
     | some p =>
       have h0:=h 0 oM;cases B with
       | nil=>simp at h0
       | cons y B =>
         simp only[oH,A_] at h0;subst h0;simp only[cB,eS] at hn;have:=ih (A:=A) (B:=B) (fun i hi=>by simpa using h (i+1) oM) oM;simp only[cB,eS,AY];exact⟨oM,by rw[this.2]⟩
theorem Po (L:List (Option Pt)) (s:Nat):s≤ia L s:=by
 unfold ia;induction L generalizing s with
 | nil=>exact bQ _
 | cons x L ih=>exact iE (Nat.le_max_left _ _) (ih _)
theorem KN {L:List (Option Pt)} {p:Pt} (h:some p ∈ L) (s:Nat):p.gen≤ia L s:=by
 unfold ia;induction L generalizing s with
 | nil=>simp at h
 | cons x L ih =>
   rcases cn.1 h with rfl | h
   ·exact iE (Nat.le_max_right _ _) (Po L _)
   ·exact ih h _
theorem K0 {L:List (Option Pt)} {m:Nat} (h:∀p,some p ∈ L→p.gen≤m) (s:Nat) (hs:s≤m):ia L s≤m:=by
 unfold ia;induction L generalizing s with
 | nil=>exact hs
 | cons x L ih =>
   refine ih (fun p hp=>h p (by simp[hp])) _ ?_;cases x with
   | none=>simpa using hs
   | some q=>exact Nat.max_le.2 ⟨hs,h q sM⟩
theorem afI {d:Dk} {a:Nat} {L:List (Option Pt)} (h:rU d a L) (seen k:Nat) (hk:k≤10):eW d a seen k=⟨cB (L.take k),(L.take k).all Option.isSome,ia (L.take k) seen,false⟩:=by
 induction k with
 | zero=>rfl
 | succ k ih =>
   have hlt:k<L.length:=by rw[h.len];omega
   rw[FM,ih oM,xD,ν sM,h.cell k hlt,gX hlt];have hmem:L[k] ∈ L:=eM hlt;cases hx:L[k] with
   | none =>
     rw[show QO none=oL from rfl,Va,ν dC,ν dC,aea];simp[ia]
   | some p =>
     have hok:=h.ok p (hx ▸ hmem);rw[show QO (some p)=p.sec from rfl,aft p hok,ν sM,σ rfl,U_ p hok.gen' hok.number hok.all hok.text,ad'];simp[ia]
def two (f:Nat) (L0 L1:List (Option Pt)):Kp :=
 if (dI (cB L0)).2<(dI (cB L1)).2 then ⟨f,(dI (cB L1)).1,(dI (cB L1)).2,1,ia L1 (ia L0 0),false⟩
 else if 0<(dI (cB L0)).2 then ⟨f,(dI (cB L0)).1,(dI (cB L0)).2,0,ia L1 (ia L0 0),false⟩
 else ⟨f,[],0,1,ia L1 (ia L0 0),false⟩
theorem On {d:Dk} {n:Nat} {k:Kp} {L:List (Option Pt)} (h:rU d (k.from_+n*10) L) :
 DG d n k=some (if k.gen<(dI (cB L)).2 then { k with seen:=ia L k.seen,text:=(dI (cB L)).1,gen:=(dI (cB L)).2,at_:=n } else { k with seen:=ia L k.seen }):=by
 have hs:=afI h k.seen 10 oM;rw[dH (by rw[h.len];omega)] at hs;rw[DG,hs,ν sM]
theorem ahV {d:Dk} {f:Nat} {L0 L1:List (Option Pt)} (h0:rU d f L0) (h1:rU d (f+10) L1):qU d f 2=some (two f L0 L1):=by
 have e0:qU d f 1=DG d 0 ⟨f,[],0,1,0,false⟩:=rfl;rw[On (L:=L0) (by simpa using h0)] at e0;rw[qU,e0,Option.bind_some];unfold two;by_cases c0:0<(dI (cB L0)).2
 ·rw[σ c0,On (L:=L1) (by simpa using h1)]
  by_cases c1:(dI (cB L0)).2<(dI (cB L1)).2
  ·rw[σ c1,σ c1]
  ·rw[ν c1,ν c1,σ c0]
 ·rw[ν c0,On (L:=L1) (by simpa using h1)]
  have e:(dI (cB L0)).2=0:=oM;rw[e];by_cases c1:0<(dI (cB L1)).2
  ·rw[σ c1,σ c1]
  ·rw[ν c1,ν c1,ν oM]
theorem Wj {g k:Nat} {R M:List (Option Pt)} {t:List UInt8} (hR:∀p,some p ∈ R→p.gen<g) (hk:k=aO t.length)
 (hM:∀i,M[i]? = R[i]? ∨ (i<k∧M[i]? = (aX t g)[i]?.map some)) (hno:¬ ∀i,i<k→M[i]? = (aX t g)[i]?.map some):(dI (cB M)).2≤(dI (cB R)).2:=by
 by_cases h0:(dI (cB M)).2=0
 ·omega
 ·obtain⟨t',s',rest,hs0,ht',hrow,hh⟩:=acT h0
  have hn':=VD t'.length;have cu:=oJ t' s';have hlen:aO t'.length≤(cB M).length:=by rw[hrow,aL,cu];omega
  have rW:∀(i:Nat) (h:i<aO t'.length),M[i]? = some (some ((aX t' s')[i]'(by rw[cu];exact h))):=by
   intro i h;rw[afH oM];simp only[hrow];rw[FG (by rw[cu];exact h)]
  have hold:∀(i:Nat) (p:Pt),M[i]? = R[i]? → M[i]? = some (some p)→p.gen<g:=by
   intro i p h1 h2;rw[h1] at h2;exact hR p (sH h2)
  have hnew:∀(i:Nat) (p:Pt),(i<k∧M[i]? = (aX t g)[i]?.map some)→M[i]? = some (some p)→p.gen=g∧p.all=k:=by
   intro i p h1 h2;rw[h1.2,bD (by rw[oJ];omega)] at h2;simp only[NQ,A_] at h2;obtain⟨c1,c2,c3,c4⟩:=Bl t g i (by rw[oJ];omega);rw[h2] at c1 c3;exact⟨c1,oM⟩
  have hcut:∀(i:Nat) (h:i<aO t'.length),((aX t' s')[i]'(by rw[cu];exact h)).gen=s'∧((aX t' s')[i]'(by rw[cu];exact h)).all=aO t'.length:=by
   intro i h;obtain⟨c1,c2,c3,c4⟩:=Bl t' s' i (by rw[cu];exact h);exact⟨c1,c3⟩
  by_cases hs:s'=g
  ·exfalso
   have WR:∀i:Nat,i<aO t'.length→i<k∧M[i]? = (aX t g)[i]?.map some:=by
    intro i h;rcases hM i with e1 | e1
    ·have:=hold i _ e1 (rW i h)
     have:=(hcut i h).1;omega
    ·exact e1
   have h0:=hnew 0 _ (WR 0 oM) (rW 0 oM);have h1:=(hcut 0 oM).2;exact hno fun i hi=>(WR i oM).2
  ·have agX:∀i:Nat,i<aO t'.length→M[i]? = R[i]? := by
    intro i h;rcases hM i with e1 | e1
    ·exact e1
    ·have h1:=(hnew i _ e1 (rW i h)).1
     have h2:=(hcut i h).1;omega
   obtain⟨p1,p2⟩:=acf agX hlen;have gl:cB R=aX t' s'++(cB R).drop (aO t'.length):=by
    have e1:(cB M).take (aO t'.length)=aX t' s':=by rw[hrow,NM cu]
    rw[← e1,p2,AW]
   rw[hh,gl,VB _ _ _ hs0 ht'];exact bQ _
theorem Wk {d d2:Dk} {a g:Nat} {L:List (Option Pt)} {t:List UInt8} (h:rU d a L) (hg:0<g) (wZ:g<18446744073709551616) (ht:t.length≤400)
 (hn:∀i,i<10→d2.now (a+i)=d.now (a+i)∨(i<aO t.length∧d2.now (a+i)=((aX t g).map Pt.sec).getD i ByteArray.empty)) :
 ∃ M,rU d2 a M∧(∀i,M[i]? = L[i]? ∨ (i<aO t.length∧M[i]? = (aX t g)[i]?.map some)) ∧
  ((∀i,i<aO t.length→d2.now (a+i)=((aX t g).map Pt.sec).getD i ByteArray.empty)↔(∀i,i<aO t.length→M[i]? = (aX t g)[i]?.map some)):=by
 classical
 have e64:(2:Nat) ^ (8*8)=18446744073709551616:=dC;have hok:=WM t g hg oM ht;have cu:=oJ t g;have hall:aO t.length≤9:=by unfold aO;omega
 have s9:∀i (hi:i<aO t.length),((aX t g).map Pt.sec).getD i ByteArray.empty=((aX t g)[i]'oM).sec:=by
  intro i hi;rw[bJ,gu,bD oM];rfl
 have hl:=h.len;have Ss:∀i,i<10→((List.range 10).map fun i=>if i<aO t.length∧d2.now (a+i)=((aX t g).map Pt.sec).getD i ByteArray.empty then (aX t g)[i]? else L.getD i none)[i]? =
  some (if i<aO t.length∧d2.now (a+i)=((aX t g).map Pt.sec).getD i ByteArray.empty then (aX t g)[i]? else L.getD i none):=by
  intro i hi;rw[gu,A7 hi,NQ]
 refine⟨(List.range 10).map fun i=>if i<aO t.length∧d2.now (a+i)=((aX t g).map Pt.sec).getD i ByteArray.empty then (aX t g)[i]? else L.getD i none,⟨sM,fun i hi=>?_,fun p hp=>?_⟩,fun i=>?_,⟨fun hnew i hi=>?_,fun hM i hi=>?_⟩⟩
 ·have hi2:i<10:=by simpa using hi
  rw[J0,ND];by_cases c:i<aO t.length∧d2.now (a+i)=((aX t g).map Pt.sec).getD i ByteArray.empty
  ·rw[σ c,bD oM,c.2,s9 i c.1]
   rfl
  ·rw[ν c]
   rcases hn i hi2 with e | e
   ·rw[e,h.cell i oM,bJ,bD oM]
    rfl
   ·exact absurd e c
 ·obtain⟨i,hi,e⟩:=sL.1 hp
  have hi2:i<10:=by simpa using hi
  rw[J0,ND] at e;by_cases c:i<aO t.length∧d2.now (a+i)=((aX t g).map Pt.sec).getD i ByteArray.empty
  ·rw[σ c] at e
   exact hok p (sH e)
  ·rw[ν c,bJ,bD oM,J1] at e
   exact h.ok p (by rw[← e];exact eM _)
 ·by_cases hi:i<10
  ·rw[Ss i hi]
   by_cases c:i<aO t.length∧d2.now (a+i)=((aX t g).map Pt.sec).getD i ByteArray.empty
   ·rw[σ c]
    refine .inr ⟨c.1,?_⟩;rw[bD oM];rfl
   ·rw[ν c,bJ,bD oM]
    exact .inl rfl
  ·rw[nh (by simpa using hi),nh oM]
   exact .inl rfl
 ·rw[Ss i oM,σ ⟨hi,hnew i hi⟩,bD oM]
  rfl
 ·by_cases c:d2.now (a+i)=((aX t g).map Pt.sec).getD i ByteArray.empty
  ·exact c
  ·have h1:=hM i hi
   rw[Ss i oM,ν (fun e=>c e.2),bJ,bD oM,bD oM] at h1;simp only[J1,NQ,A_] at h1;rcases hn i oM with e | e
   ·rw[e,h.cell i oM,h1,s9 i hi]
    rfl
   ·exact e.2
theorem Kz {d d2:Dk} {a:Nat} {L:List (Option Pt)} (h:rU d a L) (hn:∀i,i<10→d2.now (a+i)=d.now (a+i)):rU d2 a L :=
 ⟨h.len,fun i hi=>by rw[hn i (oN h.len)];exact h.cell i hi,h.ok⟩
theorem Wl {g:Nat} {M:List (Option Pt)} {t:List UInt8} (hg:0<g) (ht:t.length≤400) (hM:∀i,i<aO t.length→M[i]? = (aX t g)[i]?.map some):dI (cB M)=(t,g):=by
 have cu:=oJ t g;have e:M=(aX t g).map some++M.drop (aO t.length):=by
  refine Dj fun i=>?_
  by_cases hi:i<aO t.length
  ·rw[hM i hi,pL (by rw[bp];omega),gu]
  ·rw[lM (by rw[bp];omega),FD,bp,cu]
   congr 1
   omega
 rw[e,afG,VB t g _ oM ht]
structure ki (d:Dk) (k:Kp) (L0 L1:List (Option Pt)):Prop where
 cV:d.cV=-1
 off:d.off=false
 waits:d.waits.length=d.af.length
 room:k.from_+20≤d.af.length
 s0:rU d k.from_ L0
 s1:rU d (k.from_+10) L1
 is:two k.from_ L0 L1=k
section
variable {d d2:Dk} {k:Kp} {L0 L1:List (Option Pt)}
theorem ki.opens (h:ki d k L0 L1):qU d k.from_ 2=some k:=by rw[ahV h.s0 h.s1,h.is]
theorem F0 (f:Nat) (L0 L1:List (Option Pt)):(two f L0 L1).from_=f∧(two f L0 L1).seen=ia L1 (ia L0 0)∧(two f L0 L1).at_≤1∧(two f L0 L1).broken=false:=by
 unfold two;split
 ·exact⟨rfl,rfl,sM,rfl⟩
 ·split
  ·exact⟨rfl,rfl,sM,rfl⟩
  ·exact⟨rfl,rfl,sM,rfl⟩
theorem ki.seen (h:ki d k L0 L1):k.seen=ia L1 (ia L0 0):=by
 have:=(F0 k.from_ L0 L1).2.1;rw[h.is] at this;exact this
theorem ki.at_ (h:ki d k L0 L1):k.at_≤1:=by
 have:=(F0 k.from_ L0 L1).2.2.1;rw[h.is] at this;exact this
theorem ki.broken (h:ki d k L0 L1):k.broken=false:=by
 have:=(F0 k.from_ L0 L1).2.2.2;rw[h.is] at this;exact this
theorem ki.ajn (h:ki d k L0 L1):∀p,some p ∈ L0→p.gen≤k.seen:=fun p hp=>by
 rw[h.seen];exact iE (KN hp 0) (Po _ _)
theorem ki.ajo (h:ki d k L0 L1):∀p,some p ∈ L1→p.gen≤k.seen:=fun p hp=>by
 rw[h.seen];exact KN hp _
theorem ki.mix (h:ki d k L0 L1) (t:List UInt8) (ht:t.length≤400) (hs:k.seen+1<18446744073709551616)
 (hf:d2.cV=-1) (ho:d2.off=false) (hw:d2.waits.length=d2.af.length) (hl:d2.af.length=d.af.length)
 (hn:∀i,i<d.af.length→d2.now i=d.now i∨(k.from_+(1 - k.at_)*10≤i∧i<k.from_+(1 - k.at_)*10+aO t.length∧d2.now i=((aX t (k.seen+1)).map Pt.sec).getD (i - (k.from_+(1 - k.at_)*10)) ByteArray.empty)) :
 ∃ k' sB sC,ki d2 k' sB sC∧k'.from_=k.from_∧k'.seen≤k.seen+1∧(k'=k.put t∨(k'.text=k.text∧k'.gen=k.gen)) ∧
  ((∀i,i<aO t.length→d2.now (k.from_+(1 - k.at_)*10+i)=((aX t (k.seen+1)).map Pt.sec).getD i ByteArray.empty)→k'=k.put t):=by
 have hat:=h.at_;have hroom:=h.room;have hall:aO t.length≤9:=by unfold aO;omega
 have aj6:=VD t.length;have tN:=h.ajn;have IM:=h.ajo;have D7:=h.seen;have hh0:(dI (cB L0)).2≤k.seen:=Wf fun p hp=>tN p (Wi hp)
 have hh1:(dI (cB L1)).2≤k.seen:=Wf fun p hp=>IM p (Wi hp)
 have cu:=oJ t (k.seen+1)
 -- the gens of a mixed slot
 have hgm:∀ {L M:List (Option Pt)},(∀p,some p ∈ L→p.gen≤k.seen)→(∀i,M[i]? = L[i]? ∨ (i<aO t.length∧M[i]? = (aX t (k.seen+1))[i]?.map some))→∀p,some p ∈ M→p.gen≤k.seen+1:=by
  intro L M hL hM p hp;obtain⟨i,hi,e⟩:=sL.1 hp;have e2:M[i]? = some (some p):=by rw[bD hi,e]
  rcases hM i with e1 | ⟨e0,e1⟩
  ·rw[e1] at e2
   have:=hL p (sH e2);omega
  ·rw[e1,bD oM] at e2
   simp only[NQ,A_] at e2;have:=(Bl t (k.seen+1) i oM).1;rw[e2] at this;omega
 have hfull:∀ {M:List (Option Pt)},(∀i,i<aO t.length→M[i]? = (aX t (k.seen+1))[i]?.map some)→∃p,some p ∈ M∧p.gen=k.seen+1:=by
  intro M hM;have h0:=hM 0 oM;rw[bD (by omega:0<(aX t (k.seen+1)).length),NQ] at h0;exact⟨_,sH h0,(Bl t (k.seen+1) 0 oM).1⟩
 have P9:k.at_=1∨k.at_=0:=oM;rcases P9 with e | e
 ·-- slot 0 is written
  have ea:k.from_+(1 - k.at_)*10=k.from_:=by rw[e];rfl
  rw[ea] at hn ⊢;obtain⟨M,m1,m2,m3⟩:=Wk (d2:=d2) h.s0 (g:=k.seen+1) (t:=t) oM hs ht (fun i hi=>by
   rcases hn (k.from_+i) oM with c | ⟨c1,c2,c3⟩
   ·exact .inl c
   ·exact .inr ⟨oM,by rw[c3];congr 1;omega⟩)
  have s1:rU d2 (k.from_+10) L1:=Kz h.s1 fun i hi=>by
   rcases hn (k.from_+10+i) oM with c | ⟨c1,c2,c3⟩
   ·exact c
   ·omega
  have St:=hgm tN m2;have hS:ia L1 (ia M 0)≤k.seen+1:=K0 (fun p hp=>by have:=IM p hp;omega) _ (K0 St _ (vL _));have tf:=F0 k.from_ M L1;have hput:(∀i,i<aO t.length→M[i]? = (aX t (k.seen+1))[i]?.map some)→two k.from_ M L1=k.put t:=by
   intro hM;have hh:=Wl oM ht hM;obtain⟨p,hp,hpg⟩:=hfull hM;have h1:=KN hp 0;have h2:=Po L1 (ia M 0);have a_:ia L1 (ia M 0)=k.seen+1:=oM;unfold two Kp.put;rw[hh,ν (by show ¬k.seen+1<_;omega),σ (by show 0<k.seen+1;omega),a_,e]
  refine⟨two k.from_ M L1,M,L1,⟨hf,ho,hw,by rw[hl,tf.1];exact hroom,by rw[tf.1];exact m1,by rw[tf.1];exact s1,by rw[tf.1]⟩,tf.1,by rw[tf.2.1];exact hS,?_,fun hx=>hput (m3.1 hx)⟩;by_cases hM:∀i,i<aO t.length→M[i]? = (aX t (k.seen+1))[i]?.map some
  ·exact .inl (hput hM)
  ·right
   have hle:=Wj (fun p hp=>by have:=tN p hp;omega) rfl m2 hM;have lG:=h.is;unfold two at lG ⊢;by_cases c1:(dI (cB L0)).2<(dI (cB L1)).2
   ·rw[σ c1] at lG
    rw[σ oM];rw[← lG];exact⟨rfl,rfl⟩
   ·rw[ν c1] at lG
    by_cases c2:0<(dI (cB L0)).2
    ·rw[σ c2] at lG
     rw[← lG] at e;simp at e
    ·rw[ν c2] at lG
     rw[ν oM,ν oM,← lG];exact⟨rfl,rfl⟩
 ·-- slot 1 is written
  have ea:k.from_+(1 - k.at_)*10=k.from_+10:=by rw[e]
  rw[ea] at hn ⊢;obtain⟨M,m1,m2,m3⟩:=Wk (d2:=d2) h.s1 (g:=k.seen+1) (t:=t) oM hs ht (fun i hi=>by
   rcases hn (k.from_+10+i) oM with c | ⟨c1,c2,c3⟩
   ·exact .inl c
   ·exact .inr ⟨oM,by rw[c3];congr 1;omega⟩)
  have s0:rU d2 k.from_ L0:=Kz h.s0 fun i hi=>by
   rcases hn (k.from_+i) oM with c | ⟨c1,c2,c3⟩
   ·exact c
   ·omega
  have St:=hgm IM m2;have hS:ia M (ia L0 0)≤k.seen+1:=K0 St _ (K0 (fun p hp=>by have:=tN p hp;omega) _ (vL _));have tf:=F0 k.from_ L0 M;have hput:(∀i,i<aO t.length→M[i]? = (aX t (k.seen+1))[i]?.map some)→two k.from_ L0 M=k.put t:=by
   intro hM;have hh:=Wl oM ht hM;obtain⟨p,hp,hpg⟩:=hfull hM;have h1:=KN hp (ia L0 0);have a_:ia M (ia L0 0)=k.seen+1:=oM;unfold two Kp.put;rw[hh,σ (by show _<k.seen+1;omega),a_,e]
  refine⟨two k.from_ L0 M,L0,M,⟨hf,ho,hw,by rw[hl,tf.1];exact hroom,by rw[tf.1];exact s0,by rw[tf.1];exact m1,by rw[tf.1]⟩,tf.1,by rw[tf.2.1];exact hS,?_,fun hx=>hput (m3.1 hx)⟩;by_cases hM:∀i,i<aO t.length→M[i]? = (aX t (k.seen+1))[i]?.map some
  ·exact .inl (hput hM)
  ·right
   have hle:=Wj (fun p hp=>by have:=IM p hp;omega) rfl m2 hM;have lG:=h.is;unfold two at lG ⊢;by_cases c1:(dI (cB L0)).2<(dI (cB L1)).2
   ·rw[σ c1] at lG
    rw[← lG] at e;simp at e
   ·rw[ν c1] at lG
    by_cases c2:0<(dI (cB L0)).2
    ·rw[σ c2] at lG
     rw[ν oM,σ c2,← lG];exact⟨rfl,rfl⟩
    ·rw[ν c2] at lG
     rw[← lG] at e;simp at e
end
theorem agY (n f:Nat) (h:f+20≤n):ki (Dk.fresh n) ⟨f,[],0,1,0,false⟩ (List.replicate 10 none) (List.replicate 10 none):=by
 have hno:∀p:Pt,some p ∉ List.replicate 10 (none:Option Pt):=fun p hp=>by have:=NH hp;simp at this
 have hz:∀a,a+10≤n→rU (Dk.fresh n) a (List.replicate 10 none):=by
  intro a ha;refine⟨sM,fun i hi=>?_,fun p hp=>absurd hp (hno p)⟩;have e:(Dk.fresh n).now (a+i)=oL:=by
   have hi':i<10:=by simpa using hi
   unfold Dk.now Dk.at_ Dk.last Dk.fresh;simp only[bJ,Uh];rw[σ oM,σ oM];rfl
  rw[e,List.getElem_replicate];rfl
 exact⟨rfl,rfl,by simp[Dk.fresh],by simpa [Dk.fresh] using h,hz f oM,hz (f+10) oM,rfl⟩
theorem afJ (d:Dk) (a:Nat) (l:List Pt) (j:Nat) (hj:j≤l.length):gQ d a l j=dM d a (l.map Pt.sec) j:=by
 induction j with
 | zero=>rfl
 | succ j ih =>
   rw[gQ,dM,ih oM];have e:(l.getD j ⟨0,0,0,[]⟩).sec=(l.map Pt.sec).getD j ByteArray.empty:=by
    rw[bJ,bJ,gu,bD oM];rfl
   rw[e]
section
variable {d:Dk} {k:Kp} {f:Nat} {last QN:List UInt8} {is cut:Bool} {seen:Nat}
end
section
variable {w0 w w':World} {p b:Nat} {d d':Dk} {g:Lg} {X:Nat→Prop} {n ep aq:Nat} {hv:List ByteArray} {cut:Bool} {QN:ByteArray}
end
section
variable {w0 w w':World} {p b f seen:Nat} {d d':Dk} {k:Kp} {last QN:List UInt8} {is cut:Bool} {L0 L1:List (Option Pt)}
end
structure gW where
 name:List UInt8
 wE:Bool
deriving DecidableEq
structure MetaM where
 role:Int
 seen:Int
 aG:Int
 aW:List gW
 bu:List UInt8
structure cY where
 m:MetaM
 at_:Int
 θ:Int
 slot:Nat
 log:Nat
 key:Nat
 μ:Nat
structure bL where
 index:Int
 θ:Int
 ops:List cT
def mL:List gW→List gW→Bool
 | _,[]=>true
 | a,m::r=>nx m.name && !(a.any fun o=>decide (o.name=m.name)) && mL (a++[m]) r
def pS (l:List gW):Bool:=mL [] l && decide (1≤l.length∧l.length≤4)
def dS (m:MetaM):Bool:=(decide (m.aW=[])|| pS m.aW) && decide (0≤m.role∧m.role≤3∧0≤m.seen∧0≤m.aG∧m.bu.length≤64)
def jX (m:gW):List UInt8:=bF m.name++[if m.wE then 1 else 0]
def dr (s:cY) (Bx:List UInt8):List UInt8 :=
 aN 1++(aN s.m.role.toNat++(aN s.m.seen.toNat++(aN s.m.aG.toNat++(aN s.at_.toNat++(aN s.θ.toNat++(aN s.slot++(aN s.key++(aN s.log++(aN s.μ++(aN s.m.aW.length++(s.m.aW.flatMap jX++bF Bx)))))))))))
def lu (b:bL):List UInt8:=xQ b.index.toNat b.θ.toNat b.ops
def cJ (S:List ai) (l:List cT):List ai:=l.foldl (fun S o=>if o.kind=2 then qw o.path S else jm o.path o.value S) S
def fW (S:List ai) (l:List cT):Int:=if d_ 1 1 l≠0 then d_ 1 1 l else if 48<(cJ S l).length then 6 else 0
def kS:List ai→List ai→List ai × Int
 | S,[]=>(S,0)
 | S,p::r=>if jg p.1=false∨32<p.2.length then ([],1) else if (lq p.1 S).isSome then ([],5) else kS (jm p.1 p.2 S) r
def fL (l:List ai):List ai × Int:=if 48<l.length then ([],6) else kS [] l
def bR (t:List UInt8):Nat:=(t.length+55) / 56
def cE (slot:Nat):Nat:=340+(slot - 1)*80
def jL (t:List UInt8) (i:Nat):List UInt8:=(t.drop (56*i)).take 56
def nv (t:List UInt8) (i:Nat):List UInt8:=UInt8.ofNat i::UInt8.ofNat (bR t)::UInt8.ofNat (jL t i).length::0::(jL t i++List.replicate (56 - (jL t i).length) 0)
def jf (t:List UInt8):List ByteArray:=(List.range (bR t)).map fun i=>str (gH (nv t i))
def gP (d:Dk) (slot:Nat) (t:List UInt8):Dk × Int :=
 if 80<bR t then (d,6) else
 if (dM d (cE slot) (jf t) (bR t)).2≠0 then dM d (cE slot) (jf t) (bR t) else (dM d (cE slot) (jf t) (bR t)).1.sync
structure aV where
 S:List ai
 at_:Int
 θ:Int
 rows:List bL
 prev:Int
 st:cY
 down:Bool
 kp:Kp
 lg:Lg
 cur:Nat
 n:Nat
def jI:List UInt8:=[109,97,115,116,101,114]
def oZ:List UInt8:=[109,97,112]
def oq:List UInt8:=[108,111,103]
def gy:List UInt8:=[115,101,99,114,101,116]
def aV.wrap (v:aV) (about text:List UInt8):List UInt8:=qT (kf jI v.cur) v.cur v.st.μ v.n about text
def aV.next (v:aV):aV := { v with n:=v.n+1 }
def aV.told (v:aV) (e:Int):aV := { v with down:=v.down || decide (e=14) }
def ez (d:Dk) (v:aV) (s:cY):Dk × aV × Int :=
 if (eu d v.kp (dr s (v.wrap gy s.m.bu))).2.2≠0 then
  ((eu d v.kp (dr s (v.wrap gy s.m.bu))).1,({ v.next with kp:=(eu d v.kp (dr s (v.wrap gy s.m.bu))).2.1 } : aV).told (eu d v.kp (dr s (v.wrap gy s.m.bu))).2.2,(eu d v.kp (dr s (v.wrap gy s.m.bu))).2.2)
 else ((eu d v.kp (dr s (v.wrap gy s.m.bu))).1,{ v.next with kp:=(eu d v.kp (dr s (v.wrap gy s.m.bu))).2.1,st:=s },0)
def cY.whole (s:cY) (m:MetaM) (at_ θ:Int):cY := { s with m:=m,at_:=at_,θ:=θ,slot:=1+s.slot % 2,log:=s.log+1 }
def iU (d:Dk) (v:aV) (m:MetaM) (x:List ai) (at_ θ:Int):Dk × aV × Int :=
 let t:=v.wrap oZ (ke x)
 let s:=v.st.whole m at_ θ
 let r1:=gP d s.slot t
 if r1.2≠0 then (r1.1,v.next.told r1.2,r1.2) else
 let r2:=ez r1.1 v.next s
 if r2.2.2≠0 then r2 else
 match nE r2.1 20 320 s.log with
 | none=>(r2.1,r2.2.1.told 9,9)
 | some g=>(r2.1,{ r2.2.1 with lg:=g,S:=x,at_:=at_,θ:=θ,rows:=[],prev:=θ },0)
def aV.does (v:aV) (b:bL):aV := { v with S:=cJ v.S b.ops,rows:=v.rows++[b],at_:=b.index,θ:=b.θ }
def jB (d:Dk) (v:aV) (b:bL):Dk × aV × Int :=
 let t:=v.wrap oq (lu b)
 let r:=lR d v.lg (str t)
 if r.2.2≠0 then (r.1,({ v.next with lg:=r.2.1 } : aV).told r.2.2,r.2.2) else (r.1,({ v.next with lg:=r.2.1 } : aV).does b,0)
def kq (d:Dk) (v:aV):Bool:=v.down || d.off
def zg (d:Dk) (v:aV) (b:bL):Dk × aV × Int :=
 if kq d v then (d,{ v with down:=true },14) else
 if d_ b.index b.θ b.ops≠0 then (d,v,d_ b.index b.θ b.ops) else
 if b.index≠v.at_+1∨b.θ<v.θ then (d,v,1) else
 if fW v.S b.ops≠0 then (d,v,fW v.S b.ops) else
 if 24≤v.rows.length then
  let r:=iU d v v.st.m v.S v.at_ v.θ
  if r.2.2≠0 then r else
  -- the map is the one that was made ahead
  let r2:=jB r.1 r.2.1 b
  (r2.1,if r2.2.2=0 then { r2.2.1 with S:=cJ v.S b.ops } else r2.2.1,r2.2.2)
 else jB d v b
def Ep (d:Dk) (v:aV) (m:MetaM):Dk × aV × Int :=
 if kq d v then (d,{ v with down:=true },14) else if dS m=false then (d,v,1) else ez d v { v.st with m:=m }
def mE (at_ θ:Int):Bool:=decide (at_=0∧θ=0)|| decide (1≤at_∧at_≤4611686018427387904∧1≤θ)
def DI (d:Dk) (v:aV) (m:MetaM) (l:List ai) (at_ θ:Int):Dk × aV × Int :=
 if kq d v then (d,{ v with down:=true },14) else if dS m=false∨mE at_ θ=false then (d,v,1) else
 if (fL l).2≠0 then (d,v,(fL l).2) else iU d v m (fL l).1 at_ θ
def Bt (d:Dk) (v:aV):Dk × aV × Int :=
 if kq d v then (d,{ v with down:=true },14) else if 1048576≤v.st.key then (d,v,6) else
 let r:=ez d v { v.st with key:=v.st.key+1 }
 if r.2.2≠0 then r else (r.1,{ r.2.1 with cur:=r.2.1.cur+1 },0)
def gZ (top:Nat) (about text t:List UInt8):Prop :=
 ∃key μ n,key≤top∧key≤1048576∧μ<4294967296∧n<18446744073709551616∧t=qT (kf jI key) key μ n about text
theorem gZ.mono {a b:Nat} {about text t:List UInt8} (h:gZ a about text t) (hab:a≤b):gZ b about text t:=by
 obtain⟨key,μ,n,h1,h2⟩:=h;exact⟨key,μ,n,oM,h2⟩
theorem gZ.len {a:Nat} {about text t:List UInt8} (h:gZ a about text t) (ht:text.length≤8192):t.length≤text.length+52∧1≤t.length:=by
 obtain⟨key,μ,n,h1,h2,h3,h4,rfl⟩:=h;refine⟨OE h2 h3 h4 ht,?_⟩;unfold qT;rw[aL,aL];unfold rR;rw[qi];omega
def iV:List bL→List ai × Int × Int→Option (List ai × Int × Int)
 | [],x=>some x
 | b::r,x=>if d_ b.index b.θ b.ops=0∧b.index=x.2.1+1∧x.2.2≤b.θ∧(cJ x.1 b.ops).length≤48 then iV r (cJ x.1 b.ops,b.index,b.θ) else none
theorem acX (l:List bL) (b:bL) (x:List ai × Int × Int):iV (l++[b]) x=(iV l x).bind (iV [b]):=by
 induction l generalizing x with
 | nil=>rfl
 | cons a r ih =>
   rw[oF];unfold iV;split
   ·exact ih _
   ·rfl
theorem aeb {b:bL} {x:List ai × Int × Int} (h1:d_ b.index b.θ b.ops=0) (h2:b.index=x.2.1+1) (h3:x.2.2≤b.θ) (h4:(cJ x.1 b.ops).length≤48):iV [b] x=some (cJ x.1 b.ops,b.index,b.θ):=by
 unfold iV;rw[σ ⟨h1,h2,h3,h4⟩];rfl
structure nw (S:List ai):Prop where
 wj:fX S
 len:S.length≤48
 each:∀p ∈ S,jg p.1=true∧p.2.length≤32
theorem nw.nil:nw []:=⟨List.Pairwise.nil,sM,sM⟩
theorem afK {l:List cT} (hl:∀o ∈ l,iK o=0) {S:List ai} (h1:fX S) (h2:∀p ∈ S,jg p.1=true∧p.2.length≤32):fX (cJ S l)∧∀p ∈ cJ S l,jg p.1=true∧p.2.length≤32:=by
 induction l generalizing S with
 | nil=>exact⟨h1,h2⟩
 | cons o r ih =>
   obtain⟨-,e1,-,e2,-⟩:=Be (hl o sM);have e:cJ S (o::r)=cJ (if o.kind=2 then qw o.path S else jm o.path o.value S) r:=rfl;rw[e];refine ih (fun q hq=>hl q (by simp[hq])) ?_ ?_
   ·split
    ·exact Oi h1
    ·exact Bh h1
   ·intro p hp
    split at hp
    ·exact h2 p (yW.1 hp).1
    ·rcases (zb h1 p).1 hp with rfl | ⟨a,-⟩
     ·exact⟨e1,e2⟩
     ·exact h2 p a
theorem Xr {S:List ai} {i e:Int} {l:List cT} (h:nw S) (hl:d_ i e l=0) (h48:(cJ S l).length≤48):nw (cJ S l):=by
 obtain⟨a,b⟩:=afK (sP hl).2.2.2.2 h.wj h.each;exact⟨a,h48,b⟩
theorem afL {l:List bL} {x y:List ai × Int × Int} (hx:nw x.1) (h:iV l x=some y):nw y.1:=by
 induction l generalizing x with
 | nil=>exact dw h ▸ hx
 | cons b r ih =>
   unfold iV at h;split at h
   ·rename_i hc
    exact ih (Xr hx hc.1 hc.2.2.2) h
   ·simp at h
theorem acY {l:List bL} {x y:List ai × Int × Int} (h:iV l x=some y):∀b ∈ l,d_ b.index b.θ b.ops=0:=by
 induction l generalizing x with
 | nil=>simp
 | cons b r ih =>
   unfold iV at h;split at h
   ·rename_i hc
    intro q hq;rcases cn.1 hq with rfl | hq
    ·exact hc.1
    ·exact ih h q hq
   ·simp at h
structure pT (a e:Int):Prop where
 Su:0≤a
 Sv:a≤4611686018427387904
 ep0:0≤e
 Sw:e≤9223372036854775807
theorem acg {l:List bL} {x y:List ai × Int × Int} (hx:pT x.2.1 x.2.2) (hl:∀b ∈ l,b.θ≤9223372036854775807) (h:iV l x=some y):pT y.2.1 y.2.2:=by
 induction l generalizing x with
 | nil=>exact dw h ▸ hx
 | cons b r ih =>
   unfold iV at h;split at h
   ·rename_i hc
    obtain⟨b1,b2,b3,-⟩:=sP hc.1;exact ih ⟨by show (0:Int)≤b.index;omega,b2,by show (0:Int)≤b.θ;omega,hl b sM⟩ (fun q hq=>hl q (by simp[hq])) h
   ·simp at h
theorem afM {k v:List UInt8} {A:List ai} (h:∀p ∈ A,p.1<k):jm k v A=A++[(k,v)]:=by
 induction A with
 | nil=>rfl
 | cons q r ih =>
   unfold jm;rw[σ (h q sM),ih fun p hp=>h p (by simp[hp])];rfl
theorem afN (B:List ai):∀A:List ai,fX (A++B)→(∀p ∈ B,jg p.1=true∧p.2.length≤32)→kS A B=(A++B,0):=by
 induction B with
 | nil=>intro A _ _;simp[kS]
 | cons p r ih =>
   intro A hr hb;have h1:∀q ∈ A,q.1<p.1:=fun q hq=>(List.pairwise_append.1 hr).2.2 q hq p sM
   obtain⟨p1,p2⟩:=hb p sM;unfold kS;rw[ν (by rw[p1];simp;omega),OL fun q hq=>zv (h1 q hq),ν sM,afM h1];have:=ih (A++[(p.1,p.2)]) (by rw[dQ];exact hr) fun q hq=>hb q (by simp[hq])
   rw[this,dQ];rfl
theorem afO {S:List ai} (h:nw S):fL S=(S,0):=by
 unfold fL;rw[ν (oN h.len)];exact afN S [] h.wj h.each
theorem ahW (B:List ai):∀A:List ai,fX A→(∀p ∈ A,jg p.1=true∧p.2.length≤32)→(kS A B).2=0→fX (kS A B).1∧(∀p ∈ (kS A B).1,jg p.1=true∧p.2.length≤32)∧(kS A B).1.length≤A.length+B.length:=by
 induction B with
 | nil=>intro A h1 h2 _;exact⟨h1,h2,by simp[kS]⟩
 | cons p r ih =>
   intro A h1 h2 h;unfold kS at h ⊢;split at h
   ·simp at h
   ·rename_i hp
    rw[ν hp];split at h
    ·simp at h
    ·rename_i hq
     rw[ν hq];obtain⟨a,b,c⟩:=ih (jm p.1 p.2 A) (Bh h1) (fun x hx=>by
      rcases (zb h1 x).1 hx with rfl | ⟨y,-⟩
      ·exact⟨by simpa using fun e=>hp (.inl e),by simp only;omega⟩
      ·exact h2 x y) h
     refine⟨a,b,?_⟩;have:=O_ p.1 p.2 A;rw[eS];omega
theorem Xs {l:List ai} (h:(fL l).2=0):nw (fL l).1:=by
 unfold fL at h ⊢;split at h
 ·simp at h
 ·rename_i hl
  rw[ν hl];obtain⟨a,b,c⟩:=ahW l [] List.Pairwise.nil sM h;exact⟨a,by simp at c;omega,b⟩
theorem qg {S:List ai} (h:nw S):(ke S).length≤3400:=by
 have h1:=Ov (l:=S) (a:=33) (b:=32) oM oM fun p hp=>⟨Dv (h.each p hp).1,(h.each p hp).2⟩
 have h2:=kY (n:=S.length) (oN h.len);have h3:=h.len;unfold ke;rw[aL,iF];have:(33+32+4)*S.length≤69*48:=NR _ h3;omega
theorem KO {b:bL} (h:d_ b.index b.θ b.ops=0) (he:b.θ≤9223372036854775807):(lu b).length≤310:=by
 obtain⟨h1,h2,h3,h4,h5⟩:=sP h;exact aeM oM oM h4 h5
section
variable {d D:Dk} {k:Kp} {g:Lg} {L0 L1:List (Option Pt)} {rs:List (List UInt8 × Nat)} {R:List (Option Lp)}
structure Good (d:Dk):Prop where
 cV:d.cV=-1
 off:d.off=false
 waits:d.waits.length=d.af.length
 len:d.af.length=500
 pend:d.pend=0
theorem ki.bP (h:ki d k L0 L1) (hf:D.cV=-1) (ho:D.off=false) (hw:D.waits.length=D.af.length) (hl:D.af.length=d.af.length) (hn:∀i,k.from_≤i→i<k.from_+20→D.now i=d.now i):ki D k L0 L1:=by
 have h2:=h.room;exact⟨hf,ho,hw,by rw[hl];exact h2,Kz h.s0 fun i hi=>hn _ oM oM,Kz h.s1 fun i hi=>hn _ oM oM,h.is⟩
theorem nF.bP (h:nF d g rs R) (hf:D.cV=-1) (ho:D.off=false) (hw:D.waits.length=D.af.length) (hl:D.af.length=d.af.length) (hn:∀i,g.from_≤i→i<g.from_+g.dZ→D.now i=d.now i):nF D g rs R:=by
 have h1:=h.len;exact { h with cV:=hf,off:=ho,waits:=hw,room:=by rw[hl];exact h.room,cells:=⟨fun i hi=>by rw[hn _ oM (by rw[aL,bp] at hi;omega)];exact h.cells.cell i hi,h.cells.ok⟩ }
theorem ki.Zv (h:ki d k L0 L1) (t:List UInt8) (ht:t.length≤400) (hs:k.seen+1<18446744073709551616) :
 ∃D sB sC,eu d k t=(D,k.put t,0)∧ki D (k.put t) sB sC∧D.af.length=d.af.length∧D.pend=0∧∀i,i<d.af.length→(i<k.from_∨k.from_+20≤i)→D.now i=d.now i:=by
 have e64:(2:Nat) ^ (8*8)=18446744073709551616:=dC;have hat:=h.at_;have hroom:=h.room;have hall:aO t.length≤9:=by unfold aO;omega
 have hok:=WM t (k.seen+1) oM oM ht;have cu:=oJ t (k.seen+1);have hml:((aX t (k.seen+1)).map Pt.sec).length=aO t.length:=by rw[bp,cu]
 have hsz:∀q ∈ (aX t (k.seen+1)).map Pt.sec,q.size=64:=by
  intro q hq;obtain⟨p,hp,rfl⟩:=bZ.1 hq;exact afu p (hok p hp)
 obtain⟨A,hA⟩:=κ (k.from_+(1 - k.at_)*10);have hAl:A+aO t.length≤d.af.length:=oM;obtain⟨f1,f2,f3,f4⟩:=N8 h.cV h.off h.waits A _ hsz (aO t.length) oM hAl;have CG:=Bd d A ((aX t (k.seen+1)).map Pt.sec) h.waits (aO t.length);have hput:eu d k t=((dM d A ((aX t (k.seen+1)).map Pt.sec) (aO t.length)).1.flush,k.put t,0):=by
  unfold eu;rw[h.broken,ν sM,ν oM,ν oM,hA,afJ _ _ _ _ oM,ν (by rw[f1];simp),Dk.OM f2 f3,ν sM]
  rfl
 generalize hV:(dM d A ((aX t (k.seen+1)).map Pt.sec) (aO t.length)).1=V at *;have kz:V.flush.af.length=d.af.length:=by
  show ((List.range _).map _).length=_;rw[bp,uh,CG.1]
 have Sx:V.flush.waits.length=d.af.length:=by
  show (List.map _ _).length=_;rw[bp,CG.2.1];exact h.waits
 have rZ:∀i,i<d.af.length→V.flush.now i=if A≤i∧i<A+aO t.length then ((aX t (k.seen+1)).map Pt.sec).getD (i - A) ByteArray.empty else d.now i:=by
  intro i hi;rw[Dk.OO _ _ (by rw[CG.1];exact hi),f4]
 obtain⟨k',sB,sC,m1,m2,m3,m4,m5⟩:=h.mix (d2:=V.flush) t ht hs f2 f3 (by rw[Sx,kz]) kz (fun i hi=>by
  rw[hA,rZ i hi];by_cases c:A≤i∧i<A+aO t.length
  ·rw[σ c];exact .inr ⟨c.1,c.2,rfl⟩
  ·rw[ν c];exact .inl rfl)
 have hk':=m5 (fun i hi=>by rw[hA,rZ _ oM,σ oM,ug]);subst hk';exact⟨V.flush,sB,sC,hput,m1,kz,Dk.FX _,fun i hi ho=>by rw[rZ i hi,ν oM]⟩
end
theorem zc {t:List UInt8} (h:t.length≤4400):bR t≤80:=by unfold bR;omega
theorem Oo (t:List UInt8) (i:Nat):(jL t i).length≤56:=by unfold jL;rw[fF];omega
theorem FJ (t:List UInt8) (i:Nat):(nv t i).length=60:=by
 have:=Oo t i;unfold nv;simp only[eS,aL,fG];omega
theorem abO (t:List UInt8):(jf t).length=bR t:=by unfold jf;rw[bp,uh]
theorem Kg (t:List UInt8) (i:Nat) (h:i<bR t):(jf t).getD i ByteArray.empty=str (gH (nv t i)):=by
 unfold jf;rw[bJ,gu,A7 h];rfl
theorem VF (t : List UInt8) (i : Nat) (h1 : 1 ≤ bR t) (h2:bR t≤80):cz (str (gH (nv t i))).data.toList=(nv t i,1):=by
 rw[bS]
 refine N2 _ (FJ t i) (fun e => ?_) (by have:=KR (nv t i);have e2:(2:Nat) ^ (8*4)=4294967296:=dC
                                        omega)
 have h:=aJ (fun l:List UInt8=>l.getD 1 0) e;have h3:UInt8.ofNat (bR t)=0:=h;have h4:=aJ UInt8.toNat h3;simp at h4
 omega
theorem abA (t:List UInt8):∀q ∈ jf t,q.size=64:=by
 intro q hq;obtain⟨i,-,rfl⟩:=bZ.1 hq;rw[bf,gH,aL,FJ,oK]
def xI (d:Dk) (slot:Nat) (t:List UInt8):Prop:=∀i,i<bR t→d.now (cE slot+i)=str (gH (nv t i))
theorem abB {d:Dk} (h:Good d) (slot:Nat) (t:List UInt8) (hs:1≤slot∧slot≤2) (ht:bR t≤80) :
 ∃D,gP d slot t=(D,0)∧Good D∧xI D slot t∧∀i,i<500→(i<cE slot∨cE slot+bR t≤i)→D.now i=d.now i:=by
 have hl:=h.len;have hp:cE slot+80≤500:=by unfold cE;omega
 have dP:=abO t;obtain⟨f1,f2,f3,f4⟩:=N8 h.cV h.off h.waits (cE slot) (jf t) (abA t) (bR t) oM oM;have CG:=Bd d (cE slot) (jf t) h.waits (bR t);have hw:gP d slot t=((dM d (cE slot) (jf t) (bR t)).1.flush,0):=by
  unfold gP;rw[ν oM,ν (by rw[f1];simp),Dk.OM f2 f3]
 generalize (dM d (cE slot) (jf t) (bR t)).1=V at *;have kz:V.flush.af.length=d.af.length:=by
  show ((List.range _).map _).length=_;rw[bp,uh,CG.1]
 have Sx:V.flush.waits.length=d.af.length:=by
  show (List.map _ _).length=_;rw[bp,CG.2.1];exact h.waits
 have rZ:∀i,i<d.af.length→V.flush.now i=if cE slot≤i∧i<cE slot+bR t then (jf t).getD (i - cE slot) ByteArray.empty else d.now i:=by
  intro i hi;rw[Dk.OO _ _ (by rw[CG.1];exact hi),f4]
 refine⟨_,hw,⟨f2,f3,by rw[Sx,kz],by rw[kz,hl],Dk.FX _⟩,fun i hi=>?_,fun i hi ho=>?_⟩
 ·rw[rZ _ oM,σ oM,ug,Kg t i hi]
 ·rw[rZ i oM,ν oM]
def Pp (b:ByteArray):Prop:=b=oL∨∃t j,1≤bR t∧bR t≤80∧j<bR t∧b=str (gH (nv t j))
theorem Pp.look {b:ByteArray} (h:Pp b):(cz b.data.toList).2≠2:=by
 rcases h with rfl | ⟨t,j,h1,h2,-,rfl⟩
 ·decide +kernel
 ·rw[VF t j h1 h2]
  simp
def La:MetaM:=⟨0,0,0,[],[]⟩
def jo:cY:=⟨La,0,0,0,1,0,0⟩
structure dY (d:Dk) (k:Kp) (g:Lg) (s:cY) (S0:List ai) (rows:List bL) (c:Nat):Prop where
 good:Good d
 kept:∃L0 L1,ki d k L0 L1
 uy:k.from_=0
 xL:k.seen≤c
 text:(k.gen=0∧s=jo)∨(0<k.gen∧∃t,gZ s.key gy s.m.bu t∧k.text=dr s t)
 right:dS s.m=true
 place:pT s.at_ s.θ
 slots:s.slot≤2
 log:∃rs R,nF d g rs R∧∀p,some p ∈ (rowOf g.θ 0 rs).map some++R→p.θ≤s.log
 sV:g.from_=20∧g.dZ=320∧g.θ=s.log
 D9:g.aq≤c
 Qf:g.used≤12*rows.length
 ya:g.l.length=rows.length
 recs:∀i (h:i<g.l.length) (h2:i<rows.length),gZ s.key oq (lu rows[i]) (g.l[i]).data.toList
 many:rows.length≤24
 slot:(s.slot=0∧S0=[]∧s.at_=0∧s.θ=0)∨(1≤s.slot∧∃t,gZ s.key oZ (ke S0) t∧xI d s.slot t)
 pairs:nw S0
 sound:∀i,i<160→Pp (d.now (340+i))
 r_:s.log≤c+1
 keys:s.key≤c
 rV:s.μ≤c
theorem WS {s:cY} {t:List UInt8} (h:dS s.m=true) (hp:pT s.at_ s.θ) (h4:s.slot≤2) (hl:s.log≤1000000) (hk:s.key≤1000000) (hb:s.μ≤1000000) (hi:s.m.seen≤9223372036854775807∧s.m.aG≤9223372036854775807) (ht:t.length≤120):(dr s t).length≤400:=by
 unfold dS at h;simp only[gY,FB,dR] at h;obtain⟨hm,h5,h6,h7,h8,h9⟩:=h;obtain⟨p1,p2,p3,p4⟩:=hp;have hml:s.m.aW.length≤4∧∀m ∈ s.m.aW,m.name.length≤8:=by
  rcases hm with e | e
  ·rw[e];simp
  ·unfold pS at e
   simp only[gY,dR] at e;refine⟨e.2.2,?_⟩;have:∀(l a:List gW),mL a l=true→∀m ∈ l,m.name.length≤8:=by
    intro l;induction l with
    | nil=>simp
    | cons x r ih =>
      intro a ha m hm;unfold mL at ha;simp only[gY] at ha;rcases cn.1 hm with rfl | hm
      ·have:=ha.1.1
       unfold nx at this;simp only[gY,dR] at this;exact this.1.2
      ·exact ih _ ha.2 m hm
   exact this _ _ e.1
 have hmb:(s.m.aW.flatMap jX).length≤11*s.m.aW.length:=by
  generalize s.m.aW=l at hml;have h8:=hml.2;clear hml;induction l with
  | nil=>simp
  | cons x r ih =>
    have:=ih fun m hm=>h8 m (by simp[hm])
    have hx:=h8 x sM;have hs:=kY (n:=x.name.length) oM;have hx2:(jX x).length≤11:=by
     unfold jX;rw[aL,iT];simp only[eS,yY];omega
    rw[xx,aL,eS];omega
 have q1:=dc (n:=1) oM;have q2:=dc (n:=s.m.role.toNat) oM;have q3:=dc (n:=s.m.seen.toNat) oM;have q4:=dc (n:=s.m.aG.toNat) oM;have q5:=dc (n:=s.at_.toNat) oM;have q6:=dc (n:=s.θ.toNat) oM;have q7:=dc (n:=s.slot) oM;have q8:=dc (n:=s.key) oM;have q9:=dc (n:=s.log) oM;have q10:=dc (n:=s.μ) oM;have q11:=dc (n:=s.m.aW.length) oM;have q12:=kY (n:=t.length) oM;unfold dr;simp only[aL,iF,iT];omega
section
variable {d:Dk} {k:Kp} {g:Lg} {s:cY} {S0:List ai} {rows:List bL} {c:Nat}
theorem dY.ahX (h:dY d k g s S0 rows c) {D:Dk} {g':Lg} {rs':List (List UInt8 × Nat)} {R':List (Option Lp)} {D_:List bL} (hl:nF D g' rs' R') (hlen:D.af.length=d.af.length) (hp:D.pend=0)
 (hg:g'.from_=g.from_∧g'.dZ=g.dZ∧g'.θ=g.θ) (hs:g'.aq≤c+1) (fB:∀p,some p ∈ (rowOf g'.θ 0 rs').map some++R'→p.θ≤s.log) (hu:g'.used≤12*D_.length) (gE:g'.l.length=D_.length)
 (LV:∀i (_:i<g'.l.length) (_:i<D_.length),gZ s.key oq (lu D_[i]) (g'.l[i]).data.toList) (hm:D_.length≤24) (hn:∀i,i<d.af.length→(i<20∨340≤i)→D.now i=d.now i):dY D k g' s S0 D_ (c+1):=by
 obtain⟨L0,L1,hk⟩:=h.kept;obtain⟨g1,g2,g3⟩:=h.sV;have hgd:=h.good;have aiE:=hgd.len;refine⟨⟨hl.cV,hl.off,hl.waits,hlen.trans aiE,hp⟩,⟨L0,L1,hk.bP hl.cV hl.off hl.waits hlen fun i h1 h2=>hn i (oN h.uy) (.inl (oN h.uy))⟩,h.uy,by have:=h.xL;omega,h.text,h.right,h.place,h.slots,⟨_,_,hl,fB⟩,⟨hg.1.trans g1,hg.2.1.trans g2,hg.2.2.trans g3⟩,hs,hu,gE,LV,hm,?_,h.pairs,fun i hi=>?_,by have:=h.r_;omega,by have:=h.keys;omega,by have:=h.rV;omega⟩
 ·rcases h.slot with e | ⟨e1,u,e2,e3⟩
  ·exact .inl e
  ·refine .inr ⟨e1,u,e2,fun i hi=>?_⟩
   have LW:=(e2.len (oN (qg h.pairs))).1;have:=qg h.pairs;have hn2:bR u≤80:=zc oM;have h2:=h.slots;rw[hn _ (by unfold cE;omega) (.inr (by unfold cE;omega))];exact e3 i hi
 ·rw[hn _ oM (.inr oM)]
  exact h.sound i hi
theorem aec {g g':Lg} {s:cY} {rows:List bL} {b:bL} {t:List UInt8} (gE:g.l.length=rows.length) (e:g'.l=g.l++[str t]) (hr:∀i (_:i<g.l.length) (_:i<rows.length),gZ s.key oq (lu rows[i]) (g.l[i]).data.toList) (ht:gZ s.key oq (lu b) t) :
 ∀i (_:i<g'.l.length) (_:i<(rows++[b]).length),gZ s.key oq (lu (rows++[b])[i]) (g'.l[i]).data.toList:=by
 intro i h1 h2;by_cases hi:i<rows.length
 ·have e1:g'.l[i]=g.l[i]'oM:=by simp only[e];rw[FG oM]
  rw[e1,FG hi];exact hr i _ hi
 ·have hi2:i=rows.length:=by rw[aL,A6] at h2;omega
  subst hi2;have e1:g'.l[rows.length]=str t:=by simp only[e];rw[FH oM];simp[gE]
  rw[e1,bS,FH oM];simpa using ht
theorem dY.add (h:dY d k g s S0 rows c) (hc:c<100000) (b:bL) (hb:d_ b.index b.θ b.ops=0) (he:b.θ≤9223372036854775807) (hr:rows.length<24) {t:List UInt8} (ht:gZ s.key oq (lu b) t) :
 ∃D,lR d g (str t)=(D,g.added (str t),0)∧dY D k (g.added (str t)) s S0 (rows++[b]) (c+1):=by
 obtain⟨rs,R,hl,fB⟩:=h.log;obtain⟨g1,g2,g3⟩:=h.sV;have dO:=KO hb he;have htl:=(ht.len oM).1;have hul:=hl.agV;have hu:=h.Qf;have hsz:(str t).size=t.length:=bf t;have hpo:partsOf (str t).size≤12:=by rw[hsz];unfold partsOf;omega
 have RV:=h.D9;obtain⟨q1,q2,q3,q4,q5⟩:=ahQ hl (str t) oM oM oM;refine⟨_,q1,h.ahX q2 q3 q4 ⟨rfl,rfl,rfl⟩ (by show g.aq+1≤c+1;omega) ?_ ?_ ?_ (aec h.ya rfl h.recs ht) (by rw[aL,A6];omega) fun i hi ho=>q5 i hi oM⟩
 ·intro p hp
  have hrow:rowOf g.θ 0 (rs++[((str t).data.toList,g.aq+1)])=rowOf g.θ 0 rs++dm (str t).data.toList g.θ (g.aq+1) g.last:=by
   rw[Vb,← hl.last]
  have Cw:some p ∈ (rowOf g.θ 0 rs++dm (str t).data.toList g.θ (g.aq+1) g.last).map some++R.drop (partsOf (str t).size):=by rw[← hrow];exact hp
  rcases nZ.1 Cw with e | e
  ·obtain⟨q,hq,e⟩:=bZ.1 e
   injection e with e;subst e;rcases nZ.1 hq with e | e
   ·exact fB q (NP _ (bZ.2 ⟨q,e,rfl⟩))
   ·obtain⟨i,hi,rfl⟩:=sL.1 e
    have:=(Ge _ _ _ _ i hi).1;omega
  ·exact fB p (NN _ (Dr e))
 ·show g.used+partsOf (str t).size≤_
  rw[aL,A6];omega
 ·show (g.l++[str t]).length=_
  rw[aL,aL,h.ya];rfl
theorem dY.ahY (h:dY d k g s S0 rows c) (s':cY) (h1:s'.at_=s.at_) (h2:s'.θ=s.θ) (h3:s'.slot=s.slot) (h4:s'.log=s.log) (h5:s.key≤s'.key) (yE:s'.key≤c+1) (h6:s'.μ≤c+1) (h7:dS s'.m=true)
 {D:Dk} {k':Kp} {sB sC:List (Option Pt)} (ht:(k'.gen=0∧s'=jo)∨(0<k'.gen∧∃t,gZ s'.key gy s'.m.bu t∧k'.text=dr s' t)) (hf:k'.from_=0) (Ap:k'.seen≤c+1) (q2:ki D k' sB sC) (q3:D.af.length=d.af.length) (q4:D.pend=0)
 (q5:∀i,i<d.af.length→(i<k.from_∨k.from_+20≤i)→D.now i=d.now i):dY D k' g s' S0 rows (c+1):=by
 obtain⟨rs,R,hl,fB⟩:=h.log;obtain⟨g1,g2,g3⟩:=h.sV;have hpl:pT s'.at_ s'.θ:=by rw[h1,h2];exact h.place
 have hlo:=h.r_;have I_:=h.uy;have hlen:=h.good.len;refine⟨⟨q2.cV,q2.off,q2.waits,q3.trans hlen,q4⟩,⟨sB,sC,q2⟩,hf,Ap,ht,h7,hpl,by rw[h3];exact h.slots,⟨rs,R,hl.bP q2.cV q2.off q2.waits q3 fun i a b=>q5 i oM (.inr oM),by rw[h4];exact fB⟩,by rw[h4];exact h.sV,by have:=h.D9;omega,h.Qf,h.ya,fun i a b=>(h.recs i a b).mono h5,h.many,?_,h.pairs,fun i hi=>?_,oM,yE,h6⟩
 ·rw[h3,h1,h2]
  rcases h.slot with e | ⟨e1,u,e2,e3⟩
  ·exact .inl e
  ·refine .inr ⟨e1,u,e2.mono h5,fun i hi=>?_⟩
   have LW:=(e2.len (oN (qg h.pairs))).1;have:=qg h.pairs;have hn:bR u≤80:=zc oM;have h2:=h.slots;rw[q5 _ (by unfold cE;omega) (.inr (by unfold cE;omega))];exact e3 i hi
 ·rw[q5 _ oM (.inr oM)]
  exact h.sound i hi
theorem Ux {m:MetaM} (h:dS m=true):m.bu.length≤64:=by
 unfold dS at h;simp only[gY,dR] at h;exact h.2.2.2.2.2
theorem dY.agZ (h:dY d k g s S0 rows c) (hc:c<100000) (s':cY) (h1:s'.at_=s.at_) (h2:s'.θ=s.θ) (h3:s'.slot=s.slot) (h4:s'.log=s.log) (yE:s'.key≤c+1) (h6:s'.μ≤c+1) (h7:dS s'.m=true)
 (h8:s'.m.seen≤9223372036854775807∧s'.m.aG≤9223372036854775807) {t:List UInt8} (ht:gZ s'.key gy s'.m.bu t):(dr s' t).length≤400:=by
 have hpl:pT s'.at_ s'.θ:=by rw[h1,h2];exact h.place
 have s9:=Ux h7;have htl:=(ht.len oM).1;have hlo:=h.r_;exact WS (t:=t) h7 hpl (by rw[h3];exact h.slots) oM oM oM h8 oM
theorem dY.put (h:dY d k g s S0 rows c) (hc:c<100000) (s':cY) (h1:s'.at_=s.at_) (h2:s'.θ=s.θ) (h3:s'.slot=s.slot) (h4:s'.log=s.log) (h5:s.key≤s'.key) (yE:s'.key≤c+1) (h6:s'.μ≤c+1) (h7:dS s'.m=true)
 (h8:s'.m.seen≤9223372036854775807∧s'.m.aG≤9223372036854775807) {t:List UInt8} (ht:gZ s'.key gy s'.m.bu t) :
 ∃D,eu d k (dr s' t)=(D,k.put (dr s' t),0)∧dY D (k.put (dr s' t)) g s' S0 rows (c+1):=by
 obtain⟨L0,L1,hk⟩:=h.kept;have Ap:=h.xL;obtain⟨D,sB,sC,q1,q2,q3,q4,q5⟩:=hk.Zv (dr s' t) (h.agZ hc s' h1 h2 h3 h4 yE h6 h7 h8 ht) oM;exact⟨D,q1,h.ahY s' h1 h2 h3 h4 h5 yE h6 h7 (.inr ⟨by show 0<k.seen+1;omega,t,ht,rfl⟩) h.uy (by show k.seen+1≤c+1;omega) q2 q3 q4 q5⟩
theorem dY.ag0 (h:dY d k g s S0 rows c) (t:List UInt8) (h1:1≤bR t) (h2:bR t≤80) {D:Dk} (q2:Good D)
 (q4:∀i,i<500→D.now i=d.now i∨(cE (1+s.slot % 2)≤i∧i<cE (1+s.slot % 2)+bR t∧D.now i=(jf t).getD (i - cE (1+s.slot % 2)) ByteArray.empty)):dY D k g s S0 rows c:=by
 obtain⟨L0,L1,hk⟩:=h.kept;obtain⟨rs,R,hl,fB⟩:=h.log;obtain⟨g1,g2,g3⟩:=h.sV;have I_:=h.uy;have hlen:=h.good.len;have bV:=h.slots;have hpl:cE (1+s.slot % 2)=340+(s.slot % 2)*80:=by unfold cE;omega
 have q5:∀i,i<500→(i<cE (1+s.slot % 2)∨cE (1+s.slot % 2)+bR t≤i)→D.now i=d.now i:=fun i hi ho=>by
  rcases q4 i hi with e | e
  ·exact e
  ·omega
 refine⟨q2,⟨L0,L1,hk.bP q2.cV q2.off q2.waits (by rw[q2.len,hlen]) fun i a b=>q5 i oM (.inl oM)⟩,I_,h.xL,h.text,h.right,h.place,h.slots,⟨rs,R,hl.bP q2.cV q2.off q2.waits (by rw[q2.len,hlen]) fun i a b=>q5 i oM (.inl oM),fB⟩,h.sV,h.D9,h.Qf,h.ya,h.recs,h.many,?_,h.pairs,fun i hi=>?_,h.r_,h.keys,h.rV⟩
 ·rcases h.slot with e | ⟨e1,u,e2,e3⟩
  ·exact .inl e
  ·refine .inr ⟨e1,u,e2,fun i hi=>?_⟩
   have LW:=(e2.len (oN (qg h.pairs))).1;have:=qg h.pairs;have hn:bR u≤80:=zc oM;rw[q5 _ (by unfold cE;omega) (by rw[hpl];unfold cE;omega)];exact e3 i hi
 ·rcases q4 (340+i) oM with e | ⟨a,b,e⟩
  ·rw[e]
   exact h.sound i hi
  ·rw[e,Kg t _ oM]
   exact .inr ⟨t,_,h1,h2,oM,rfl⟩
theorem dY.aiF (h:dY d k g s S0 rows c) (t:List UInt8) (h1:1≤bR t) (h2:bR t≤80) :
 ∃D,gP d (1+s.slot % 2) t=(D,0)∧dY D k g s S0 rows c∧xI D (1+s.slot % 2) t:=by
 have bV:=h.slots;obtain⟨D,q1,q2,q3,q4⟩:=abB h.good (1+s.slot % 2) t oM h2;refine⟨D,q1,h.ag0 t h1 h2 q2 fun i hi=>?_,q3⟩;by_cases hi2:i<cE (1+s.slot % 2)∨cE (1+s.slot % 2)+bR t≤i
 ·exact .inl (q4 i hi hi2)
 ·refine .inr ⟨oM,oM,?_⟩
  have e:i=cE (1+s.slot % 2)+(i - cE (1+s.slot % 2)):=oM;rw[Kg t _ oM,← q3 _ oM,← e]
theorem dY.afP (h:dY d k g s S0 rows c) (hc:c<100000) (m:MetaM) (x:List ai) (a e:Int) (hm:dS m=true) (hx:nw x) (hp:pT a e) {u t:List UInt8} (hu:gZ s.key oZ (ke x) u) (EZ:xI d (1+s.slot % 2) u) (ht:gZ s.key gy m.bu t)
 {D:Dk} {sB sC:List (Option Pt)} (q2:ki D (k.put (dr (s.whole m a e) t)) sB sC) (q3:D.af.length=d.af.length) (q4:D.pend=0) (q5:∀i,i<d.af.length→(i<k.from_∨k.from_+20≤i)→D.now i=d.now i) :
 ∃g',nE D 20 320 (s.log+1)=some g'∧dY D (k.put (dr (s.whole m a e) t)) g' (s.whole m a e) x [] (c+1):=by
 obtain⟨rs,R,hl,fB⟩:=h.log;obtain⟨g1,g2,g3⟩:=h.sV;have Ap:=h.xL;have hlo:=h.r_;have hke:=h.keys;have vg:=h.rV;have bV:=h.slots;have EC:=h.D9;have I_:=h.uy;have hlen:=h.good.len;have hl2:=hl.bP q2.cV q2.off q2.waits q3 fun i a b=>q5 i oM (.inr oM)
 have fI:=hl2.other (s.log+1) oM oM (UN fun p hp=>.inl (oN (fB p (Wg hp))));have hop:=fI.opens;simp only[g1,g2] at hop;have LW:=(hu.len (oN (qg hx))).1;have hxl:=qg hx;have hn:bR u≤80:=zc oM;refine⟨_,hop,⟨⟨q2.cV,q2.off,q2.waits,q3.trans hlen,q4⟩,⟨sB,sC,q2⟩,I_,by show k.seen+1≤c+1;omega,.inr ⟨by show 0<k.seen+1;omega,t,ht,rfl⟩,hm,hp,by show 1+s.slot % 2≤2;omega,⟨[],_,by rw[g1,g2] at fI;exact fI,fun p hp=>by have:=fB p (by simpa [rowOf] using hp);show p.θ≤s.log+1;omega⟩,⟨rfl,rfl,rfl⟩,by show g.aq≤c+1;omega,sM,rfl,fun i a b=>absurd b sM,sM,.inr ⟨by show 1≤1+s.slot % 2;omega,u,hu,fun i hi=>?_⟩,hx,fun i hi=>?_,by show s.log+1≤_;omega,by show s.key≤_;omega,by show s.μ≤_;omega⟩⟩
 ·have hpl:cE (1+s.slot % 2)=340+(s.slot % 2)*80:=by unfold cE;omega
  show D.now (cE (1+s.slot % 2)+i)=_;rw[q5 _ oM (.inr oM)];exact EZ i hi
 ·rw[q5 _ oM (.inr oM)]
  exact h.sound i hi
theorem dY.aed (h:dY d k g s S0 rows c) (hc:c<100000) (m:MetaM) (a e:Int) (hm:dS m=true) (sD:m.seen≤9223372036854775807∧m.aG≤9223372036854775807) (hp:pT a e) {t:List UInt8} (ht:gZ s.key gy m.bu t):(dr (s.whole m a e) t).length≤400:=by
 have s9:=Ux hm;have htl:=(ht.len oM).1;have hlo:=h.r_;have hke:=h.keys;have vg:=h.rV;exact WS (s:=s.whole m a e) (t:=t) hm hp (by show 1+s.slot % 2≤2;omega) (by show s.log+1≤_;omega) (by show s.key≤_;omega) (by show s.μ≤_;omega) sD oM
theorem dY.whole (h:dY d k g s S0 rows c) (hc:c<100000) (m:MetaM) (x:List ai) (a e:Int) (hm:dS m=true) (sD:m.seen≤9223372036854775807∧m.aG≤9223372036854775807) (hx:nw x) (hp:pT a e) {u t:List UInt8} (hu:gZ s.key oZ (ke x) u) (EZ:xI d (1+s.slot % 2) u) (ht:gZ s.key gy m.bu t) :
 ∃D g',eu d k (dr (s.whole m a e) t)=(D,k.put (dr (s.whole m a e) t),0)∧nE D 20 320 (s.log+1)=some g'∧dY D (k.put (dr (s.whole m a e) t)) g' (s.whole m a e) x [] (c+1):=by
 obtain⟨L0,L1,hk⟩:=h.kept;have Ap:=h.xL;obtain⟨D,sB,sC,q1,q2,q3,q4,q5⟩:=hk.Zv (dr (s.whole m a e) t) (h.aed hc m a e hm sD hp ht) oM;obtain⟨g',r1,r2⟩:=h.afP hc m x a e hm hx hp hu EZ ht q2 q3 q4 q5;exact⟨D,g',q1,r1,r2⟩
end
structure ew (d:Dk) (V:aV) (S0:List ai) (c:Nat):Prop where
 b_:dY d V.kp V.lg V.st S0 V.rows c
 rep:iV V.rows (S0,V.st.at_,V.st.θ)=some (V.S,V.at_,V.θ)
 prev:V.prev=V.st.θ
 cur:V.cur=V.st.key
 num:V.n≤c
 up:V.down=false
 yF:∀b ∈ V.rows,b.θ≤9223372036854775807
 μ:1≤V.st.μ
 gen:0<V.kp.gen
 mn:V.st.m.seen≤9223372036854775807∧V.st.m.aG≤9223372036854775807
section
variable {d:Dk} {V:aV} {S0:List ai} {c:Nat}
theorem dY.mono {d:Dk} {k:Kp} {g:Lg} {s:cY} {S0:List ai} {rows:List bL} {c c':Nat} (h:dY d k g s S0 rows c) (hc:c≤c'):dY d k g s S0 rows c':=by
 have h1:=h.xL;have h2:=h.D9;have h3:=h.r_;have h4:=h.keys;have h5:=h.rV;exact { h with xL:=by omega,D9:=by omega,r_:=by omega,keys:=by omega,rV:=by omega }
theorem ew.Bx (h:ew d V S0 c) (hc:c<100000) (about text:List UInt8):gZ V.st.key about text (V.wrap about text):=by
 have h1:=h.b_.keys;have h2:=h.b_.rV;have h3:=h.num;exact⟨V.cur,V.st.μ,V.n,by rw[h.cur];exact bQ _,by rw[h.cur];omega,oM,oM,rfl⟩
theorem ew.ag1 (h:ew d V S0 c) (hc:c<100000) (about text:List UInt8):gZ V.st.key about text (V.next.wrap about text):=by
 have h1:=h.b_.keys;have h2:=h.b_.rV;have h3:=h.num;exact⟨V.cur,V.st.μ,V.n+1,by rw[h.cur];exact bQ _,by rw[h.cur];omega,oM,oM,rfl⟩
theorem ew.pairs (h:ew d V S0 c):nw V.S:=afL h.b_.pairs h.rep
theorem ew.place (h:ew d V S0 c):pT V.at_ V.θ:=acg h.b_.place h.yF h.rep
structure eo where
 m:MetaM
 S:List ai
 at_:Int
 θ:Int
 rows:List bL
 prev:Int
 key:Nat
def aV.abs (V:aV):eo:=⟨V.st.m,V.S,V.at_,V.θ,V.rows,V.prev,V.st.key⟩
def eo.Gw (v:eo):eo := { v with rows:=[],prev:=v.θ }
def j_ (v:eo) (b:bL):eo × Int :=
 if d_ b.index b.θ b.ops≠0 then (v,d_ b.index b.θ b.ops) else
 if b.index≠v.at_+1∨b.θ<v.θ then (v,1) else
 if fW v.S b.ops≠0 then (v,fW v.S b.ops) else
 ({ (if 24≤v.rows.length then v.Gw else v) with rows:=(if 24≤v.rows.length then v.Gw else v).rows++[b],S:=cJ v.S b.ops,at_:=b.index,θ:=b.θ },0)
def lS (v:eo) (m:MetaM):eo × Int:=if dS m=false then (v,1) else ({ v with m:=m },0)
def jz (v:eo) (m:MetaM) (l:List ai) (at_ θ:Int):eo × Int :=
 if dS m=false∨mE at_ θ=false then (v,1) else if (fL l).2≠0 then (v,(fL l).2) else
 ({ v with m:=m,S:=(fL l).1,at_:=at_,θ:=θ,rows:=[],prev:=θ },0)
def rotateR (v:eo):eo × Int:=if 1048576≤v.key then (v,6) else ({ v with key:=v.key+1 },0)
theorem ew.Zw (h:ew d V S0 c) (hc:c<99000) (m:MetaM) (hm:dS m=true) (sD:m.seen≤9223372036854775807∧m.aG≤9223372036854775807) (key:Nat) (h1:V.st.key≤key) (h2:key≤c+1) :
 ∃ D,ez d V { V.st with m:=m,key:=key } = (D,{ V.next with kp:=V.kp.put (dr { V.st with m:=m,key:=key } (V.wrap gy m.bu)),st := { V.st with m:=m,key:=key } },0) ∧
  dY D (V.kp.put (dr { V.st with m:=m,key:=key } (V.wrap gy m.bu))) V.lg { V.st with m:=m,key:=key } S0 V.rows (c+1):=by
 obtain⟨D,q1,q2⟩:=h.b_.put oM { V.st with m:=m,key:=key } rfl rfl rfl rfl h1 h2 (by have:=h.b_.rV;show V.st.μ≤_;omega) hm sD ((h.Bx oM gy m.bu).mono h1);refine⟨D,?_,q2⟩;unfold ez;rw[show ({ V.st with m:=m,key:=key } : cY).m.bu=m.bu from rfl,q1,ν sM]
theorem ew.bE (h:ew d V S0 c) (hc:c<99000) (m:MetaM) (sD:m.seen≤9223372036854775807∧m.aG≤9223372036854775807) :
 ∃D V',Ep d V m=(D,V',(lS V.abs m).2)∧ew D V' S0 (c+1)∧V'.abs=(lS V.abs m).1∧V'.st.μ=V.st.μ:=by
 unfold Ep lS kq;rw[h.up,h.b_.good.off,ν sM];by_cases hr:dS m=false
 ·rw[σ hr,σ hr]
  exact⟨d,V,rfl,{ h with b_:=h.b_.mono oM,num:=by have:=h.num;omega },rfl,rfl⟩
 ·rw[ν hr,ν hr]
  obtain⟨D,q1,q2⟩:=h.Zw hc m (by simpa using hr) sD V.st.key (bQ _) (oN h.b_.keys);refine⟨D,_,q1,⟨q2,h.rep,h.prev,h.cur,by have:=h.num;show V.n+1≤_;omega,h.up,h.yF,h.μ,by show 0<V.kp.seen+1;omega,sD⟩,rfl,rfl⟩
theorem ew.rotate (h:ew d V S0 c) (hc:c<99000) :
 ∃D V',Bt d V=(D,V',(rotateR V.abs).2)∧ew D V' S0 (c+1)∧V'.abs=(rotateR V.abs).1∧V'.st.μ=V.st.μ:=by
 have hk:=h.b_.keys;unfold Bt rotateR kq;have hk1:¬1048576≤V.st.key:=oM;have hk2:¬1048576≤V.abs.key:=hk1;rw[h.up,h.b_.good.off,ν sM,ν hk1,ν hk2];obtain⟨D,q1,q2⟩:=h.Zw hc V.st.m h.b_.right h.mn (V.st.key+1) oM oM;simp only
 rw[show ({ V.st with key:=V.st.key+1 } : cY) = { V.st with m:=V.st.m,key:=V.st.key+1 } from rfl,q1,ν sM];exact⟨D,_,rfl,⟨q2,h.rep,h.prev,by show V.cur+1=V.st.key+1;rw[h.cur],by have:=h.num;show V.n+1≤_;omega,h.up,h.yF,h.μ,by show 0<V.kp.seen+1;omega,h.mn⟩,rfl,rfl⟩
theorem ew.whole (h:ew d V S0 c) (hc:c<99000) (m:MetaM) (hm:dS m=true) (sD:m.seen≤9223372036854775807∧m.aG≤9223372036854775807) (x:List ai) (hx:nw x) (a e:Int) (hp:pT a e) :
 ∃D V',iU d V m x a e=(D,V',0)∧ew D V' x (c+2)∧V'.abs = { V.abs with m:=m,S:=x,at_:=a,θ:=e,rows:=[],prev:=e } ∧ V'.st.μ=V.st.μ:=by
 obtain⟨D1,q1,q2,q3⟩:=h.b_.aiF (V.wrap oZ (ke x)) (by have:=(h.Bx oM oZ (ke x)).len (oN (qg hx));unfold bR;omega) (by
  have:=(h.Bx oM oZ (ke x)).len (oN (qg hx));have:=qg hx;exact zc oM)
 obtain⟨D,g',r1,r2,r3⟩:=q2.whole oM m x a e hm sD hx hp (h.Bx oM oZ (ke x)) q3 (h.ag1 oM gy m.bu);have hput:ez D1 V.next (V.st.whole m a e)=(D,{ V.next.next with kp:=V.kp.put (dr (V.st.whole m a e) (V.next.wrap gy m.bu)),st:=V.st.whole m a e },0):=by
  unfold ez;rw[show (V.st.whole m a e).m.bu=m.bu from rfl,show V.next.kp=V.kp from rfl,r1,ν sM]
 refine⟨D,{ V.next.next with kp:=V.kp.put (dr (V.st.whole m a e) (V.next.wrap gy m.bu)),st:=V.st.whole m a e,lg:=g',S:=x,at_:=a,θ:=e,rows:=[],prev:=e },?_,⟨r3.mono oM,rfl,rfl,h.cur,by have:=h.num;show V.n+1+1≤_;omega,h.up,sM,h.μ,by show 0<V.kp.seen+1;omega,sD⟩,rfl,rfl⟩;unfold iU;simp only
 rw[show (V.st.whole m a e).slot=1+V.st.slot % 2 from rfl,q1,ν sM];simp only
 rw[hput,ν sM];simp only
 rw[show (V.st.whole m a e).log=V.st.log+1 from rfl,r2]
theorem ew.install (h:ew d V S0 c) (hc:c<99000) (m:MetaM) (sD:m.seen≤9223372036854775807∧m.aG≤9223372036854775807) (l:List ai) (a e:Int) (he:e≤9223372036854775807) :
 ∃D V' sE,DI d V m l a e=(D,V',(jz V.abs m l a e).2)∧ew D V' sE (c+2)∧V'.abs=(jz V.abs m l a e).1∧V'.st.μ=V.st.μ:=by
 unfold DI jz kq;rw[h.up,h.b_.good.off,ν sM];by_cases h1:dS m=false∨mE a e=false
 ·rw[σ h1,σ h1]
  exact⟨d,V,S0,rfl,{ h with b_:=h.b_.mono oM,num:=by have:=h.num;omega },rfl,rfl⟩
 ·rw[ν h1,ν h1]
  by_cases h2:(fL l).2≠0
  ·rw[σ h2,σ h2]
   exact⟨d,V,S0,rfl,{ h with b_:=h.b_.mono oM,num:=by have:=h.num;omega },rfl,rfl⟩
  ·rw[ν h2,ν h2]
   have hm:dS m=true:=by
    cases hh:dS m
    ·exact absurd (.inl hh) h1
    ·rfl
   have hp:pT a e:=by
    have:mE a e=true:=by
     cases hh:mE a e
     ·exact absurd (.inr hh) h1
     ·rfl
    unfold mE at this;simp only[FB,dR] at this;constructor<;>omega
   obtain⟨D,V',q1,q2,q3,q4⟩:=h.whole hc m hm sD (fL l).1 (Xs oM) a e hp;exact⟨D,V',_,q1,q2,q3,q4⟩
theorem ew.add (h:ew d V S0 c) (hc:c<99500) (b:bL) (he:b.θ≤9223372036854775807) (hr:V.rows.length<24) (h1:d_ b.index b.θ b.ops=0) (h2:b.index=V.at_+1) (h3:V.θ≤b.θ) (h4:fW V.S b.ops=0) :
 ∃D V',jB d V b=(D,V',0)∧ew D V' S0 (c+1)∧V'.abs = { V.abs with rows:=V.rows++[b],S:=cJ V.S b.ops,at_:=b.index,θ:=b.θ } ∧ V'.st.μ=V.st.μ:=by
 have h48:(cJ V.S b.ops).length≤48:=by
  unfold fW at h4;split at h4
  ·rename_i hh;exact absurd h4 hh
  ·split at h4
   ·simp at h4
   ·omega
 obtain⟨D,q1,q2⟩:=h.b_.add oM b h1 he hr (h.Bx oM oq (lu b));refine⟨D,{ V.next with lg:=V.lg.added (str (V.wrap oq (lu b))),S:=cJ V.S b.ops,rows:=V.rows++[b],at_:=b.index,θ:=b.θ },?_,⟨q2,?_,h.prev,h.cur,by have:=h.num;show V.n+1≤_;omega,h.up,?_,h.μ,h.gen,h.mn⟩,rfl,rfl⟩
 ·unfold jB
  simp only
  rw[q1,ν sM];rfl
 ·show iV (V.rows++[b]) (S0,V.st.at_,V.st.θ)=some (cJ V.S b.ops,b.index,b.θ)
  rw[acX,h.rep];exact aeb h1 h2 h3 h48
 ·intro x hx
  rcases nZ.1 hx with hx | hx
  ·exact h.yF x hx
  ·rw[A9.1 hx];exact he
theorem ew.sW (h:ew d V S0 c) (hc:c<99000) (b:bL) (he:b.θ≤9223372036854775807) :
 ∃D V' sE,zg d V b=(D,V',(j_ V.abs b).2)∧ew D V' sE (c+3)∧V'.abs=(j_ V.abs b).1∧V'.st.μ=V.st.μ:=by
 have same:ew d V S0 (c+3) := { h with b_:=h.b_.mono oM,num:=by have:=h.num;omega };unfold zg j_ kq;rw[h.up,h.b_.good.off,ν sM];by_cases h1:d_ b.index b.θ b.ops≠0
 ·rw[σ h1,σ h1]
  exact⟨d,V,S0,rfl,same,rfl,rfl⟩
 rw[ν h1,ν h1];by_cases h2:b.index≠V.at_+1∨b.θ<V.θ
 ·rw[σ h2,σ (show b.index≠V.abs.at_+1∨b.θ<V.abs.θ from h2)]
  exact⟨d,V,S0,rfl,same,rfl,rfl⟩
 rw[ν h2,ν (show ¬(b.index≠V.abs.at_+1∨b.θ<V.abs.θ) from h2)];by_cases h3:fW V.S b.ops≠0
 ·rw[σ h3,σ (show fW V.abs.S b.ops≠0 from h3)]
  exact⟨d,V,S0,rfl,same,rfl,rfl⟩
 rw[ν h3,ν (show ¬fW V.abs.S b.ops≠0 from h3)];have e1:d_ b.index b.θ b.ops=0:=oM;have e2:b.index=V.at_+1:=oM;have e3:V.θ≤b.θ:=oM;have e4:fW V.S b.ops=0:=oM;by_cases h4:24≤V.rows.length
 ·rw[σ h4,σ (show 24≤V.abs.rows.length from h4)]
  obtain⟨D1,V1,q1,q2,q3,q4⟩:=h.whole hc V.st.m h.b_.right h.mn V.S h.pairs V.at_ V.θ h.place;have a1:V1.S=V.S:=aJ eo.S q3;have a2:V1.at_=V.at_:=aJ eo.at_ q3;have a3:V1.θ=V.θ:=aJ eo.θ q3;have a4:V1.rows=[]:=aJ eo.rows q3;obtain⟨D,V',r1,r2,r3,r4⟩:=q2.add oM b he (by rw[a4];decide) e1 (by rw[a2];exact e2) (by rw[a3];exact e3) (by rw[a1];exact e4);have s1:V'.S=cJ V.S b.ops:=by rw[← a1];exact aJ eo.S r3
  refine⟨D,V',V.S,?_,r2,?_,r4.trans q4⟩
  ·simp only[q1,r1]
   rw[ν sM,σ trivial];congr 1
   congr 1
   rw[← s1]
  ·rw[r3,q3,a4,a1]
   rfl
 ·rw[ν h4,ν (show ¬24≤V.abs.rows.length from h4)]
  obtain⟨D,V',r1,r2,r3,r4⟩:=h.add oM b he oM e1 e2 e3 e4;exact⟨D,V',S0,r1,{ r2 with b_:=r2.b_.mono oM,num:=by have:=r2.num;omega },r3,r4⟩
def aV.again (V:aV):aV := { V with st := { V.st with μ:=V.st.μ+1 },n:=0,down:=false }
def Ea (d:Dk) (V:aV):Dk × aV × Int:=ez d V.again V.again.st
theorem dY.opens (h:ew d V S0 c) (hc:c<99000) :
 ∃D V',Ea d V=(D,V',0)∧ew D V' S0 (c+1)∧V'.abs=V.abs∧V'.st.μ=V.st.μ+1:=by
 have h1:=h.b_.keys;have h2:=h.b_.rV;have h3:=h.num;obtain⟨D,q1,q2⟩:=h.b_.put oM { V.st with μ:=V.st.μ+1 } rfl rfl rfl rfl (bQ _) (by show V.st.key≤_;omega) (by show V.st.μ+1≤_;omega) h.b_.right h.mn
  (show gZ V.st.key gy V.st.m.bu (V.again.wrap gy V.st.m.bu) from ⟨V.cur,V.st.μ+1,0,by rw[h.cur];exact bQ _,by rw[h.cur];omega,oM,oM,rfl⟩)
 refine⟨D,{ V.again.next with kp:=V.kp.put (dr { V.st with μ:=V.st.μ+1 } (V.again.wrap gy V.st.m.bu)),st := { V.st with μ:=V.st.μ+1 } },?_,⟨q2,h.rep,h.prev,h.cur,by show 0+1≤_;omega,rfl,h.yF,by show 1≤V.st.μ+1;omega,by show 0<V.kp.seen+1;omega,h.mn⟩,rfl,rfl⟩;unfold Ea ez;rw[show V.again.kp=V.kp from rfl,show V.again.st = { V.st with μ:=V.st.μ+1 } from rfl];rw[show ({ V.st with μ:=V.st.μ+1 } : cY).m.bu=V.st.m.bu from rfl,q1,ν sM]
theorem dY.gS {d:Dk} {k:Kp} {g:Lg} {s:cY} {S0:List ai} {rows:List bL} {c:Nat} (h:dY d k g s S0 rows c) (hwf:d.wf) (keep:List Int):dY (d.gS keep) k g s S0 rows c:=by
 have hg:=h.good;have hl:(d.gS keep).af.length=d.af.length:=Dk.acV d keep;have hw:(d.gS keep).waits.length=(d.gS keep).af.length:=by rw[Dk.abN,hl];exact hg.waits
 have hn:∀i,i<d.af.length→(d.gS keep).now i=d.now i:=fun i hi=>by
  rcases Dk.afD (d:=d) hg.waits keep (i:=i) hi with e | e
  ·rw[e,Dk.afB hg.pend]
  ·rw[Dk.Xp hg.pend] at e
   simp at e
 have hlen:=hg.len;obtain⟨L0,L1,hk⟩:=h.kept;obtain⟨rs,R,hlo,fB⟩:=h.log;have I_:=h.uy;obtain⟨g1,g2,g3⟩:=h.sV;have bV:=h.slots;refine { h with good:=⟨rfl,rfl,hw,by rw[hl];exact hlen,Dk.Vd hwf keep⟩,kept:=⟨L0,L1,hk.bP rfl rfl hw hl fun i a b=>hn i oM⟩,log:=⟨rs,R,hlo.bP rfl rfl hw hl fun i a b=>hn i oM,fB⟩,slot:=?_,sound:=fun i hi=>?_ }
 ·rcases h.slot with e | ⟨e1,u,e2,e3⟩
  ·exact .inl e
  ·refine .inr ⟨e1,u,e2,fun i hi=>?_⟩
   have LW:=(e2.len (oN (qg h.pairs))).1;have:=qg h.pairs;have hn2:bR u≤80:=zc oM;rw[hn _ (by unfold cE;omega)];exact e3 i hi
 ·rw[hn _ oM]
  exact h.sound i hi
theorem ew.gS (h:ew d V S0 c) (hwf:d.wf) (keep:List Int):ew (d.gS keep) V S0 c := { h with b_:=h.b_.gS hwf keep }
def MV:Kp:=⟨0,[],0,1,0,false⟩
def LX:Lg:=⟨20,320,1,[],0,0,0,false⟩
def V0:aV:=⟨[],0,0,[],0,jo,false,MV,LX,0,0⟩
theorem Vg (n:Nat):(Dk.fresh n).waits.length=(Dk.fresh n).af.length∧(Dk.fresh n).af.length=n:=by simp[Dk.fresh]
theorem dY.fresh:dY (Dk.fresh 500) MV LX jo [] [] 0:=by
 refine⟨⟨rfl,rfl,(Vg _).1,(Vg _).2,acW _⟩,⟨_,_,agY 500 0 oM⟩,rfl,bQ _,.inl ⟨rfl,rfl⟩,dC,by constructor<;>decide,dC,⟨[],_,ad2 500 20 320 1 oM oM oM oM,fun p hp=>?_⟩,⟨rfl,rfl,rfl⟩,dC,dC,rfl,fun i a=>by simp[LX] at a,dC,.inl ⟨rfl,rfl,rfl,rfl⟩,nw.nil,fun i hi=>?_,dC,dC,dC⟩
 ·have hp2:some p ∈ List.replicate 320 (none:Option Lp):=hp
  have:=NH hp2;simp at this
 ·exact .inl (ad_ 500 (340+i) oM)
theorem dY.first :
 ∃D V',Ea (Dk.fresh 500) V0=(D,V',0)∧ew D V' [] 1∧V'.abs=⟨La,[],0,0,[],0,0⟩∧V'.st.μ=1:=by
 obtain⟨D,q1,q2⟩:=dY.fresh.put oM { jo with μ:=1 } rfl rfl rfl rfl (bQ _) dC dC dC dC
  (show gZ 0 gy [] (V0.again.wrap gy []) from ⟨0,1,0,oM,oM,oM,oM,rfl⟩)
 refine⟨D,{ V0.again.next with kp:=MV.put (dr { jo with μ:=1 } (V0.again.wrap gy [])),st := { jo with μ:=1 } },?_,⟨q2,rfl,rfl,rfl,dC,rfl,by simp[aV.next,aV.again,V0],dC,dC,dC⟩,rfl,rfl⟩;unfold Ea ez;rw[show V0.again.kp=MV from rfl,show V0.again.st = { jo with μ:=1 } from rfl];rw[show ({ jo with μ:=1 } : cY).m.bu=[] from rfl,q1,ν sM]
end
end
end Go.Proofs.YtbhjgfibhegddaaGreat
