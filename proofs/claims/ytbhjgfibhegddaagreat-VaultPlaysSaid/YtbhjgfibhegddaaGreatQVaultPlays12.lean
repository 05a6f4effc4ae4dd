/-
  Parts of the proof of VaultPlays: LogLaw, Rep, LawB, Iter, Keys, DiskH, DiskI, Free, LawW, Acts.
-/
import Derived.Test.YtbhjgfibhegddaaGreatQVaultPlays11
import Derived.ChangeAt2
import Derived.ChangeSame
import Derived.Deep.Fields
import Derived.Deep.Slices
import Derived.Ground.GgzProg
import Derived.Ground.SlgmProg
import Derived.Shelf.SlIterI.Nil
import Derived.Shelf.SortM.Plain
import Derived.Shelf.SortM.SortNone
import Derived.Test.YtbhjgfibhegddaaGreatProg
set_option maxRecDepth 100000
set_option maxHeartbeats 16000000
namespace Go.Proofs.YtbhjgfibhegddaaGreat
abbrev NM:=@List.take_left'
abbrev J2:=@List.getElem_cons_zero
abbrev Uj:=@List.mem_cons_of_mem
abbrev NN:=@List.mem_append_right
abbrev NP:=@List.mem_append_left
abbrev NH:=@List.eq_of_mem_replicate
abbrev Uh:=@List.getElem?_replicate
abbrev FG:=@List.getElem_append_left
abbrev FH:=@List.getElem_append_right
abbrev aa4:=@List.map_congr_left
abbrev Ds:=@Go.callsIn_wide
open Tryz
section
open Go Go.RowKit
structure Lp.ok (p:Lp):Prop where
 DZ:0<p.θ
 θ:p.θ<2 ^ (8*8)
 aq:p.aq<2 ^ (8*8)
 ahead:p.ahead<2 ^ (8*8)
 number:p.number<256
 all:p.all<256
 text:p.text.length≤32
 ajk:0<p.all
theorem U' (p:Lp) (h:p.ok):kK p.body=(p,true):=by
 obtain⟨e,s,a,n,al,t⟩:=p;obtain⟨h0,he,hs,ha,hn,jS,ht,-⟩:=h;simp only at h0 he hs ha hn jS ht
 have hb:Lp.body ⟨e,s,a,n,al,t⟩=leB e 8++(leB s 8++(leB a 8++([UInt8.ofNat n,UInt8.ofNat al,UInt8.ofNat t.length,0]++(t++List.replicate (32 - t.length) 0)))):=by simp[Lp.body]
 generalize Lp.body ⟨e,s,a,n,al,t⟩=B at *;have d0:B.take 8=leB e 8:=by rw[hb,NM (oK _ _)]
 have d8:B.drop 8=leB s 8++(leB a 8++([UInt8.ofNat n,UInt8.ofNat al,UInt8.ofNat t.length,0]++(t++List.replicate (32 - t.length) 0))):=by rw[hb,JZ (oK _ _)]
 have d16:B.drop 16=leB a 8++([UInt8.ofNat n,UInt8.ofNat al,UInt8.ofNat t.length,0]++(t++List.replicate (32 - t.length) 0)):=by
  rw[show B.drop 16=(B.drop 8).drop 8 by rw[AZ],d8,JZ (oK _ _)]
 have d24:B.drop 24=[UInt8.ofNat n,UInt8.ofNat al,UInt8.ofNat t.length,0]++(t++List.replicate (32 - t.length) 0):=by
  rw[show B.drop 24=(B.drop 16).drop 8 by rw[AZ],d16,JZ (oK _ _)]
 have hg:∀i,B.getD (24+i) 0=([UInt8.ofNat n,UInt8.ofNat al,UInt8.ofNat t.length,0]++(t++List.replicate (32 - t.length) 0)).getD i 0:=by
  intro i;rw[bJ,bJ,← d24,FD]
 have g24:B.getD 24 0=UInt8.ofNat n:=hg 0;have g25:B.getD 25 0=UInt8.ofNat al:=hg 1;have g26:B.getD 26 0=UInt8.ofNat t.length:=hg 2;have g27:B.getD 27 0=0:=hg 3;have hdr:∀i,B.drop (28+i)=(t++List.replicate (32 - t.length) 0).drop i:=by
  intro i;rw[show B.drop (28+i)=((B.drop 24).drop 4).drop i by rw[AZ,AZ,← Fq],d24];rfl
 have hu:∀x,x<256→(UInt8.ofNat x).toNat=x:=fun x hx=>by simp;omega
 have e0:=hdr 0;rw[rM] at e0;rw[kK,g24,g25,g26,g27,hu n hn,hu al jS,hu t.length oM,ν oM,d0,d8,d16,NM (oK _ _),NM (oK _ _),Gh _ _ he,Gh _ _ hs,Gh _ _ ha,e0,hdr t.length];simp
theorem afv (p:Lp) (h:p.ok):p.body≠List.replicate 60 0:=by
 intro e;have h1:=U' p h;rw[e] at h1;have h2:(kK (List.replicate 60 0)).1.θ=p.θ:=by rw[h1]
 have h3:(kK (List.replicate 60 0)).1.θ=0:=dC;have:=h.DZ;omega
theorem adT (p : Lp) (h : p.ok) : cz p.sec.data.toList=(p.body,1):=by
 have e:p.sec.data.toList=gH p.body:=by simp[Lp.sec,str]
 rw[e]
 exact N2 _ (p.DF h.text) (afv p h) (by have:=KR p.body;have e2:(2:Nat) ^ (8*4)=4294967296:=dC
                                        omega)
theorem adU (p:Lp) (h:p.ok):p.sec.size=64:=by
 rw[Lp.sec,bf,gH,aL,p.DF h.text,oK]
theorem N7 (n:Nat):1≤partsOf n:=by unfold partsOf;omega
theorem WN (t:List UInt8) (e s a:Nat) (h0:0<e) (he:e<2 ^ (8*8)) (hs:s<2 ^ (8*8)) (ha:a<2 ^ (8*8)) (ht:t.length≤1024):∀p ∈ dm t e s a,p.ok:=by
 intro p hp;obtain⟨i,hi,rfl⟩:=sL.1 hp;obtain⟨c1,c2,c3,c4,c5,c6⟩:=Ge t e s a i hi;rw[um] at hi;have hn:partsOf t.length≤32:=by unfold partsOf;omega
 have sA:=N7 t.length;exact⟨oM,oM,oM,oM,oM,oM,c6,oM⟩
theorem FZ (t:List UInt8) (e s a:Nat):∃p r,dm t e s a=p::r∧p.θ=e∧p.aq=s∧p.ahead=a∧p.all=partsOf t.length:=by
 have hn:0<(dm t e s a).length:=by rw[um];exact N7 _
 obtain⟨c1,c2,c3,c4,c5,c6⟩:=Ge t e s a 0 hn;cases h:dm t e s a with
 | nil=>rw[h] at hn;simp at hn
 | cons p r =>
   simp only[h,J2] at c1 c2 c3 c5;exact⟨p,r,rfl,c1,c2,c3,c5⟩
def G6:Option Lp→ByteArray
 | none=>oL
 | some p=>p.sec
structure WO (d:Dk) (a:Nat) (L:List (Option Lp)):Prop where
 cell:∀i (h:i<L.length),d.now (a+i)=G6 L[i]
 ok:∀p,some p ∈ L→p.ok
def l_:List (Option Lp)→List Lp
 | some p::r=>p::l_ r
 | _=>[]
def wh (L:List (Option Lp)):Nat:=L.foldl (fun m o=>max m (o.elim 0 Lp.aq)) 0
theorem adV (A:List (Option Lp)) (p:Lp):l_ (A++[some p])=if A.all Option.isSome then l_ A++[p] else l_ A:=by
 induction A with
 | nil=>rfl
 | cons x A ih =>
   cases x with
   | none=>rfl
   | some q =>
     simp only[oF,l_,ih,rN,Option.isSome_some,FF];split<;>rfl
theorem adW (A:List (Option Lp)):l_ (A++[none])=l_ A:=by
 induction A with
 | nil=>rfl
 | cons x A ih =>
   cases x with
   | none=>rfl
   | some q=>simp only[oF,l_,ih]
theorem afw (l:List Lp) (R:List (Option Lp)):l_ (l.map some++R)=l++l_ R:=by
 induction l with
 | nil=>rfl
 | cons p l ih=>simp only[jY,oF,l_,ih]
theorem Wg {L:List (Option Lp)} {p:Lp} (h:p ∈ l_ L):some p ∈ L:=by
 induction L with
 | nil=>simp[l_] at h
 | cons x L ih =>
   cases x with
   | none=>simp[l_] at h
   | some q =>
     simp only[l_,cn] at h;rcases h with rfl | h
     ·simp
     ·exact Uj _ (ih h)
theorem ab8 (L:List (Option Lp)) (s:Nat):s≤L.foldl (fun m o=>max m (o.elim 0 Lp.aq)) s:=by
 induction L generalizing s with
 | nil=>exact bQ _
 | cons x L ih=>exact iE (Nat.le_max_left _ _) (ih _)
theorem abM {L:List (Option Lp)} {p:Lp} (h:some p ∈ L) (s:Nat):p.aq≤L.foldl (fun m o=>max m (o.elim 0 Lp.aq)) s:=by
 induction L generalizing s with
 | nil=>simp at h
 | cons x L ih =>
   rcases cn.1 h with rfl | h
   ·exact iE (Nat.le_max_right _ _) (ab8 L _)
   ·exact ih h _
theorem ab9 {L:List (Option Lp)} {m:Nat} (h:∀p,some p ∈ L→p.aq≤m) (s:Nat) (hs:s≤m):L.foldl (fun m o=>max m (o.elim 0 Lp.aq)) s≤m:=by
 induction L generalizing s with
 | nil=>exact hs
 | cons x L ih =>
   refine ih (fun p hp=>h p (by simp[hp])) _ ?_;cases x with
   | none=>simpa using hs
   | some q=>exact Nat.max_le.2 ⟨hs,h q sM⟩
theorem OP {L:List (Option Lp)} {p:Lp} (h:some p ∈ L):p.aq≤wh L:=abM h 0
theorem Wh {L:List (Option Lp)} {m:Nat} (h:∀p,some p ∈ L→p.aq≤m):wh L≤m:=ab9 h 0 (vL _)
theorem Va:cz oL.data.toList=([],0):=by
 unfold cz;rw[ν (by simp[oL,str]),σ (by rfl)]
theorem adX {d:Dk} {a:Nat} {L:List (Option Lp)} (h:WO d a L) (k:Nat) (hk:k≤L.length):eG d a k=⟨l_ (L.take k),(L.take k).all Option.isSome,wh (L.take k),false⟩:=by
 induction k with
 | zero=>rfl
 | succ k ih =>
   have hlt:k<L.length:=oM;rw[FN,ih oM,xE,ν sM,h.cell k hlt,gX hlt];have hmem:L[k] ∈ L:=eM hlt;cases hx:L[k] with
   | none =>
     rw[show G6 none=oL from rfl,Va,ν dC,ν dC,adW];simp[wh]
   | some p =>
     have hok:=h.ok p (hx ▸ hmem);rw[show G6 (some p)=p.sec from rfl,adT p hok,ν sM,σ rfl,U' p hok,adV];simp[wh]
theorem afx (t:List UInt8) (n:Nat):((List.range n).flatMap fun i=>(t.drop (32*i)).take 32)=t.take (32*n):=by
 induction n with
 | zero=>simp
 | succ n ih=>rw[sK,vJ,ih];simp[List.take_add,Nat.mul_add]
theorem adY (t:List UInt8) (e s a:Nat):jj (dm t e s a)=t:=by
 have h:=afx t (partsOf t.length);rw[jj,dm,List.flatMap_map];rw[h,dH];unfold partsOf;omega
theorem acS (t:List UInt8) (e s a:Nat) (rest:List Lp) (ht:t.length≤1024):jh e a (dm t e s a++rest)=(t,true):=by
 obtain⟨p,r,hc,c1,c2,c3,c4⟩:=FZ t e s a;have hl:(p::r).length=partsOf t.length:=by rw[← hc,um]
 have dn:(p::(r++rest)).take (partsOf t.length)=dm t e s a:=by
  rw[← oF,← hl,NM rfl,hc]
 have hl2:partsOf t.length≤(p::(r++rest)).length:=by
  rw[← hl];simp only[eS,aL];omega
 rw[hc,oF,jh,c4,dn,adY,ν oM,ν oM,dn,c2,fe ⟨hl2,rfl⟩]
theorem ab_ {e a:Nat} {row:List Lp} (h:(jh e a row).2=true):∃t s rest,t.length≤1024∧row=dm t e s a++rest:=by
 unfold jh at h;split at h
 ·simp at h
 ·split at h
  ·simp at h
  ·split at h
   ·simp at h
   ·rename_i p r h1 h2
    simp only[dR] at h;exact⟨jj ((p::r).take p.all),p.aq,(p::r).drop (partsOf (jj ((p::r).take p.all)).length),oM,by rw[h.2,AW]⟩
theorem ab' {e a:Nat} {p:Lp} {r:List Lp} (h:(jh e a (p::r)).2=true):p.θ=e∧p.ahead=a:=by
 obtain⟨t,s,rest,-,hr⟩:=ab_ h;obtain⟨q,r',hc,c1,c2,c3,c4⟩:=FZ t e s a;rw[hc,oF] at hr;injection hr with h3 h4;rw[h3];exact⟨c1,c3⟩
theorem UN {e a:Nat} {l:List Lp} (h:∀p ∈ l,p.θ≠e∨p.ahead≠a):(jh e a l).2=false:=by
 cases l with
 | nil=>rfl
 | cons p r =>
   cases hf:(jh e a (p::r)).2 with
   | false=>rfl
   | true =>
     obtain⟨h1,h2⟩:=ab' hf;rcases h p sM with h3 | h3
     ·exact absurd h1 h3
     ·exact absurd h2 h3
def rowOf (e:Nat):Nat→List (List UInt8 × Nat)→List Lp
 | _,[]=>[]
 | last,q::r=>dm q.1 e q.2 last++rowOf e q.2 r
def rS:Nat→List (List UInt8 × Nat)→Nat
 | last,[]=>last
 | _,q::r=>rS q.2 r
theorem Vb (e last:Nat) (rs:List (List UInt8 × Nat)) (q:List UInt8 × Nat):rowOf e last (rs++[q])=rowOf e last rs++dm q.1 e q.2 (rS last rs):=by
 induction rs generalizing last with
 | nil=>simp[rowOf,rS]
 | cons x rs ih=>simp only[oF,rowOf,rS,ih,dQ]
theorem acd (last:Nat) (rs:List (List UInt8 × Nat)) (q:List UInt8 × Nat):rS last (rs++[q])=q.2:=by
 induction rs generalizing last with
 | nil=>rfl
 | cons x rs ih=>simp only[oF,rS,ih]
theorem adZ (e last:Nat) (rs:List (List UInt8 × Nat)):rs.length≤(rowOf e last rs).length:=by
 induction rs generalizing last with
 | nil=>simp
 | cons x rs ih =>
   have:=ih x.2;have:=N7 x.1.length;simp only[rowOf,aL,um,eS];omega
theorem ad0 {e last m:Nat} {rs:List (List UInt8 × Nat)} (h:∀p ∈ rowOf e last rs,p.aq≤m) (hl:last≤m):rS last rs≤m:=by
 induction rs generalizing last with
 | nil=>exact hl
 | cons x rs ih =>
   refine ih (fun p hp=>h p (NN _ hp)) ?_;obtain⟨p,r,hc,c1,c2,c3,c4⟩:=FZ x.1 e x.2 last;have:=h p (NP _ (by rw[hc];simp))
   omega
theorem ad1 (rs:List (List UInt8 × Nat)) (hs:∀q ∈ rs,q.1.length≤1024) (rest:List Lp) (g:Lg) (n:Nat) (hn:rs.length<n) (hst:(jh g.θ (rS g.last rs) rest).2=false) :
 qV n g (rowOf g.θ g.last rs++rest) = { g with l:=g.l++rs.map (fun q=>str q.1),last:=rS g.last rs,used:=g.used+(rowOf g.θ g.last rs).length } := by
 induction rs generalizing g n with
 | nil =>
   obtain⟨m,rfl⟩:∃m,n=m+1:=⟨n - 1,oM⟩;rw[qV,ν]
   ·simp[rowOf,rS]
   ·simpa [rowOf,rS] using hst
 | cons x rs ih =>
   obtain⟨m,rfl⟩:∃m,n=m+1:=⟨n - 1,by simp at hn;omega⟩;have hx:=hs x sM;have hf:=acS x.1 g.θ x.2 g.last (rowOf g.θ x.2 rs++rest) hx;obtain⟨p,r,hc,c1,c2,c3,c4⟩:=FZ x.1 g.θ x.2 g.last;have hhd:((dm x.1 g.θ x.2 g.last++(rowOf g.θ x.2 rs++rest)).headD ⟨0,0,0,0,0,[]⟩).aq=x.2:=by rw[hc];exact c2
   have hdr:(dm x.1 g.θ x.2 g.last++(rowOf g.θ x.2 rs++rest)).drop (partsOf x.1.length)=rowOf g.θ x.2 rs++rest:=by
    rw[JZ (um _ _ _ _)]
   rw[qV,rowOf,dQ,hf,σ rfl,hhd,hdr];have:=ih (fun q hq=>hs q (by simp[hq])) { g with l:=g.l++[str x.1],last:=x.2,used:=g.used+partsOf x.1.length } m (by simp at hn;omega) hst;rw[this];simp[rS,um,Nat.add_assoc]
structure nF (d:Dk) (g:Lg) (rs:List (List UInt8 × Nat)) (R:List (Option Lp)):Prop where
 cV:d.cV=-1
 off:d.off=false
 waits:d.waits.length=d.af.length
 room:g.from_+g.dZ≤d.af.length
 pos:1≤g.dZ
 DZ:0<g.θ
 θ:g.θ<18446744073709551616
 cells:WO d g.from_ ((rowOf g.θ 0 rs).map some++R)
 len:(rowOf g.θ 0 rs).length+R.length=g.dZ
 recs:g.l=rs.map (fun q=>str q.1)
 used:g.used=(rowOf g.θ 0 rs).length
 last:g.last=rS 0 rs
 aq:g.aq=wh ((rowOf g.θ 0 rs).map some++R)
 PS:∀p,some p ∈ (rowOf g.θ 0 rs).map some++R→p.ahead≤g.aq
 small:∀q ∈ rs,q.1.length≤1024
 broken:g.broken=false
 stop:(jh g.θ g.last (l_ R)).2=false
theorem nF.opens {d:Dk} {g:Lg} {rs:List (List UInt8 × Nat)} {R:List (Option Lp)} (h:nF d g rs R):nE d g.from_ g.dZ g.θ=some g:=by
 have hl:((rowOf g.θ 0 rs).map some++R).length=g.dZ:=by rw[aL,bp];exact h.len
 have hs:=adX h.cells g.dZ oM;rw[dH oM,afw,← h.aq] at hs;unfold nE;rw[hs,ν sM];have hlo:=ad1 rs h.small (l_ R) ⟨g.from_,g.dZ,g.θ,[],0,0,g.aq,false⟩ ((rowOf g.θ 0 rs++l_ R).length+1) (by have:=adZ g.θ 0 rs;rw[aL];omega) (by have:=h.stop;rw[h.last] at this;exact this);rw[hlo];congr 1
 obtain⟨g1,g2,g3,g4,g5,g6,g7,g8⟩:=g;have e1:=h.recs;have e2:=h.used;have e3:=h.last;have e4:=h.broken;simp only at e1 e2 e3 e4 ⊢
 rw[e1,e2,e3,e4];simp
theorem nF.WQ {d:Dk} {g:Lg} {rs:List (List UInt8 × Nat)} {R:List (Option Lp)} (h:nF d g rs R):g.last≤g.aq:=by
 rw[h.last];exact ad0 (e:=g.θ) (fun p hp=>by rw[h.aq];exact OP (NP _ (bZ.2 ⟨p,hp,rfl⟩))) (vL _)
theorem nF.other {d:Dk} {g:Lg} {rs:List (List UInt8 × Nat)} {R:List (Option Lp)} (h:nF d g rs R) (e:Nat) (h0:0<e) (he:e<18446744073709551616) (hst:(jh e 0 (l_ ((rowOf g.θ 0 rs).map some++R))).2=false) :
 nF d ⟨g.from_,g.dZ,e,[],0,0,g.aq,false⟩ [] ((rowOf g.θ 0 rs).map some++R) :=
 ⟨h.cV,h.off,h.waits,h.room,h.pos,h0,he,by simpa [rowOf] using h.cells,by simpa [rowOf] using h.len,rfl,rfl,rfl,by simpa [rowOf] using h.aq,by simpa [rowOf] using h.PS,sM,rfl,hst⟩
theorem ad2 (n f m e:Nat) (h:f+m≤n) (hm:1≤m) (h0:0<e) (he:e<18446744073709551616):nF (Dk.fresh n) ⟨f,m,e,[],0,0,0,false⟩ [] (List.replicate m none):=by
 have hno:∀p:Lp,some p ∉ List.replicate m (none:Option Lp):=fun p hp=>by have:=NH hp;simp at this
 have hrow:l_ (List.replicate m none)=[]:=by cases m<;>rfl
 refine⟨rfl,rfl,by simp[Dk.fresh],by simpa [Dk.fresh] using h,hm,h0,he,⟨fun i hi=>?_,fun p hp=>absurd hp (hno p)⟩,by simp[rowOf],rfl,rfl,rfl,?_,fun p hp=>absurd hp (hno p),sM,rfl,by rw[hrow];rfl⟩
 ·have e:(Dk.fresh n).now (f+i)=oL:=by
   have hi':i<m:=by simpa [rowOf] using hi
   unfold Dk.now Dk.at_ Dk.last Dk.fresh;simp only[bJ,Uh];rw[σ oM,σ oM];rfl
  simp[rowOf,e,G6]
 ·have:wh (List.replicate m none)≤0:=Wh fun p hp=>absurd hp (hno p)
  show 0=wh (List.replicate m none);omega
theorem N8 {d:Dk} (h:d.cV=-1) (ho:d.off=false) (hw:d.waits.length=d.af.length) (a:Nat) (l:List ByteArray) (hs:∀q ∈ l,q.size=64) (j:Nat) (hj:j≤l.length) (ha:a+j≤d.af.length) :
 (dM d a l j).2=0∧(dM d a l j).1.cV=-1∧(dM d a l j).1.off=false ∧
   ∀i,(dM d a l j).1.now i=if a≤i∧i<a+j then l.getD (i - a) ByteArray.empty else d.now i:=by
 induction j with
 | zero=>exact⟨rfl,h,ho,fun i=>by rw[ν oM];rfl⟩
 | succ j ih =>
   obtain⟨i1,i2,i3,i4⟩:=ih oM oM;obtain⟨s1,s2,s3⟩:=Bd d a l hw j;have hq:(l.getD j ByteArray.empty).size=64:=by
    rw[bJ,bD oM];exact hs _ (eM _)
   have hwr:=Dk.acR i2 i3 (i:=a+j) (by rw[s1];omega) hq;rw[dM,ν (by rw[i1];simp),hwr]
   refine⟨rfl,i2,i3,fun i=>?_⟩;rw[Dk.afs _ _ _ _ (by rw[s2,hw];omega),i4];by_cases e:a+j=i
   ·subst e
    rw[σ rfl,σ oM,ug]
   ·rw[ν e]
    by_cases e2:a≤i∧i<a+j
    ·rw[σ e2,σ oM]
    ·rw[ν e2,ν oM]
def Lg.added (g:Lg) (s:ByteArray):Lg := { g with aq:=g.aq+1,last:=g.aq+1,broken:=false,l:=g.l++[s],used:=g.used+partsOf s.size }
def uH (d:Dk) (g:Lg) (s:ByteArray):Dk:=(qO d g s.data.toList).1.flush
theorem afy {d d2:Dk} {g:Lg} {rs:List (List UInt8 × Nat)} {R:List (Option Lp)} (h:nF d g rs R) (s:ByteArray) (hs:s.size≤1024) (hr:partsOf s.size≤R.length) (GJ:g.aq<18446744073709551615)
 (Ey:d2.cV=-1) (kL:d2.off=false) (aH:d2.waits.length=d2.af.length) (hl2:d2.af.length=d.af.length)
 (rZ:∀i,i<g.dZ→d2.now (g.from_+i)=if g.used≤i∧i<g.used+partsOf s.size then (l8 g s.data.toList).getD (i - g.used) ByteArray.empty else d.now (g.from_+i)) :
 nF d2 (g.added s) (rs++[(s.data.toList,g.aq+1)]) (R.drop (partsOf s.size)):=by
 have hlen:=h.len;have hroom:=h.room;have D8:=h.used;have e64:(2:Nat) ^ (8*8)=18446744073709551616:=dC;have Eo:s.data.toList.length=s.size:=by simp
 have fB:=h.θ;have hll:=h.WQ;have hok:=WN s.data.toList g.θ (g.aq+1) g.last h.DZ oM oM oM oM;have cu:=um s.data.toList g.θ (g.aq+1) g.last;rw[Eo] at cu;have dP:=Vz g s.data.toList;rw[Eo] at dP;have hrow:rowOf g.θ 0 (rs++[(s.data.toList,g.aq+1)])=rowOf g.θ 0 rs++dm s.data.toList g.θ (g.aq+1) g.last:=by
  rw[Vb,← h.last]
 have hmem:∀p,some p ∈ (rowOf g.θ 0 rs++dm s.data.toList g.θ (g.aq+1) g.last).map some++R.drop (partsOf s.size)→p ∈ dm s.data.toList g.θ (g.aq+1) g.last∨some p ∈ (rowOf g.θ 0 rs).map some++R:=by
  intro p hp;rcases nZ.1 hp with e | e
  ·obtain⟨q,hq,e⟩:=bZ.1 e
   injection e with e;subst e;rcases nZ.1 hq with e | e
   ·exact .inr (NP _ (bZ.2 ⟨q,e,rfl⟩))
   ·exact .inl e
  ·exact .inr (NN _ (Dr e))
 have hcut:∀p ∈ dm s.data.toList g.θ (g.aq+1) g.last,p.aq=g.aq+1∧p.ahead=g.last:=by
  intro p hp;obtain⟨i,hi,rfl⟩:=sL.1 hp;obtain⟨c1,c2,c3,c4⟩:=Ge _ _ _ _ i hi;exact⟨c2,c3⟩
 have ajl:g.aq+1=wh ((rowOf g.θ 0 rs++dm s.data.toList g.θ (g.aq+1) g.last).map some++R.drop (partsOf s.size)):=by
  apply Nat.le_antisymm
  ·obtain⟨p,r,hc,c1,c2,c3,c4⟩:=FZ s.data.toList g.θ (g.aq+1) g.last
   have:=OP (L:=(rowOf g.θ 0 rs++dm s.data.toList g.θ (g.aq+1) g.last).map some++R.drop (partsOf s.size)) (p:=p) (NP _ (bZ.2 ⟨p,NN _ (by rw[hc];simp),rfl⟩))
   omega
  ·refine Wh fun p hp=>?_
   rcases hmem p hp with e | e
   ·have:=(hcut p e).1;omega
   ·have:=OP e
    rw[← h.aq] at this;omega
 have hah:∀p,some p ∈ (rowOf g.θ 0 rs++dm s.data.toList g.θ (g.aq+1) g.last).map some++R.drop (partsOf s.size)→p.ahead≤g.aq+1:=by
  intro p hp;rcases hmem p hp with e | e
  ·have:=(hcut p e).2;omega
  ·have:=h.PS p e;omega
 have hrl:((rowOf g.θ 0 rs).map some:List (Option Lp)).length=g.used:=by rw[bp,D8]
 have LU:(g.added s).θ=g.θ:=rfl;have hfr:(g.added s).from_=g.from_:=rfl;refine⟨Ey,kL,aH,by rw[hl2];exact hroom,h.pos,h.DZ,fB,⟨fun i hi=>?_,fun p hp=>?_⟩,?_,?_,?_,?_,?_,?_,?_,rfl,?_⟩
 ·have hi2:i<g.used+partsOf s.size+(R.length - partsOf s.size):=by
   rw[LU,hrow,aL,bp,aL,cu,gM,← D8] at hi;exact hi
  rw[hfr,rZ i oM];have hL:((rowOf (g.added s).θ 0 (rs++[(s.data.toList,g.aq+1)])).map some++R.drop (partsOf s.size))=(rowOf g.θ 0 rs).map some++((dm s.data.toList g.θ (g.aq+1) g.last).map some++R.drop (partsOf s.size)):=by
   rw[LU,hrow,kG,dQ]
  simp only[hL];by_cases e1:i<g.used
  ·rw[ν oM,h.cells.cell i (by rw[aL];omega),FG oM,FG oM]
  ·by_cases e2:i<g.used+partsOf s.size
   ·rw[σ oM,FH oM]
    rw[FG (by simp only[bp];omega),bJ,bD oM];simp only[l8,J0,J1,G6,hrl]
   ·rw[ν oM,h.cells.cell i (by rw[aL];omega),FH oM,FH oM]
    rw[FH (by simp only[bp];omega)];simp only[List.getElem_drop,bp,cu,← D8];congr 2
    omega
 ·rw[LU,hrow] at hp
  rcases hmem p hp with e | e
  ·exact hok p e
  ·exact h.cells.ok p e
 ·show (rowOf g.θ 0 _).length+_=g.dZ
  rw[hrow,aL,cu,gM];omega
 ·show g.l++[s]=_
  rw[kG,h.recs];rfl
 ·show g.used+partsOf s.size=(rowOf g.θ 0 _).length
  rw[hrow,aL,cu,D8]
 ·show g.aq+1=_
  rw[acd]
 ·show g.aq+1=wh ((rowOf g.θ 0 _).map some++_)
  rw[hrow];exact ajl
 ·intro p hp
  show p.ahead≤g.aq+1;rw[LU,hrow] at hp;exact hah p hp
 ·intro q hq
  rcases nZ.1 hq with e | e
  ·exact h.small q e
  ·rw[A9.1 e,Eo];exact hs
 ·show (jh g.θ (g.aq+1) _).2=false
  refine UN fun p hp=>.inr ?_
  have:=h.PS p (NN _ (Dr (Wg hp)));omega
theorem ahQ {d:Dk} {g:Lg} {rs:List (List UInt8 × Nat)} {R:List (Option Lp)} (h:nF d g rs R) (s:ByteArray) (hs:s.size≤1024) (hr:partsOf s.size≤R.length) (GJ:g.aq<18446744073709551615) :
 lR d g s=(uH d g s,g.added s,0)∧nF (uH d g s) (g.added s) (rs++[(s.data.toList,g.aq+1)]) (R.drop (partsOf s.size))∧(uH d g s).af.length=d.af.length∧(uH d g s).pend=0 ∧
  ∀i,i<d.af.length→(i<g.from_∨g.from_+g.dZ≤i)→(uH d g s).now i=d.now i:=by
 have hlen:=h.len;have hroom:=h.room;have D8:=h.used;have e64:(2:Nat) ^ (8*8)=18446744073709551616:=dC;have Eo:s.data.toList.length=s.size:=by simp
 have fB:=h.θ;have hll:=h.WQ;have hok:=WN s.data.toList g.θ (g.aq+1) g.last h.DZ oM oM oM oM;have dP:=Vz g s.data.toList;rw[Eo] at dP;have hsz:∀q ∈ l8 g s.data.toList,q.size=64:=by
  intro q hq;obtain⟨p,hp,rfl⟩:=bZ.1 hq;exact adU p (hok p hp)
 obtain⟨w1,w2,w3,w4⟩:=N8 h.cV h.off h.waits (g.from_+g.used) (l8 g s.data.toList) hsz (partsOf s.size) oM oM;obtain⟨s1,s2,s3⟩:=Bd d (g.from_+g.used) (l8 g s.data.toList) h.waits (partsOf s.size);have hwg:qO d g s.data.toList=dM d (g.from_+g.used) (l8 g s.data.toList) (partsOf s.size):=by rw[qO,Eo]
 have hD:uH d g s=(dM d (g.from_+g.used) (l8 g s.data.toList) (partsOf s.size)).1.flush:=by rw[uH,hwg]
 have PT:(uH d g s).af.length=d.af.length:=by
  rw[hD];show ((List.range _).map _).length=_;rw[bp,uh,s1]
 have ahR:(uH d g s).waits.length=(uH d g s).af.length:=by
  rw[PT,hD];show (List.map _ _).length=_;rw[bp,s2,h.waits]
 have rZ:∀i,i<d.af.length→(uH d g s).now i=if g.from_+g.used≤i∧i<g.from_+g.used+partsOf s.size then (l8 g s.data.toList).getD (i - (g.from_+g.used)) ByteArray.empty else d.now i:=by
  intro i hi;rw[hD,Dk.OO _ _ (by rw[s1];exact hi),w4]
 refine⟨?_,afy h s hs hr GJ (by rw[hD];exact w2) (by rw[hD];exact w3) ahR PT (fun i hi=>?_),PT,by rw[hD];exact Dk.FX _,fun i hi ho=>?_⟩
 ·unfold lR
  rw[h.broken,ν sM,ν oM,ν oM,hwg,ν (by rw[w1];simp),Dk.OM w2 w3,ν sM,hD]
  rfl
 ·rw[rZ _ oM,Nat.add_sub_add_left]
  by_cases e:g.used≤i∧i<g.used+partsOf s.size
  ·rw[σ oM,σ e]
  ·rw[ν oM,ν e]
 ·rw[rZ i hi,ν oM]
theorem nF.agV {d:Dk} {g:Lg} {rs:List (List UInt8 × Nat)} {R:List (Option Lp)} (h:nF d g rs R):g.used+R.length=g.dZ:=by rw[h.used];exact h.len
def zE (c:UInt8) (n:Nat):ByteArray:=⟨(Lib.repeatL (⟨#[c]⟩:ByteArray).data.toList n).toArray⟩
theorem aiD (c:UInt8) (n:Nat) (w:World) (hn:n≤5000) :
 ς 20 #[.string ⟨#[c]⟩,ι (n:Int)] w fun e w'=>e=ώ (.string (zE c n))∧υ w w':=by
 refine(strings_Repeat ⟨#[c]⟩ n w oM (by show 1*n≤_;omega)).mono ?_;rintro e w' ⟨rfl,hb⟩;exact⟨rfl,ζ.oI hb _⟩
section
variable {w0 w w':World} {p b:Nat} {d:Dk} {k:Kp}
end
section
variable {w0 w w':World} {p b:Nat} {d:Dk} {k:Kp} {F F':List Nat}
end
theorem acT {l:List Pt} (h:(dI l).2≠0):∃t g rest,g≠0∧t.length≤400∧l=aX t g++rest∧dI l=(t,g):=by
 unfold dI at h ⊢;split at h
 ·simp at h
 ·split at h
  ·simp at h
  ·split at h
   ·rename_i h1 h2 h3
    refine⟨kg (l.take (qm l)),uk l,l.drop (aO (kg (l.take (qm l))).length),h1,oM,by rw[h3,AW],?_⟩;rw[ν h1,ν h2,σ h3]
   ·simp at h
theorem VD (n:Nat):1≤aO n:=by unfold aO;omega
end
end Go.Proofs.YtbhjgfibhegddaaGreat
namespace Go.Proofs
open Go.Shelf
def Tryz.keysA_ren:Go.Shelf.Ren:=⟨fun | 7=>87 | 10=>147 | n=>n,fun | 23=>149 | 26=>3 | 3=>147 | 28=>157 | 0=>0 | 27=>156 | 33=>159 | 4=>4 | n=>n,fun | n=>n⟩
theorem Tryz.keysA:Go.Proofs.SlLaysZI.n7 Tryz.prog Tryz.keysA_ren := {
 mixed:=by kernel_rfl
 f7:=⟨Tryz.f87.name,by decide,Tryz.func87.trans (congrArg some (by kernel_rfl))⟩
 f10:=⟨Tryz.f147.name,by decide,Tryz.func147.trans (congrArg some (by kernel_rfl))⟩
 t0:=Tryz.underlying0
 a0:=Tryz.isAgg0
 z0:=Tryz.sizeOf0
 v0:=Tryz.zeroValue0
 t4:=Tryz.underlying4
 a4:=Tryz.isAgg4
 z4:=Tryz.sizeOf4
 v4:=Tryz.zeroValue4
 t23:=Tryz.underlying149
 a23:=Tryz.isAgg149
 z23:=Tryz.sizeOf149
 v23:=Tryz.zeroValue149
 t26:=Tryz.underlying3
 a26:=Tryz.isAgg3
 z26:=Tryz.sizeOf3
 v26:=Tryz.zeroValue3
 t27:=Tryz.underlying156
 a27:=Tryz.isAgg156
 z27:=Tryz.sizeOf156
 v27:=Tryz.zeroValue156
 t28:=Tryz.underlying157
 a28:=Tryz.isAgg157
 z28:=Tryz.sizeOf157
 v28:=Tryz.zeroValue157
 t33:=Tryz.underlying159
 a33:=Tryz.isAgg159
 z33:=Tryz.sizeOf159
 v33:=Tryz.zeroValue159 }
def Tryz.sortedA_ren:Go.Shelf.Ren:=⟨fun | 6=>86 | 8=>145 | 9=>146 | 11=>195 | 13=>197 | 12=>196 | 23=>237 | 24=>204 | 14=>228 | 15=>229 | 16=>230 | 17=>231 | 18=>232 | 19=>233 | 20=>234 | 21=>235 | 22=>236 | 25=>263 | 26=>264 | 27=>265 | 28=>266 | 29=>267 | 30=>268 | 31=>286 | n=>n,fun | 26=>3 | 28=>157 | 24=>100 | 0=>0 | 3=>3 | 37=>133 | 48=>113 | 50=>112 | 4=>4 | 40=>329 | 39=>328 | 45=>307 | 5=>5 | 9=>9 | 51=>352 | 55=>283 | 57=>373 | 58=>26 | 33=>159 | n=>n,fun | n=>n⟩
theorem Tryz.sortedA:Go.Proofs.SlLaysZI.n6 Tryz.prog Tryz.sortedA_ren := {
 mixed:=by kernel_rfl
 f6:=⟨Tryz.f86.name,by decide,Tryz.func86.trans (congrArg some (by kernel_rfl))⟩
 f8:=⟨Tryz.f145.name,by decide,Tryz.func145.trans (congrArg some (by kernel_rfl))⟩
 f11:=⟨Tryz.f195.name,by decide,Tryz.func195.trans (congrArg some (by kernel_rfl))⟩
 t0:=Tryz.underlying0
 a0:=Tryz.isAgg0
 z0:=Tryz.sizeOf0
 v0:=Tryz.zeroValue0
 t24:=Tryz.underlying100
 a24:=Tryz.isAgg100
 z24:=Tryz.sizeOf100
 v24:=Tryz.zeroValue100
 t26:=Tryz.underlying3
 a26:=Tryz.isAgg3
 z26:=Tryz.sizeOf3
 v26:=Tryz.zeroValue3
 t28:=Tryz.underlying157
 a28:=Tryz.isAgg157
 z28:=Tryz.sizeOf157
 v28:=Tryz.zeroValue157
 i26:=by kernel_rfl }
def Tryz.sortA_ren:Go.Shelf.Ren:=⟨fun | 5=>146 | 8=>197 | 7=>196 | 19=>237 | 20=>204 | 10=>228 | 11=>229 | 12=>230 | 13=>231 | 14=>232 | 15=>233 | 16=>234 | 17=>235 | 18=>236 | 30=>263 | 31=>264 | 32=>265 | 33=>266 | 34=>267 | 35=>268 | 40=>286 | n=>n,fun | 23=>100 | 25=>3 | 3=>3 | 32=>133 | 22=>100 | 0=>0 | 44=>113 | 46=>112 | 4=>4 | 36=>329 | 35=>328 | 41=>307 | 5=>5 | 9=>9 | 53=>352 | 57=>283 | 63=>373 | 64=>26 | n=>n,fun | n=>n⟩
theorem Tryz.sortA:Go.Proofs.SlLaysM.n5 Tryz.prog Tryz.sortA_ren := {
 mixed:=by kernel_rfl
 f5:=⟨Tryz.f146.name,by decide,Tryz.func146.trans (congrArg some (by kernel_rfl))⟩
 f7:=⟨Tryz.f196.name,by decide,Tryz.func196.trans (congrArg some (by kernel_rfl))⟩
 f8:=Tryz.func197.trans (congrArg some (by kernel_rfl))
 f10:=⟨Tryz.f228.name,by decide,Tryz.func228.trans (congrArg some (by kernel_rfl))⟩
 f11:=⟨Tryz.f229.name,by decide,Tryz.func229.trans (congrArg some (by kernel_rfl))⟩
 f12:=⟨Tryz.f230.name,by decide,Tryz.func230.trans (congrArg some (by kernel_rfl))⟩
 f13:=⟨Tryz.f231.name,by decide,Tryz.func231.trans (congrArg some (by kernel_rfl))⟩
 f14:=⟨Tryz.f232.name,by decide,Tryz.func232.trans (congrArg some (by kernel_rfl))⟩
 f15:=⟨Tryz.f233.name,by decide,Tryz.func233.trans (congrArg some (by kernel_rfl))⟩
 f16:=⟨Tryz.f234.name,by decide,Tryz.func234.trans (congrArg some (by kernel_rfl))⟩
 f17:=⟨Tryz.f235.name,by decide,Tryz.func235.trans (congrArg some (by kernel_rfl))⟩
 f18:=⟨Tryz.f236.name,by decide,Tryz.func236.trans (congrArg some (by kernel_rfl))⟩
 f19:=Tryz.func237.trans (congrArg some (by kernel_rfl))
 f20:=Tryz.func204.trans (congrArg some (by kernel_rfl))
 f30:=⟨Tryz.f263.name,by decide,Tryz.func263.trans (congrArg some (by kernel_rfl))⟩
 f31:=Tryz.func264.trans (congrArg some (by kernel_rfl))
 f32:=Tryz.func265.trans (congrArg some (by kernel_rfl))
 f33:=⟨Tryz.f266.name,by decide,Tryz.func266.trans (congrArg some (by kernel_rfl))⟩
 f34:=⟨Tryz.f267.name,by decide,Tryz.func267.trans (congrArg some (by kernel_rfl))⟩
 f35:=⟨Tryz.f268.name,by decide,Tryz.func268.trans (congrArg some (by kernel_rfl))⟩
 f40:=⟨Tryz.f286.name,by decide,Tryz.func286.trans (congrArg some (by kernel_rfl))⟩
 t0:=Tryz.underlying0
 a0:=Tryz.isAgg0
 z0:=Tryz.sizeOf0
 v0:=Tryz.zeroValue0
 t3:=Tryz.underlying3
 a3:=Tryz.isAgg3
 z3:=Tryz.sizeOf3
 v3:=Tryz.zeroValue3
 t4:=Tryz.underlying4
 a4:=Tryz.isAgg4
 z4:=Tryz.sizeOf4
 v4:=Tryz.zeroValue4
 t5:=Tryz.underlying5
 a5:=Tryz.isAgg5
 z5:=Tryz.sizeOf5
 v5:=Tryz.zeroValue5
 t9:=Tryz.underlying9
 a9:=Tryz.isAgg9
 z9:=Tryz.sizeOf9
 v9:=Tryz.zeroValue9
 t22:=Tryz.underlying100
 a22:=Tryz.isAgg100
 z22:=Tryz.sizeOf100
 v22:=Tryz.zeroValue100
 t23:=Tryz.underlying100
 a23:=Tryz.isAgg100
 z23:=Tryz.sizeOf100
 v23:=Tryz.zeroValue100
 t25:=Tryz.underlying3
 a25:=Tryz.isAgg3
 z25:=Tryz.sizeOf3
 v25:=Tryz.zeroValue3
 t32:=Tryz.underlying133
 a32:=Tryz.isAgg133
 z32:=Tryz.sizeOf133
 v32:=Tryz.zeroValue133
 t35:=Tryz.underlying328
 a35:=Tryz.isAgg328
 z35:=Tryz.sizeOf328
 v35:=Tryz.zeroValue328
 t36:=Tryz.underlying329
 a36:=Tryz.isAgg329
 z36:=Tryz.sizeOf329
 v36:=Tryz.zeroValue329
 t41:=Tryz.underlying307
 a41:=Tryz.isAgg307
 z41:=Tryz.sizeOf307
 v41:=Tryz.zeroValue307
 t44:=Tryz.underlying113
 a44:=Tryz.isAgg113
 z44:=Tryz.sizeOf113
 v44:=Tryz.zeroValue113
 t46:=Tryz.underlying112
 a46:=Tryz.isAgg112
 z46:=Tryz.sizeOf112
 v46:=Tryz.zeroValue112
 t53:=Tryz.underlying352
 a53:=Tryz.isAgg352
 z53:=Tryz.sizeOf352
 v53:=Tryz.zeroValue352
 t57:=Tryz.underlying283
 a57:=Tryz.isAgg283
 z57:=Tryz.sizeOf283
 v57:=Tryz.zeroValue283
 t63:=Tryz.underlying373
 a63:=Tryz.isAgg373
 z63:=Tryz.sizeOf373
 v63:=Tryz.zeroValue373
 t64:=Tryz.underlying26
 a64:=Tryz.isAgg26
 z64:=Tryz.sizeOf26
 v64:=Tryz.zeroValue26 }
end Go.Proofs
namespace Go.Proofs.YtbhjgfibhegddaaGreat
open Tryz
section
open Go Go.RowKit Go.Maps Go.Sort Go.Shelf Go.WideShapes
abbrev vX:Value→Option (DataW Unit × List MemPlace):=fun _=>some (.nil,[])
theorem ad3 {w:World} {bm:Nat} {m:List (Int × Value)} (hM:cA qn w bm m) (hk:∀p ∈ m,(Lit.int .i64 p.1).wf=true) (hs:m.length≤5000) :
 ∃D0:DataW Unit,w.ownsMap prog 3 vX bm m.length D0∧(intKeys D0).Perm (m.map (·.1))∧Maps.size D0=m.length:=by
 obtain⟨es,clock,hb,hst,hm⟩:=hM;have hlen:es.toList.length=m.length:=by have:=aJ List.length hm;simpa using this
 have hrd:∀x ∈ es.toList,∃a:Int,x.key=qn a∧Go.WideElems.rd prog 3 vX x=some (Lit.int .i64 a,.nil):=by
  intro x hx;obtain⟨j,hj⟩:=AU hx;obtain⟨p,hp,h1,h2⟩:=F_ hm j x hj;refine⟨p.1,h1,?_⟩;have Sp:keyOf prog 3 x.key=some (Lit.int .i64 p.1):=by rw[h1];exact keyOf_int_mk underlying3 (hk p (sH hp))
  unfold Go.WideElems.rd;rw[Sp];rfl
 refine⟨_,⟨es,clock,hb,⟨by unfold maxLen;simp at hlen;omega,hst,fun x hx=>?_⟩,by simp at hlen;omega,rfl⟩,?_,?_⟩
 ·obtain⟨a,-,h⟩:=hrd x hx
  exact⟨_,h⟩
 ·show List.Perm (((es.toList.map (Go.WideElems.rg prog 3 vX)).foldr DataW.insert []).map fun p=>Go.intOf p.1) _
  refine((sorted_perm _).map _).trans ?_;rw[rL];have e1:es.toList.map ((fun p:Lit × DataW Unit=>Go.intOf p.1) ∘ Go.WideElems.rg prog 3 vX)=es.toList.map ((fun v:Value=>match v with | .int _ a=>a | _=>0) ∘ fun e:MapEntry=>e.key):=by
   refine aa4 fun x hx=>?_
   obtain⟨a,h1,h2⟩:=hrd x hx;simp only[Function.comp,Go.WideElems.rg_of h2,h1,Go.intOf]
  rw[e1,← rL,Bq hm,rL];have e2:m.map ((fun v:Value=>match v with | .int _ a=>a | _=>0) ∘ fun p:Int × Value=>qn p.1)=m.map (·.1):=rfl;rw[e2]
 ·show ((es.toList.map (Go.WideElems.rg prog 3 vX)).foldr DataW.insert []).length=m.length
  rw[(sorted_perm _).length_eq,bp,hlen]
theorem ahS (m:Nat):AnyZI.SortsIn prog sortedA_ren Fence.wide m :=
 ⟨fun blk off cap ss W hH hblk hsz=>Ds.2 (AnyM.slices_Sort_int sortA blk off cap ss W hH hblk hsz),
  fun p cap W=>Ds.2 (AnyM.slices_Sort_int_none sortA p cap W)⟩
theorem ahT (mb:Option Nat) (W:World):ς 87 #[.map mb] W fun e w'=>e=ώ (.func (.func 147) #[] #[.pointer (some ⟨W.heap.size,0,none⟩)])∧w'=W.alloc (.cells #[.map mb] 149) :=
 (Ds (n:=5)).1 (AnyZI.keys_in keysA Fence.wide 5 trivial rfl mb W)
theorem afz {w:World} {b:Nat} {m:List (Int × Value)} (hM:cA qn w b m) (hk:∀p ∈ m,(Lit.int .i64 p.1).wf=true) (hs:m.length≤5000) :
 ς 86 #[.func (.func 147) #[] #[.pointer (some ⟨w.heap.size,0,none⟩)]] (w.alloc (.cells #[.map (some b)] 149)) fun e w'=>∃v,e=ώ v ∧
  w'.ownsRow (w.heap.size+1) 3 1 v m.length (((m.map (·.1)).mergeSort leI).map encZ)∧υ w w':=by
 obtain⟨D0,hown,Qe,hsize⟩:=ad3 hM hk hs;have dO:=hown.lt;have hseq:SeqGives Fence.wide 2 prog 147 #[.pointer (some ⟨w.heap.size,0,none⟩)] encZ (fun ss=>ss.Perm (intKeys D0)) (Maps.size D0) (w.alloc (.cells #[.map (some b)] 149)) :=
  AnyZI.keys_gives (ρ := keysA_ren) { keysA with } Fence.wide _ trivial rfl oM w.heap.size b m.length D0 _ sM sM (by
   obtain⟨es,clock,hb,Ft,hs,hD⟩:=hown;exact⟨es,clock,(qJ _ _ b dO).trans hb,Ft,hs,hD⟩)
 have cS:=AnyZI.sorted_in sortedA Fence.wide 5 trivial trivial trivial trivial rfl oM (ahS _) (enters_of func146 kR rfl) 147 #[.pointer (some ⟨w.heap.size,0,none⟩)] trivial (enters_of func147 kR rfl) _ _ (by rw[hsize];unfold maxLen;omega) (by rw[hsize];omega) _ hseq;refine((Ds (n:=5)).1 cS).mono ?_;rintro e w' ⟨v,ss,rfl,hS,hrow,-,hb⟩;have hp:=hS.trans Qe;have hl:ss.length=m.length:=by have:=hp.length_eq;simpa using this
 rw[mergeSort_of_perm_i hp,hl] at hrow;refine⟨v,rfl,?_,((ζ.refl _ w).alloc _).then (ζ.oI hb (fun _=>False)) φ⟩;have e1:(w.alloc (.cells #[.map (some b)] 149)).heap.size=w.heap.size+1:=by simp
 rw[e1] at hrow;exact hrow
end
section
open Go Go.RowKit
namespace Dk
def busy (d:Dk):List Nat:=(List.range d.af.length).filter fun i => !(d.at_ i).isEmpty
def choice (l:List ByteArray) (keep:List Int) (k:Nat):Nat:=if k<keep.length then (keep.getD k 0 % ((l.length:Int)+1)).toNat else 0
def nC (d:Dk) (keep:List Int) (k i:Nat):ByteArray:=if 0<choice (d.at_ i) keep k then (d.at_ i).getD (choice (d.at_ i) keep k - 1) ByteArray.empty else d.last i
def part (d:Dk) (keep:List Int) (j:Nat):Dk :=
 { d with af:=(List.range d.af.length).map fun i=>if i ∈ d.busy.take j then d.nC keep (d.busy.idxOf i) i else d.last i,waits:=(List.range d.waits.length).map fun i=>if i ∈ d.busy.take j then [] else d.at_ i }
def gS (d:Dk) (keep:List Int):Dk := { d.part keep d.busy.length with off:=false,cV:=-1 }
theorem Vc (d:Dk):d.busy.Nodup:=List.nodup_range.filter _
theorem DH {d:Dk} {i:Nat} : i ∈ d.busy↔i<d.af.length∧d.at_ i≠[]:=by
 unfold busy;rw[List.mem_filter,List.mem_range];simp
theorem DQ (d:Dk) (keep:List Int) (j i:Nat):(d.part keep j).at_ i=if i ∈ d.busy.take j then [] else d.at_ i:=by
 show ((List.range d.waits.length).map _).getD i []=_;rw[List.getD_eq_getElem?_getD,List.getElem?_map];by_cases hi:i<d.waits.length
 ·rw[List.getElem?_range hi];rfl
 ·rw[List.getElem?_eq_none (by simpa using hi)]
  have:d.at_ i=[]:=by unfold at_;rw[List.getD_eq_getElem?_getD,List.getElem?_eq_none (by omega)];rfl
  rw[this];split<;>rfl
theorem xF (d:Dk) (keep:List Int) (j:Nat):(d.part keep j).af.length=d.af.length:=by simp[part]
theorem nt (d:Dk) (keep:List Int) (j i:Nat) (hi:i<d.af.length):(d.part keep j).af[i]? = some (if i ∈ d.busy.take j then d.nC keep (d.busy.idxOf i) i else d.last i):=by
 show ((List.range d.af.length).map _)[i]? = _;rw[List.getElem?_map,List.getElem?_range hi];rfl
theorem VE (d:Dk) (keep:List Int):d.part keep 0=d:=by
 have h1:((List.range d.af.length).map fun i=>if i ∈ d.busy.take 0 then d.nC keep (d.busy.idxOf i) i else d.last i)=d.af:=by
  apply List.ext_getElem?
  intro i;rw[List.getElem?_map];by_cases hi:i<d.af.length
  ·rw[List.getElem?_range hi,List.getElem?_eq_getElem hi]
   simp[last,hi]
  ·rw[List.getElem?_eq_none (by simpa using hi),List.getElem?_eq_none (by omega)]
   rfl
 have h2:((List.range d.waits.length).map fun i=>if i ∈ d.busy.take 0 then [] else d.at_ i)=d.waits:=by
  apply List.ext_getElem?
  intro i;rw[List.getElem?_map];by_cases hi:i<d.waits.length
  ·rw[List.getElem?_range hi,List.getElem?_eq_getElem hi]
   simp[at_,hi]
  ·rw[List.getElem?_eq_none (by simpa using hi),List.getElem?_eq_none (by omega)]
   rfl
 unfold part;rw[h1,h2]
theorem Kc (d:Dk) (j i:Nat) (hj:j<d.busy.length):i ∈ d.busy.take (j+1)↔i ∈ d.busy.take j∨i=d.busy[j]:=by
 rw[List.take_succ_eq_append_getElem hj,List.mem_append,List.mem_singleton]
theorem Pb (d:Dk) (j:Nat) (hj:j<d.busy.length):d.busy.idxOf d.busy[j]=j:=d.Vc.idxOf_getElem j hj
theorem abt (d:Dk) (j:Nat) (hj:j<d.busy.length):d.busy[j] ∉ d.busy.take j:=by
 intro h;obtain⟨k,hk,e⟩:=List.mem_iff_getElem.1 h;rw[List.getElem_take] at e;have hk2:k<j:=by rw[List.length_take] at hk;omega
 have h1:=Pb d k (by omega);have h2:=Pb d j hj;rw[e,h2] at h1;omega
theorem ad4 (d:Dk) (keep:List Int) (j:Nat) (hj:j<d.busy.length):(d.part keep (j+1)).af=(d.part keep j).af.set d.busy[j] (d.nC keep j d.busy[j]):=by
 apply List.ext_getElem?
 intro i;have hb:=(DH.1 (List.getElem_mem hj)).1;by_cases hi:i<d.af.length
 ·rw[nt _ _ _ _ hi,List.getElem?_set,xF]
  by_cases e:d.busy[j]=i
  ·subst e
   rw[if_pos rfl,if_pos hi,if_pos ((Kc d j _ hj).2 (.inr rfl)),Pb d j hj]
  ·rw[if_neg e,nt _ _ _ _ hi]
   have:(i ∈ d.busy.take (j+1))↔(i ∈ d.busy.take j):=by
    rw[Kc d j i hj];exact⟨fun h=>h.elim id (fun h=>absurd h.symm e),.inl⟩
   simp only[this]
 ·rw[List.getElem?_eq_none (by rw[xF];omega),List.getElem?_eq_none (by rw[List.length_set,xF];omega)]
theorem Ky {d:Dk} (hl:d.waits.length=d.af.length) (keep:List Int) (i:Nat):(d.gS keep).at_ i=[]:=by
 show (d.part keep d.busy.length).at_ i=[];rw[DQ,List.take_length];split
 ·rfl
 ·rename_i h
  rw[DH] at h;by_cases hi:i<d.af.length
  ·apply Classical.byContradiction
   intro hc;exact h ⟨hi,hc⟩
  ·unfold at_
   rw[List.getD_eq_getElem?_getD,List.getElem?_eq_none (by omega)];rfl
theorem ad5 {d:Dk} (h:d.wf) (keep:List Int) (k i:Nat) (hi:i<d.af.length):(d.nC keep k i).size=64:=by
 unfold nC;split
 ·rename_i hc
  have hlt:choice (d.at_ i) keep k - 1<(d.at_ i).length:=by
   unfold choice at hc ⊢;split at hc
   ·rename_i hk
    rw[if_pos hk];have h1:=Int.emod_lt_of_pos (keep.getD k 0) (show (0:Int)<((d.at_ i).length:Int)+1 by omega);have h2:=Int.emod_nonneg (keep.getD k 0) (show ((d.at_ i).length:Int)+1≠0 by omega);omega
   ·omega
  rw[List.getD_eq_getElem?_getD,List.getElem?_eq_getElem hlt];have hm:(d.at_ i)[choice (d.at_ i) keep k - 1] ∈ d.at_ i:=List.getElem_mem hlt;have hmem:d.at_ i ∈ d.waits:=by
   unfold at_;rw[List.getD_eq_getElem?_getD,List.getElem?_eq_getElem (by rw[h.len];exact hi)];exact List.getElem_mem _
  exact h.waits _ hmem _ hm
 ·unfold last
  rw[List.getD_eq_getElem?_getD,List.getElem?_eq_getElem hi];exact h.af _ (List.getElem_mem _)
theorem Vd {d:Dk} (h:d.wf) (keep:List Int):(d.gS keep).pend=0:=by
 unfold pend;have:∀l ∈ (d.gS keep).waits,l=[]:=by
  intro l hl;obtain⟨i,hi,rfl⟩:=List.mem_iff_getElem.1 hl;have:=Ky h.len keep i;unfold at_ at this;rw[List.getD_eq_getElem?_getD,List.getElem?_eq_getElem hi] at this;exact this
 generalize (d.gS keep).waits=L at *;induction L with
 | nil=>rfl
 | cons x L ih=>rw[List.map_cons,List.sum_cons,ih (fun l hl=>this l (by simp[hl])),this x (by simp)];rfl
theorem afA {d:Dk} (h:d.wf) (keep:List Int):(d.gS keep).wf:=by
 have hl:(d.gS keep).af.length=d.af.length:=xF _ _ _;refine⟨by rw[hl];simp[gS,part,h.len],by rw[hl];exact h.pos,by rw[hl];exact h.most,?_,?_,by simp[gS],by simp[gS],by rw[Vd h];omega⟩
 ·intro b hb
  have hb':b ∈ (d.part keep d.busy.length).af:=hb;obtain⟨i,hi,rfl⟩:=List.mem_iff_getElem.1 hb';rw[xF] at hi;have:=nt d keep d.busy.length i hi;rw[List.getElem?_eq_getElem (by rw[xF];exact hi)] at this;rw[Option.some.inj this];split
  ·exact ad5 h keep _ i hi
  ·unfold last
   rw[List.getD_eq_getElem?_getD,List.getElem?_eq_getElem hi];exact h.af _ (List.getElem_mem _)
 ·intro l hl b hb
  obtain⟨i,hi,rfl⟩:=List.mem_iff_getElem.1 hl;have:=Ky h.len keep i;unfold at_ at this;rw[List.getD_eq_getElem?_getD,List.getElem?_eq_getElem hi] at this;have e:(d.gS keep).waits[i]=[]:=this;rw[e] at hb;simp at hb
end Dk
def oU (m:List (Int × Value)) (K:List Nat) (j:Nat):List (Int × Value):=m.filter fun q=>decide (q.1 ∉ (K.take j).map (Nat.cast:Nat→Int))
theorem Ve (m:List (Int × Value)) (K:List Nat):oU m K 0=m:=by
 unfold oU;rw[List.filter_eq_self];simp
theorem Om (m:List (Int × Value)) (K:List Nat) (j:Nat) (hj:j<K.length):nH (oU m K j) (K[j]:Int)=oU m K (j+1):=by
 unfold oU nH;rw[List.filter_filter];refine List.filter_congr fun q _=>?_
 rw[List.take_succ_eq_append_getElem hj];simp only[List.map_append,List.map_cons,List.map_nil,List.mem_append,List.mem_singleton,not_or,Bool.decide_and];rw[Bool.and_comm]
theorem ace {w:World} {d:Dk} {m:List (Int × Value)} (h4:rP w m d.waits) (hl:d.waits.length=d.af.length) (hn:(m.map (·.1)).Nodup) :
 (m.map (·.1)).mergeSort leI=d.busy.map (Nat.cast:Nat→Int):=by
 have hb:(d.busy.map (Nat.cast:Nat→Int)).Nodup:=by
  rw[List.Nodup,List.pairwise_map];exact List.Pairwise.imp (fun h e=>h (Int.ofNat.inj e)) d.Vc
 have hp:(m.map (·.1)).Perm (d.busy.map (Nat.cast:Nat→Int)):=by
  refine(List.perm_ext_iff_of_nodup hn hb).2 fun x=>?_
  rw[List.mem_map];constructor
  ·rintro⟨q,hq,rfl⟩
   obtain⟨i,e,hi,h0,-⟩:=h4.each q hq;exact List.mem_map.2 ⟨i,Dk.DH.2 ⟨by omega,h0⟩,by rw[e]⟩
  ·intro hx
   obtain⟨i,hi,rfl⟩:=List.mem_map.1 hx;obtain⟨-,h0⟩:=Dk.DH.1 hi;exact List.mem_map.1 (h4.all i h0)
 have tr:∀a b c:Int,leI a b=true→leI b c=true→leI a c=true:=fun a b c h1 h2=>by simp only[leI,decide_eq_true_eq] at *;omega
 have tot:∀a b:Int,(leI a b || leI b a)=true:=fun a b=>by simp only[leI,Bool.or_eq_true,decide_eq_true_eq];omega
 refine List.Perm.eq_of_pairwise (le:=fun a b=>leI a b=true) (fun a b _ _ h1 h2=>?_) (List.pairwise_mergeSort tr tot _) ?_ ((List.mergeSort_perm _ leI).trans hp)
 ·simp only[leI,decide_eq_true_eq] at h1 h2
  omega
 ·rw[List.pairwise_map]
  have:(List.range d.af.length).Pairwise (· < ·):=List.pairwise_lt_range;refine(this.filter _).imp fun h=>?_
  simp only[leI,decide_eq_true_eq];exact Int.ofNat_le.2 (Nat.le_of_lt h)
structure xG (w wr:World) (p bl cap bm:Nat) (d:Dk) (keep:List Int) (m:List (Int × Value)) (j:Nat):Prop where
 blk:η wr p 151 #[.slice (some ⟨bl,0,none⟩) d.af.length cap,.map (some bm),.int .i64 d.cV,.bool d.off]
 af:Own wr 9 1 (.slice (some ⟨bl,0,none⟩) d.af.length cap) d.af.length (strs (d.part keep j).af)
 map:cA qn wr bm (oU m d.busy j)
 waits:rP wr (oU m d.busy j) (d.part keep j).waits
 ε:ζ (fun b=>b=bl∨b=bm) w wr
theorem rP.ahU {w w':World} {d:Dk} {keep:List Int} {m:List (Int × Value)} {j:Nat} (hj:j<d.busy.length) (h:rP w (oU m d.busy j) (d.part keep j).waits)
 (hb:∀k ∈ (oU m d.busy j).filterMap (·.2.ownBlock),w'.heap[k]? = w.heap[k]?):rP w' (oU m d.busy (j+1)) (d.part keep (j+1)).waits:=by
 have hsub:∀q,q ∈ oU m d.busy (j+1)→q ∈ oU m d.busy j∧q.1≠(d.busy[j]:Int):=by
  intro q hq;rw[← Om m d.busy j hj] at hq;unfold nH at hq;rw[List.mem_filter] at hq;exact⟨hq.1,by simpa using hq.2⟩
 refine⟨fun q hq=>?_,fun i hi=>?_⟩
 ·obtain⟨h1,h2⟩:=hsub q hq
  obtain⟨i,e,hi,h0,ho⟩:=h.each q h1;have hne:i≠d.busy[j]:=fun e2=>h2 (by rw[e,e2])
  have hat:(d.part keep (j+1)).at_ i=(d.part keep j).at_ i:=by
   rw[Dk.DQ,Dk.DQ];have:(i ∈ d.busy.take (j+1))↔(i ∈ d.busy.take j):=by
    rw[Dk.Kc d j i hj];exact⟨fun h=>h.elim id (fun h=>absurd h hne),.inl⟩
   simp only[this]
  refine⟨i,e,by simpa [Dk.part] using hi,?_,?_⟩
  ·show (d.part keep (j+1)).at_ i≠[]
   rw[hat];exact h0
  ·show Own w' _ 1 q.2 ((d.part keep (j+1)).at_ i).length (strs ((d.part keep (j+1)).at_ i))
   rw[hat];exact ho.cU fun k hk=>hb k (List.mem_filterMap.2 ⟨q,h1,hk⟩)
 ·have hi':(d.part keep (j+1)).at_ i≠[]:=hi
  have h1:(d.part keep j).at_ i≠[]∧i≠d.busy[j]:=by
   rw[Dk.DQ] at hi';split at hi'
   ·exact absurd rfl hi'
   ·rename_i hn
    rw[Dk.Kc d j i hj,not_or] at hn;rw[Dk.DQ,if_neg hn.1];exact⟨hi',hn.2⟩
  obtain⟨q,hq,e⟩:=List.mem_map.1 (h.all i h1.1);rw[← Om m d.busy j hj];refine List.mem_map.2 ⟨q,?_,e⟩;unfold nH;rw[List.mem_filter];refine⟨hq,?_⟩;have:q.1≠(d.busy[j]:Int):=fun e2=>h1.2 (oN (e.symm.trans e2))
  simpa using this
theorem ad6 {m:List (Int × Value)} {K:List Nat} {j:Nat} {k:Nat} (h:k ∈ (oU m K j).filterMap (·.2.ownBlock)):k ∈ m.filterMap (·.2.ownBlock):=by
 obtain⟨q,hq,e⟩:=List.mem_filterMap.1 h;unfold oU at hq;exact List.mem_filterMap.2 ⟨q,(List.mem_filter.1 hq).1,e⟩
theorem xG.step {w wr w1 w4:World} {p bl cap bm j:Nat} {d:Dk} {keep:List Int} {m:List (Int × Value)} (h:xG w wr p bl cap bm d keep m j) (hj:j<d.busy.length) (hnd:(p::bl::bm::m.filterMap (·.2.ownBlock)).Nodup)
 (wY:Own w1 9 1 (.slice (some ⟨bl,0,none⟩) d.af.length cap) d.af.length (strs ((d.part keep j).af.set d.busy[j] (d.nC keep j d.busy[j])))) (ax:ζ (· = bl) wr w1)
 (yD:cA qn w4 bm (nH (oU m d.busy j) (d.busy[j]:Int))) (ag:ζ (· = bm) w1 w4):xG w w4 p bl cap bm d keep m (j+1):=by
 simp only[List.nodup_cons,List.mem_cons,not_or] at hnd;obtain⟨⟨wT,z_,ME⟩,⟨yq,ID⟩,EK,IE⟩:=hnd;have hU:ζ (fun b=>b=bl∨b=bm) wr w4:=ax.trans ag (fun b e=>.inl e) (fun b e=>.inl (.inr e));refine⟨h.blk.ε hU (fun e=>e.elim wT z_),?_,by rw[← Om m d.busy j hj];exact yD,h.waits.ahU hj (fun k hk=>?_),h.ε.then hU (fun b e=>.inl e)⟩
 ·rw[Dk.ad4 d keep j hj]
  exact wY.ε ag (fun q hq e=>yq (by rw[← e];simpa [Value.ownBlock] using hq))
 ·have hk2:=ad6 hk
  have hlt:k<wr.heap.size:=by
   obtain⟨q,hq,e⟩:=List.mem_filterMap.1 hk;obtain⟨_,_,_,_,ho⟩:=h.waits.each q hq;exact ho.lt e
  exact hU.block k hlt (fun e=>by rcases e with rfl | rfl;exact ID hk2;exact EK hk2)
theorem xG.done {w wr:World} {p bl cap bm:Nat} {d:Dk} {keep:List Int} {m:List (Int × Value)} (h:xG w wr p bl cap bm d keep m d.busy.length) (h4:∀q ∈ m,∃i:Nat,q.1=(i:Int)∧i<d.waits.length∧d.at_ i≠[]) (hwf:d.wf)
 (hnd:(p::bl::bm::m.filterMap (·.2.ownBlock)).Nodup):Left w ((wr.setCell ⟨p,3,none⟩ (.bool false)).setCell ⟨p,2,none⟩ (.int .i64 (-1))) p (d.gS keep) (p::bl::bm::m.filterMap (·.2.ownBlock)) [p,bl,bm]:=by
 have hm0:oU m d.busy d.busy.length=[]:=by
  unfold oU;rw[List.filter_eq_nil_iff];intro q hq;obtain⟨i,e,hi,h0⟩:=h4 q hq;simp only[List.take_length,decide_eq_true_eq,Classical.not_not];exact List.mem_map.2 ⟨i,Dk.DH.2 ⟨by rw[← hwf.len];exact hi,h0⟩,by rw[e]⟩
 have hM:=h.map;rw[hm0] at hM;simp only[List.nodup_cons,List.mem_cons,not_or] at hnd;obtain⟨⟨wT,z_,ME⟩,⟨yq,ID⟩,EK,IE⟩:=hnd;have hlen:(d.gS keep).af.length=d.af.length:=Dk.xF _ _ _;refine⟨⟨bl,cap,bm,[],?_,?_,?_,⟨fun q hq=>by simp at hq,fun i hi=>?_⟩,Dk.afA hwf keep,rfl,?_⟩,?_,fun k hk=>.inl ?_⟩
 ·rw[hlen]
  have:=(h.blk.bE 3 (.bool false)).bE 2 (.int .i64 (-1));simpa [Dk.gS] using this
 ·rw[hlen]
  exact(h.af.bP (p:=⟨p,3,none⟩) (by simpa [Value.ownBlock] using Ne.symm wT) _).bP (p:=⟨p,2,none⟩) (by simpa [Value.ownBlock] using Ne.symm wT) _
 ·exact(hM.bP (p:=⟨p,3,none⟩) (Ne.symm z_) _).bP (p:=⟨p,2,none⟩) (Ne.symm z_) _
 ·exact absurd (Dk.Ky hwf.len keep i) hi
 ·simp only[List.nodup_cons,List.mem_cons,List.not_mem_nil,or_false,not_or,not_false_eq_true,List.nodup_nil,and_true]
  exact⟨⟨wT,z_⟩,yq⟩
 ·exact((h.ε.mono (G:=(· ∈ p::bl::bm::m.filterMap (·.2.ownBlock))) (fun b e=>.inl (by rcases e with rfl | rfl<;>simp))).setCell (p:=⟨p,3,none⟩) (.inl sM) _).setCell (p:=⟨p,2,none⟩) (.inl sM) _
 ·simp only[List.mem_cons,List.not_mem_nil,or_false] at hk ⊢
  rcases hk with rfl | rfl | rfl<;>simp
theorem ad7 {d:Dk} {keep:List Int} {j i:Nat} (h:Dk.choice (d.at_ i) keep j=0) (hin:i<d.af.length) (hni:i ∉ d.busy.take j):(d.part keep j).af.set i (d.nC keep j i)=(d.part keep j).af:=by
 have hk:d.nC keep j i=d.last i:=by unfold Dk.nC;rw[if_neg oM]
 rw[hk];apply List.ext_getElem?
 intro x;rw[List.getElem?_set];split
 ·rename_i e
  subst e;rw[Dk.nt d keep j i hin,if_neg hni,if_pos (by rw[Dk.xF];exact hin)]
 ·rfl
theorem acU (z n:Int) (hn:0<n):(z.tmod n+n).tmod n=z % n:=by
 have h1:=Int.lt_tmod_of_pos z hn;have h2:(z.tmod n+n).tmod n=(z.tmod n+n) % n:=Int.tmod_eq_emod_of_nonneg oM;rw[h2,Int.add_emod_right];have h3:=Int.tmod_add_mul_tdiv z n;have h4:z % n=(z.tmod n+n*z.tdiv n) % n:=by rw[h3]
 rw[h4,Int.add_mul_emod_self_left]
structure K_ (w:World) (F:List Nat) (v:Value) (keep:List Int):Prop where
 ex:∃A cap b off,v=.slice A keep.length cap∧keep.length≤9223372036854775807∧(0<keep.length→A=some ⟨b,off,none⟩)∧∀w',ζ (· ∈ F) w w'→∀i (_:i<keep.length),w'.cell? ⟨b,off+i,none⟩=some (.int .i64 keep[i])
 ok:∀z ∈ keep,-9223372036854775808≤z∧z≤9223372036854775807
theorem Zt {P:Prop} (h:P:=by
 clear yD ag hs4;go_wp2_with (refine Ka rfl _ _ _ _ rfl rfl rfl wg ?_;go_frame)
 have hnext:xG w2 w4 p bl cap bm d keep m (j+1):=by
  refine HC.out.step hlt HG.out.2.2.2.2.2 (w1:=wr) ?_ (ζ.refl _ _) (by rw[Hi.out.1];exact HX.out.1) HX.out.2;rw[Hi.out.1,ad7 Hch.out hin Hi.out.2.2];exact HC.out.af
 go_roundw
 case rel=>exact⟨j+1,oM,by go_num,hnext⟩
 case measure=>simp[intOf]<;>omega):P:=h
theorem agW {w:World} {p:Nat} {d:Dk} {F:List Nat} {v:Value} {keep:List Int} (hD:bI w p d F) (hA:K_ w F v keep) :
 Calls Tryz.prog 44 #[.pointer (some ⟨p,0,none⟩),v] w fun e w'=>e=.returned (.tuple #[])∧∃F',Left w w' p (d.gS keep) F F':=by
 have HN:=Lib.hid (Gv hD);have HD:=Lib.hid hD;obtain⟨bl,cap,bm,m,g1,g2,g3,g4,g5,gF,g7⟩:=hD;subst gF;obtain⟨kA,akf,kb,ajm,rfl,km,kA0,Xo⟩:=hA.ex;have kok:=hA.ok;have Qc:=g5.most;have hroom:=g5.room;have dO:d.busy.length≤4096:=by
  have:d.busy.length≤(List.range d.af.length).length:=List.length_filter_le _ _;rw[List.length_range] at this;omega
 have hks:=ace g4 g5.len g3.nodup;have hml:m.length=d.busy.length:=by
  have h1:=congrArg List.length hks;rw[List.length_map,(List.mergeSort_perm _ _).length_eq,List.length_map] at h1;exact h1
 have Zu:∀q ∈ m,(Lit.int .i64 q.1).wf=true:=by
  intro q hq;obtain⟨i,e,hi,-,-⟩:=g4.each q hq;rw[e];have:=g5.len;simp only[Lit.wf,Bool.and_eq_true,decide_eq_true_eq];have h1:IntKind.i64.min=-9223372036854775808:=rfl;have h2:IntKind.i64.max=9223372036854775807:=rfl;omega
 have iO:=afz g3 Zu oM;rw[hks] at iO;have HS:=Lib.hid iO;have hc:=g1.iI;have HK:=τ Xo kok;have HG:=gU g1 g2 g3 g4 g5 g7;have Hml:=Lib.hid hml;clear g1 g2 g3 g4 g5 g7 iO Xo kok Zu hks hA hml;go_enter Tryz.func44,Tryz.ntmps44
 go_wp2_with fail
 refine HN.out.mono ?_;rintro e w' ⟨rfl,rfl⟩;go_wp2_with fail
 refine(ahT (some bm) _).mono ?_;rintro e w' ⟨rfl,rfl⟩;go_wp2_with fail
 refine HS.out.mono ?_;rintro e w2 ⟨v,rfl,hrow,π⟩;rw[Hml.out] at hrow;obtain⟨A,mK,rg,rfl,mX,hrg,jJ⟩:∃A mK rg,v=.slice A d.busy.length mK∧(0<d.busy.length→A=some ⟨rg,0,none⟩)∧(0<d.busy.length→w.heap.size≤rg∧rg<w2.heap.size) ∧
  ∀W:World,W.heap[rg]? = w2.heap[rg]? → ∀j (h:j<d.busy.length),W.cell? ⟨rg,j,none⟩=some (.int .i64 (d.busy[j]:Int)):=by
  rcases hrow.2 with ⟨rfl,h0⟩ | ⟨g,c,cur,rfl,r1,r2,r3,r4,r5,r6⟩
  ·exact⟨none,0,0,by rw[h0],fun h=>by omega,fun h=>by omega,fun W _ j h=>by omega⟩
  ·refine⟨_,c,g,rfl,fun _=>rfl,fun _=>⟨oM,(Array.getElem?_eq_some_iff.1 r2).1⟩,fun W hW j h=>?_⟩
   rw[cell_of_row W g j cur _ (0,0) (hW.trans r2)];have h2:(cur.toList.take (d.busy.length*1))[j]? = some (.int .i64 (d.busy[j]:Int)):=by rw[r6];simp[h]
   rw[List.getElem?_take_of_lt oM] at h2;simpa using h2
 have hst:xG w2 w2 p bl cap bm d keep m 0:=by
  obtain⟨g1,g2,g3,g4,g5,g7⟩:=HG.out;refine⟨g1.ε π (fun e=>e),?_,?_,?_,ζ.refl _ _⟩
  ·rw[Dk.VE];exact g2.ε π (fun _ _ e=>e)
  ·rw[Ve];exact g3.ε π (fun e=>e)
  ·rw[Ve,Dk.VE]
   exact g4.ε fun k hk=>π.block k (HD.out.lt k (by simp only[List.mem_cons];exact .inr (.inr (.inr hk)))) (fun e=>e)
 have H2:=aD hst π hrg jJ;clear hst π hrg jJ hrow hc HS HN;go_wp2_with fail
 go_loopw [18,4,5,6,7,8] (fun i _ _ _ _ _ wr=>∃j:Nat,j≤d.busy.length∧i=.int .i64 j∧xG w2 wr p bl cap bm d keep m j) (fun i _ _ _ _ _ _=>d.busy.length - (intOf i).toNat)
 case atStart=>exact⟨0,oM,rfl,H2.out.1⟩
 case round =>
  obtain⟨j,hj,rfl,hC⟩:=hrel;by_cases hlt:j<d.busy.length
  ·obtain rfl:=mX oM
   obtain⟨i,hi⟩:=κ (d.busy[j]);have hni:=d.abt j hlt;have hib:=Dk.DH.1 (List.getElem_mem hlt);rw[hi] at hib hni;have oC:∀k,k=p∨k=bl∨k=bm→k<w.heap.size:=fun k hk=>HD.out.lt k (by simp only[List.mem_cons];rcases hk with h | h | h;exact .inl h;exact .inr (.inl h);exact .inr (.inr (.inl h)))
   have hrl:=H2.out.2.2.1 oM;have hrc:=H2.out.2.2.2 wr (hC.ε.block rg hrl.2 (fun e=>by rcases e with e | e<;>· have:=oC rg (by simp[e]);omega)) j hlt;rw[hi] at hrc;obtain⟨v,-,hrun,hown,-,hmem⟩:=Gn (d:=d.part keep j) hC.map hC.waits i;rw[Dk.DQ,if_neg hni] at hown hmem;have hmem:=hmem hib.2;have Sq:0<(d.at_ i).length:=List.length_pos_iff.2 hib.2;have wY:=Dk.at_len (d:=d) i;obtain⟨g,cap',rfl,hnc,hcm⟩:=hown.head Sq;have zS:=hC.blk.iI;have HC:=Lib.hid hC;have HO:=Lib.hid hown;have HM:=Lib.hid hmem;have Hi:=aj hi hib hni;have hin:i<d.af.length:=hib.1;clear hC hown hmem hi hib hni hnc hcm;by_cases hk:j<keep.length
   ·have hk':(j:Int)<(keep.length:Int):=oM
    obtain rfl:=kA0 oM;obtain⟨z,hz⟩:=κ (keep[j]);have hkc:wr.cell? ⟨kb,ajm+j,none⟩=some (.int .i64 z):=by
     rw[← hz];refine HK.out.1 wr ((H2.out.2.1.mono (G:=(· ∈ p::bl::bm::m.filterMap (·.2.ownBlock))) φ).then HC.out.ε (fun b e=>.inl ?_)) j hk;rcases e with e | e<;>simp[e]
    have hzr:=HK.out.2 z (hz ▸ List.getElem_mem hk);have Hz:=Lib.hid hz;clear hz;have hch:Dk.choice (d.at_ i) keep j=(z % (((d.at_ i).length:Int)+1)).toNat:=by
     unfold Dk.choice;rw[if_pos hk,List.getD_eq_getElem?_getD,List.getElem?_eq_getElem hk,Hz.out];rfl
    have Co:=Int.emod_lt_of_pos z (show (0:Int)<((d.at_ i).length:Int)+1 by omega);have hm2:=Int.emod_nonneg z (show ((d.at_ i).length:Int)+1≠0 by omega);have MU:=acU z (((d.at_ i).length:Int)+1) oM;have ht1:=Int.lt_tmod_of_pos z (show (0:Int)<((d.at_ i).length:Int)+1 by omega);have ht2:=Int.tmod_lt_of_pos z (show (0:Int)<((d.at_ i).length:Int)+1 by omega);have hwr:IntKind.i64.wrap (z.tmod (((d.at_ i).length:Int)+1)+(((d.at_ i).length:Int)+1))=z.tmod (((d.at_ i).length:Int)+1)+(((d.at_ i).length:Int)+1):=IntWalk.i64_in _ oM;by_cases hc:0<Dk.choice (d.at_ i) keep j
    ·obtain⟨c,Sr⟩:=κ (Dk.choice (d.at_ i) keep j)
     have I9:z % (((d.at_ i).length:Int)+1)=(c:Int):=oM;rw[I9] at MU;have cu:c≤(d.at_ i).length:=oM;have hc0:(0:Int)<(c:Int):=oM;have hwc:IntKind.i64.wrap ((c:Int) - 1)=(c:Int) - 1:=IntWalk.i64_in _ oM;have hnew:wr.cell? ⟨g,c - 1,none⟩=some (.string (d.nC keep j i)):=by
      rw[HO.out.cellAt _ oM,DE,Dk.nC,if_pos hc,Sr,List.getD_eq_getElem?_getD,List.getElem?_eq_getElem oM];rfl
     have hold:wr.cell? ⟨bl,i,none⟩=some (.string (d.last i)):=by
      rw[HC.out.af.cellAt _ oM,DE,Dk.nt d keep j i hin,if_neg Hi.out.2.2];rfl
     have hfz:=HC.out.af.frozenAt i oM;have Hcc:=aj hc Sr hch;have hcL:(c:Int) - 1<((d.at_ i).length:Int):=oM;clear hc Sr hch Co hm2 ht1 ht2 I9;generalize (d.at_ i).length=L at Sq wY hrun MU hwr cu hcL ⊢;go_wp2_with fail
     go_region
     have yq:bl≠bm:=by
      have:=HG.out.2.2.2.2.2;simp only[List.nodup_cons,List.mem_cons,not_or] at this;exact this.2.1.1
     have wT:p≠bl:=by
      have:=HG.out.2.2.2.2.2;simp only[List.nodup_cons,List.mem_cons,not_or] at this;exact this.1.1
     have wY:=(HC.out.af.stored i (.string (d.nC keep j i))).drew;have hc1:=((HC.out.blk.bP (p:=⟨bl,i,none⟩) wT (.string (d.nC keep j i))).drew).cell 1;have ax:ζ (· = bl) wr (wr.setCell ⟨bl,i,none⟩ (.string (d.nC keep j i))).drew:=((ζ.refl (· = bl) wr).setCell (p:=⟨bl,i,none⟩) (.inl rfl) _).drew;obtain⟨w4,wg,yD,ag,hs4⟩:=((HC.out.map.bP (p:=⟨bl,i,none⟩) (Ne.symm yq) (.string (d.nC keep j i))).drew).Bf (P:=Tryz.prog) (ty:=0) xX Tryz.underlying149 Tryz.underlying3 (i:Int);have HX:=aD wY ax yD ag;clear wY ax yD ag hs4 zS yq wT hold hnew hfz hrun;go_wp2_with (refine Ka rfl _ _ _ _ rfl rfl rfl wg ?_;go_frame)
     have hnext:xG w2 w4 p bl cap bm d keep m (j+1):=by
      refine HC.out.step hlt HG.out.2.2.2.2.2 (w1:=(wr.setCell ⟨bl,i,none⟩ (.string (d.nC keep j i))).drew) ?_ HX.out.2.1 ?_ HX.out.2.2.2
      ·rw[Hi.out.1]
       have:=HX.out.1;simp only[strs,List.map_set] at this ⊢;exact this
      ·rw[Hi.out.1]
       exact HX.out.2.2.1
     go_roundw
     case rel=>exact⟨j+1,oM,by go_num,hnext⟩
     case measure=>simp[intOf]<;>omega
    ·have I9:z % (((d.at_ i).length:Int)+1)=0:=oM
     rw[I9] at MU;have Hcc:=τ hc hch;clear hc hch Co hm2 ht1 ht2 I9;generalize (d.at_ i).length=L at Sq wY hrun MU hwr ⊢;obtain⟨w4,wg,yD,ag,hs4⟩:=HC.out.map.Bf (P:=Tryz.prog) (ty:=0) xX Tryz.underlying149 Tryz.underlying3 (i:Int);have HX:=τ yD ag;have Hch:Hid (Dk.choice (d.at_ i) keep j=0):=by have:=Hcc.out.1;show _=_;omega
     exact Zt
   ·have hk':¬(j:Int)<(keep.length:Int):=oM
    obtain⟨w4,wg,yD,ag,hs4⟩:=HC.out.map.Bf (P:=Tryz.prog) (ty:=0) xX Tryz.underlying149 Tryz.underlying3 (i:Int);have HX:=τ yD ag;have Hch:Hid (Dk.choice (d.at_ i) keep j=0):=by show Dk.choice _ _ _=_;unfold Dk.choice;rw[if_neg hk]
    exact Zt
  ·obtain rfl:j=d.busy.length:=oM
   have zS:=hC.blk.iI;have aT:=hC.blk.frozen 2;have fK:=hC.blk.frozen 3;have HC:=Lib.hid hC;clear hC;go_wp2_with fail
   all_goals
    go_end0
    have hx:=HC.out.done (fun q hq=>by obtain⟨i,e,hi,h0,-⟩:=HG.out.2.2.2.1.each q hq;exact⟨i,e,hi,h0⟩) HG.out.2.2.2.2.1 HG.out.2.2.2.2.2;have hl:Left w _ p (d.gS keep) (p::bl::bm::m.filterMap (·.2.ownBlock)) [p,bl,bm]:=⟨hx.bO,(H2.out.2.1.mono (G:=(· ∈ p::bl::bm::m.filterMap (·.2.ownBlock))) φ).then hx.ε (fun _ e=>.inl e),fun k hk=>(hx.sub k hk).imp id (fun e=>Nat.le_trans H2.out.2.1.size e)⟩;first
    | exact⟨rfl,_,hl⟩
    | exact⟨rfl,_,hl.drew⟩
theorem Dk.Xp {d:Dk} (h:d.pend=0) (i:Nat):d.at_ i=[]:=List.eq_nil_of_length_eq_zero (by have:=Dk.at_len (d:=d) i;omega)
theorem Dk.afB {d:Dk} (h:d.pend=0) (i:Nat):d.now i=d.last i:=by
 unfold Dk.now;rw[Dk.Xp h];rfl
namespace Dk
theorem ad8 {l:List ByteArray} {keep:List Int} {k:Nat} (hc:0<choice l keep k):choice l keep k - 1<l.length:=by
 unfold choice at hc ⊢;split at hc
 ·rename_i hk
  rw[if_pos hk];have h1:=Int.emod_lt_of_pos (keep.getD k 0) (show (0:Int)<(l.length:Int)+1 by omega);have h2:=Int.emod_nonneg (keep.getD k 0) (show (l.length:Int)+1≠0 by omega);omega
 ·omega
theorem afC {d:Dk} (hl:d.waits.length=d.af.length) (keep:List Int) {i:Nat} (hi:i<d.af.length) :
 (d.gS keep).now i=if i ∈ d.busy then d.nC keep (d.busy.idxOf i) i else d.last i:=by
 unfold now;rw[Ky hl keep i];show (d.part keep d.busy.length).af.getD i ByteArray.empty=_;rw[List.getD_eq_getElem?_getD,nt d keep d.busy.length i hi,List.take_length];rfl
theorem afD {d:Dk} (hl:d.waits.length=d.af.length) (keep:List Int) {i:Nat} (hi:i<d.af.length):(d.gS keep).now i=d.last i∨(d.gS keep).now i ∈ d.at_ i:=by
 rw[afC hl keep hi];split
 ·unfold nC
  split
  ·rename_i hc
   have hlt:=ad8 hc;right
   rw[List.getD_eq_getElem?_getD,List.getElem?_eq_getElem hlt];exact List.getElem_mem hlt
  ·exact .inl rfl
 ·exact .inl rfl
theorem abN (d:Dk) (keep:List Int):(d.gS keep).waits.length=d.waits.length:=by
 show ((List.range d.waits.length).map _).length=_;rw[List.length_map,List.length_range]
theorem acV (d:Dk) (keep:List Int):(d.gS keep).af.length=d.af.length:=xF _ _ _
def free (d:Dk):Dk := { d with cV:=-1,off:=false }
theorem afE {d:Dk} (h1:d.cV=-1) (h2:d.off=false):d.free=d:=by
 obtain⟨a,b,c,e⟩:=d;simp only at h1 h2
 subst h1 h2;rfl
end Dk
theorem Xq (s:ByteArray) (w:World) (hs:s.size≤9223372036854775807) :
 Calls Tryz.prog 47 #[.string s] w fun e w'=>e=.returned (.tuple #[.string (str (cz s.data.toList).1),.int .i64 (cz s.data.toList).2])∧ζ (fun _=>False) w w':=by
 refine(PG s w hs).mono ?_;rintro e w' ⟨rfl,hb⟩;exact⟨rfl,ζ.oI hb _⟩
end
section
open Go Go.RowKit Go.ChangeShapes Go.WideShapes Go.ChangeAt Go.Deep
section
variable {H:Type} {enc:TypeId × Value→H} {P:Program} {w:World} {base:Nat} {spare:Nat→Bool} {held:Bool}
end
def X3 (n:Int):Prop:=-9223372036854775808≤n∧n≤9223372036854775807
theorem afF {n:Int} (h:(Lit.int .i64 n).wf=true):X3 n:=by
 simp only[Lit.wf,Bool.and_eq_true,decide_eq_true_eq] at h;have h1:IntKind.i64.min=-9223372036854775808:=rfl;have h2:IntKind.i64.max=9223372036854775807:=rfl;unfold X3;omega
theorem Vf (b off i:Nat):(⟨b,off,none⟩:Addr).add i=⟨b,off+i,none⟩:=by unfold Addr.add;simp
theorem ad9 {β : Type} (Q:Nat → β → Prop) (n:Nat) (h:∀i,i<n→∃r,Q i r):∃l:List β,l.length=n∧∀i (hi:i<l.length),Q i l[i]:=by
 induction n with
 | zero=>exact⟨[],rfl,fun i hi=>absurd hi sM⟩
 | succ n ih =>
   obtain⟨l,h1,h2⟩:=ih (fun i hi=>h i oM);obtain⟨r,hr⟩:=h n oM;refine⟨l++[r],by simp[h1],fun i hi=>?_⟩;by_cases hil:i<l.length
   ·rw[List.getElem_append_left hil]
    exact h2 i hil
   ·have:i=n:=by simp at hi;omega
    subst this;rw[List.getElem_append_right oM];simpa [h1] using hr
section
variable {H:Type} {enc:TypeId × Value→H} {w:World} {base:Nat} {spare:Nat→Bool} {held:Bool}
end
end
end Go.Proofs.YtbhjgfibhegddaaGreat
