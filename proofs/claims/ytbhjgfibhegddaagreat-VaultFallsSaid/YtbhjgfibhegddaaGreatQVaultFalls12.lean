/-
  Parts of the proof of VaultFalls: LogLaw, Rep, Args, LawB, Iter, Keys, DiskH.
-/
import Derived.Test.YtbhjgfibhegddaaGreatQVaultFalls11
import Derived.ChangeOld
import Derived.Ground.GgzProg
import Derived.Ground.SlgmProg
import Derived.OpenShut
import Derived.ProofKit
import Derived.Shelf.SlIterI.Nil
import Derived.Shelf.SortM.Plain
import Derived.Shelf.SortM.SortNone
import Derived.ShutString
import Derived.SliceStrings
import Derived.Test.YtbhjgfibhegddaaGreatProg
set_option maxRecDepth 100000
set_option maxHeartbeats 16000000
namespace Go.Proofs.YtbhjgfibhegddaaGreat
abbrev Mo:=@List.take_left'
abbrev Mq:=@List.getElem_cons_zero
abbrev Ye:=@List.mem_cons_of_mem
abbrev vk:=@List.mem_append_right
abbrev zb:=@List.mem_append_left
abbrev af_:=@List.getElem?_replicate
abbrev QM:=@List.eq_of_mem_replicate
abbrev A7:=@List.getElem_append_left
abbrev A9:=@List.getElem_append_right
abbrev xC:=@Option.some.injEq
abbrev zc:=@Option.map_some
abbrev agc:=@List.map_congr_left
abbrev Fj:=@Go.callsIn_wide
open Tryz
section
open Go Go.RowKit
theorem yg {P:Prop} (h:P:=by rw[cv];exact h):P:=h
structure Lp.ok (p:Lp):Prop where
 zu:0<p.θ
 θ:p.θ<2 ^ (8*8)
 af:p.af<2 ^ (8*8)
 ahead:p.ahead<2 ^ (8*8)
 number:p.number<256
 all:p.all<256
 text:p.text.length≤32
 aoh:0<p.all
theorem Y_ (p:Lp) (h:p.ok):lC p.body=(p,true):=by
 obtain⟨e,s,a,n,al,t⟩:=p;obtain⟨h0,he,hs,ha,hn,fW,ht,-⟩:=h;simp only at h0 he hs ha hn fW ht
 have hb:Lp.body ⟨e,s,a,n,al,t⟩=leB e 8++(leB s 8++(leB a 8++([UInt8.ofNat n,UInt8.ofNat al,UInt8.ofNat t.length,0]++(t++List.replicate (32 - t.length) 0)))):=by simp[Lp.body]
 generalize Lp.body ⟨e,s,a,n,al,t⟩=B at *;have d0:B.take 8=leB e 8:=by rw[hb,Mo (pN _ _)]
 have d8:B.drop 8=leB s 8++(leB a 8++([UInt8.ofNat n,UInt8.ofNat al,UInt8.ofNat t.length,0]++(t++List.replicate (32 - t.length) 0))):=by rw[hb,Mk (pN _ _)]
 have d16:B.drop 16=leB a 8++([UInt8.ofNat n,UInt8.ofNat al,UInt8.ofNat t.length,0]++(t++List.replicate (32 - t.length) 0)):=by
  rw[show B.drop 16=(B.drop 8).drop 8 by rw[CW],d8,Mk (pN _ _)]
 have d24:B.drop 24=[UInt8.ofNat n,UInt8.ofNat al,UInt8.ofNat t.length,0]++(t++List.replicate (32 - t.length) 0):=by
  rw[show B.drop 24=(B.drop 16).drop 8 by rw[CW],d16,Mk (pN _ _)]
 have hg:∀i,B.getD (24+i) 0=([UInt8.ofNat n,UInt8.ofNat al,UInt8.ofNat t.length,0]++(t++List.replicate (32 - t.length) 0)).getD i 0:=by
  intro i;rw[bN,bN,← d24,Ml]
 have g24:B.getD 24 0=UInt8.ofNat n:=hg 0;have g25:B.getD 25 0=UInt8.ofNat al:=hg 1;have g26:B.getD 26 0=UInt8.ofNat t.length:=hg 2;have g27:B.getD 27 0=0:=hg 3;have hdr:∀i,B.drop (28+i)=(t++List.replicate (32 - t.length) 0).drop i:=by
  intro i;rw[show B.drop (28+i)=((B.drop 24).drop 4).drop i by rw[CW,CW,← Ip],d24];rfl
 have hu:∀x,x<256→(UInt8.ofNat x).toNat=x:=fun x hx=>by simp;omega
 have e0:=hdr 0;rw[sU] at e0;rw[lC,g24,g25,g26,g27,hu n hn,hu al fW,hu t.length oM,ν oM,d0,d8,d16,Mo (pN _ _),Mo (pN _ _),Jh _ _ he,Jh _ _ hs,Jh _ _ ha,e0,hdr t.length];simp
theorem akp (p:Lp) (h:p.ok):p.body≠List.replicate 60 0:=by
 intro e;have h1:=Y_ p h;rw[e] at h1;have h2:(lC (List.replicate 60 0)).1.θ=p.θ:=by rw[h1]
 have h3:(lC (List.replicate 60 0)).1.θ=0:=dC;have:=h.zu;omega
theorem aiS (p : Lp) (h : p.ok) : cK p.sec.data.toList=(p.body,1):=by
 have e:p.sec.data.toList=gW p.body:=by simp[Lp.sec,str]
 rw[e]
 exact Q7 _ (p.FC h.text) (akp p h) (by have:=Np p.body;have e2:(2:Nat) ^ (8*4)=4294967296:=dC
                                        omega)
theorem ZE (p:Lp) (h:p.ok):p.sec.size=64:=by
 rw[Lp.sec,bR,gW,aN,p.FC h.text,pN]
theorem MG (n:Nat):1≤partsOf n:=by unfold partsOf;omega
theorem Ny (t:List UInt8) (e s a:Nat) (h0:0<e) (he:e<2 ^ (8*8)) (hs:s<2 ^ (8*8)) (ha:a<2 ^ (8*8)) (ht:t.length≤1024):∀p ∈ bZ t e s a,p.ok:=by
 intro p hp;obtain⟨i,hi,rfl⟩:=pL.1 hp;obtain⟨c1,c2,c3,c4,c5,c6⟩:=xG t e s a i hi;rw[qV] at hi;have hn:partsOf t.length≤32:=J8
 have nT:=MG t.length;exact⟨oM,oM,oM,oM,oM,oM,c6,oM⟩
theorem I2 (t:List UInt8) (e s a:Nat):∃p r,bZ t e s a=p::r∧p.θ=e∧p.af=s∧p.ahead=a∧p.all=partsOf t.length:=by
 have hn:0<(bZ t e s a).length:=by rw[qV];exact MG _
 obtain⟨c1,c2,c3,c4,c5,c6⟩:=xG t e s a 0 hn;cases h:bZ t e s a with
 | nil=>rw[h] at hn;simp at hn
 | cons p r =>
   simp only[h,Mq] at c1 c2 c3 c5;exact⟨p,r,rfl,c1,c2,c3,c5⟩
def Gp:Option Lp→ByteArray
 | none=>pO
 | some p=>p.sec
structure aa6 (d:Dk) (a:Nat) (L:List (Option Lp)):Prop where
 cell:∀i (h:i<L.length),d.now (a+i)=Gp L[i]
 ok:∀p,some p ∈ L→p.ok
def fe:List (Option Lp)→List Lp
 | some p::r=>p::fe r
 | _=>[]
def sg (L:List (Option Lp)):Nat:=L.foldl (fun m o=>max m (o.elim 0 Lp.af)) 0
theorem aiT (A:List (Option Lp)) (p:Lp):fe (A++[some p])=if A.all Option.isSome then fe A++[p] else fe A:=by
 induction A with
 | nil=>rfl
 | cons x A ih =>
   cases x with
   | none=>rfl
   | some q =>
     simp only[pI,fe,ih,sV,Option.isSome_some,IE];split<;>rfl
theorem aiU (A:List (Option Lp)):fe (A++[none])=fe A:=by
 induction A with
 | nil=>rfl
 | cons x A ih =>
   cases x with
   | none=>rfl
   | some q=>simp only[pI,fe,ih]
theorem akq (l:List Lp) (R:List (Option Lp)):fe (l.map some++R)=l++fe R:=by
 induction l with
 | nil=>rfl
 | cons p l ih=>simp only[kO,pI,fe,ih]
theorem aav {L:List (Option Lp)} {p:Lp} (h:p ∈ fe L):some p ∈ L:=by
 induction L with
 | nil=>simp[fe] at h
 | cons x L ih =>
   cases x with
   | none=>simp[fe] at h
   | some q =>
     simp only[fe,cC] at h;rcases h with rfl | h
     ·simp
     ·exact Ye _ (ih h)
theorem ahb (L:List (Option Lp)) (s:Nat):s≤L.foldl (fun m o=>max m (o.elim 0 Lp.af)) s:=by
 induction L generalizing s with
 | nil=>exact bO _
 | cons x L ih=>exact ic (Nat.le_max_left _ _) (ih _)
theorem agS {L:List (Option Lp)} {p:Lp} (h:some p ∈ L) (s:Nat):p.af≤L.foldl (fun m o=>max m (o.elim 0 Lp.af)) s:=by
 induction L generalizing s with
 | nil=>simp at h
 | cons x L ih =>
   rcases cC.1 h with rfl | h
   ·exact ic (Nat.le_max_right _ _) (ahb L _)
   ·exact ih h _
theorem aef {P:Prop} (h:P:=by
 induction L generalizing s with
 | nil=>exact hs
 | cons x L ih =>
   refine ih (fun p hp=>h p (by simp[hp])) _ ?_;cases x with
   | none=>simpa using hs
   | some q=>exact Nat.max_le.2 ⟨hs,h q sM⟩):P:=h
theorem ahc {L:List (Option Lp)} {m:Nat} (h:∀p,some p ∈ L→p.af≤m) (s:Nat) (hs:s≤m):L.foldl (fun m o=>max m (o.elim 0 Lp.af)) s≤m:=by
 exact aef
theorem C_ {L:List (Option Lp)} {p:Lp} (h:some p ∈ L):p.af≤sg L:=agS h 0
theorem Nj {L:List (Option Lp)} {m:Nat} (h:∀p,some p ∈ L→p.af≤m):sg L≤m:=ahc h 0 (xx _)
theorem Za:cK pO.data.toList=([],0):=by
 unfold cK;rw[ν (by simp[pO,str]),π ak]
theorem aiV {d:Dk} {a:Nat} {L:List (Option Lp)} (h:aa6 d a L) (k:Nat) (hk:k≤L.length):fc d a k=⟨fe (L.take k),(L.take k).all Option.isSome,sg (L.take k),false⟩:=by
 induction k with
 | zero=>rfl
 | succ k ih =>
   have hlt:k<L.length:=oM;rw[IM,ih oM,zi,ν sM,h.cell k hlt,ia hlt];have hmem:L[k] ∈ L:=eE hlt;cases hx:L[k] with
   | none =>
     rw[show Gp none=pO from rfl,Za,ν dC,ν dC,aiU];simp[sg]
   | some p =>
     have hok:=h.ok p (hx ▸ hmem);rw[show Gp (some p)=p.sec from rfl,aiS p hok,ν sM,π rfl,Y_ p hok,aiT];simp[sg]
theorem akr (t:List UInt8) (n:Nat):((List.range n).flatMap fun i=>(t.drop (32*i)).take 32)=t.take (32*n):=by
 induction n with
 | zero=>simp
 | succ n ih=>rw[t_,xq,ih];simp[List.take_add,Nat.mul_add]
theorem aiW (t:List UInt8) (e s a:Nat):jH (bZ t e s a)=t:=by
 have h:=akr t (partsOf t.length);rw[jH,bZ,List.flatMap_map];rw[h,dV];unfold partsOf;omega
theorem Zb (t:List UInt8) (e s a:Nat) (rest:List Lp) (ht:t.length≤1024):ie e a (bZ t e s a++rest)=(t,true):=by
 obtain⟨p,r,hc,c1,c2,c3,c4⟩:=I2 t e s a;have hl:(p::r).length=partsOf t.length:=by rw[← hc,qV]
 have cU:(p::(r++rest)).take (partsOf t.length)=bZ t e s a:=by
  rw[← pI,← hl,Mo rfl,hc]
 have hl2:partsOf t.length≤(p::(r++rest)).length:=by
  rw[← hl];simp only[eZ,aN];omega
 rw[hc,pI,ie,c4,cU,aiW,ν oM,ν oM,cU,c2,fo ⟨hl2,rfl⟩]
theorem YO {e a:Nat} {row:List Lp} (h:(ie e a row).2=true):∃t s rest,t.length≤1024∧row=bZ t e s a++rest:=by
 unfold ie at h;split at h
 ·simp at h
 ·split at h
  ·simp at h
  ·split at h
   ·simp at h
   ·rename_i p r h1 h2
    simp only[eD] at h;exact⟨jH ((p::r).take p.all),p.af,(p::r).drop (partsOf (jH ((p::r).take p.all)).length),oM,by rw[h.2,AQ]⟩
theorem ahd {e a:Nat} {p:Lp} {r:List Lp} (h:(ie e a (p::r)).2=true):p.θ=e∧p.ahead=a:=by
 obtain⟨t,s,rest,-,hr⟩:=YO h;obtain⟨q,r',hc,c1,c2,c3,c4⟩:=I2 t e s a;rw[hc,pI] at hr;injection hr with h3 h4;rw[h3];exact⟨c1,c3⟩
theorem YP {e a:Nat} {l:List Lp} (h:∀p ∈ l,p.θ≠e∨p.ahead≠a):(ie e a l).2=false:=by
 cases l with
 | nil=>rfl
 | cons p r =>
   cases hf:(ie e a (p::r)).2 with
   | false=>rfl
   | true =>
     obtain⟨h1,h2⟩:=ahd hf;rcases h p sM with h3 | h3
     ·exact absurd h1 h3
     ·exact absurd h2 h3
def rowOf (e:Nat):Nat→List (List UInt8 × Nat)→List Lp
 | _,[]=>[]
 | last,q::r=>bZ q.1 e q.2 last++rowOf e q.2 r
def tg:Nat→List (List UInt8 × Nat)→Nat
 | last,[]=>last
 | _,q::r=>tg q.2 r
theorem Rp (e last:Nat) (rs:List (List UInt8 × Nat)) (q:List UInt8 × Nat):rowOf e last (rs++[q])=rowOf e last rs++bZ q.1 e q.2 (tg last rs):=by
 induction rs generalizing last with
 | nil=>simp[rowOf,tg]
 | cons x rs ih=>simp only[pI,rowOf,tg,ih,eC]
theorem ahe (last:Nat) (rs:List (List UInt8 × Nat)) (q:List UInt8 × Nat):tg last (rs++[q])=q.2:=by
 induction rs generalizing last with
 | nil=>rfl
 | cons x rs ih=>simp only[pI,tg,ih]
theorem aiX (e last:Nat) (rs:List (List UInt8 × Nat)):rs.length≤(rowOf e last rs).length:=by
 induction rs generalizing last with
 | nil=>simp
 | cons x rs ih =>
   have:=ih x.2;have:=MG x.1.length;simp only[rowOf,aN,qV,eZ];omega
theorem aiY {e last m:Nat} {rs:List (List UInt8 × Nat)} (h:∀p ∈ rowOf e last rs,p.af≤m) (hl:last≤m):tg last rs≤m:=by
 induction rs generalizing last with
 | nil=>exact hl
 | cons x rs ih =>
   refine ih (fun p hp=>h p (vk _ hp)) ?_;obtain⟨p,r,hc,c1,c2,c3,c4⟩:=I2 x.1 e x.2 last;have:=h p (zb _ (by rw[hc];simp))
   omega
theorem aiZ (rs:List (List UInt8 × Nat)) (hs:∀q ∈ rs,q.1.length≤1024) (rest:List Lp) (g:Lg) (n:Nat) (hn:rs.length<n) (hst:(ie g.θ (tg g.last rs) rest).2=false) :
 se n g (rowOf g.θ g.last rs++rest) = { g with l:=g.l++rs.map (fun q=>str q.1),last:=tg g.last rs,used:=g.used+(rowOf g.θ g.last rs).length } := by
 induction rs generalizing g n with
 | nil =>
   obtain⟨m,rfl⟩:∃m,n=m+1:=⟨n - 1,oM⟩;rw[se,ν]
   ·simp[rowOf,tg]
   ·simpa [rowOf,tg] using hst
 | cons x rs ih =>
   obtain⟨m,rfl⟩:∃m,n=m+1:=⟨n - 1,by simp at hn;omega⟩;have hx:=hs x sM;have hf:=Zb x.1 g.θ x.2 g.last (rowOf g.θ x.2 rs++rest) hx;obtain⟨p,r,hc,c1,c2,c3,c4⟩:=I2 x.1 g.θ x.2 g.last;have hhd:((bZ x.1 g.θ x.2 g.last++(rowOf g.θ x.2 rs++rest)).headD ⟨0,0,0,0,0,[]⟩).af=x.2:=by rw[hc];exact c2
   have hdr:(bZ x.1 g.θ x.2 g.last++(rowOf g.θ x.2 rs++rest)).drop (partsOf x.1.length)=rowOf g.θ x.2 rs++rest:=by
    rw[Mk (qV _ _ _ _)]
   rw[se,rowOf,eC,hf,π rfl,hhd,hdr];have:=ih (fun q hq=>hs q z_) { g with l:=g.l++[str x.1],last:=x.2,used:=g.used+partsOf x.1.length } m (by simp at hn;omega) hst;rw[this];simp[tg,qV,Nat.add_assoc]
structure kS (d:Dk) (g:Lg) (rs:List (List UInt8 × Nat)) (R:List (Option Lp)):Prop where
 bP:d.bP=-1
 off:d.off=false
 waits:d.waits.length=d.ψ.length
 room:g.from_+g.dS≤d.ψ.length
 pos:1≤g.dS
 zu:0<g.θ
 θ:g.θ<18446744073709551616
 cells:aa6 d g.from_ ((rowOf g.θ 0 rs).map some++R)
 len:(rowOf g.θ 0 rs).length+R.length=g.dS
 recs:g.l=rs.map (fun q=>str q.1)
 used:g.used=(rowOf g.θ 0 rs).length
 last:g.last=tg 0 rs
 af:g.af=sg ((rowOf g.θ 0 rs).map some++R)
 Jv:∀p,some p ∈ (rowOf g.θ 0 rs).map some++R→p.ahead≤g.af
 small:∀q ∈ rs,q.1.length≤1024
 broken:g.broken=false
 stop:(ie g.θ g.last (fe R)).2=false
theorem kS.opens {d:Dk} {g:Lg} {rs:List (List UInt8 × Nat)} {R:List (Option Lp)} (h:kS d g rs R):nA d g.from_ g.dS g.θ=some g:=by
 have hl:((rowOf g.θ 0 rs).map some++R).length=g.dS:=by rw[aN,bz];exact h.len
 have hs:=aiV h.cells g.dS oM;rw[dV oM,akq,← h.af] at hs;unfold nA;rw[hs,ν sM];have hlo:=aiZ rs h.small (fe R) ⟨g.from_,g.dS,g.θ,[],0,0,g.af,false⟩ ((rowOf g.θ 0 rs++fe R).length+1) (by have:=aiX g.θ 0 rs;rw[aN];omega) (by have:=h.stop;rw[h.last] at this;exact this);rw[hlo];congr 1
 obtain⟨g1,g2,g3,g4,g5,g6,g7,g8⟩:=g;have e1:=h.recs;have e2:=h.used;have e3:=h.last;have e4:=h.broken;simp only at e1 e2 e3 e4 ⊢
 rw[e1,e2,e3,e4];simp
theorem kS.Nz {d:Dk} {g:Lg} {rs:List (List UInt8 × Nat)} {R:List (Option Lp)} (h:kS d g rs R):g.last≤g.af:=by
 rw[h.last];exact aiY (e:=g.θ) (fun p hp=>by rw[h.af];exact C_ (zb _ (cu.2 ⟨p,hp,rfl⟩))) (xx _)
theorem kS.other {d:Dk} {g:Lg} {rs:List (List UInt8 × Nat)} {R:List (Option Lp)} (h:kS d g rs R) (e:Nat) (h0:0<e) (he:e<18446744073709551616) (hst:(ie e 0 (fe ((rowOf g.θ 0 rs).map some++R))).2=false) :
 kS d ⟨g.from_,g.dS,e,[],0,0,g.af,false⟩ [] ((rowOf g.θ 0 rs).map some++R) :=
 ⟨h.bP,h.off,h.waits,h.room,h.pos,h0,he,by simpa [rowOf] using h.cells,by simpa [rowOf] using h.len,rfl,rfl,rfl,by simpa [rowOf] using h.af,by simpa [rowOf] using h.Jv,sM,rfl,hst⟩
theorem aeg {P:Prop} (h:P:=by
 unfold Dk.now Dk.at_ Dk.last Dk.fresh;simp only[bN,af_];rw[π oM,π oM];rfl):P:=h
theorem ai0 (n f m e:Nat) (h:f+m≤n) (hm:1≤m) (h0:0<e) (he:e<18446744073709551616):kS (Dk.fresh n) ⟨f,m,e,[],0,0,0,false⟩ [] (List.replicate m none):=by
 have hno:∀p:Lp,some p ∉ List.replicate m (none:Option Lp):=fun p hp=>by have:=QM hp;simp at this
 have hrow:fe (List.replicate m none)=[]:=by cases m<;>rfl
 refine⟨rfl,rfl,by simp[Dk.fresh],by simpa [Dk.fresh] using h,hm,h0,he,⟨fun i hi=>?_,fun p hp=>absurd hp (hno p)⟩,by simp[rowOf],rfl,rfl,rfl,?_,fun p hp=>absurd hp (hno p),sM,rfl,by rw[hrow];rfl⟩
 ·have e:(Dk.fresh n).now (f+i)=pO:=by
   have hi':i<m:=by simpa [rowOf] using hi
   exact aeg
  simp[rowOf,e,Gp]
 ·have:sg (List.replicate m none)≤0:=Nj fun p hp=>absurd hp (hno p)
  show 0=sg (List.replicate m none);omega
theorem T7 {P:Prop} (h:P:=by
 rw[bN,bu oM];exact hs _ (eE _)):P:=h
theorem Fo {d:Dk} (h:d.bP=-1) (ho:d.off=false) (hw:d.waits.length=d.ψ.length) (a:Nat) (l:List ByteArray) (hs:∀q ∈ l,q.size=64) (j:Nat) (hj:j≤l.length) (ha:a+j≤d.ψ.length) :
 (bV d a l j).2=0∧(bV d a l j).1.bP=-1∧(bV d a l j).1.off=false ∧
   ∀i,(bV d a l j).1.now i=if a≤i∧i<a+j then l.getD (i - a) ByteArray.empty else d.now i:=by
 induction j with
 | zero=>exact⟨rfl,h,ho,fun i=>by rw[ν oM];rfl⟩
 | succ j ih =>
   obtain⟨i1,i2,i3,i4⟩:=ih oM oM;obtain⟨s1,s2,s3⟩:=ug d a l hw j;have hq:(l.getD j ByteArray.empty).size=64:=by
    exact T7
   have hwr:=Dk.Ro i2 i3 (i:=a+j) (by rw[s1];omega) hq;rw[bV,ν (by rw[i1];simp),hwr]
   refine⟨rfl,i2,i3,fun i=>?_⟩;rw[Dk.akn _ _ _ _ (by rw[s2,hw];omega),i4];by_cases e:a+j=i
   ·subst e
    rw[π rfl,π oM,rU]
   ·rw[ν e]
    by_cases e2:a≤i∧i<a+j
    ·rw[π e2,π oM]
    ·rw[ν e2,ν oM]
def Lg.added (g:Lg) (s:ByteArray):Lg := { g with af:=g.af+1,last:=g.af+1,broken:=false,l:=g.l++[s],used:=g.used+partsOf s.size }
def vO (d:Dk) (g:Lg) (s:ByteArray):Dk:=(qZ d g s.data.toList).1.flush
theorem aaw {d d2:Dk} {g:Lg} {rs:List (List UInt8 × Nat)} {R:List (Option Lp)} (h:kS d g rs R) (s:ByteArray) (hs:s.size≤1024) (hr:partsOf s.size≤R.length) (xW:g.af<18446744073709551615)
 (Ab:d2.bP=-1) (kf:d2.off=false) (bp:d2.waits.length=d2.ψ.length) (hl2:d2.ψ.length=d.ψ.length)
 (nF:∀i,i<g.dS→d2.now (g.from_+i)=if g.used≤i∧i<g.used+partsOf s.size then (gM g s.data.toList).getD (i - g.used) ByteArray.empty else d.now (g.from_+i)) :
 kS d2 (g.added s) (rs++[(s.data.toList,g.af+1)]) (R.drop (partsOf s.size)):=by
 have hlen:=h.len;have hroom:=h.room;have Bv:=h.used;have e64:(2:Nat) ^ (8*8)=18446744073709551616:=dC;have uz:s.data.toList.length=s.size:=gZ
 have eV:=h.θ;have VY:=h.Nz;have hok:=Ny s.data.toList g.θ (g.af+1) g.last h.zu oM oM oM oM;have cv:=qV s.data.toList g.θ (g.af+1) g.last;rw[uz] at cv;have dJ:=MT g s.data.toList;rw[uz] at dJ;have hrow:rowOf g.θ 0 (rs++[(s.data.toList,g.af+1)])=rowOf g.θ 0 rs++bZ s.data.toList g.θ (g.af+1) g.last:=by
  rw[Rp,← h.last]
 have hmem:∀p,some p ∈ (rowOf g.θ 0 rs++bZ s.data.toList g.θ (g.af+1) g.last).map some++R.drop (partsOf s.size)→p ∈ bZ s.data.toList g.θ (g.af+1) g.last∨some p ∈ (rowOf g.θ 0 rs).map some++R:=by
  intro p hp;rcases jX.1 hp with e | e
  ·obtain⟨q,hq,e⟩:=cu.1 e
   injection e with e;subst e;rcases jX.1 hq with e | e
   ·exact .inr (zb _ (cu.2 ⟨q,e,rfl⟩))
   ·exact .inl e
  ·exact .inr (vk _ (CY e))
 have hcut:∀p ∈ bZ s.data.toList g.θ (g.af+1) g.last,p.af=g.af+1∧p.ahead=g.last:=by
  intro p hp;obtain⟨i,hi,rfl⟩:=pL.1 hp;obtain⟨c1,c2,c3,c4⟩:=xG _ _ _ _ i hi;exact⟨c2,c3⟩
 have aoi:g.af+1=sg ((rowOf g.θ 0 rs++bZ s.data.toList g.θ (g.af+1) g.last).map some++R.drop (partsOf s.size)):=by
  apply Nat.le_antisymm
  ·obtain⟨p,r,hc,c1,c2,c3,c4⟩:=I2 s.data.toList g.θ (g.af+1) g.last
   have:=C_ (L:=(rowOf g.θ 0 rs++bZ s.data.toList g.θ (g.af+1) g.last).map some++R.drop (partsOf s.size)) (p:=p) (zb _ (cu.2 ⟨p,vk _ (by rw[hc];simp),rfl⟩))
   omega
  ·refine Nj fun p hp=>?_
   rcases hmem p hp with e | e
   ·have:=(hcut p e).1;omega
   ·have:=C_ e
    rw[← h.af] at this;omega
 have hah:∀p,some p ∈ (rowOf g.θ 0 rs++bZ s.data.toList g.θ (g.af+1) g.last).map some++R.drop (partsOf s.size)→p.ahead≤g.af+1:=by
  intro p hp;rcases hmem p hp with e | e
  ·have:=(hcut p e).2;omega
  ·have:=h.Jv p e;omega
 have hrl:((rowOf g.θ 0 rs).map some:List (Option Lp)).length=g.used:=by rw[bz,Bv]
 have OG:(g.added s).θ=g.θ:=rfl;have hfr:(g.added s).from_=g.from_:=rfl;refine⟨Ab,kf,bp,by rw[hl2];exact hroom,h.pos,h.zu,eV,⟨fun i hi=>?_,fun p hp=>?_⟩,?_,?_,?_,?_,?_,?_,?_,rfl,?_⟩
 ·have hi2:i<g.used+partsOf s.size+(R.length - partsOf s.size):=by
   rw[OG,hrow,aN,bz,aN,cv,jC,← Bv] at hi;exact hi
  rw[hfr,nF i oM];have hL:((rowOf (g.added s).θ 0 (rs++[(s.data.toList,g.af+1)])).map some++R.drop (partsOf s.size))=(rowOf g.θ 0 rs).map some++((bZ s.data.toList g.θ (g.af+1) g.last).map some++R.drop (partsOf s.size)):=by
   rw[OG,hrow,lq,eC]
  simp only[hL];by_cases e1:i<g.used
  ·rw[ν oM,h.cells.cell i B4,A7 oM,A7 oM]
  ·by_cases e2:i<g.used+partsOf s.size
   ·rw[π oM,A9 oM]
    rw[A7 (by simp only[bz];omega),bN,bu oM];simp only[gM,ID,Mm,Gp,hrl]
   ·rw[ν oM,h.cells.cell i B4,A9 oM,A9 oM]
    rw[A9 (by simp only[bz];omega)];simp only[List.getElem_drop,bz,cv,← Bv];congr 2
    omega
 ·rw[OG,hrow] at hp
  rcases hmem p hp with e | e
  ·exact hok p e
  ·exact h.cells.ok p e
 ·show (rowOf g.θ 0 _).length+_=g.dS
  rw[hrow,aN,cv,jC];omega
 ·show g.l++[s]=_
  rw[lq,h.recs];rfl
 ·show g.used+partsOf s.size=(rowOf g.θ 0 _).length
  rw[hrow,aN,cv,Bv]
 ·show g.af+1=_
  rw[ahe]
 ·show g.af+1=sg ((rowOf g.θ 0 _).map some++_)
  rw[hrow];exact aoi
 ·intro p hp
  show p.ahead≤g.af+1;rw[OG,hrow] at hp;exact hah p hp
 ·intro q hq
  rcases jX.1 hq with e | e
  ·exact h.small q e
  ·rw[xB.1 e,uz];exact hs
 ·show (ie g.θ (g.af+1) _).2=false
  refine YP fun p hp=>.inr ?_
  have:=h.Jv p (vk _ (CY (aav hp)));omega
theorem amN {d:Dk} {g:Lg} {rs:List (List UInt8 × Nat)} {R:List (Option Lp)} (h:kS d g rs R) (s:ByteArray) (hs:s.size≤1024) (hr:partsOf s.size≤R.length) (xW:g.af<18446744073709551615) :
 jK d g s=(vO d g s,g.added s,0)∧kS (vO d g s) (g.added s) (rs++[(s.data.toList,g.af+1)]) (R.drop (partsOf s.size))∧(vO d g s).ψ.length=d.ψ.length∧(vO d g s).pend=0 ∧
  ∀i,i<d.ψ.length→(i<g.from_∨g.from_+g.dS≤i)→(vO d g s).now i=d.now i:=by
 have hlen:=h.len;have hroom:=h.room;have Bv:=h.used;have e64:(2:Nat) ^ (8*8)=18446744073709551616:=dC;have uz:s.data.toList.length=s.size:=gZ
 have eV:=h.θ;have VY:=h.Nz;have hok:=Ny s.data.toList g.θ (g.af+1) g.last h.zu oM oM oM oM;have dJ:=MT g s.data.toList;rw[uz] at dJ;have hsz:∀q ∈ gM g s.data.toList,q.size=64:=by
  intro q hq;obtain⟨p,hp,rfl⟩:=cu.1 hq;exact ZE p (hok p hp)
 obtain⟨w1,w2,w3,w4⟩:=Fo h.bP h.off h.waits (g.from_+g.used) (gM g s.data.toList) hsz (partsOf s.size) oM oM;obtain⟨s1,s2,s3⟩:=ug d (g.from_+g.used) (gM g s.data.toList) h.waits (partsOf s.size);have hwg:qZ d g s.data.toList=bV d (g.from_+g.used) (gM g s.data.toList) (partsOf s.size):=by rw[qZ,uz]
 have hD:vO d g s=(bV d (g.from_+g.used) (gM g s.data.toList) (partsOf s.size)).1.flush:=by rw[vO,hwg]
 have SX:(vO d g s).ψ.length=d.ψ.length:=by
  rw[hD];show ((List.range _).map _).length=_;rw[bz,vj,s1]
 have amO:(vO d g s).waits.length=(vO d g s).ψ.length:=by
  rw[SX,hD];show (List.map _ _).length=_;rw[bz,s2,h.waits]
 have nF:∀i,i<d.ψ.length→(vO d g s).now i=if g.from_+g.used≤i∧i<g.from_+g.used+partsOf s.size then (gM g s.data.toList).getD (i - (g.from_+g.used)) ByteArray.empty else d.now i:=by
  intro i hi;rw[hD,Dk.RO _ _ (by rw[s1];exact hi),w4]
 refine⟨?_,aaw h s hs hr xW (by rw[hD];exact w2) (by rw[hD];exact w3) amO SX (fun i hi=>?_),SX,by rw[hD];exact Dk.I0 _,fun i hi ho=>?_⟩
 ·unfold jK
  rw[h.broken,ν sM,ν oM,ν oM,hwg,ν (by rw[w1];simp),Dk.MU w2 w3,ν sM,hD]
  rfl
 ·rw[nF _ oM,Nat.add_sub_add_left]
  by_cases e:g.used≤i∧i<g.used+partsOf s.size
  ·rw[π oM,π e]
  ·rw[ν oM,ν e]
 ·rw[nF i hi,ν oM]
theorem kS.aa7 {d:Dk} {g:Lg} {rs:List (List UInt8 × Nat)} {R:List (Option Lp)} (h:kS d g rs R):g.used+R.length=g.dS:=by rw[h.used];exact h.len
theorem aks {L:List (Option Lp)} {i:Nat} (h:i<(fe L).length):L[i]? = some (some (fe L)[i]):=by
 induction L generalizing i with
 | nil=>simp[fe] at h
 | cons x L ih =>
   cases x with
   | none=>simp[fe] at h
   | some q =>
     cases i with
     | zero=>simp[fe]
     | succ i =>
       simp only[fe,eZ] at h;have:=ih (i:=i) oM;simpa [fe] using this
theorem ahf {A B:List (Option Lp)} {n:Nat} (h:∀i,i<n→A[i]? = B[i]?) (hn:n≤(fe A).length):n≤(fe B).length∧(fe A).take n=(fe B).take n:=by
 induction n generalizing A B with
 | zero=>simp
 | succ n ih =>
   cases A with
   | nil=>simp[fe] at hn
   | cons x A =>
     cases x with
     | none=>simp[fe] at hn
     | some p =>
       have h0:=h 0 oM;cases B with
       | nil=>simp at h0
       | cons y B =>
         simp only[oV,xC] at h0;subst h0;simp only[fe,eZ] at hn;have:=ih (A:=A) (B:=B) (fun i hi=>by simpa using h (i+1) oM) oM;simp only[fe,eZ,y8];exact⟨oM,by rw[this.2]⟩
theorem aeh {P:Prop} (h:P:=by
 have h0:=hnew 0 _ (Sv 0 oM) (qv 0 oM);have h1:=(hcut 0 oM).2;exact hno fun i hi=>(Sv i oM).2):P:=h
theorem akt {e last af k:Nat} {R M:List (Option Lp)} {t:List UInt8} (hR:∀p,some p ∈ R→p.af≤af) (hk:k=partsOf t.length)
 (hM:∀i,M[i]? = R[i]? ∨ (i<k∧M[i]? = (bZ t e (af+1) last)[i]?.map some)) (hst:(ie e last (fe R)).2=false)
 (hno:¬ ∀i,i<k→M[i]? = (bZ t e (af+1) last)[i]?.map some):(ie e last (fe M)).2=false:=by
 cases hf:(ie e last (fe M)).2 with
 | false=>rfl
 | true =>
   exfalso
   obtain⟨t',s',rest,ht',hrow⟩:=YO hf;have hn':=MG t'.length;have cv:=qV t' e s' last;have hlen:partsOf t'.length≤(fe M).length:=by rw[hrow,aN,cv];omega
   have qv:∀(i:Nat) (h:i<partsOf t'.length),M[i]? = some (some ((bZ t' e s' last)[i]'yg)):=by
    intro i h;rw[aks oM];simp only[hrow];rw[A7 yg]
   have hold:∀(i:Nat) (p:Lp),M[i]? = R[i]? → M[i]? = some (some p)→p.af≤af:=by
    intro i p h1 h2;rw[h1] at h2;exact hR p (qO h2)
   have hnew:∀(i:Nat) (p:Lp),(i<k∧M[i]? = (bZ t e (af+1) last)[i]?.map some)→M[i]? = some (some p)→p.af=af+1∧p.all=k:=by
    intro i p h1 h2;rw[h1.2,bu (by rw[qV];omega)] at h2;simp only[zc,xC] at h2;obtain⟨c1,c2,c3,c4,c5,c6⟩:=xG t e (af+1) last i (by rw[qV];omega);rw[h2] at c2 c5;exact⟨c2,oM⟩
   have hcut:∀(i:Nat) (h:i<partsOf t'.length),((bZ t' e s' last)[i]'yg).af=s'∧((bZ t' e s' last)[i]'yg).all=partsOf t'.length:=by
    intro i h;obtain⟨c1,c2,c3,c4,c5,c6⟩:=xG t' e s' last i yg;exact⟨c2,c5⟩
   by_cases hs:s'=af+1
   ·have Sv:∀i:Nat,i<partsOf t'.length→i<k∧M[i]? = (bZ t e (af+1) last)[i]?.map some:=by
     intro i h;rcases hM i with e1 | e1
     ·have:=hold i _ e1 (qv i h)
      have:=(hcut i h).1;omega
     ·exact e1
    exact aeh
   ·have Sw:∀i:Nat,i<partsOf t'.length→M[i]? = R[i]? := by
     intro i h;rcases hM i with e1 | e1
     ·exact e1
     ·have h1:=(hnew i _ e1 (qv i h)).1
      have h2:=(hcut i h).1;omega
    obtain⟨p1,p2⟩:=ahf Sw hlen;have iP:fe R=bZ t' e s' last++(fe R).drop (partsOf t'.length):=by
     have e1:(fe M).take (partsOf t'.length)=bZ t' e s' last:=by rw[hrow,Mo cv]
     rw[← e1,p2,AQ]
    rw[iP,Zb _ _ _ _ _ ht'] at hst;simp at hst
theorem alT {d d2:Dk} {g:Lg} {rs:List (List UInt8 × Nat)} {R:List (Option Lp)} (h:kS d g rs R) (s:ByteArray) (hs:s.size≤1024) (hr:partsOf s.size≤R.length) (xW:g.af<18446744073709551615)
 (Ab:d2.bP=-1) (kf:d2.off=false) (bp:d2.waits.length=d2.ψ.length) (hl2:d2.ψ.length=d.ψ.length)
 (nF:∀i,i<g.dS→d2.now (g.from_+i)=d.now (g.from_+i)∨(g.used≤i∧i<g.used+partsOf s.size∧d2.now (g.from_+i)=(gM g s.data.toList).getD (i - g.used) ByteArray.empty)) :
 ∃ g' rs' R',kS d2 g' rs' R'∧(g'.from_=g.from_∧g'.dS=g.dS∧g'.θ=g.θ∧g'.af≤g.af+1)∧((g'.l=g.l∧g'.used=g.used)∨(g'.l=g.l++[s]∧g'.used=g.used+partsOf s.size)) ∧
  ∀p,some p ∈ (rowOf g'.θ 0 rs').map some++R'→some p ∈ (rowOf g.θ 0 rs).map some++R∨p.θ=g.θ:=by
 classical
 have hlen:=h.len;have Bv:=h.used;have e64:(2:Nat) ^ (8*8)=18446744073709551616:=dC;have uz:s.data.toList.length=s.size:=gZ
 have eV:=h.θ;have VY:=h.Nz;have hok:=Ny s.data.toList g.θ (g.af+1) g.last h.zu oM oM oM oM;have cv:=qV s.data.toList g.θ (g.af+1) g.last;rw[uz] at cv;by_cases hall:∀i,i<partsOf s.size→d2.now (g.from_+(g.used+i))=(gM g s.data.toList).getD i ByteArray.empty
 ·refine⟨g.added s,_,_,aaw h s hs hr xW Ab kf bp hl2 (fun i hi=>?_),⟨rfl,rfl,rfl,bO _⟩,.inr ⟨rfl,rfl⟩,fun p hp=>?_⟩
  ·by_cases e:g.used≤i∧i<g.used+partsOf s.size
   ·rw[π e]
    have:=hall (i - g.used) oM;rw[show g.used+(i - g.used)=i by omega] at this;exact this
   ·rw[ν e]
    rcases nF i hi with e1 | e1
    ·exact e1
    ·exact absurd ⟨e1.1,e1.2.1⟩ e
  ·have hrow:rowOf g.θ 0 (rs++[(s.data.toList,g.af+1)])=rowOf g.θ 0 rs++bZ s.data.toList g.θ (g.af+1) g.last:=by
    rw[Rp,← h.last]
   have Ak:some p ∈ (rowOf g.θ 0 rs++bZ s.data.toList g.θ (g.af+1) g.last).map some++R.drop (partsOf s.size):=by rw[← hrow];exact hp
   rcases jX.1 Ak with e | e
   ·obtain⟨q,hq,e⟩:=cu.1 e
    injection e with e;subst e;rcases jX.1 hq with e | e
    ·exact .inl (zb _ (cu.2 ⟨q,e,rfl⟩))
    ·obtain⟨i,hi,rfl⟩:=pL.1 e
     exact .inr (xG _ _ _ _ i hi).1
   ·exact .inl (vk _ (CY e))
 ·have hM:∃M:List (Option Lp),M.length=R.length∧∀i (hi:i<R.length),(M[i]? = some R[i]∧d2.now (g.from_+(g.used+i))=d.now (g.from_+(g.used+i))) ∨
   (i<partsOf s.size∧M[i]? = (bZ s.data.toList g.θ (g.af+1) g.last)[i]?.map some∧d2.now (g.from_+(g.used+i))=(gM g s.data.toList).getD i ByteArray.empty):=by
   refine⟨(List.range R.length).map fun i=>if d2.now (g.from_+(g.used+i))=d.now (g.from_+(g.used+i)) then R.getD i none else (bZ s.data.toList g.θ (g.af+1) g.last)[i]?,sM,fun i hi=>?_⟩;rw[lf,A6 hi,zc];by_cases e:d2.now (g.from_+(g.used+i))=d.now (g.from_+(g.used+i))
   ·refine .inl ⟨?_,e⟩
    rw[π e,bN,bu hi];rfl
   ·rcases nF (g.used+i) oM with e1 | e1
    ·exact absurd e1 e
    ·refine .inr ⟨oM,?_,?_⟩
     ·rw[ν e,bu oM]
      rfl
     ·rw[e1.2.2,rU]
  obtain⟨M,l5,Ar⟩:=hM;have rC:∀i (hi:i<partsOf s.size),(gM g s.data.toList).getD i ByteArray.empty=((bZ s.data.toList g.θ (g.af+1) g.last)[i]'oM).sec:=by
   intro i hi;have dJ:=MT g s.data.toList;rw[uz] at dJ;rw[bN,bu oM];simp[gM]
  have yR:∀p,some p ∈ (rowOf g.θ 0 rs).map some++R→p.af≤g.af:=fun p hp=>by rw[h.af];exact C_ hp
  have hcut:∀p ∈ bZ s.data.toList g.θ (g.af+1) g.last,p.af=g.af+1∧p.ahead=g.last:=by
   intro p hp;obtain⟨i,hi,rfl⟩:=pL.1 hp;obtain⟨c1,c2,c3,c4⟩:=xG _ _ _ _ i hi;exact⟨c2,c3⟩
  have P4:∀p,some p ∈ M→some p ∈ R∨p ∈ bZ s.data.toList g.θ (g.af+1) g.last:=by
   intro p hp;obtain⟨i,hi,hp⟩:=pL.1 hp;rcases Ar i oM with e | e
   ·rw[bu hi,hp] at e
    exact .inl (by rw[dM e.1];exact eE _)
   ·have e2:=e.2.1
    rw[bu hi,hp,bu oM] at e2;simp only[zc,xC] at e2;exact .inr (by rw[e2];exact eE _)
  have hge:g.af≤sg ((rowOf g.θ 0 rs).map some++M):=by
   rw[h.af];refine Nj fun p hp=>?_
   have hps:=yR p hp;rcases jX.1 hp with e | e
   ·exact C_ (zb _ e)
   ·obtain⟨i,hi,Ak⟩:=pL.1 e
    rcases Ar i hi with e1 | e1
    ·refine C_ (vk _ ?_)
     rw[← Ak];exact qO e1.1
    ·have e2:=e1.2.1
     rw[bu (by omega:i<(bZ s.data.toList g.θ (g.af+1) g.last).length),zc] at e2;have h1:=C_ (L:=(rowOf g.θ 0 rs).map some++M) (vk _ (qO e2));have h2:=(hcut _ (eE (by omega:i<(bZ s.data.toList g.θ (g.af+1) g.last).length))).1;omega
  have hMs:sg ((rowOf g.θ 0 rs).map some++M)≤g.af+1:=by
   refine Nj fun p hp=>?_
   rcases jX.1 hp with e | e
   ·have:=yR p (zb _ e);omega
   ·rcases P4 p e with e | e
    ·have:=yR p (vk _ e);omega
    ·have:=(hcut p e).1;omega
  have hrl:((rowOf g.θ 0 rs).map some:List (Option Lp)).length=g.used:=by rw[bz,Bv]
  refine⟨{ g with af:=sg ((rowOf g.θ 0 rs).map some++M) },rs,M,⟨Ab,kf,bp,by rw[hl2];exact h.room,h.pos,h.zu,h.θ,⟨fun i hi=>?_,fun p hp=>?_⟩,?_,h.recs,h.used,h.last,rfl,fun p hp=>?_,h.small,h.broken,?_⟩,⟨rfl,rfl,rfl,hMs⟩,.inl ⟨rfl,rfl⟩,fun p hp=>?_⟩
  ·have hi2:i<g.used+R.length:=by
    rw[aN,hrl,l5] at hi;exact hi
   show d2.now (g.from_+i)=Gp ((rowOf g.θ 0 rs).map some++M)[i];by_cases e1:i<g.used
   ·rcases nF i oM with e | e
    ·rw[e,h.cells.cell i B4,A7 oM,A7 oM]
    ·omega
   ·have e3:g.used+(i - g.used)=i:=oM
    rw[A9 oM];simp only[hrl];rcases Ar (i - g.used) oM with e | e
    ·rw[e3] at e
     rw[e.2,h.cells.cell i B4,A9 oM];have e4:=e.1;rw[bu oM] at e4;rw[dM e4];simp only[hrl]
    ·rw[e3] at e
     have e4:=e.2.1;rw[bu oM,bu oM,zc] at e4;rw[e.2.2,rC _ e.1,dM e4];rfl
  ·rcases jX.1 hp with e | e
   ·exact h.cells.ok p (zb _ e)
   ·rcases P4 p e with e | e
    ·exact h.cells.ok p (vk _ e)
    ·exact hok p e
  ·show (rowOf g.θ 0 rs).length+M.length=g.dS
   omega
  ·show p.ahead≤sg ((rowOf g.θ 0 rs).map some++M)
   rcases jX.1 hp with e | e
   ·have:=h.Jv p (zb _ e);omega
   ·rcases P4 p e with e | e
    ·have:=h.Jv p (vk _ e);omega
    ·have:=(hcut p e).2;omega
  ·show (ie g.θ g.last (fe M)).2=false
   refine akt (af:=g.af) (k:=partsOf s.size) (t:=s.data.toList) (fun p hp=>yR p (vk _ hp)) (by rw[uz]) (fun i=>?_) h.stop (fun hno=>hall fun i hi=>?_)
   ·by_cases hi:i<R.length
    ·rcases Ar i hi with e | e
     ·exact .inl (by rw[e.1,bu hi])
     ·exact .inr ⟨e.1,e.2.1⟩
    ·exact .inl (by rw[nv oM,nv oM])
   ·rcases Ar i oM with e | e
    ·have e1:=hno i hi
     rw[e.1,bu oM,zc] at e1;rw[e.2,rC i hi,h.cells.cell (g.used+i) B4,A9 oM];simp only[hrl,rU];rw[dM e1];rfl
    ·exact e.2.2
  ·rcases jX.1 hp with e | e
   ·exact .inl (zb _ e)
   ·rcases P4 p e with e | e
    ·exact .inl (vk _ e)
    ·obtain⟨i,hi,rfl⟩:=pL.1 e
     exact .inr (xG _ _ _ _ i hi).1
def BO (c:UInt8) (n:Nat):ByteArray:=⟨(Lib.repeatL (⟨#[c]⟩:ByteArray).data.toList n).toArray⟩
theorem anz (c:UInt8) (n:Nat) (w:World) (hn:n≤5000) :
 ς 20 #[.string ⟨#[c]⟩,ι (n:Int)] w fun e w'=>e=ώ (.string (BO c n))∧υ w w':=by
 refine(strings_Repeat ⟨#[c]⟩ n w oM (by show 1*n≤_;omega)).mono ?_;rintro e w' ⟨rfl,hb⟩;exact⟨rfl,ζ.pM hb _⟩
end
section
open Go Go.RowKit Go.ChangeShapes Go.WideShapes Go.ChangeAt
structure Row (w:World) (v:Value) (vs:List Value):Prop where
 ex:∃A cap,v=.slice A vs.length cap∧vs.length≤maxLen∧(0<vs.length→∃b off,A=some ⟨b,off,none⟩∧b<w.heap.size∧∀i (h:i<vs.length),w.cell? ⟨b,off+i,none⟩=some vs[i])
def Bl (w:World) (v:Value) (zs:List Int):Prop:=Row w v (zs.map (Value.int .i64))∧∀z ∈ zs,(Lit.int .i64 z).wf=true
theorem Row.ε {w w':World} {v:Value} {vs:List Value} (h:Row w v vs) (hu:υ w w'):Row w' v vs:=by
 obtain⟨A,cap,h1,h2,h3⟩:=h.ex;refine⟨A,cap,h1,h2,fun h0=>?_⟩;obtain⟨b,off,g1,g2,g3⟩:=h3 h0;refine⟨b,off,g1,nY g2 hu.size,fun i hi=>?_⟩;rw[CX (w:=w) (a:=⟨b,off+i,none⟩) (hu.block b g2 id)];exact g3 i hi
theorem Row.open_ {w:World} {v:Value} {vs:List Value} (h:Row w v vs):∃A cap b off,v=.slice A vs.length cap∧vs.length≤maxLen∧(0<vs.length→A=some ⟨b,off,none⟩) ∧
 ∀w',υ w w'→∀i (_:i<vs.length),w'.cell? ⟨b,off+i,none⟩=some vs[i]:=by
 obtain⟨A,cap,h1,h2,h3⟩:=h.ex;by_cases h0:0<vs.length
 ·obtain⟨b,off,g1,g2,g3⟩:=h3 h0
  refine⟨A,cap,b,off,h1,h2,fun _=>g1,fun w' hu i hi=>?_⟩;rw[CX (w:=w) (a:=⟨b,off+i,none⟩) (hu.block b g2 id)];exact g3 i hi
 ·exact⟨A,cap,0,0,h1,h2,fun h=>absurd h h0,fun w' hu i hi=>absurd hi oM⟩
theorem Bl.open_ {w:World} {v:Value} {ss:List Int} (h:Bl w v ss):∃A cap b off,v=.slice A ss.length cap∧ss.length≤9223372036854775807∧(0<ss.length→A=some ⟨b,off,none⟩) ∧
 (∀w',υ w w'→∀i (_:i<ss.length),w'.cell? ⟨b,off+i,none⟩=some (ι ss[i]))∧∀s ∈ ss,-9223372036854775808≤s∧s≤9223372036854775807:=by
 obtain⟨A,cap,b,off,h1,h2,h3,h4⟩:=h.1.open_;simp only[bz] at h1 h2 h3 h4;refine⟨A,cap,b,off,h1,h2,h3,fun w' hu i hi=>?_,fun s hs=>?_⟩
 ·have:=h4 w' hu i hi
  simpa using this
 ·have:=h.2 s hs
  simp only[Lit.wf,gV,eD] at this;have h1:IntKind.i64.min=-9223372036854775808:=rfl;have h2:IntKind.i64.max=9223372036854775807:=rfl;omega
theorem aku {w:World} {a:Addr} {cap:Nat} {vs:List Value} (hm:vs.length≤maxLen) (hc:∀i (h:i<vs.length),w.cell? (a.add i)=some vs[i]):Row w (.slice (some a) vs.length cap) vs:=by
 refine⟨some a,cap,rfl,hm,fun h0=>?_⟩;obtain⟨b,off,spot⟩:=a;have hs:spot=none:=by simpa [Addr.add] using World.cell?_spot (hc 0 h0)
 subst hs;refine⟨b,off,rfl,?_,fun i hi=>?_⟩
 ·simpa [Addr.add] using Mn _ _ (hc 0 h0)
 ·rw[← add_plain];exact hc i hi
section
variable {H:Type} {enc:TypeId × Value→H} {P:Program} {w:World} {base:Nat} {spare:Nat→Bool} {held:Bool}
theorem aa8 {t e:TypeId} {fuel:Nat} {v:Value} {x:DataW H × List MemPlace} (ht:P.underlying t=some (.slice e)) (he:P.underlying e=some (.int .i64)) (hc:P.cellsOf e=1)
 (h:DataW.trod enc P w base spare held fuel t [v]=some x):∃zs,Bl w v zs:=by
 rcases open_ints ht he hc h with ⟨hcs,_⟩ | ⟨a,len,cap,ss,hcs,_,hl,hm,hz,_,hcell,wF⟩
 ·simp only[qP,qN] at hcs
  subst hcs;exact⟨[],⟨none,0,rfl,sM,sM⟩,sM⟩
 ·simp only[qP,qN] at hcs
  subst hcs;have hge:len≤ss.length:=by rw[hz];split<;>omega
  have hlen:((ss.take len).map (Value.int .i64)).length=len:=TN
  refine⟨ss.take len,?_,fun s hs=>wF s (Iw hs)⟩;have hr:=aku (w:=w) (a:=a) (cap:=cap) (vs:=(ss.take len).map (Value.int .i64)) oM (fun i hi=>?_)
  ·rw[hlen] at hr;exact hr
  ·rw[hcell i oM,ID,Yd,bN,bu oM]
   rfl
end
end
section
open Go Go.RowKit
section
variable {w0 w w':World} {p b:Nat} {d:Dk} {k:Kp}
end
section
variable {w0 w w':World} {p b:Nat} {d:Dk} {k:Kp} {F F':List Nat}
end
theorem ahS {l:List Pt} (h:(ec l).2≠0):∃t g rest,g≠0∧t.length≤400∧l=aU t g++rest∧ec l=(t,g):=by
 unfold ec at h ⊢;split at h
 ·simp at h
 ·split at h
  ·simp at h
  ·split at h
   ·rename_i h1 h2 h3
    refine⟨kQ (l.take (qU l)),vp l,l.drop (aM (kQ (l.take (qU l))).length),h1,oM,by rw[h3,AQ],?_⟩;rw[ν h1,ν h2,π h3]
   ·simp at h
theorem ZF (n:Nat):1≤aM n:=by unfold aM;omega
end
end Go.Proofs.YtbhjgfibhegddaaGreat
namespace Go.Proofs
open Go.Shelf
def Tryz.keysA_ren:Go.Shelf.Ren:=⟨fun | 7=>87 | 10=>147 | n=>n,fun | 23=>149 | 26=>3 | 3=>147 | 28=>157 | 0=>0 | 27=>156 | 33=>159 | 4=>4 | n=>n,fun | n=>n⟩
theorem Tryz.keysA:Go.Proofs.SlLaysZI.n7 Tryz.prog Tryz.keysA_ren := {
 mixed:=by kernel_rfl
 f7:=⟨Tryz.f87.name,by decide,Tryz.func87.trans (congrArg some (by kernel_rfl))⟩
 f10:=⟨Tryz.f147.name,by decide,Tryz.func147.trans (congrArg some (by kernel_rfl))⟩
 t0:=Tryz.underlying0
 a0:=Tryz.isAgg0
 z0:=Tryz.sizeOf0
 v0:=Tryz.zeroValue0
 t4:=Tryz.underlying4
 a4:=Tryz.isAgg4
 z4:=Tryz.sizeOf4
 v4:=Tryz.zeroValue4
 t23:=Tryz.underlying149
 a23:=Tryz.isAgg149
 z23:=Tryz.sizeOf149
 v23:=Tryz.zeroValue149
 t26:=Tryz.underlying3
 a26:=Tryz.isAgg3
 z26:=Tryz.sizeOf3
 v26:=Tryz.zeroValue3
 t27:=Tryz.underlying156
 a27:=Tryz.isAgg156
 z27:=Tryz.sizeOf156
 v27:=Tryz.zeroValue156
 t28:=Tryz.underlying157
 a28:=Tryz.isAgg157
 z28:=Tryz.sizeOf157
 v28:=Tryz.zeroValue157
 t33:=Tryz.underlying159
 a33:=Tryz.isAgg159
 z33:=Tryz.sizeOf159
 v33:=Tryz.zeroValue159 }
def Tryz.sortedA_ren:Go.Shelf.Ren:=⟨fun | 6=>86 | 8=>145 | 9=>146 | 11=>195 | 13=>197 | 12=>196 | 23=>237 | 24=>204 | 14=>228 | 15=>229 | 16=>230 | 17=>231 | 18=>232 | 19=>233 | 20=>234 | 21=>235 | 22=>236 | 25=>263 | 26=>264 | 27=>265 | 28=>266 | 29=>267 | 30=>268 | 31=>286 | n=>n,fun | 26=>3 | 28=>157 | 24=>100 | 0=>0 | 3=>3 | 37=>133 | 48=>113 | 50=>112 | 4=>4 | 40=>329 | 39=>328 | 45=>307 | 5=>5 | 9=>9 | 51=>352 | 55=>283 | 57=>373 | 58=>26 | 33=>159 | n=>n,fun | n=>n⟩
theorem Tryz.sortedA:Go.Proofs.SlLaysZI.n6 Tryz.prog Tryz.sortedA_ren := {
 mixed:=by kernel_rfl
 f6:=⟨Tryz.f86.name,by decide,Tryz.func86.trans (congrArg some (by kernel_rfl))⟩
 f8:=⟨Tryz.f145.name,by decide,Tryz.func145.trans (congrArg some (by kernel_rfl))⟩
 f11:=⟨Tryz.f195.name,by decide,Tryz.func195.trans (congrArg some (by kernel_rfl))⟩
 t0:=Tryz.underlying0
 a0:=Tryz.isAgg0
 z0:=Tryz.sizeOf0
 v0:=Tryz.zeroValue0
 t24:=Tryz.underlying100
 a24:=Tryz.isAgg100
 z24:=Tryz.sizeOf100
 v24:=Tryz.zeroValue100
 t26:=Tryz.underlying3
 a26:=Tryz.isAgg3
 z26:=Tryz.sizeOf3
 v26:=Tryz.zeroValue3
 t28:=Tryz.underlying157
 a28:=Tryz.isAgg157
 z28:=Tryz.sizeOf157
 v28:=Tryz.zeroValue157
 i26:=by kernel_rfl }
def Tryz.sortA_ren:Go.Shelf.Ren:=⟨fun | 5=>146 | 8=>197 | 7=>196 | 19=>237 | 20=>204 | 10=>228 | 11=>229 | 12=>230 | 13=>231 | 14=>232 | 15=>233 | 16=>234 | 17=>235 | 18=>236 | 30=>263 | 31=>264 | 32=>265 | 33=>266 | 34=>267 | 35=>268 | 40=>286 | n=>n,fun | 23=>100 | 25=>3 | 3=>3 | 32=>133 | 22=>100 | 0=>0 | 44=>113 | 46=>112 | 4=>4 | 36=>329 | 35=>328 | 41=>307 | 5=>5 | 9=>9 | 53=>352 | 57=>283 | 63=>373 | 64=>26 | n=>n,fun | n=>n⟩
theorem Tryz.sortA:Go.Proofs.SlLaysM.n5 Tryz.prog Tryz.sortA_ren := {
 mixed:=by kernel_rfl
 f5:=⟨Tryz.f146.name,by decide,Tryz.func146.trans (congrArg some (by kernel_rfl))⟩
 f7:=⟨Tryz.f196.name,by decide,Tryz.func196.trans (congrArg some (by kernel_rfl))⟩
 f8:=Tryz.func197.trans (congrArg some (by kernel_rfl))
 f10:=⟨Tryz.f228.name,by decide,Tryz.func228.trans (congrArg some (by kernel_rfl))⟩
 f11:=⟨Tryz.f229.name,by decide,Tryz.func229.trans (congrArg some (by kernel_rfl))⟩
 f12:=⟨Tryz.f230.name,by decide,Tryz.func230.trans (congrArg some (by kernel_rfl))⟩
 f13:=⟨Tryz.f231.name,by decide,Tryz.func231.trans (congrArg some (by kernel_rfl))⟩
 f14:=⟨Tryz.f232.name,by decide,Tryz.func232.trans (congrArg some (by kernel_rfl))⟩
 f15:=⟨Tryz.f233.name,by decide,Tryz.func233.trans (congrArg some (by kernel_rfl))⟩
 f16:=⟨Tryz.f234.name,by decide,Tryz.func234.trans (congrArg some (by kernel_rfl))⟩
 f17:=⟨Tryz.f235.name,by decide,Tryz.func235.trans (congrArg some (by kernel_rfl))⟩
 f18:=⟨Tryz.f236.name,by decide,Tryz.func236.trans (congrArg some (by kernel_rfl))⟩
 f19:=Tryz.func237.trans (congrArg some (by kernel_rfl))
 f20:=Tryz.func204.trans (congrArg some (by kernel_rfl))
 f30:=⟨Tryz.f263.name,by decide,Tryz.func263.trans (congrArg some (by kernel_rfl))⟩
 f31:=Tryz.func264.trans (congrArg some (by kernel_rfl))
 f32:=Tryz.func265.trans (congrArg some (by kernel_rfl))
 f33:=⟨Tryz.f266.name,by decide,Tryz.func266.trans (congrArg some (by kernel_rfl))⟩
 f34:=⟨Tryz.f267.name,by decide,Tryz.func267.trans (congrArg some (by kernel_rfl))⟩
 f35:=⟨Tryz.f268.name,by decide,Tryz.func268.trans (congrArg some (by kernel_rfl))⟩
 f40:=⟨Tryz.f286.name,by decide,Tryz.func286.trans (congrArg some (by kernel_rfl))⟩
 t0:=Tryz.underlying0
 a0:=Tryz.isAgg0
 z0:=Tryz.sizeOf0
 v0:=Tryz.zeroValue0
 t3:=Tryz.underlying3
 a3:=Tryz.isAgg3
 z3:=Tryz.sizeOf3
 v3:=Tryz.zeroValue3
 t4:=Tryz.underlying4
 a4:=Tryz.isAgg4
 z4:=Tryz.sizeOf4
 v4:=Tryz.zeroValue4
 t5:=Tryz.underlying5
 a5:=Tryz.isAgg5
 z5:=Tryz.sizeOf5
 v5:=Tryz.zeroValue5
 t9:=Tryz.underlying9
 a9:=Tryz.isAgg9
 z9:=Tryz.sizeOf9
 v9:=Tryz.zeroValue9
 t22:=Tryz.underlying100
 a22:=Tryz.isAgg100
 z22:=Tryz.sizeOf100
 v22:=Tryz.zeroValue100
 t23:=Tryz.underlying100
 a23:=Tryz.isAgg100
 z23:=Tryz.sizeOf100
 v23:=Tryz.zeroValue100
 t25:=Tryz.underlying3
 a25:=Tryz.isAgg3
 z25:=Tryz.sizeOf3
 v25:=Tryz.zeroValue3
 t32:=Tryz.underlying133
 a32:=Tryz.isAgg133
 z32:=Tryz.sizeOf133
 v32:=Tryz.zeroValue133
 t35:=Tryz.underlying328
 a35:=Tryz.isAgg328
 z35:=Tryz.sizeOf328
 v35:=Tryz.zeroValue328
 t36:=Tryz.underlying329
 a36:=Tryz.isAgg329
 z36:=Tryz.sizeOf329
 v36:=Tryz.zeroValue329
 t41:=Tryz.underlying307
 a41:=Tryz.isAgg307
 z41:=Tryz.sizeOf307
 v41:=Tryz.zeroValue307
 t44:=Tryz.underlying113
 a44:=Tryz.isAgg113
 z44:=Tryz.sizeOf113
 v44:=Tryz.zeroValue113
 t46:=Tryz.underlying112
 a46:=Tryz.isAgg112
 z46:=Tryz.sizeOf112
 v46:=Tryz.zeroValue112
 t53:=Tryz.underlying352
 a53:=Tryz.isAgg352
 z53:=Tryz.sizeOf352
 v53:=Tryz.zeroValue352
 t57:=Tryz.underlying283
 a57:=Tryz.isAgg283
 z57:=Tryz.sizeOf283
 v57:=Tryz.zeroValue283
 t63:=Tryz.underlying373
 a63:=Tryz.isAgg373
 z63:=Tryz.sizeOf373
 v63:=Tryz.zeroValue373
 t64:=Tryz.underlying26
 a64:=Tryz.isAgg26
 z64:=Tryz.sizeOf26
 v64:=Tryz.zeroValue26 }
end Go.Proofs
namespace Go.Proofs.YtbhjgfibhegddaaGreat
open Tryz
section
open Go Go.RowKit Go.Maps Go.Sort Go.Shelf Go.WideShapes
theorem T8 {P:Prop} (h:P:=by have:=aI List.length hm;simpa using this):P:=h
abbrev xO:Value→Option (DataW Unit × List MemPlace):=fun _=>some (.nil,[])
theorem ai1 {w:World} {bm:Nat} {m:List (Int × Value)} (hM:cM qX w bm m) (hk:∀p ∈ m,(Lit.int .i64 p.1).wf=true) (hs:m.length≤5000) :
 ∃D0:DataW Unit,w.ownsMap prog 3 xO bm m.length D0∧(intKeys D0).Perm (m.map (·.1))∧Maps.size D0=m.length:=by
 obtain⟨es,clock,hb,hst,hm⟩:=hM;have hlen:es.toList.length=m.length:=T8
 have hrd:∀x ∈ es.toList,∃a:Int,x.key=qX a∧Go.WideElems.rd prog 3 xO x=some (Lit.int .i64 a,.nil):=by
  intro x hx;obtain⟨j,hj⟩:=CU hx;obtain⟨p,hp,h1,h2⟩:=I_ hm j x hj;refine⟨p.1,h1,?_⟩;have VZ:keyOf prog 3 x.key=some (Lit.int .i64 p.1):=by rw[h1];exact keyOf_int_mk underlying3 (hk p (qO hp))
  unfold Go.WideElems.rd;rw[VZ];rfl
 refine⟨_,⟨es,clock,hb,⟨by unfold maxLen;simp at hlen;omega,hst,fun x hx=>?_⟩,by simp at hlen;omega,rfl⟩,?_,?_⟩
 ·obtain⟨a,-,h⟩:=hrd x hx
  exact⟨_,h⟩
 ·show List.Perm (((es.toList.map (Go.WideElems.rg prog 3 xO)).foldr DataW.insert []).map fun p=>Go.intOf p.1) _
  refine((sorted_perm _).map _).trans ?_;rw[sS];have e1:es.toList.map ((fun p:Lit × DataW Unit=>Go.intOf p.1) ∘ Go.WideElems.rg prog 3 xO)=es.toList.map ((fun v:Value=>match v with | .int _ a=>a | _=>0) ∘ fun e:MapEntry=>e.key):=by
   refine agc fun x hx=>?_
   obtain⟨a,h1,h2⟩:=hrd x hx;simp only[Function.comp,Go.WideElems.rg_of h2,h1,Go.intOf]
  rw[e1,← sS,FI hm,sS];have e2:m.map ((fun v:Value=>match v with | .int _ a=>a | _=>0) ∘ fun p:Int × Value=>qX p.1)=m.map (·.1):=rfl;rw[e2]
 ·show ((es.toList.map (Go.WideElems.rg prog 3 xO)).foldr DataW.insert []).length=m.length
  rw[(sorted_perm _).length_eq,bz,hlen]
theorem amP (m:Nat):AnyZI.SortsIn prog sortedA_ren Fence.wide m :=
 ⟨fun blk off cap ss W hH hblk hsz=>Fj.2 (AnyM.slices_Sort_int sortA blk off cap ss W hH hblk hsz),
  fun p cap W=>Fj.2 (AnyM.slices_Sort_int_none sortA p cap W)⟩
theorem amQ (mb:Option Nat) (W:World):ς 87 #[.map mb] W fun e w'=>e=ώ (.func (.func 147) #[] #[.pointer (some ⟨W.heap.size,0,none⟩)])∧w'=W.alloc (.cells #[.map mb] 149) :=
 (Fj (n:=5)).1 (AnyZI.keys_in keysA Fence.wide 5 trivial rfl mb W)
theorem akv {w:World} {b:Nat} {m:List (Int × Value)} (hM:cM qX w b m) (hk:∀p ∈ m,(Lit.int .i64 p.1).wf=true) (hs:m.length≤5000) :
 ς 86 #[.func (.func 147) #[] #[.pointer (some ⟨w.heap.size,0,none⟩)]] (w.alloc (.cells #[.map (some b)] 149)) fun e w'=>∃v,e=ώ v ∧
  w'.ownsRow (w.heap.size+1) 3 1 v m.length (((m.map (·.1)).mergeSort leI).map encZ)∧υ w w':=by
 obtain⟨D0,hown,Th,hsize⟩:=ai1 hM hk hs;have ef:=hown.lt;have hseq:SeqGives Fence.wide 2 prog 147 #[.pointer (some ⟨w.heap.size,0,none⟩)] encZ (fun ss=>ss.Perm (intKeys D0)) (Maps.size D0) (w.alloc (.cells #[.map (some b)] 149)) :=
  AnyZI.keys_gives (ρ := keysA_ren) { keysA with } Fence.wide _ trivial rfl oM w.heap.size b m.length D0 _ sM sM (by
   obtain⟨es,clock,hb,Ft,hs,hD⟩:=hown;exact⟨es,clock,(rS _ _ b ef).trans hb,Ft,hs,hD⟩)
 have cS:=AnyZI.sorted_in sortedA Fence.wide 5 trivial trivial trivial trivial rfl oM (amP _) (enters_of func146 kR rfl) 147 #[.pointer (some ⟨w.heap.size,0,none⟩)] trivial (enters_of func147 kR rfl) _ _ (by rw[hsize];unfold maxLen;omega) (by rw[hsize];omega) _ hseq;refine((Fj (n:=5)).1 cS).mono ?_;rintro e w' ⟨v,ss,rfl,hS,hrow,-,hb⟩;have hp:=hS.trans Th;have hl:ss.length=m.length:=by have:=hp.length_eq;simpa using this
 rw[mergeSort_of_perm_i hp,hl] at hrow;refine⟨v,rfl,?_,((ζ.refl _ w).alloc _).then (ζ.pM hb (fun _=>False)) φ⟩;have e1:(w.alloc (.cells #[.map (some b)] 149)).heap.size=w.heap.size+1:=gZ
 rw[e1] at hrow;exact hrow
end
section
open Go Go.RowKit
namespace Dk
def busy (d:Dk):List Nat:=(List.range d.ψ.length).filter fun i => !(d.at_ i).isEmpty
def choice (l:List ByteArray) (keep:List Int) (k:Nat):Nat:=if k<keep.length then (keep.getD k 0 % ((l.length:Int)+1)).toNat else 0
def ox (d:Dk) (keep:List Int) (k i:Nat):ByteArray:=if 0<choice (d.at_ i) keep k then (d.at_ i).getD (choice (d.at_ i) keep k - 1) ByteArray.empty else d.last i
def part (d:Dk) (keep:List Int) (j:Nat):Dk :=
 { d with ψ:=(List.range d.ψ.length).map fun i=>if i ∈ d.busy.take j then d.ox keep (d.busy.idxOf i) i else d.last i,waits:=(List.range d.waits.length).map fun i=>if i ∈ d.busy.take j then [] else d.at_ i }
def eT (d:Dk) (keep:List Int):Dk := { d.part keep d.busy.length with off:=false,bP:=-1 }
theorem Zc (d:Dk):d.busy.Nodup:=List.nodup_range.filter _
theorem FE {d:Dk} {i:Nat} : i ∈ d.busy↔i<d.ψ.length∧d.at_ i≠[]:=by
 unfold busy;rw[List.mem_filter,List.mem_range];simp
theorem FM (d:Dk) (keep:List Int) (j i:Nat):(d.part keep j).at_ i=if i ∈ d.busy.take j then [] else d.at_ i:=by
 show ((List.range d.waits.length).map _).getD i []=_;rw[List.getD_eq_getElem?_getD,List.getElem?_map];by_cases hi:i<d.waits.length
 ·rw[List.getElem?_range hi];rfl
 ·rw[List.getElem?_eq_none tA]
  have:d.at_ i=[]:=by unfold at_;rw[List.getD_eq_getElem?_getD,List.getElem?_eq_none oM];rfl
  rw[this];split<;>rfl
theorem zj (d:Dk) (keep:List Int) (j:Nat):(d.part keep j).ψ.length=d.ψ.length:=by simp[part]
theorem og (d:Dk) (keep:List Int) (j i:Nat) (hi:i<d.ψ.length):(d.part keep j).ψ[i]? = some (if i ∈ d.busy.take j then d.ox keep (d.busy.idxOf i) i else d.last i):=by
 show ((List.range d.ψ.length).map _)[i]? = _;rw[List.getElem?_map,List.getElem?_range hi];rfl
theorem ZG (d:Dk) (keep:List Int):d.part keep 0=d:=by
 have h1:((List.range d.ψ.length).map fun i=>if i ∈ d.busy.take 0 then d.ox keep (d.busy.idxOf i) i else d.last i)=d.ψ:=by
  apply List.ext_getElem?
  intro i;rw[List.getElem?_map];by_cases hi:i<d.ψ.length
  ·rw[List.getElem?_range hi,List.getElem?_eq_getElem hi]
   simp[last,hi]
  ·rw[List.getElem?_eq_none tA,List.getElem?_eq_none oM]
   rfl
 have h2:((List.range d.waits.length).map fun i=>if i ∈ d.busy.take 0 then [] else d.at_ i)=d.waits:=by
  apply List.ext_getElem?
  intro i;rw[List.getElem?_map];by_cases hi:i<d.waits.length
  ·rw[List.getElem?_range hi,List.getElem?_eq_getElem hi]
   simp[at_,hi]
  ·rw[List.getElem?_eq_none tA,List.getElem?_eq_none oM]
   rfl
 unfold part;rw[h1,h2]
theorem Mz (d:Dk) (j i:Nat) (hj:j<d.busy.length):i ∈ d.busy.take (j+1)↔i ∈ d.busy.take j∨i=d.busy[j]:=by
 rw[List.take_succ_eq_append_getElem hj,List.mem_append,List.mem_singleton]
theorem Se (d:Dk) (j:Nat) (hj:j<d.busy.length):d.busy.idxOf d.busy[j]=j:=d.Zc.idxOf_getElem j hj
theorem agA (d:Dk) (j:Nat) (hj:j<d.busy.length):d.busy[j] ∉ d.busy.take j:=by
 intro h;obtain⟨k,hk,e⟩:=List.mem_iff_getElem.1 h;rw[List.getElem_take] at e;have hk2:k<j:=by rw[List.length_take] at hk;omega
 have h1:=Se d k oM;have h2:=Se d j hj;rw[e,h2] at h1;omega
theorem ai2 (d:Dk) (keep:List Int) (j:Nat) (hj:j<d.busy.length):(d.part keep (j+1)).ψ=(d.part keep j).ψ.set d.busy[j] (d.ox keep j d.busy[j]):=by
 apply List.ext_getElem?
 intro i;have hb:=(FE.1 (List.getElem_mem hj)).1;by_cases hi:i<d.ψ.length
 ·rw[og _ _ _ _ hi,List.getElem?_set,zj]
  by_cases e:d.busy[j]=i
  ·subst e
   rw[if_pos rfl,if_pos hi,if_pos ((Mz d j _ hj).2 (.inr rfl)),Se d j hj]
  ·rw[if_neg e,og _ _ _ _ hi]
   have:(i ∈ d.busy.take (j+1))↔(i ∈ d.busy.take j):=by
    rw[Mz d j i hj];exact⟨fun h=>h.elim id (fun h=>absurd h.symm e),.inl⟩
   simp only[this]
 ·rw[List.getElem?_eq_none (by rw[zj];omega),List.getElem?_eq_none (by rw[List.length_set,zj];omega)]
theorem MV {d:Dk} (hl:d.waits.length=d.ψ.length) (keep:List Int) (i:Nat):(d.eT keep).at_ i=[]:=by
 show (d.part keep d.busy.length).at_ i=[];rw[FM,List.take_length];split
 ·rfl
 ·rename_i h
  rw[FE] at h;by_cases hi:i<d.ψ.length
  ·apply Classical.byContradiction
   intro hc;exact h ⟨hi,hc⟩
  ·unfold at_
   rw[List.getD_eq_getElem?_getD,List.getElem?_eq_none oM];rfl
theorem ai3 {d:Dk} (h:d.wf) (keep:List Int) (k i:Nat) (hi:i<d.ψ.length):(d.ox keep k i).size=64:=by
 unfold ox;split
 ·rename_i hc
  have hlt:choice (d.at_ i) keep k - 1<(d.at_ i).length:=by
   unfold choice at hc ⊢;split at hc
   ·rename_i hk
    rw[if_pos hk];have h1:=Int.emod_lt_of_pos (keep.getD k 0) (show (0:Int)<((d.at_ i).length:Int)+1 by omega);have h2:=Int.emod_nonneg (keep.getD k 0) (show ((d.at_ i).length:Int)+1≠0 by omega);omega
   ·omega
  rw[List.getD_eq_getElem?_getD,List.getElem?_eq_getElem hlt];have hm:(d.at_ i)[choice (d.at_ i) keep k - 1] ∈ d.at_ i:=List.getElem_mem hlt;have hmem:d.at_ i ∈ d.waits:=by
   unfold at_;rw[List.getD_eq_getElem?_getD,List.getElem?_eq_getElem (by rw[h.len];exact hi)];exact List.getElem_mem _
  exact h.waits _ hmem _ hm
 ·unfold last
  rw[List.getD_eq_getElem?_getD,List.getElem?_eq_getElem hi];exact h.ψ _ (List.getElem_mem _)
theorem Zd {d:Dk} (h:d.wf) (keep:List Int):(d.eT keep).pend=0:=by
 unfold pend;have:∀l ∈ (d.eT keep).waits,l=[]:=by
  intro l hl;obtain⟨i,hi,rfl⟩:=List.mem_iff_getElem.1 hl;have:=MV h.len keep i;unfold at_ at this;rw[List.getD_eq_getElem?_getD,List.getElem?_eq_getElem hi] at this;exact this
 generalize (d.eT keep).waits=L at *;induction L with
 | nil=>rfl
 | cons x L ih=>rw[List.map_cons,List.sum_cons,ih (fun l hl=>this l (by simp[hl])),this x sM];rfl
theorem akw {d:Dk} (h:d.wf) (keep:List Int):(d.eT keep).wf:=by
 have hl:(d.eT keep).ψ.length=d.ψ.length:=zj _ _ _;refine⟨by rw[hl];simp[eT,part,h.len],by rw[hl];exact h.pos,by rw[hl];exact h.most,?_,?_,by simp[eT],by simp[eT],by rw[Zd h];omega⟩
 ·intro b hb
  have hb':b ∈ (d.part keep d.busy.length).ψ:=hb;obtain⟨i,hi,rfl⟩:=List.mem_iff_getElem.1 hb';rw[zj] at hi;have:=og d keep d.busy.length i hi;rw[List.getElem?_eq_getElem (by rw[zj];exact hi)] at this;rw[Option.some.inj this];split
  ·exact ai3 h keep _ i hi
  ·unfold last
   rw[List.getD_eq_getElem?_getD,List.getElem?_eq_getElem hi];exact h.ψ _ (List.getElem_mem _)
 ·intro l hl b hb
  obtain⟨i,hi,rfl⟩:=List.mem_iff_getElem.1 hl;have:=MV h.len keep i;unfold at_ at this;rw[List.getD_eq_getElem?_getD,List.getElem?_eq_getElem hi] at this;have e:(d.eT keep).waits[i]=[]:=this;rw[e] at hb;simp at hb
end Dk
def pS (m:List (Int × Value)) (K:List Nat) (j:Nat):List (Int × Value):=m.filter fun q=>decide (q.1 ∉ (K.take j).map (Nat.cast:Nat→Int))
theorem Ze (m:List (Int × Value)) (K:List Nat):pS m K 0=m:=by
 unfold pS;rw[List.filter_eq_self];simp
theorem Rq (m:List (Int × Value)) (K:List Nat) (j:Nat) (hj:j<K.length):oA (pS m K j) (K[j]:Int)=pS m K (j+1):=by
 unfold pS oA;rw[List.filter_filter];refine List.filter_congr fun q _=>?_
 rw[List.take_succ_eq_append_getElem hj];simp only[List.map_append,List.map_cons,List.map_nil,List.mem_append,List.mem_singleton,not_or,Bool.decide_and];rw[Bool.and_comm]
theorem ahg {w:World} {d:Dk} {m:List (Int × Value)} (h4:sY w m d.waits) (hl:d.waits.length=d.ψ.length) (hn:(m.map (·.1)).Nodup) :
 (m.map (·.1)).mergeSort leI=d.busy.map (Nat.cast:Nat→Int):=by
 have hb:(d.busy.map (Nat.cast:Nat→Int)).Nodup:=by
  rw[List.Nodup,List.pairwise_map];exact List.Pairwise.imp (fun h e=>h (Int.ofNat.inj e)) d.Zc
 have hp:(m.map (·.1)).Perm (d.busy.map (Nat.cast:Nat→Int)):=by
  refine(List.perm_ext_iff_of_nodup hn hb).2 fun x=>?_
  rw[List.mem_map];constructor
  ·rintro⟨q,hq,rfl⟩
   obtain⟨i,e,hi,h0,-⟩:=h4.each q hq;exact List.mem_map.2 ⟨i,Dk.FE.2 ⟨oM,h0⟩,by rw[e]⟩
  ·intro hx
   obtain⟨i,hi,rfl⟩:=List.mem_map.1 hx;obtain⟨-,h0⟩:=Dk.FE.1 hi;exact List.mem_map.1 (h4.all i h0)
 have tr:∀a b c:Int,leI a b=true→leI b c=true→leI a c=true:=fun a b c h1 h2=>by simp only[leI,decide_eq_true_eq] at *;omega
 have tot:∀a b:Int,(leI a b || leI b a)=true:=fun a b=>by simp only[leI,Bool.or_eq_true,decide_eq_true_eq];omega
 refine List.Perm.eq_of_pairwise (le:=fun a b=>leI a b=true) (fun a b _ _ h1 h2=>?_) (List.pairwise_mergeSort tr tot _) ?_ ((List.mergeSort_perm _ leI).trans hp)
 ·simp only[leI,decide_eq_true_eq] at h1 h2
  omega
 ·rw[List.pairwise_map]
  have:(List.range d.ψ.length).Pairwise (· < ·):=List.pairwise_lt_range;refine(this.filter _).imp fun h=>?_
  simp only[leI,decide_eq_true_eq];exact Int.ofNat_le.2 (Nat.le_of_lt h)
end
end Go.Proofs.YtbhjgfibhegddaaGreat
