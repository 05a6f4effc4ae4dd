/-
  Parts of the proof of VaultFalls: VaultL, VaultN, PathB, IterS, OmapA, OmapB.
-/
import Derived.Test.YtbhjgfibhegddaaGreatQVaultFalls13
import Derived.Ground.GgzProg
import Derived.Ground.SlmcProg
import Derived.Shelf.SlIter.Nil
import Derived.Shelf.SlMaps.Clone
import Derived.StringKeys
import Derived.Test.YtbhjgfibhegddaaGreatProg
set_option maxRecDepth 100000
set_option maxHeartbeats 16000000
namespace Go.Proofs.YtbhjgfibhegddaaGreat
abbrev QV:=@Nat.mul_le_mul_left
abbrev age:=@List.any_append
abbrev agf:=@List.any_eq_true
abbrev agd:=@List.pairwise_map
open Tryz
section
open Go Go.RowKit
theorem yj {P:Prop} (h:P:=by unfold dN;omega):P:=h
def gY (top:Nat) (about text t:List UInt8):Prop :=
 ∃key κ n,key≤top∧key≤1048576∧κ<4294967296∧n<18446744073709551616∧t=r_ (kP jo key) key κ n about text
theorem gY.mono {a b:Nat} {about text t:List UInt8} (h:gY a about text t) (hab:a≤b):gY b about text t:=by
 obtain⟨key,κ,n,h1,h2⟩:=h;exact⟨key,κ,n,oM,h2⟩
theorem gY.len {a:Nat} {about text t:List UInt8} (h:gY a about text t) (ht:text.length≤8192):t.length≤text.length+52∧1≤t.length:=by
 obtain⟨key,κ,n,h1,h2,h3,h4,rfl⟩:=h;refine⟨RG h2 h3 h4 ht,?_⟩;unfold r_;rw[aN,aN];unfold td;rw[vo];omega
def ja:List bQ→List ai × Int × Int→Option (List ai × Int × Int)
 | [],x=>some x
 | b::r,x=>if d_ b.index b.θ b.ops=0∧b.index=x.2.1+1∧x.2.2≤b.θ∧(cH x.1 b.ops).length≤48 then ja r (cH x.1 b.ops,b.index,b.θ) else none
theorem ahX (l:List bQ) (b:bQ) (x:List ai × Int × Int):ja (l++[b]) x=(ja l x).bind (ja [b]):=by
 induction l generalizing x with
 | nil=>rfl
 | cons a r ih =>
   rw[pI];unfold ja;split
   ·exact ih _
   ·rfl
theorem ajc {b:bQ} {x:List ai × Int × Int} (h1:d_ b.index b.θ b.ops=0) (h2:b.index=x.2.1+1) (h3:x.2.2≤b.θ) (h4:(cH x.1 b.ops).length≤48):ja [b] x=some (cH x.1 b.ops,b.index,b.θ):=by
 unfold ja;rw[π ⟨h1,h2,h3,h4⟩];rfl
structure nx (S:List ai):Prop where
 xX:gx S
 len:S.length≤48
 each:∀p ∈ S,jF p.1=true∧p.2.length≤32
theorem nx.nil:nx []:=⟨List.Pairwise.nil,sM,sM⟩
theorem akG {l:List dn} (hl:∀o ∈ l,jr o=0) {S:List ai} (h1:gx S) (h2:∀p ∈ S,jF p.1=true∧p.2.length≤32):gx (cH S l)∧∀p ∈ cH S l,jF p.1=true∧p.2.length≤32:=by
 induction l generalizing S with
 | nil=>exact⟨h1,h2⟩
 | cons o r ih =>
   obtain⟨-,e1,-,e2,-⟩:=C6 (hl o sM);have e:cH S (o::r)=cH (if o.kind=2 then rB o.path S else jJ o.path o.value S) r:=rfl;rw[e];refine ih (fun q hq=>hl q z_) ?_ ?_
   ·split
    ·exact Rl h1
    ·exact C9 h1
   ·intro p hp
    split at hp
    ·exact h2 p (AR.1 hp).1
    ·rcases (Bd h1 p).1 hp with rfl | ⟨a,-⟩
     ·exact⟨e1,e2⟩
     ·exact h2 p a
theorem abO {S:List ai} {i e:Int} {l:List dn} (h:nx S) (hl:d_ i e l=0) (h48:(cH S l).length≤48):nx (cH S l):=by
 obtain⟨a,b⟩:=akG (ue hl).2.2.2.2 h.xX h.each;exact⟨a,h48,b⟩
theorem akH {l:List bQ} {x y:List ai × Int × Int} (hx:nx x.1) (h:ja l x=some y):nx y.1:=by
 induction l generalizing x with
 | nil=>exact dM h ▸ hx
 | cons b r ih =>
   unfold ja at h;split at h
   ·rename_i hc
    exact ih (abO hx hc.1 hc.2.2.2) h
   ·simp at h
theorem ahY {l:List bQ} {x y:List ai × Int × Int} (h:ja l x=some y):∀b ∈ l,d_ b.index b.θ b.ops=0:=by
 induction l generalizing x with
 | nil=>simp
 | cons b r ih =>
   unfold ja at h;split at h
   ·rename_i hc
    intro q hq;rcases cC.1 hq with rfl | hq
    ·exact hc.1
    ·exact ih h q hq
   ·simp at h
structure om (a e:Int):Prop where
 V7:0≤a
 V8:a≤4611686018427387904
 ep0:0≤e
 P6:e≤9223372036854775807
theorem ahi {l:List bQ} {x y:List ai × Int × Int} (hx:om x.2.1 x.2.2) (hl:∀b ∈ l,b.θ≤9223372036854775807) (h:ja l x=some y):om y.2.1 y.2.2:=by
 induction l generalizing x with
 | nil=>exact dM h ▸ hx
 | cons b r ih =>
   unfold ja at h;split at h
   ·rename_i hc
    obtain⟨b1,b2,b3,-⟩:=ue hc.1;exact ih ⟨by show (0:Int)≤b.index;omega,b2,by show (0:Int)≤b.θ;omega,hl b sM⟩ (fun q hq=>hl q z_) h
   ·simp at h
theorem akI {k v:List UInt8} {A:List ai} (h:∀p ∈ A,p.1<k):jJ k v A=A++[(k,v)]:=by
 induction A with
 | nil=>rfl
 | cons q r ih =>
   unfold jJ;rw[π (h q sM),ih fun p hp=>h p (by simp[hp])];rfl
theorem akJ (B:List ai):∀A:List ai,gx (A++B)→(∀p ∈ B,jF p.1=true∧p.2.length≤32)→lI A B=(A++B,0):=by
 induction B with
 | nil=>intro A _ _;simp[lI]
 | cons p r ih =>
   intro A hr hb;have h1:∀q ∈ A,q.1<p.1:=fun q hq=>(List.pairwise_append.1 hr).2.2 q hq p sM
   obtain⟨p1,p2⟩:=hb p sM;unfold lI;rw[ν (by rw[p1];simp;omega),RN fun q hq=>Bu (h1 q hq),ν sM,akI h1];have:=ih (A++[(p.1,p.2)]) (by rw[eC];exact hr) fun q hq=>hb q z_
   rw[this,eC];rfl
theorem akK {S:List ai} (h:nx S):fM S=(S,0):=by
 unfold fM;rw[ν (oN h.len)];exact akJ S [] h.xX h.each
theorem amT (B:List ai):∀A:List ai,gx A→(∀p ∈ A,jF p.1=true∧p.2.length≤32)→(lI A B).2=0→gx (lI A B).1∧(∀p ∈ (lI A B).1,jF p.1=true∧p.2.length≤32)∧(lI A B).1.length≤A.length+B.length:=by
 induction B with
 | nil=>intro A h1 h2 _;exact⟨h1,h2,by simp[lI]⟩
 | cons p r ih =>
   intro A h1 h2 h;unfold lI at h ⊢;split at h
   ·simp at h
   ·rename_i hp
    rw[ν hp];split at h
    ·simp at h
    ·rename_i hq
     rw[ν hq];obtain⟨a,b,c⟩:=ih (jJ p.1 p.2 A) (C9 h1) (fun x hx=>by
      rcases (Bd h1 x).1 hx with rfl | ⟨y,-⟩
      ·exact⟨by simpa using fun e=>hp (.inl e),by simp only;omega⟩
      ·exact h2 x y) h
     refine⟨a,b,?_⟩;have:=Sc p.1 p.2 A;rw[eZ];omega
theorem SY {l:List ai} (h:(fM l).2=0):nx (fM l).1:=by
 unfold fM at h ⊢;split at h
 ·simp at h
 ·rename_i hl
  rw[ν hl];obtain⟨a,b,c⟩:=amT l [] List.Pairwise.nil sM h;exact⟨a,by simp at c;omega,b⟩
theorem rX {S:List ai} (h:nx S):(gL S).length≤3400:=by
 have h1:=Rx (l:=S) (a:=33) (b:=32) oM oM fun p hp=>⟨Fp (h.each p hp).1,(h.each p hp).2⟩
 have h2:=lP (n:=S.length) (oN h.len);have h3:=h.len;unfold gL;rw[aN,iY];have:(33+32+4)*S.length≤69*48:=QV _ h3;omega
theorem Je {b:bQ} (h:d_ b.index b.θ b.ops=0) (he:b.θ≤9223372036854775807):(ir b).length≤310:=by
 obtain⟨h1,h2,h3,h4,h5⟩:=ue h;exact ajH oM oM h4 h5
section
variable {d D:Dk} {k:Kp} {g:Lg} {L0 L1:List (Option Pt)} {rs:List (List UInt8 × Nat)} {R:List (Option Lp)}
structure Good (d:Dk):Prop where
 bP:d.bP=-1
 off:d.off=false
 waits:d.waits.length=d.ψ.length
 len:d.ψ.length=500
 pend:d.pend=0
theorem ij.b9 (h:ij d k L0 L1) (hf:D.bP=-1) (ho:D.off=false) (hw:D.waits.length=D.ψ.length) (hl:D.ψ.length=d.ψ.length) (hn:∀i,k.from_≤i→i<k.from_+20→D.now i=d.now i):ij D k L0 L1:=by
 have h2:=h.room;exact⟨hf,ho,hw,by rw[hl];exact h2,MX h.s0 fun i hi=>hn _ oM oM,MX h.s1 fun i hi=>hn _ oM oM,h.is⟩
theorem kS.b9 (h:kS d g rs R) (hf:D.bP=-1) (ho:D.off=false) (hw:D.waits.length=D.ψ.length) (hl:D.ψ.length=d.ψ.length) (hn:∀i,g.from_≤i→i<g.from_+g.dS→D.now i=d.now i):kS D g rs R:=by
 have h1:=h.len;exact { h with bP:=hf,off:=ho,waits:=hw,room:=by rw[hl];exact h.room,cells:=⟨fun i hi=>by rw[hn _ oM (by rw[aN,bz] at hi;omega)];exact h.cells.cell i hi,h.cells.ok⟩ }
theorem ij.aek (h:ij d k L0 L1) (t:List UInt8) (ht:t.length≤400) (hs:k.seen+1<18446744073709551616) :
 ∃D oJ oK,dG d k t=(D,k.put t,0)∧ij D (k.put t) oJ oK∧D.ψ.length=d.ψ.length∧D.pend=0∧∀i,i<d.ψ.length→(i<k.from_∨k.from_+20≤i)→D.now i=d.now i:=by
 have e64:(2:Nat) ^ (8*8)=18446744073709551616:=dC;have hat:=h.at_;have hroom:=h.room;have hall:aM t.length≤9:=zJ
 have hok:=Su t (k.seen+1) oM oM ht;have cv:=od t (k.seen+1);have hml:((aU t (k.seen+1)).map Pt.sec).length=aM t.length:=by rw[bz,cv]
 have hsz:∀q ∈ (aU t (k.seen+1)).map Pt.sec,q.size=64:=by
  intro q hq;obtain⟨p,hp,rfl⟩:=cu.1 hq;exact aat p (hok p hp)
 obtain⟨A,hA⟩:=μ (k.from_+(1 - k.at_)*10);have hAl:A+aM t.length≤d.ψ.length:=oM;obtain⟨f1,f2,f3,f4⟩:=Fo h.bP h.off h.waits A _ hsz (aM t.length) oM hAl;have EA:=ug d A ((aU t (k.seen+1)).map Pt.sec) h.waits (aM t.length);have hput:dG d k t=((bV d A ((aU t (k.seen+1)).map Pt.sec) (aM t.length)).1.flush,k.put t,0):=by
  unfold dG;rw[h.broken,ν sM,ν oM,ν oM,hA,aaD _ _ _ _ oM,ν (by rw[f1];simp),Dk.MU f2 f3,ν sM]
  rfl
 generalize hV:(bV d A ((aU t (k.seen+1)).map Pt.sec) (aM t.length)).1=V at *;have kV:V.flush.ψ.length=d.ψ.length:=by
  show ((List.range _).map _).length=_;rw[bz,vj,EA.1]
 have V9:V.flush.waits.length=d.ψ.length:=by
  show (List.map _ _).length=_;rw[bz,EA.2.1];exact h.waits
 have nF:∀i,i<d.ψ.length→V.flush.now i=if A≤i∧i<A+aM t.length then ((aU t (k.seen+1)).map Pt.sec).getD (i - A) ByteArray.empty else d.now i:=by
  intro i hi;rw[Dk.RO _ _ (by rw[EA.1];exact hi),f4]
 obtain⟨k',oJ,oK,m1,m2,m3,m4,m5⟩:=h.mix (d2:=V.flush) t ht hs f2 f3 (by rw[V9,kV]) kV (fun i hi=>by
  rw[hA,nF i hi];by_cases c:A≤i∧i<A+aM t.length
  ·rw[π c];exact .inr ⟨c.1,c.2,rfl⟩
  ·rw[ν c];exact .inl rfl)
 have hk':=m5 (fun i hi=>by rw[hA,nF _ oM,π oM,rU]);subst hk';exact⟨V.flush,oJ,oK,hput,m1,kV,Dk.I0 _,fun i hi ho=>by rw[nF i hi,ν oM]⟩
end
theorem Be {t:List UInt8} (h:t.length≤4400):bS t≤80:=by unfold bS;omega
theorem Rs (t:List UInt8) (i:Nat):(kz t i).length≤56:=by unfold kz;rw[iW];omega
theorem II (t:List UInt8) (i:Nat):(oh t i).length=60:=by
 have:=Rs t i;unfold oh;simp only[eZ,aN,jE];omega
theorem Yw (t:List UInt8):(jm t).length=bS t:=by unfold jm;rw[bz,vj]
theorem MC (t:List UInt8) (i:Nat) (h:i<bS t):(jm t).getD i ByteArray.empty=str (gW (oh t i)):=by
 unfold jm;rw[bN,lf,A6 h];rfl
theorem ZH (t : List UInt8) (i : Nat) (h1 : 1 ≤ bS t) (h2:bS t≤80):cK (str (gW (oh t i))).data.toList=(oh t i,1):=by
 rw[cA]
 refine Q7 _ (II t i) (fun e => ?_) (by have:=Np (oh t i);have e2:(2:Nat) ^ (8*4)=4294967296:=dC
                                        omega)
 have h:=aI (fun l:List UInt8=>l.getD 1 0) e;have h3:UInt8.ofNat (bS t)=0:=h;have h4:=aI UInt8.toNat h3;simp at h4
 omega
theorem Q3 (t:List UInt8):∀q ∈ jm t,q.size=64:=by
 intro q hq;obtain⟨i,-,rfl⟩:=cu.1 hq;rw[bR,gW,aN,II,pN]
def zo (d:Dk) (slot:Nat) (t:List UInt8):Prop:=∀i,i<bS t→d.now (dN slot+i)=str (gW (oh t i))
theorem agH {d:Dk} (h:Good d) (slot:Nat) (t:List UInt8) (hs:1≤slot∧slot≤2) (ht:bS t≤80) :
 ∃D,gw d slot t=(D,0)∧Good D∧zo D slot t∧∀i,i<500→(i<dN slot∨dN slot+bS t≤i)→D.now i=d.now i:=by
 have hl:=h.len;have hp:dN slot+80≤500:=yj
 have dJ:=Yw t;obtain⟨f1,f2,f3,f4⟩:=Fo h.bP h.off h.waits (dN slot) (jm t) (Q3 t) (bS t) oM oM;have EA:=ug d (dN slot) (jm t) h.waits (bS t);have hw:gw d slot t=((bV d (dN slot) (jm t) (bS t)).1.flush,0):=by
  unfold gw;rw[ν oM,ν (by rw[f1];simp),Dk.MU f2 f3]
 generalize (bV d (dN slot) (jm t) (bS t)).1=V at *;have kV:V.flush.ψ.length=d.ψ.length:=by
  show ((List.range _).map _).length=_;rw[bz,vj,EA.1]
 have V9:V.flush.waits.length=d.ψ.length:=by
  show (List.map _ _).length=_;rw[bz,EA.2.1];exact h.waits
 have nF:∀i,i<d.ψ.length→V.flush.now i=if dN slot≤i∧i<dN slot+bS t then (jm t).getD (i - dN slot) ByteArray.empty else d.now i:=by
  intro i hi;rw[Dk.RO _ _ (by rw[EA.1];exact hi),f4]
 refine⟨_,hw,⟨f2,f3,by rw[V9,kV],by rw[kV,hl],Dk.I0 _⟩,fun i hi=>?_,fun i hi ho=>?_⟩
 ·rw[nF _ oM,π oM,rU,MC t i hi]
 ·rw[nF i oM,ν oM]
def Sy (b:ByteArray):Prop:=b=pO∨∃t j,1≤bS t∧bS t≤80∧j<bS t∧b=str (gW (oh t j))
theorem Sy.look {b:ByteArray} (h:Sy b):(cK b.data.toList).2≠2:=by
 rcases h with rfl | ⟨t,j,h1,h2,-,rfl⟩
 ·decide +kernel
 ·rw[ZH t j h1 h2]
  simp
def NP:MetaM:=⟨0,0,0,[],[]⟩
def jL:dw:=⟨NP,0,0,0,1,0,0⟩
structure eP (d:Dk) (k:Kp) (g:Lg) (s:dw) (S0:List ai) (rows:List bQ) (c:Nat):Prop where
 good:Good d
 kept:∃L0 L1,ij d k L0 L1
 tq:k.from_=0
 vD:k.seen≤c
 text:(k.gen=0∧s=jL)∨(0<k.gen∧∃t,gY s.key er s.m.aW t∧k.text=cG s t)
 right:dF s.m=true
 place:om s.at_ s.θ
 slots:s.slot≤2
 log:∃rs R,kS d g rs R∧∀p,some p ∈ (rowOf g.θ 0 rs).map some++R→p.θ≤s.log
 um:g.from_=20∧g.dS=320∧g.θ=s.log
 Dt:g.af≤c
 N2:g.used≤12*rows.length
 yl:g.l.length=rows.length
 recs:∀i (h:i<g.l.length) (h2:i<rows.length),gY s.key jZ (ir rows[i]) (g.l[i]).data.toList
 many:rows.length≤24
 slot:(s.slot=0∧S0=[]∧s.at_=0∧s.θ=0)∨(1≤s.slot∧∃t,gY s.key kD (gL S0) t∧zo d s.slot t)
 pairs:nx S0
 sound:∀i,i<160→Sy (d.now (340+i))
 rD:s.log≤c+1
 keys:s.key≤c
 qu:s.κ≤c
theorem aa' {s:dw} {t:List UInt8} (h:dF s.m=true) (hp:om s.at_ s.θ) (h4:s.slot≤2) (hl:s.log≤1000000) (hk:s.key≤1000000) (hb:s.κ≤1000000) (hi:s.m.seen≤9223372036854775807∧s.m.aH≤9223372036854775807) (ht:t.length≤120):(cG s t).length≤400:=by
 unfold dF at h;simp only[gV,IA,eD] at h;obtain⟨hm,h5,h6,h7,h8,h9⟩:=h;obtain⟨p1,p2,p3,p4⟩:=hp;have hml:s.m.aZ.length≤4∧∀m ∈ s.m.aZ,m.name.length≤8:=by
  rcases hm with e | e
  ·rw[e];simp
  ·unfold qq at e
   simp only[gV,eD] at e;refine⟨e.2.2,?_⟩;have:∀(l a:List iC),nI a l=true→∀m ∈ l,m.name.length≤8:=by
    intro l;induction l with
    | nil=>simp
    | cons x r ih =>
      intro a ha m hm;unfold nI at ha;simp only[gV] at ha;rcases cC.1 hm with rfl | hm
      ·have:=ha.1.1
       unfold oq at this;simp only[gV,eD] at this;exact this.1.2
      ·exact ih _ ha.2 m hm
   exact this _ _ e.1
 have hmb:(s.m.aZ.flatMap kK).length≤11*s.m.aZ.length:=by
  generalize s.m.aZ=l at hml;have h8:=hml.2;clear hml;induction l with
  | nil=>simp
  | cons x r ih =>
    have:=ih fun m hm=>h8 m (by simp[hm])
    have hx:=h8 x sM;have hs:=lP (n:=x.name.length) oM;have hx2:(kK x).length≤11:=by
     unfold kK;rw[aN,jl];simp only[eZ,AV];omega
    rw[yZ,aN,eZ];omega
 have q1:=dA (n:=1) oM;have q2:=dA (n:=s.m.role.toNat) oM;have q3:=dA (n:=s.m.seen.toNat) oM;have q4:=dA (n:=s.m.aH.toNat) oM;have q5:=dA (n:=s.at_.toNat) oM;have q6:=dA (n:=s.θ.toNat) oM;have q7:=dA (n:=s.slot) oM;have q8:=dA (n:=s.key) oM;have q9:=dA (n:=s.log) oM;have q10:=dA (n:=s.κ) oM;have q11:=dA (n:=s.m.aZ.length) oM;have q12:=lP (n:=t.length) oM;unfold cG;simp only[aN,iY,jl];omega
section
variable {d:Dk} {k:Kp} {g:Lg} {s:dw} {S0:List ai} {rows:List bQ} {c:Nat}
theorem eP.SZ (h:eP d k g s S0 rows c) {D:Dk} {g':Lg} {rs':List (List UInt8 × Nat)} {R':List (Option Lp)} {F7:List bQ} (hl:kS D g' rs' R') (hlen:D.ψ.length=d.ψ.length) (hp:D.pend=0)
 (hg:g'.from_=g.from_∧g'.dS=g.dS∧g'.θ=g.θ) (hs:g'.af≤c+1) (eV:∀p,some p ∈ (rowOf g'.θ 0 rs').map some++R'→p.θ≤s.log) (hu:g'.used≤12*F7.length) (fX:g'.l.length=F7.length)
 (OH:∀i (_:i<g'.l.length) (_:i<F7.length),gY s.key jZ (ir F7[i]) (g'.l[i]).data.toList) (hm:F7.length≤24) (hn:∀i,i<d.ψ.length→(i<20∨340≤i)→D.now i=d.now i):eP D k g' s S0 F7 (c+1):=by
 obtain⟨L0,L1,hk⟩:=h.kept;obtain⟨g1,g2,g3⟩:=h.um;have hgd:=h.good;have anA:=hgd.len;refine⟨⟨hl.bP,hl.off,hl.waits,hlen.trans anA,hp⟩,⟨L0,L1,hk.b9 hl.bP hl.off hl.waits hlen fun i h1 h2=>hn i (oN h.tq) (.inl (oN h.tq))⟩,h.tq,by have:=h.vD;omega,h.text,h.right,h.place,h.slots,⟨_,_,hl,eV⟩,⟨hg.1.trans g1,hg.2.1.trans g2,hg.2.2.trans g3⟩,hs,hu,fX,OH,hm,?_,h.pairs,fun i hi=>?_,by have:=h.rD;omega,by have:=h.keys;omega,by have:=h.qu;omega⟩
 ·rcases h.slot with e | ⟨e1,u,e2,e3⟩
  ·exact .inl e
  ·refine .inr ⟨e1,u,e2,fun i hi=>?_⟩
   have T':=(e2.len (oN (rX h.pairs))).1;have:=rX h.pairs;have hn2:bS u≤80:=Be oM;have h2:=h.slots;rw[hn _ yj (.inr yj)];exact e3 i hi
 ·rw[hn _ oM (.inr oM)]
  exact h.sound i hi
theorem ZI {g g':Lg} {s:dw} {rows:List bQ} {b:bQ} {t:List UInt8} (fX:g.l.length=rows.length) (e:g'.l=g.l++[str t]) (hr:∀i (_:i<g.l.length) (_:i<rows.length),gY s.key jZ (ir rows[i]) (g.l[i]).data.toList) (ht:gY s.key jZ (ir b) t) :
 ∀i (_:i<g'.l.length) (_:i<(rows++[b]).length),gY s.key jZ (ir (rows++[b])[i]) (g'.l[i]).data.toList:=by
 intro i h1 h2;by_cases hi:i<rows.length
 ·have e1:g'.l[i]=g.l[i]'oM:=by simp only[e];rw[A7 oM]
  rw[e1,A7 hi];exact hr i _ hi
 ·have hi2:i=rows.length:=by rw[aN,y_] at h2;omega
  subst hi2;have e1:g'.l[rows.length]=str t:=by simp only[e];rw[A9 oM];simp[fX]
  rw[e1,cA,A9 oM];simpa using ht
theorem eP.add (h:eP d k g s S0 rows c) (hc:c<100000) (b:bQ) (hb:d_ b.index b.θ b.ops=0) (he:b.θ≤9223372036854775807) (hr:rows.length<24) {t:List UInt8} (ht:gY s.key jZ (ir b) t) :
 ∃D,jK d g (str t)=(D,g.added (str t),0)∧eP D k (g.added (str t)) s S0 (rows++[b]) (c+1):=by
 obtain⟨rs,R,hl,eV⟩:=h.log;obtain⟨g1,g2,g3⟩:=h.um;have ef:=Je hb he;have htl:=(ht.len oM).1;have hul:=hl.aa7;have hu:=h.N2;have hsz:(str t).size=t.length:=bR t;have Av:partsOf (str t).size≤12:=by rw[hsz];unfold partsOf;omega
 have KW:=h.Dt;obtain⟨q1,q2,q3,q4,q5⟩:=amN hl (str t) oM oM oM;refine⟨_,q1,h.SZ q2 q3 q4 ⟨rfl,rfl,rfl⟩ (by show g.af+1≤c+1;omega) ?_ ?_ ?_ (ZI h.yl rfl h.recs ht) (by rw[aN,y_];omega) fun i hi ho=>q5 i hi oM⟩
 ·intro p hp
  have hrow:rowOf g.θ 0 (rs++[((str t).data.toList,g.af+1)])=rowOf g.θ 0 rs++bZ (str t).data.toList g.θ (g.af+1) g.last:=by
   rw[Rp,← hl.last]
  have Ak:some p ∈ (rowOf g.θ 0 rs++bZ (str t).data.toList g.θ (g.af+1) g.last).map some++R.drop (partsOf (str t).size):=by rw[← hrow];exact hp
  rcases jX.1 Ak with e | e
  ·obtain⟨q,hq,e⟩:=cu.1 e
   injection e with e;subst e;rcases jX.1 hq with e | e
   ·exact eV q (zb _ (cu.2 ⟨q,e,rfl⟩))
   ·obtain⟨i,hi,rfl⟩:=pL.1 e
    have:=(xG _ _ _ _ i hi).1;omega
  ·exact eV p (vk _ (CY e))
 ·show g.used+partsOf (str t).size≤_
  rw[aN,y_];omega
 ·show (g.l++[str t]).length=_
  rw[aN,aN,h.yl];rfl
theorem eP.NQ (h:eP d k g s S0 rows c) (s':dw) (h1:s'.at_=s.at_) (h2:s'.θ=s.θ) (h3:s'.slot=s.slot) (h4:s'.log=s.log) (h5:s.key≤s'.key) (wK:s'.key≤c+1) (h6:s'.κ≤c+1) (h7:dF s'.m=true)
 {D:Dk} {k':Kp} {oJ oK:List (Option Pt)} (ht:(k'.gen=0∧s'=jL)∨(0<k'.gen∧∃t,gY s'.key er s'.m.aW t∧k'.text=cG s' t)) (hf:k'.from_=0) (yN:k'.seen≤c+1) (q2:ij D k' oJ oK) (q3:D.ψ.length=d.ψ.length) (q4:D.pend=0)
 (q5:∀i,i<d.ψ.length→(i<k.from_∨k.from_+20≤i)→D.now i=d.now i):eP D k' g s' S0 rows (c+1):=by
 obtain⟨rs,R,hl,eV⟩:=h.log;obtain⟨g1,g2,g3⟩:=h.um;have hpl:om s'.at_ s'.θ:=by rw[h1,h2];exact h.place
 have hlo:=h.rD;have P7:=h.tq;have hlen:=h.good.len;refine⟨⟨q2.bP,q2.off,q2.waits,q3.trans hlen,q4⟩,⟨oJ,oK,q2⟩,hf,yN,ht,h7,hpl,by rw[h3];exact h.slots,⟨rs,R,hl.b9 q2.bP q2.off q2.waits q3 fun i a b=>q5 i oM (.inr oM),by rw[h4];exact eV⟩,by rw[h4];exact h.um,by have:=h.Dt;omega,h.N2,h.yl,fun i a b=>(h.recs i a b).mono h5,h.many,?_,h.pairs,fun i hi=>?_,oM,wK,h6⟩
 ·rw[h3,h1,h2]
  rcases h.slot with e | ⟨e1,u,e2,e3⟩
  ·exact .inl e
  ·refine .inr ⟨e1,u,e2.mono h5,fun i hi=>?_⟩
   have T':=(e2.len (oN (rX h.pairs))).1;have:=rX h.pairs;have hn:bS u≤80:=Be oM;have h2:=h.slots;rw[q5 _ yj (.inr yj)];exact e3 i hi
 ·rw[q5 _ oM (.inr oM)]
  exact h.sound i hi
theorem Yv {m:MetaM} (h:dF m=true):m.aW.length≤64:=by
 unfold dF at h;simp only[gV,eD] at h;exact h.2.2.2.2.2
theorem eP.aba (h:eP d k g s S0 rows c) (hc:c<100000) (s':dw) (h1:s'.at_=s.at_) (h2:s'.θ=s.θ) (h3:s'.slot=s.slot) (h4:s'.log=s.log) (wK:s'.key≤c+1) (h6:s'.κ≤c+1) (h7:dF s'.m=true)
 (h8:s'.m.seen≤9223372036854775807∧s'.m.aH≤9223372036854775807) {t:List UInt8} (ht:gY s'.key er s'.m.aW t):(cG s' t).length≤400:=by
 have hpl:om s'.at_ s'.θ:=by rw[h1,h2];exact h.place
 have rC:=Yv h7;have htl:=(ht.len oM).1;have hlo:=h.rD;exact aa' (t:=t) h7 hpl (by rw[h3];exact h.slots) oM oM oM h8 oM
theorem eP.put (h:eP d k g s S0 rows c) (hc:c<100000) (s':dw) (h1:s'.at_=s.at_) (h2:s'.θ=s.θ) (h3:s'.slot=s.slot) (h4:s'.log=s.log) (h5:s.key≤s'.key) (wK:s'.key≤c+1) (h6:s'.κ≤c+1) (h7:dF s'.m=true)
 (h8:s'.m.seen≤9223372036854775807∧s'.m.aH≤9223372036854775807) {t:List UInt8} (ht:gY s'.key er s'.m.aW t) :
 ∃D,dG d k (cG s' t)=(D,k.put (cG s' t),0)∧eP D (k.put (cG s' t)) g s' S0 rows (c+1):=by
 obtain⟨L0,L1,hk⟩:=h.kept;have yN:=h.vD;obtain⟨D,oJ,oK,q1,q2,q3,q4,q5⟩:=hk.aek (cG s' t) (h.aba hc s' h1 h2 h3 h4 wK h6 h7 h8 ht) oM;exact⟨D,q1,h.NQ s' h1 h2 h3 h4 h5 wK h6 h7 (.inr ⟨by show 0<k.seen+1;omega,t,ht,rfl⟩) h.tq (by show k.seen+1≤c+1;omega) q2 q3 q4 q5⟩
theorem eP.abb (h:eP d k g s S0 rows c) (t:List UInt8) (h1:1≤bS t) (h2:bS t≤80) {D:Dk} (q2:Good D)
 (q4:∀i,i<500→D.now i=d.now i∨(dN (1+s.slot % 2)≤i∧i<dN (1+s.slot % 2)+bS t∧D.now i=(jm t).getD (i - dN (1+s.slot % 2)) ByteArray.empty)):eP D k g s S0 rows c:=by
 obtain⟨L0,L1,hk⟩:=h.kept;obtain⟨rs,R,hl,eV⟩:=h.log;obtain⟨g1,g2,g3⟩:=h.um;have P7:=h.tq;have hlen:=h.good.len;have cn:=h.slots;have hpl:dN (1+s.slot % 2)=340+(s.slot % 2)*80:=yj
 have q5:∀i,i<500→(i<dN (1+s.slot % 2)∨dN (1+s.slot % 2)+bS t≤i)→D.now i=d.now i:=fun i hi ho=>by
  rcases q4 i hi with e | e
  ·exact e
  ·omega
 refine⟨q2,⟨L0,L1,hk.b9 q2.bP q2.off q2.waits (by rw[q2.len,hlen]) fun i a b=>q5 i oM (.inl oM)⟩,P7,h.vD,h.text,h.right,h.place,h.slots,⟨rs,R,hl.b9 q2.bP q2.off q2.waits (by rw[q2.len,hlen]) fun i a b=>q5 i oM (.inl oM),eV⟩,h.um,h.Dt,h.N2,h.yl,h.recs,h.many,?_,h.pairs,fun i hi=>?_,h.rD,h.keys,h.qu⟩
 ·rcases h.slot with e | ⟨e1,u,e2,e3⟩
  ·exact .inl e
  ·refine .inr ⟨e1,u,e2,fun i hi=>?_⟩
   have T':=(e2.len (oN (rX h.pairs))).1;have:=rX h.pairs;have hn:bS u≤80:=Be oM;rw[q5 _ yj (by rw[hpl];unfold dN;omega)];exact e3 i hi
 ·rcases q4 (340+i) oM with e | ⟨a,b,e⟩
  ·rw[e]
   exact h.sound i hi
  ·rw[e,MC t _ oM]
   exact .inr ⟨t,_,h1,h2,oM,rfl⟩
theorem eP.acu (h:eP d k g s S0 rows c) (t:List UInt8) (h1:1≤bS t) (h2:bS t≤80) :
 ∃D,gw d (1+s.slot % 2) t=(D,0)∧eP D k g s S0 rows c∧zo D (1+s.slot % 2) t:=by
 have cn:=h.slots;obtain⟨D,q1,q2,q3,q4⟩:=agH h.good (1+s.slot % 2) t oM h2;refine⟨D,q1,h.abb t h1 h2 q2 fun i hi=>?_,q3⟩;by_cases hi2:i<dN (1+s.slot % 2)∨dN (1+s.slot % 2)+bS t≤i
 ·exact .inl (q4 i hi hi2)
 ·refine .inr ⟨oM,oM,?_⟩
  have e:i=dN (1+s.slot % 2)+(i - dN (1+s.slot % 2)):=oM;rw[MC t _ oM,← q3 _ oM,← e]
theorem eP.aaE (h:eP d k g s S0 rows c) (hc:c<100000) (m:MetaM) (x:List ai) (a e:Int) (hm:dF m=true) (hx:nx x) (hp:om a e) {u t:List UInt8} (hu:gY s.key kD (gL x) u) (G_:zo d (1+s.slot % 2) u) (ht:gY s.key er m.aW t)
 {D:Dk} {oJ oK:List (Option Pt)} (q2:ij D (k.put (cG (s.whole m a e) t)) oJ oK) (q3:D.ψ.length=d.ψ.length) (q4:D.pend=0) (q5:∀i,i<d.ψ.length→(i<k.from_∨k.from_+20≤i)→D.now i=d.now i) :
 ∃g',nA D 20 320 (s.log+1)=some g'∧eP D (k.put (cG (s.whole m a e) t)) g' (s.whole m a e) x [] (c+1):=by
 obtain⟨rs,R,hl,eV⟩:=h.log;obtain⟨g1,g2,g3⟩:=h.um;have yN:=h.vD;have hlo:=h.rD;have hke:=h.keys;have Cu:=h.qu;have cn:=h.slots;have GK:=h.Dt;have P7:=h.tq;have hlen:=h.good.len;have hl2:=hl.b9 q2.bP q2.off q2.waits q3 fun i a b=>q5 i oM (.inr oM)
 have fV:=hl2.other (s.log+1) oM oM (YP fun p hp=>.inl (oN (eV p (aav hp))));have hop:=fV.opens;simp only[g1,g2] at hop;have T':=(hu.len (oN (rX hx))).1;have hxl:=rX hx;have hn:bS u≤80:=Be oM;refine⟨_,hop,⟨⟨q2.bP,q2.off,q2.waits,q3.trans hlen,q4⟩,⟨oJ,oK,q2⟩,P7,by show k.seen+1≤c+1;omega,.inr ⟨by show 0<k.seen+1;omega,t,ht,rfl⟩,hm,hp,by show 1+s.slot % 2≤2;omega,⟨[],_,by rw[g1,g2] at fV;exact fV,fun p hp=>by have:=eV p (by simpa [rowOf] using hp);show p.θ≤s.log+1;omega⟩,⟨rfl,rfl,rfl⟩,by show g.af≤c+1;omega,sM,rfl,fun i a b=>absurd b sM,sM,.inr ⟨by show 1≤1+s.slot % 2;omega,u,hu,fun i hi=>?_⟩,hx,fun i hi=>?_,by show s.log+1≤_;omega,by show s.key≤_;omega,by show s.κ≤_;omega⟩⟩
 ·have hpl:dN (1+s.slot % 2)=340+(s.slot % 2)*80:=by unfold dN;omega
  show D.now (dN (1+s.slot % 2)+i)=_;rw[q5 _ oM (.inr oM)];exact G_ i hi
 ·rw[q5 _ oM (.inr oM)]
  exact h.sound i hi
theorem eP.ZJ (h:eP d k g s S0 rows c) (hc:c<100000) (m:MetaM) (a e:Int) (hm:dF m=true) (mX:m.seen≤9223372036854775807∧m.aH≤9223372036854775807) (hp:om a e) {t:List UInt8} (ht:gY s.key er m.aW t):(cG (s.whole m a e) t).length≤400:=by
 have rC:=Yv hm;have htl:=(ht.len oM).1;have hlo:=h.rD;have hke:=h.keys;have Cu:=h.qu;exact aa' (s:=s.whole m a e) (t:=t) hm hp (by show 1+s.slot % 2≤2;omega) (by show s.log+1≤_;omega) (by show s.key≤_;omega) (by show s.κ≤_;omega) mX oM
theorem eP.whole (h:eP d k g s S0 rows c) (hc:c<100000) (m:MetaM) (x:List ai) (a e:Int) (hm:dF m=true) (mX:m.seen≤9223372036854775807∧m.aH≤9223372036854775807) (hx:nx x) (hp:om a e) {u t:List UInt8} (hu:gY s.key kD (gL x) u) (G_:zo d (1+s.slot % 2) u) (ht:gY s.key er m.aW t) :
 ∃D g',dG d k (cG (s.whole m a e) t)=(D,k.put (cG (s.whole m a e) t),0)∧nA D 20 320 (s.log+1)=some g'∧eP D (k.put (cG (s.whole m a e) t)) g' (s.whole m a e) x [] (c+1):=by
 obtain⟨L0,L1,hk⟩:=h.kept;have yN:=h.vD;obtain⟨D,oJ,oK,q1,q2,q3,q4,q5⟩:=hk.aek (cG (s.whole m a e) t) (h.ZJ hc m a e hm mX hp ht) oM;obtain⟨g',r1,r2⟩:=h.aaE hc m x a e hm hx hp hu G_ ht q2 q3 q4 q5;exact⟨D,g',q1,r1,r2⟩
end
theorem Ua {P:Prop} (h:P:=by have:=h.aL.qu;show V.st.κ≤_;omega):P:=h
structure cx (d:Dk) (V:aQ) (S0:List ai) (c:Nat):Prop where
 aL:eP d V.kp V.lg V.st S0 V.rows c
 rep:ja V.rows (S0,V.st.at_,V.st.θ)=some (V.S,V.at_,V.θ)
 prev:V.prev=V.st.θ
 cur:V.cur=V.st.key
 num:V.n≤c
 up:V.down=false
 sL:∀b ∈ V.rows,b.θ≤9223372036854775807
 κ:1≤V.st.κ
 gen:0<V.kp.gen
 mn:V.st.m.seen≤9223372036854775807∧V.st.m.aH≤9223372036854775807
section
variable {d:Dk} {V:aQ} {S0:List ai} {c:Nat}
theorem eP.mono {d:Dk} {k:Kp} {g:Lg} {s:dw} {S0:List ai} {rows:List bQ} {c c':Nat} (h:eP d k g s S0 rows c) (hc:c≤c'):eP d k g s S0 rows c':=by
 have h1:=h.vD;have h2:=h.Dt;have h3:=h.rD;have h4:=h.keys;have h5:=h.qu;exact { h with vD:=by omega,Dt:=by omega,rD:=by omega,keys:=by omega,qu:=by omega }
theorem cx.uk (h:cx d V S0 c) (hc:c<100000) (about text:List UInt8):gY V.st.key about text (V.wrap about text):=by
 have h1:=h.aL.keys;have h2:=h.aL.qu;have h3:=h.num;exact⟨V.cur,V.st.κ,V.n,by rw[h.cur];exact bO _,by rw[h.cur];omega,oM,oM,rfl⟩
theorem cx.abd (h:cx d V S0 c) (hc:c<100000) (about text:List UInt8):gY V.st.key about text (V.next.wrap about text):=by
 have h1:=h.aL.keys;have h2:=h.aL.qu;have h3:=h.num;exact⟨V.cur,V.st.κ,V.n+1,by rw[h.cur];exact bO _,by rw[h.cur];omega,oM,oM,rfl⟩
theorem cx.pairs (h:cx d V S0 c):nx V.S:=akH h.aL.pairs h.rep
theorem cx.place (h:cx d V S0 c):om V.at_ V.θ:=ahi h.aL.place h.sL h.rep
structure bq where
 m:MetaM
 S:List ai
 at_:Int
 θ:Int
 rows:List bQ
 prev:Int
 key:Nat
def aQ.abs (V:aQ):bq:=⟨V.st.m,V.S,V.at_,V.θ,V.rows,V.prev,V.st.key⟩
def bq.mq (v:bq):bq := { v with rows:=[],prev:=v.θ }
def iZ (v:bq) (b:bQ):bq × Int :=
 if d_ b.index b.θ b.ops≠0 then (v,d_ b.index b.θ b.ops) else
 if b.index≠v.at_+1∨b.θ<v.θ then (v,1) else
 if fD v.S b.ops≠0 then (v,fD v.S b.ops) else
 ({ (if 24≤v.rows.length then v.mq else v) with rows:=(if 24≤v.rows.length then v.mq else v).rows++[b],S:=cH v.S b.ops,at_:=b.index,θ:=b.θ },0)
def kE (v:bq) (m:MetaM):bq × Int:=if dF m=false then (v,1) else ({ v with m:=m },0)
def iD (v:bq) (m:MetaM) (l:List ai) (at_ θ:Int):bq × Int :=
 if dF m=false∨mK at_ θ=false then (v,1) else if (fM l).2≠0 then (v,(fM l).2) else
 ({ v with m:=m,S:=(fM l).1,at_:=at_,θ:=θ,rows:=[],prev:=θ },0)
def rotateR (v:bq):bq × Int:=if 1048576≤v.key then (v,6) else ({ v with key:=v.key+1 },0)
theorem cx.ael (h:cx d V S0 c) (hc:c<99000) (m:MetaM) (hm:dF m=true) (mX:m.seen≤9223372036854775807∧m.aH≤9223372036854775807) (key:Nat) (h1:V.st.key≤key) (h2:key≤c+1) :
 ∃ D,dm d V { V.st with m:=m,key:=key } = (D,{ V.next with kp:=V.kp.put (cG { V.st with m:=m,key:=key } (V.wrap er m.aW)),st := { V.st with m:=m,key:=key } },0) ∧
  eP D (V.kp.put (cG { V.st with m:=m,key:=key } (V.wrap er m.aW))) V.lg { V.st with m:=m,key:=key } S0 V.rows (c+1):=by
 obtain⟨D,q1,q2⟩:=h.aL.put oM { V.st with m:=m,key:=key } rfl rfl rfl rfl h1 h2 Ua hm mX ((h.uk oM er m.aW).mono h1);refine⟨D,?_,q2⟩;unfold dm;rw[show ({ V.st with m:=m,key:=key } : dw).m.aW=m.aW from rfl,q1,ν sM]
theorem cx.bE (h:cx d V S0 c) (hc:c<99000) (m:MetaM) (mX:m.seen≤9223372036854775807∧m.aH≤9223372036854775807) :
 ∃D V',zQ d V m=(D,V',(kE V.abs m).2)∧cx D V' S0 (c+1)∧V'.abs=(kE V.abs m).1∧V'.st.κ=V.st.κ:=by
 unfold zQ kE iI;rw[h.up,h.aL.good.off,ν sM];by_cases hr:dF m=false
 ·rw[π hr,π hr]
  exact⟨d,V,rfl,{ h with aL:=h.aL.mono oM,num:=by have:=h.num;omega },rfl,rfl⟩
 ·rw[ν hr,ν hr]
  obtain⟨D,q1,q2⟩:=h.ael hc m (by simpa using hr) mX V.st.key (bO _) (oN h.aL.keys);refine⟨D,_,q1,⟨q2,h.rep,h.prev,h.cur,by have:=h.num;show V.n+1≤_;omega,h.up,h.sL,h.κ,by show 0<V.kp.seen+1;omega,mX⟩,rfl,rfl⟩
theorem cx.rotate (h:cx d V S0 c) (hc:c<99000) :
 ∃D V',xI d V=(D,V',(rotateR V.abs).2)∧cx D V' S0 (c+1)∧V'.abs=(rotateR V.abs).1∧V'.st.κ=V.st.κ:=by
 have hk:=h.aL.keys;unfold xI rotateR iI;have hk1:¬1048576≤V.st.key:=oM;have hk2:¬1048576≤V.abs.key:=hk1;rw[h.up,h.aL.good.off,ν sM,ν hk1,ν hk2];obtain⟨D,q1,q2⟩:=h.ael hc V.st.m h.aL.right h.mn (V.st.key+1) oM oM;simp only
 rw[show ({ V.st with key:=V.st.key+1 } : dw) = { V.st with m:=V.st.m,key:=V.st.key+1 } from rfl,q1,ν sM];exact⟨D,_,rfl,⟨q2,h.rep,h.prev,by show V.cur+1=V.st.key+1;rw[h.cur],by have:=h.num;show V.n+1≤_;omega,h.up,h.sL,h.κ,by show 0<V.kp.seen+1;omega,h.mn⟩,rfl,rfl⟩
theorem cx.whole (h:cx d V S0 c) (hc:c<99000) (m:MetaM) (hm:dF m=true) (mX:m.seen≤9223372036854775807∧m.aH≤9223372036854775807) (x:List ai) (hx:nx x) (a e:Int) (hp:om a e) :
 ∃D V',gX d V m x a e=(D,V',0)∧cx D V' x (c+2)∧V'.abs = { V.abs with m:=m,S:=x,at_:=a,θ:=e,rows:=[],prev:=e } ∧ V'.st.κ=V.st.κ:=by
 obtain⟨D1,q1,q2,q3⟩:=h.aL.acu (V.wrap kD (gL x)) (by have:=(h.uk oM kD (gL x)).len (oN (rX hx));unfold bS;omega) (by
  have:=(h.uk oM kD (gL x)).len (oN (rX hx));have:=rX hx;exact Be oM)
 obtain⟨D,g',r1,r2,r3⟩:=q2.whole oM m x a e hm mX hx hp (h.uk oM kD (gL x)) q3 (h.abd oM er m.aW);have hput:dm D1 V.next (V.st.whole m a e)=(D,{ V.next.next with kp:=V.kp.put (cG (V.st.whole m a e) (V.next.wrap er m.aW)),st:=V.st.whole m a e },0):=by
  unfold dm;rw[show (V.st.whole m a e).m.aW=m.aW from rfl,show V.next.kp=V.kp from rfl,r1,ν sM]
 refine⟨D,{ V.next.next with kp:=V.kp.put (cG (V.st.whole m a e) (V.next.wrap er m.aW)),st:=V.st.whole m a e,lg:=g',S:=x,at_:=a,θ:=e,rows:=[],prev:=e },?_,⟨r3.mono oM,rfl,rfl,h.cur,by have:=h.num;show V.n+1+1≤_;omega,h.up,sM,h.κ,by show 0<V.kp.seen+1;omega,mX⟩,rfl,rfl⟩;unfold gX;simp only
 rw[show (V.st.whole m a e).slot=1+V.st.slot % 2 from rfl,q1,ν sM];simp only
 rw[hput,ν sM];simp only
 rw[show (V.st.whole m a e).log=V.st.log+1 from rfl,r2]
theorem aem {P:Prop} (h:P:=by
 have:mK a e=true:=by
  cases hh:mK a e
  ·exact absurd (.inr hh) h1
  ·rfl
 unfold mK at this;simp only[IA,eD] at this;constructor<;>omega):P:=h
theorem cx.install (h:cx d V S0 c) (hc:c<99000) (m:MetaM) (mX:m.seen≤9223372036854775807∧m.aH≤9223372036854775807) (l:List ai) (a e:Int) (he:e≤9223372036854775807) :
 ∃D V' mY,zm d V m l a e=(D,V',(iD V.abs m l a e).2)∧cx D V' mY (c+2)∧V'.abs=(iD V.abs m l a e).1∧V'.st.κ=V.st.κ:=by
 unfold zm iD iI;rw[h.up,h.aL.good.off,ν sM];by_cases h1:dF m=false∨mK a e=false
 ·rw[π h1,π h1]
  exact⟨d,V,S0,rfl,{ h with aL:=h.aL.mono oM,num:=by have:=h.num;omega },rfl,rfl⟩
 ·rw[ν h1,ν h1]
  by_cases h2:(fM l).2≠0
  ·rw[π h2,π h2]
   exact⟨d,V,S0,rfl,{ h with aL:=h.aL.mono oM,num:=by have:=h.num;omega },rfl,rfl⟩
  ·rw[ν h2,ν h2]
   have hm:dF m=true:=by
    cases hh:dF m
    ·exact absurd (.inl hh) h1
    ·rfl
   have hp:om a e:=by
    exact aem
   obtain⟨D,V',q1,q2,q3,q4⟩:=h.whole hc m hm mX (fM l).1 (SY oM) a e hp;exact⟨D,V',_,q1,q2,q3,q4⟩
theorem aen {P:Prop} (h:P:=by
 show ja (V.rows++[b]) (S0,V.st.at_,V.st.θ)=some (cH V.S b.ops,b.index,b.θ);rw[ahX,h.rep];exact ajc h1 h2 h3 h48):P:=h
theorem cx.add (h:cx d V S0 c) (hc:c<99500) (b:bQ) (he:b.θ≤9223372036854775807) (hr:V.rows.length<24) (h1:d_ b.index b.θ b.ops=0) (h2:b.index=V.at_+1) (h3:V.θ≤b.θ) (h4:fD V.S b.ops=0) :
 ∃D V',iu d V b=(D,V',0)∧cx D V' S0 (c+1)∧V'.abs = { V.abs with rows:=V.rows++[b],S:=cH V.S b.ops,at_:=b.index,θ:=b.θ } ∧ V'.st.κ=V.st.κ:=by
 have h48:(cH V.S b.ops).length≤48:=by
  unfold fD at h4;split at h4
  ·rename_i hh;exact absurd h4 hh
  ·split at h4
   ·simp at h4
   ·omega
 obtain⟨D,q1,q2⟩:=h.aL.add oM b h1 he hr (h.uk oM jZ (ir b));refine⟨D,{ V.next with lg:=V.lg.added (str (V.wrap jZ (ir b))),S:=cH V.S b.ops,rows:=V.rows++[b],at_:=b.index,θ:=b.θ },?_,⟨q2,?_,h.prev,h.cur,by have:=h.num;show V.n+1≤_;omega,h.up,?_,h.κ,h.gen,h.mn⟩,rfl,rfl⟩
 ·unfold iu
  simp only
  rw[q1,ν sM];rfl
 ·exact aen
 ·intro x hx
  rcases jX.1 hx with hx | hx
  ·exact h.sL x hx
  ·rw[xB.1 hx];exact he
theorem cx.q_ (h:cx d V S0 c) (hc:c<99000) (b:bQ) (he:b.θ≤9223372036854775807) :
 ∃D V' mY,vz d V b=(D,V',(iZ V.abs b).2)∧cx D V' mY (c+3)∧V'.abs=(iZ V.abs b).1∧V'.st.κ=V.st.κ:=by
 have same:cx d V S0 (c+3) := { h with aL:=h.aL.mono oM,num:=by have:=h.num;omega };unfold vz iZ iI;rw[h.up,h.aL.good.off,ν sM];by_cases h1:d_ b.index b.θ b.ops≠0
 ·rw[π h1,π h1]
  exact⟨d,V,S0,rfl,same,rfl,rfl⟩
 rw[ν h1,ν h1];by_cases h2:b.index≠V.at_+1∨b.θ<V.θ
 ·rw[π h2,π (show b.index≠V.abs.at_+1∨b.θ<V.abs.θ from h2)]
  exact⟨d,V,S0,rfl,same,rfl,rfl⟩
 rw[ν h2,ν (show ¬(b.index≠V.abs.at_+1∨b.θ<V.abs.θ) from h2)];by_cases h3:fD V.S b.ops≠0
 ·rw[π h3,π (show fD V.abs.S b.ops≠0 from h3)]
  exact⟨d,V,S0,rfl,same,rfl,rfl⟩
 rw[ν h3,ν (show ¬fD V.abs.S b.ops≠0 from h3)];have e1:d_ b.index b.θ b.ops=0:=oM;have e2:b.index=V.at_+1:=oM;have e3:V.θ≤b.θ:=oM;have e4:fD V.S b.ops=0:=oM;by_cases h4:24≤V.rows.length
 ·rw[π h4,π (show 24≤V.abs.rows.length from h4)]
  obtain⟨D1,V1,q1,q2,q3,q4⟩:=h.whole hc V.st.m h.aL.right h.mn V.S h.pairs V.at_ V.θ h.place;have a1:V1.S=V.S:=aI bq.S q3;have a2:V1.at_=V.at_:=aI bq.at_ q3;have a3:V1.θ=V.θ:=aI bq.θ q3;have a4:V1.rows=[]:=aI bq.rows q3;obtain⟨D,V',r1,r2,r3,r4⟩:=q2.add oM b he (by rw[a4];decide) e1 (by rw[a2];exact e2) (by rw[a3];exact e3) (by rw[a1];exact e4);have s1:V'.S=cH V.S b.ops:=by rw[← a1];exact aI bq.S r3
  refine⟨D,V',V.S,?_,r2,?_,r4.trans q4⟩
  ·simp only[q1,r1]
   rw[ν sM,π trivial];congr 1
   congr 1
   rw[← s1]
  ·rw[r3,q3,a4,a1]
   rfl
 ·rw[ν h4,ν (show ¬24≤V.abs.rows.length from h4)]
  obtain⟨D,V',r1,r2,r3,r4⟩:=h.add oM b he oM e1 e2 e3 e4;exact⟨D,V',S0,r1,{ r2 with aL:=r2.aL.mono oM,num:=by have:=r2.num;omega },r3,r4⟩
def aQ.again (V:aQ):aQ := { V with st := { V.st with κ:=V.st.κ+1 },n:=0,down:=false }
def vE (d:Dk) (V:aQ):Dk × aQ × Int:=dm d V.again V.again.st
theorem eP.opens (h:cx d V S0 c) (hc:c<99000) :
 ∃D V',vE d V=(D,V',0)∧cx D V' S0 (c+1)∧V'.abs=V.abs∧V'.st.κ=V.st.κ+1:=by
 have h1:=h.aL.keys;have h2:=h.aL.qu;have h3:=h.num;obtain⟨D,q1,q2⟩:=h.aL.put oM { V.st with κ:=V.st.κ+1 } rfl rfl rfl rfl (bO _) (by show V.st.key≤_;omega) (by show V.st.κ+1≤_;omega) h.aL.right h.mn
  (show gY V.st.key er V.st.m.aW (V.again.wrap er V.st.m.aW) from ⟨V.cur,V.st.κ+1,0,by rw[h.cur];exact bO _,by rw[h.cur];omega,oM,oM,rfl⟩)
 refine⟨D,{ V.again.next with kp:=V.kp.put (cG { V.st with κ:=V.st.κ+1 } (V.again.wrap er V.st.m.aW)),st := { V.st with κ:=V.st.κ+1 } },?_,⟨q2,h.rep,h.prev,h.cur,by show 0+1≤_;omega,rfl,h.sL,by show 1≤V.st.κ+1;omega,by show 0<V.kp.seen+1;omega,h.mn⟩,rfl,rfl⟩;unfold vE dm;rw[show V.again.kp=V.kp from rfl,show V.again.st = { V.st with κ:=V.st.κ+1 } from rfl];rw[show ({ V.st with κ:=V.st.κ+1 } : dw).m.aW=V.st.m.aW from rfl,q1,ν sM]
def P8:Kp:=⟨0,[],0,1,0,false⟩
def OI:Lg:=⟨20,320,1,[],0,0,0,false⟩
def V0:aQ:=⟨[],0,0,[],0,jL,false,P8,OI,0,0⟩
theorem Zh (n:Nat):(Dk.fresh n).waits.length=(Dk.fresh n).ψ.length∧(Dk.fresh n).ψ.length=n:=by simp[Dk.fresh]
theorem eP.fresh:eP (Dk.fresh 500) P8 OI jL [] [] 0:=by
 refine⟨⟨rfl,rfl,(Zh _).1,(Zh _).2,ahV _⟩,⟨_,_,alU 500 0 oM⟩,rfl,bO _,.inl ⟨rfl,rfl⟩,dC,by constructor<;>decide,dC,⟨[],_,ai0 500 20 320 1 oM oM oM oM,fun p hp=>?_⟩,⟨rfl,rfl,rfl⟩,dC,dC,rfl,fun i a=>by simp[OI] at a,dC,.inl ⟨rfl,rfl,rfl,rfl⟩,nx.nil,fun i hi=>?_,dC,dC,dC⟩
 ·have hp2:some p ∈ List.replicate 320 (none:Option Lp):=hp
  have:=QM hp2;simp at this
 ·exact .inl (ai_ 500 (340+i) oM)
theorem eP.first :
 ∃D V',vE (Dk.fresh 500) V0=(D,V',0)∧cx D V' [] 1∧V'.abs=⟨NP,[],0,0,[],0,0⟩∧V'.st.κ=1:=by
 obtain⟨D,q1,q2⟩:=eP.fresh.put oM { jL with κ:=1 } rfl rfl rfl rfl (bO _) dC dC dC dC
  (show gY 0 er [] (V0.again.wrap er []) from ⟨0,1,0,oM,oM,oM,oM,rfl⟩)
 refine⟨D,{ V0.again.next with kp:=P8.put (cG { jL with κ:=1 } (V0.again.wrap er [])),st := { jL with κ:=1 } },?_,⟨q2,rfl,rfl,rfl,dC,rfl,by simp[aQ.next,aQ.again,V0],dC,dC,dC⟩,rfl,rfl⟩;unfold vE dm;rw[show V0.again.kp=P8 from rfl,show V0.again.st = { jL with κ:=1 } from rfl];rw[show ({ jL with κ:=1 } : dw).m.aW=[] from rfl,q1,ν sM]
end
def cB (m:iC):List Value:=[.string (str m.name),.bool m.yh]
def xY (w:World) (b off:Nat) (l:List iC):Prop:=∀i (h:i<l.length),w.rangeAt b (off+i*2) (cB l[i])
theorem xY.take {w:World} {b off:Nat} {l:List iC} (h:xY w b off l) (k:Nat):xY w b off (l.take k):=fun i hi=>by
 rw[iW] at hi;rw[Yd];exact h i oM
theorem alV (P N:ByteArray) (S:Bool) (mb:Nat) (w:World) (hc:w.cell? ⟨mb,0,none⟩=some (.string N)) :
 ς 141 #[.agg #[.string P,.bool S],.pointer (some ⟨mb,0,none⟩)] w fun e w'=>e=ώ (.bool (P.toList == N.toList))∧υ w w':=by
 have hmb:w.heap.size≠mb:=by
  have:=Mn _ _ hc;simp at this
  omega
 go_enter func141,ntmps141
 go_upto_region 1 with fail
 generalize bp:World.alloc _ _=w2;obtain⟨q,hq⟩:=μ w.heap.size;rw[hq];have hU:υ w w2:=yb
 have c0:w2.cell? ⟨q,0,none⟩=some (.string P):=by rw[← bp,← hq];exact(η.new w _ _).cell 0
 have c1:w2.cell? ⟨mb,0,none⟩=some (.string N):=by
  rw[CX (w:=w) (a:=⟨mb,0,none⟩) (hU.block mb (Mn _ _ hc) id)];exact hc
 have HU:=δ hU;clear bp hU hc hq hmb;go_wp2_with fail
 go_ret
 exact⟨rfl,HU.out⟩
theorem aaF (a b:List UInt8):((str a).toList == (str b).toList)=decide (a=b):=by
 rw[CV,CV,cA,cA];by_cases h:a=b<;>simp[h]
theorem amU {A:Option Addr} {cap b off mb:Nat} {l:List iC} {w:World} {nm:List UInt8} (hA:0<l.length→A=some ⟨b,off,none⟩) (hb:∀w',υ w w'→xY w' b off l) (hl:l.length≤1000000)
 (hc:∀w',υ w w'→w'.cell? ⟨mb,0,none⟩=some (.string (str nm))) :
 ς 194 #[.slice A l.length cap,.func (.func 141) #[] #[.pointer (some ⟨mb,0,none⟩)]] w fun e w'=>∃z:Int,e=ώ (ι z)∧(decide (0≤z)=l.any fun o=>decide (o.name=nm))∧υ w w':=by
 have HB:=δ hb;have HC:=δ hc;clear hb hc;go_enter func194,ntmps194
 go_wp2_with fail
 go_loopw [5,8] (fun _ i wr=>∃k:Nat,k≤l.length∧i=ι (k:Int)∧υ w wr∧(l.take k).any (fun o=>decide (o.name=nm))=false) (fun _ i _=>l.length - (intOf i).toNat)
 case atStart=>exact⟨0,oM,rfl,ζ.refl _ _,rfl⟩
 case round =>
  obtain⟨k,hk,rfl,hU,hE⟩:=hrel;by_cases hlt:k<l.length
  ·obtain rfl:=hA oM
   have hrow:=HB.out wr hU k hlt;have cU:(l.take (k+1)).any (fun o=>decide (o.name=nm))=decide (l[k].name=nm):=by
    rw[ia hlt,age,hE];simp
   have hfull:decide (l[k].name=nm)=true→l.any (fun o=>decide (o.name=nm))=true:=fun h=>agf.2 ⟨l[k],eE hlt,h⟩
   obtain⟨o,ho⟩:=μ (l[k]);rw[ho] at hrow cU hfull;rw[← aaF] at cU hfull;obtain⟨P,hP⟩:=μ (str o.name);obtain⟨N,hN⟩:∃P,str nm=P:=⟨_,rfl⟩;have hcell:=HC.out wr hU;rw[hN] at hcell cU hfull;rw[hP] at cU hfull;have hrw:cB o=[.string P,.bool o.yh]:=by unfold cB;rw[hP]
   rw[hrw] at hrow;have cv:=alV P N o.yh mb wr hcell;obtain⟨B,hBB⟩:=μ (P.toList == N.toList);rw[hBB] at cv cU hfull;have HR:=δ hrow;have mZ:=δ cv;have HU:=δ hU;have HT:=τ cU hfull;have j1:(k:Int)<(l.length:Int):=oM;clear hrow cU hfull hcell hrw cv hU hE hP hN ho hBB;go_wp2_with (first
    |(refine ve rfl _ _ rfl b (off+k*2) rfl [.string P,.bool o.yh] _ HR.out underlying46 rfl kR ?_))
   refine mZ.out.mono ?_;rintro e w1 ⟨rfl,az⟩;have lJ:=δ (HU.out.then az φ);clear az;cases B
   ·go_wp2_with fail
    go_roundw
    case rel=>exact⟨k+1,oM,by go_num,lJ.out,HT.out.1⟩
    case measure=>simp[intOf]<;>omega
   ·go_wp2_with fail
    go_ret
    exact⟨_,rfl,by rw[HT.out.2 trivial];simp,lJ.out⟩
  ·obtain rfl:k=l.length:=oM
   rw[sW] at hE;have HU:=τ hU hE;clear hU hE;go_wp2_with fail
   go_ret
   exact⟨-1,rfl,by rw[HU.out.2];rfl,HU.out.1⟩
theorem amV {A:Option Addr} {cap b off mb:Nat} {l:List iC} {w:World} {nm:List UInt8} (hA:0<l.length→A=some ⟨b,off,none⟩) (hb:∀w',υ w w'→xY w' b off l) (hl:l.length≤1000000)
 (hc:∀w',υ w w'→w'.cell? ⟨mb,0,none⟩=some (.string (str nm))) :
 ς 143 #[.slice A l.length cap,.func (.func 141) #[] #[.pointer (some ⟨mb,0,none⟩)]] w fun e w'=>e=ώ (.bool (l.any fun o=>decide (o.name=nm)))∧υ w w':=by
 have H:=δ (amU (cap:=cap) hA hb hl hc);clear hb hc hA;obtain⟨n,hn⟩:=μ l.length;obtain⟨B,hB⟩:=μ (l.any fun o=>decide (o.name=nm));rw[hB,hn] at H;rw[hB,hn];clear hB hn hl;go_enter func143,ntmps143
 go_wp2_with fail
 refine H.out.mono ?_;rintro e w1 ⟨z,rfl,hz,hU⟩;have HU:=τ hU hz;clear hU hz;go_wp2_with fail
 go_ret
 exact⟨by rw[← HU.out.2];rfl,HU.out.1⟩
theorem ZK (a l:List iC) (m:iC):nI a (l++[m])=(nI a l && (oq m.name && !((a++l).any fun o=>decide (o.name=m.name)))):=by
 induction l generalizing a with
 | nil=>simp[nI]
 | cons x r ih =>
   rw[pI];unfold nI;rw[ih];simp[Bool.and_assoc,List.append_assoc]
theorem ZL {l:List iC} {k:Nat} (hk:k<l.length) (h:nI [] (l.take k)=true):nI [] (l.take (k+1))=(oq l[k].name && !((l.take k).any fun o=>decide (o.name=l[k].name))):=by
 rw[ia hk,ZK,h];simp
theorem Zi {l:List iC} {k:Nat} (h:nI [] (l.take k)=false):nI [] l=false:=by
 have gen:∀(r a:List iC),nI [] a=false→nI [] (a++r)=false:=by
  intro r;induction r with
  | nil=>intro a h;simpa using h
  | cons x r ih =>
    intro a h;have:a++x::r=(a++[x])++r:=gZ
    rw[this];refine ih _ ?_;rw[ZK,h];rfl
 have:=gen (l.drop k) _ h;rwa [AQ] at this
theorem akL {A:Option Addr} {cap b off:Nat} {l:List iC} {w:World} (hA:0<l.length→A=some ⟨b,off,none⟩) (hb:∀w',υ w w'→xY w' b off l) (hl:l.length≤1000000) (hcap:l.length≤cap) (hs:∀m ∈ l,m.name.length≤1000000) :
 ς 84 #[.slice A l.length cap] w fun e w'=>e=ώ (.bool (qq l))∧υ w w':=by
 obtain⟨B,hB⟩:=μ (qq l);rw[hB];have HB:=δ hb;have HS:=τ hs hB;clear hb hs hB;go_enter func84,ntmps84
 go_wp2_with fail
 go_loopw [3,4,5,8] (fun _ _ _ i wr=>∃k:Nat,k≤l.length∧i=ι (k:Int)∧υ w wr∧nI [] (l.take k)=true) (fun _ _ _ i _=>l.length - (intOf i).toNat)
 case atStart=>exact⟨0,oM,rfl,ζ.refl _ _,rfl⟩
 case round =>
  obtain⟨k,hk,rfl,hU,hE⟩:=hrel;by_cases hlt:k<l.length
  ·obtain rfl:=hA oM
   have hrow:=HB.out wr hU k hlt;have cy:=ZL hlt hE;have jI:nI [] (l.take (k+1))=false→B=false:=fun h=>by
    rw[← HS.out.2];unfold qq;rw[Zi h];rfl
   have hsz:=HS.out.1 _ (eE hlt);obtain⟨o,ho⟩:=μ (l[k]);rw[ho] at hrow cy hsz;obtain⟨P,hP⟩:=μ (str o.name);have hrw:cB o=[.string P,.bool o.yh]:=by unfold cB;rw[hP]
   rw[hrw] at hrow;have hnm:=fun W=>aa2 P (by rw[← hP,bR];exact hsz) W
   rw[show P.data.toList=o.name by rw[← hP,cA]] at hnm;obtain⟨N,hN⟩:=μ (oq o.name);rw[hN] at hnm cy;have HR:=δ hrow;have Cv:=δ hnm;have HU:=δ hU;have HX:=aF cy jI hP hE;have j1:(k:Int)<(l.length:Int):=oM;clear hrow cy jI hsz hrw hnm hU hE hP hN ho;obtain⟨q,hq⟩:=μ wr.heap.size;have HQ:=δ hq;go_upto_region 4 with (first
    |(refine ve rfl _ _ rfl b (off+k*2) rfl [.string P,.bool o.yh] _ HR.out underlying46 rfl kR ?_))
   generalize fk:World.alloc _ _=w5;have aK:η w5 q 46 #[.string P,.bool o.yh]:=by rw[← fk,← HQ.out];exact η.new wr _ _
   have ay:υ w w5:=by rw[← fk];exact HU.out.alloc _
   have c0:=aK.cell 0;have dB:=τ ay aK;clear ay aK fk hq;have Ub:∀W,υ w5 W→ς 143 #[.slice (some ⟨b,off,none⟩) k cap,.func (.func 141) #[] #[.pointer (some ⟨q,0,none⟩)]] W fun e w'=>e=ώ (.bool ((l.take k).any fun x=>decide (x.name=o.name)))∧υ W w':=fun W hW=>by
    have:=amV (A:=some ⟨b,off,none⟩) (cap:=cap) (b:=b) (off:=off) (mb:=q) (l:=l.take k) (w:=W) (nm:=o.name) (fun _=>rfl) (fun w' h=>(HB.out w' ((dB.out.1.then hW φ).then h φ)).take k) D7
     (fun w' h=>((dB.out.2.ε hW id).ε h id).cell 0 |>.trans (by rw[HX.out.2.2.1];rfl))
    rw[iW,xy hk] at this;exact this
   obtain⟨T,hT⟩:=μ ((l.take k).any fun x=>decide (x.name=o.name));rw[hT] at Ub;have cy:=HX.out.1;rw[hT] at cy;have mQ:=δ cy;have aom:=δ Ub;have q1:(0:Int)≤(k:Int):=oM;have q2:(k:Int)≤(cap:Int):=oM;clear Ub cy hT;go_wp2_with fail
   refine(Cv.out _).mono ?_;rintro e w6 ⟨rfl,rfl⟩;cases N
   ·obtain rfl:=HX.out.2.1 (by rw[mQ.out];rfl)
    go_wp2_with fail
    go_ret
    exact⟨rfl,dB.out.1⟩
   ·go_wp2_with fail
    refine(aom.out _ (ζ.refl _ _)).mono ?_;rintro e w7 ⟨rfl,bI⟩;have wL:=δ (dB.out.1.then bI φ);clear bI c0;cases T
    ·go_wp2_with fail
     go_roundw
     case rel=>exact⟨k+1,oM,by go_num,wL.out,by rw[mQ.out];rfl⟩
     case measure=>simp[intOf]<;>omega
    ·obtain rfl:=HX.out.2.1 (by rw[mQ.out];rfl)
     go_wp2_with fail
     go_ret
     exact⟨rfl,wL.out⟩
  ·obtain rfl:k=l.length:=oM
   rw[sW] at hE;have aD:B=decide (1≤l.length∧l.length≤4):=by rw[← HS.out.2];unfold qq;rw[hE];rfl
   have HU:=τ hU aD;clear hU hE aD hk hlt;by_cases h1:(1:Int)≤(l.length:Int)
   ·by_cases h2:(l.length:Int)≤4
    ·obtain rfl:B=true:=by rw[HU.out.2];simp;omega
     go_wp2_with fail
     go_ret
     exact⟨rfl,HU.out.1⟩
    ·obtain rfl:B=false:=by rw[HU.out.2];simp;omega
     go_wp2_with fail
     go_ret
     exact⟨rfl,HU.out.1⟩
   ·obtain rfl:B=false:=by rw[HU.out.2];simp;omega
    go_wp2_with fail
    go_ret
    exact⟨rfl,HU.out.1⟩
end
end Go.Proofs.YtbhjgfibhegddaaGreat
namespace Go.Proofs
open Go.Shelf
def Tryz.keysB_ren:Go.Shelf.Ren:=⟨fun | 7=>137 | 10=>193 | n=>n,fun | 23=>130 | 26=>9 | 3=>9 | 28=>232 | 0=>0 | 27=>231 | 33=>237 | 4=>4 | n=>n,fun | n=>n⟩
theorem Tryz.keysB:Go.Proofs.SlLaysZ.n7 Tryz.prog Tryz.keysB_ren := {
 mixed:=by kernel_rfl
 f7:=⟨Tryz.f137.name,by decide,Tryz.func137.trans (congrArg some (by kernel_rfl))⟩
 f10:=⟨Tryz.f193.name,by decide,Tryz.func193.trans (congrArg some (by kernel_rfl))⟩
 t0:=Tryz.underlying0
 a0:=Tryz.isAgg0
 z0:=Tryz.sizeOf0
 v0:=Tryz.zeroValue0
 t4:=Tryz.underlying4
 a4:=Tryz.isAgg4
 z4:=Tryz.sizeOf4
 v4:=Tryz.zeroValue4
 t23:=Tryz.underlying130
 a23:=Tryz.isAgg130
 z23:=Tryz.sizeOf130
 v23:=Tryz.zeroValue130
 t26:=Tryz.underlying9
 a26:=Tryz.isAgg9
 z26:=Tryz.sizeOf9
 v26:=Tryz.zeroValue9
 t27:=Tryz.underlying231
 a27:=Tryz.isAgg231
 z27:=Tryz.sizeOf231
 v27:=Tryz.zeroValue231
 t28:=Tryz.underlying232
 a28:=Tryz.isAgg232
 z28:=Tryz.sizeOf232
 v28:=Tryz.zeroValue232
 t33:=Tryz.underlying237
 a33:=Tryz.isAgg237
 z33:=Tryz.sizeOf237
 v33:=Tryz.zeroValue237 }
def Tryz.sortedB_ren:Go.Shelf.Ren:=⟨fun | 6=>136 | 8=>191 | 9=>192 | 11=>226 | 13=>197 | 12=>227 | 23=>237 | 24=>204 | 14=>254 | 15=>255 | 16=>256 | 17=>257 | 18=>258 | 19=>259 | 20=>260 | 21=>261 | 22=>262 | 25=>282 | 26=>264 | 27=>265 | 28=>283 | 29=>284 | 30=>285 | 31=>302 | n=>n,fun | 26=>9 | 28=>232 | 24=>147 | 0=>0 | 3=>3 | 37=>133 | 48=>113 | 50=>112 | 4=>4 | 40=>329 | 39=>328 | 45=>307 | 5=>5 | 9=>9 | 51=>352 | 55=>283 | 57=>373 | 58=>26 | 33=>237 | n=>n,fun | n=>n⟩
theorem Tryz.sortedB:Go.Proofs.SlLaysZ.n6 Tryz.prog Tryz.sortedB_ren := {
 mixed:=by kernel_rfl
 f6:=⟨Tryz.f136.name,by decide,Tryz.func136.trans (congrArg some (by kernel_rfl))⟩
 f8:=⟨Tryz.f191.name,by decide,Tryz.func191.trans (congrArg some (by kernel_rfl))⟩
 f11:=⟨Tryz.f226.name,by decide,Tryz.func226.trans (congrArg some (by kernel_rfl))⟩
 t0:=Tryz.underlying0
 a0:=Tryz.isAgg0
 z0:=Tryz.sizeOf0
 v0:=Tryz.zeroValue0
 t24:=Tryz.underlying147
 a24:=Tryz.isAgg147
 z24:=Tryz.sizeOf147
 v24:=Tryz.zeroValue147
 t26:=Tryz.underlying9
 a26:=Tryz.isAgg9
 z26:=Tryz.sizeOf9
 v26:=Tryz.zeroValue9
 t28:=Tryz.underlying232
 a28:=Tryz.isAgg232
 z28:=Tryz.sizeOf232
 v28:=Tryz.zeroValue232
 i26:=by kernel_rfl }
def Tryz.cloneB_ren:Go.Shelf.Ren:=⟨fun | 5=>82 | 7=>140 | n=>n,fun | 23=>130 | 25=>9 | 3=>9 | 4=>4 | 20=>20 | n=>n,fun | n=>n⟩
theorem Tryz.cloneB:Go.Proofs.SlLaysW.n5 Tryz.prog Tryz.cloneB_ren := {
 mixed:=by kernel_rfl
 f5:=⟨Tryz.f82.name,by decide,Tryz.func82.trans (congrArg some (by kernel_rfl))⟩
 f7:=Tryz.func140.trans (congrArg some (by kernel_rfl))
 t4:=Tryz.underlying4
 a4:=Tryz.isAgg4
 z4:=Tryz.sizeOf4
 v4:=Tryz.zeroValue4
 t20:=Tryz.underlying20
 a20:=Tryz.isAgg20
 z20:=Tryz.sizeOf20
 v20:=Tryz.zeroValue20
 t23:=Tryz.underlying130
 a23:=Tryz.isAgg130
 z23:=Tryz.sizeOf130
 v23:=Tryz.zeroValue130 }
end Go.Proofs
namespace Go.Proofs.YtbhjgfibhegddaaGreat
open Tryz
section
open Go Go.RowKit Go.Maps Go.Sort Go.Shelf Go.WideShapes
abbrev uo:ByteArray→Value:=fun s=>Value.string s
theorem ahj {w:World} {bm:Nat} {m:List (ByteArray × Value)} (hM:cM uo w bm m) (hk:∀p ∈ m,p.1.size≤1000) (hs:m.length≤5000) :
 ∃D0:DataW Unit,w.ownsMap prog 9 xO bm m.length D0∧(strKeys D0).Perm (m.map fun p=>p.1.data.toList)∧Maps.size D0=m.length:=by
 obtain⟨es,clock,hb,hst,hm⟩:=hM;have hlen:es.toList.length=m.length:=T8
 have hrd:∀x ∈ es.toList,∃a:ByteArray,x.key=uo a∧Go.WideElems.rd prog 9 xO x=some (.string a.data.toList,.nil):=by
  intro x hx;obtain⟨j,hj⟩:=CU hx;obtain⟨p,hp,h1,h2⟩:=I_ hm j x hj;refine⟨p.1,h1,?_⟩;have VZ:keyOf prog 9 x.key=some (.string p.1.data.toList):=by rw[h1];exact Go.WideMaps.keyOf_string_mk underlying9 (by have:=hk p (qO hp);unfold maxLen;omega)
  unfold Go.WideElems.rd;rw[VZ];rfl
 refine⟨_,⟨es,clock,hb,⟨by unfold maxLen;simp at hlen;omega,hst,fun x hx=>?_⟩,by simp at hlen;omega,rfl⟩,?_,?_⟩
 ·obtain⟨a,-,h⟩:=hrd x hx
  exact⟨_,h⟩
 ·show List.Perm (((es.toList.map (Go.WideElems.rg prog 9 xO)).foldr DataW.insert []).map fun p=>strOf p.1) _
  refine((sorted_perm _).map _).trans ?_;rw[sS];have e1:es.toList.map ((fun p:Lit × DataW Unit=>strOf p.1) ∘ Go.WideElems.rg prog 9 xO)=es.toList.map ((fun v:Value=>match v with | .string a=>a.data.toList | _=>[]) ∘ fun e:MapEntry=>e.key):=by
   refine agc fun x hx=>?_
   obtain⟨a,h1,h2⟩:=hrd x hx;simp only[Function.comp,Go.WideElems.rg_of h2,h1,strOf]
  rw[e1,← sS,FI hm,sS];have e2:m.map ((fun v:Value=>match v with | .string a=>a.data.toList | _=>[]) ∘ fun p:ByteArray × Value=>uo p.1)=m.map fun p=>p.1.data.toList:=rfl
  rw[e2]
 ·show ((es.toList.map (Go.WideElems.rg prog 9 xO)).foldr DataW.insert []).length=m.length
  rw[(sorted_perm _).length_eq,bz,hlen]
theorem amW (m:Nat):AnyZ.SortsIn prog sortedB_ren Fence.wide m :=
 ⟨fun blk off cap ss W hH hblk hsz=>Fj.2 (slices_Sort_string blk off cap ss W hH hblk hsz),
  fun p cap W=>Fj.2 (slices_Sort_string_none p cap W)⟩
theorem amX (mb:Option Nat) (W:World):ς 137 #[.map mb] W fun e w'=>e=ώ (.func (.func 193) #[] #[.pointer (some ⟨W.heap.size,0,none⟩)])∧w'=W.alloc (.cells #[.map mb] 130) :=
 (Fj (n:=5)).1 (AnyZ.keys_in keysB Fence.wide 5 trivial rfl mb W)
theorem agU {S:List ai} (h:gx S):(S.map (·.1)).mergeSort Go.leB=S.map (·.1):=by
 refine List.mergeSort_of_pairwise ?_;refine agd.2 (h.imp fun {a b} hab=>?_);simp only[eD];exact List.le_of_lt hab
theorem akM {w:World} {b:Nat} {m:List (ByteArray × Value)} {S:List ai} (hM:cM uo w b m) (hH:qY m S) (hS:gx S) (hk:∀p ∈ S,p.1.length≤1000) (hs:S.length≤5000) :
 ς 136 #[.func (.func 193) #[] #[.pointer (some ⟨w.heap.size,0,none⟩)]] (w.alloc (.cells #[.map (some b)] 130)) fun e w'=>∃v,e=ώ v ∧
  w'.ownsRow (w.heap.size+1) 9 1 v S.length (strs (S.map fun p=>str p.1))∧υ w w':=by
 have hml:m.length=S.length:=by have:=hH.length_eq;simpa using this
 have hmk:∀p ∈ m,p.1.size≤1000:=fun p hp=>by
  obtain⟨q,hq,rfl⟩:=(hH.mem p).1 hp;show (str q.1).size≤_;rw[bR];exact hk q hq
 obtain⟨D0,hown,Th,hsize⟩:=ahj hM hmk oM;have ef:=hown.lt;have hseq:SeqGives Fence.wide 2 prog 193 #[.pointer (some ⟨w.heap.size,0,none⟩)] encStr (fun ss=>ss.Perm (strKeys D0)) (Maps.size D0) (w.alloc (.cells #[.map (some b)] 130)) :=
  AnyZ.keys_gives (ρ := keysB_ren) { keysB with } Fence.wide _ trivial rfl oM w.heap.size b m.length D0 _ sM sM (by
   obtain⟨es,clock,hb,Ft,hs,hD⟩:=hown;exact⟨es,clock,(rS _ _ b ef).trans hb,Ft,hs,hD⟩)
 have cS:=AnyZ.sorted_in sortedB Fence.wide 5 trivial trivial trivial trivial rfl oM (amW _) (enters_of func192 kR rfl) 193 #[.pointer (some ⟨w.heap.size,0,none⟩)] trivial (enters_of func193 kR rfl) _ _ (by rw[hsize];unfold maxLen;omega) (by rw[hsize];omega) _ hseq;refine((Fj (n:=5)).1 cS).mono ?_;rintro e w' ⟨v,ss,rfl,bn,hrow,-,hb⟩;have hp:ss.Perm (S.map (·.1)):=by
  refine(bn.trans Th).trans ?_;have h1:=hH.map (fun p:ByteArray × Value=>p.1.data.toList);rw[sS] at h1;have e3:S.map ((fun p:ByteArray × Value=>p.1.data.toList) ∘ uy)=S.map (·.1):=agc fun p _=>cA p.1
  rw[e3] at h1;exact h1
 have hl:ss.length=S.length:=by have:=hp.length_eq;simpa using this
 rw[show (fun x y:List UInt8=>decide (x≤y))=Go.leB from rfl,mergeSort_of_perm hp,agU hS,hl] at hrow;refine⟨v,rfl,?_,((ζ.refl _ w).alloc _).then (ζ.pM hb (fun _=>False)) φ⟩;have e1:(w.alloc (.cells #[.map (some b)] 130)).heap.size=w.heap.size+1:=gZ
 rw[e1] at hrow;have e2:(S.map (·.1)).map encStr=strs (S.map fun p=>str p.1):=by unfold strs;rw[sS,sS];rfl
 rw[e2] at hrow;exact hrow
theorem aaG {w:World} {b:Nat} {m:List (ByteArray × Value)} (hM:cM uo w b m) :
 ς 82 #[.map (some b)] w fun e w'=>e=ώ (.map (some w.heap.size))∧cM uo w' w.heap.size m∧υ w w':=by
 obtain⟨es,clock,hb,hst,hm⟩:=hM;refine(AnyW.maps_Clone cloneB b es clock w hb).mono ?_;rintro e w' ⟨rfl,rfl⟩;exact⟨rfl,⟨es,clock,(MapKept.heap_alloc w _).1,hst,hm⟩,(ζ.refl _ w).alloc _⟩
end
section
open Go Go.RowKit
structure gy (w:World) (m mb:Nat) (S:List ai):Prop where
 blk:η w m 132 #[.map (some mb)]
 map:∃aA,cM uo w mb aA∧qY aA S
 ok:nx S
section
variable {w w':World} {m mb:Nat} {S:List ai}
theorem gy.ε {F:Nat→Prop} (h:gy w m mb S) (hu:ζ F w w') (h1:¬F m) (h2:¬F mb):gy w' m mb S:=by
 obtain⟨aA,e1,e2⟩:=h.map;exact⟨h.blk.ε hu h1,⟨aA,e1.ε hu h2,e2⟩,h.ok⟩
theorem gy.still (h:gy w m mb S) (hu:υ w w'):gy w' m mb S:=h.ε hu id id
theorem gy.lt (h:gy w m mb S):m<w.heap.size∧mb<w.heap.size:=by
 obtain⟨aA,e1,e2⟩:=h.map;exact⟨h.blk.lt,e1.lt⟩
theorem gy.each (h:gy w m mb S):∀p ∈ S,p.1.length≤33∧p.2.length≤32:=fun p hp=>⟨Fp (h.ok.each p hp).1,(h.ok.each p hp).2⟩
end
theorem abP (w:World):ς 64 #[] w fun e w'=>∃m mb,e=ώ (.pointer (some ⟨m,0,none⟩))∧gy w' m mb []∧w.heap.size≤m∧w.heap.size≤mb∧υ w w':=by
 have K1:=@run_makeMap prog;go_enter func64,ntmps64
 go_wp2_with fail
 go_ret
 have hb:=η.new (w.alloc (.map #[] 0)) 132 #[.map (some w.heap.size)];rw[dx] at hb;exact⟨_,w.heap.size,rfl,⟨hb,⟨[],(cM.new w).alloc _,List.Perm.refl _⟩,nx.nil⟩,oM,bO _,((ζ.refl _ w).alloc _).alloc _⟩
theorem abe {w:World} {m mb:Nat} {S:List ai} (h:gy w m mb S):ς 55 #[.pointer (some ⟨m,0,none⟩)] w fun e w'=>∃m2 fu,e=ώ (.pointer (some ⟨m2,0,none⟩))∧gy w' m2 fu S∧w.heap.size≤m2∧w.heap.size≤fu∧υ w w':=by
 obtain⟨aA,e1,e2⟩:=h.map;have cv:=aaG e1;have cm:=h.blk.dX;have mZ:=δ cv;have H:=τ e2 h.ok;clear h e1 e2 cv;go_enter func55,ntmps55
 go_wp2_with fail
 refine mZ.out.mono ?_;rintro e w1 ⟨rfl,hM,hU⟩;have HM:=τ hM hU;clear hM hU;go_wp2_with fail
 go_ret
 refine⟨_,w.heap.size,rfl,⟨η.new _ _ _,⟨aA,HM.out.1.alloc _,H.out.1⟩,H.out.2⟩,HM.out.2.size,bO _,HM.out.2.alloc _⟩
def Uc (S:List ai) (p:List UInt8):Value:=.tuple #[.string (str ((lT p S).getD [])),.bool (lT p S).isSome]
theorem amY {w:World} {m mb:Nat} {S:List ai} (h:gy w m mb S) (p:ByteArray):ς 19 #[.pointer (some ⟨m,0,none⟩),.string p] w fun e w'=>e=ώ (Uc S p.data.toList)∧w=w':=by
 obtain⟨aA,e1,e2⟩:=h.map;have hz:(zeroValue 9).run prog w=.ok (.string ByteArray.empty) w:=by simp[go_sem];rfl
 have hl:=e1.IP (P:=prog) FO underlying130 underlying9 p true hz;have hg:=e2.T5 e1.nodup h.ok.xX p.data.toList;rw[FJ] at hg;rw[hg] at hl;have hv:(if true=true then Value.tuple #[(Option.map (fun v=>Value.string (str v)) (lT p.data.toList S)).getD (.string ByteArray.empty),.bool (Option.map (fun v=>Value.string (str v)) (lT p.data.toList S)).isSome] else (Option.map (fun v=>Value.string (str v)) (lT p.data.toList S)).getD (.string ByteArray.empty))=.tuple #[.string (str ((lT p.data.toList S).getD [])),.bool (lT p.data.toList S).isSome]:=by
  rw[π rfl];cases lT p.data.toList S<;>rfl
 rw[hv] at hl;unfold Uc;obtain⟨V,hV⟩:=μ (str ((lT p.data.toList S).getD []));obtain⟨B,hB⟩:∃V,(lT p.data.toList S).isSome=V:=⟨_,rfl⟩;rw[hV,hB] at hl ⊢;have cm:=h.blk.dX;clear h e1 e2 hz hg hv hV hB;go_enter func19,ntmps19
 go_wp2_with fail
 go_ret2
 exact⟨rfl,rfl⟩
theorem Own.amZ {w:World} {base n size:Nat} {e:TypeId} {v:Value} {xs:List Value} (h:w.ownsRow base e size v n xs):Own w e size v n xs∧∀q,v.ownBlock=some q→base≤q:=by
 refine⟨⟨h.1,?_⟩,?_⟩
 ·rcases h.2 with ⟨e1,e2⟩ | ⟨g,cap,cur,e1,e2,e3,e4,e5,e6,e7⟩
  ·exact .inl ⟨e1,e2⟩
  ·exact .inr ⟨g,cap,cur,(0,0),e1,e3,.inl rfl,e4,e5,e6,e7⟩
 ·intro q hq
  rcases h.2 with ⟨e1,e2⟩ | ⟨g,cap,cur,e1,e2,e3,e4,e5,e6,e7⟩
  ·rw[e1] at hq;simp[Value.ownBlock] at hq
  ·rw[e1] at hq
   have:g=q:=by simpa [Value.ownBlock] using hq
   omega
theorem akN {w:World} {m mb:Nat} {S:List ai} (h:gy w m mb S):ς 77 #[.pointer (some ⟨m,0,none⟩)] w fun e w'=>∃v,e=ώ v∧Own w' 9 1 v S.length (strs (S.map fun p=>str p.1))∧(∀q,v.ownBlock=some q→w.heap.size≤q)∧υ w w':=by
 obtain⟨aA,e1,e2⟩:=h.map;have hks:=amX (some mb) w;have jh:=akM e1 e2 h.ok.xX (fun p hp=>oN (h.each p hp)) (oN h.ok.len);have cm:=h.blk.dX;have HK:=δ hks;have HS:=δ jh;clear h e1 e2 hks jh;go_enter func77,ntmps77
 go_wp2_with fail
 refine HK.out.mono ?_;rintro e w1 ⟨rfl,rfl⟩;go_wp2_with fail
 refine HS.out.mono ?_;rintro e w2 ⟨v,rfl,hrow,hU⟩;have H2:=τ hrow hU;clear hrow hU;go_wp2_with fail
 go_ret
 obtain⟨a,b⟩:=Own.amZ H2.out.1;exact⟨_,rfl,a,fun q hq=>oN (b q hq),H2.out.2⟩
def bC (p:ai):List Value:=[.string (str p.1),.string (str p.2)]
def rZ (l:List ai):List Value:=l.flatMap bC
theorem YQ (l:List ai) (p:ai):rZ (l++[p])=rZ l++bC p:=by unfold rZ;rw[xq];simp
theorem Nl:(prog.info? 55).map (fun i=>(i.zero,i.size,i.bytes))=some (some (.agg #[.string ByteArray.empty,.string ByteArray.empty]),2,32):=kR
theorem abQ {w:World} {m mb:Nat} {S:List ai} (h:gy w m mb S):ς 30 #[.pointer (some ⟨m,0,none⟩)] w fun e w'=>∃v,e=ώ v∧Own w' 55 2 v S.length (rZ S)∧(∀q,v.ownBlock=some q→w.heap.size≤q)∧υ w w':=by
 have HP:=δ (akN h);have H:=δ h;have apj:=h.ok.len;obtain⟨ti,bx,bU,bK,aY⟩:=jD Nl;have HI:=aF bx bU bK aY;clear h bx bU bK aY;go_enter func30,ntmps30
 go_wp2_with fail
 refine HP.out.mono ?_;rintro e w1 ⟨v,rfl,hO,hv,hU⟩;obtain⟨A,cap,rfl,-,-⟩:=hO.shape;have H1:=aq hO hv hU;clear hU hO hv;go_wp2_with fail
 go_loopw [3,5,9] (fun x _ i wr=>∃k:Nat,k≤S.length∧i=ι (k:Int)∧Own wr 55 2 x k (rZ (S.take k))∧(∀q,x.ownBlock=some q→w1.heap.size≤q)∧υ w1 wr) (fun _ _ i _=>S.length - (intOf i).toNat)
 case atStart=>exact⟨0,oM,rfl,Own.nil _ _ _,by simp[Value.ownBlock],ζ.refl _ _⟩
 case round =>
  obtain⟨k,hk,rfl,hX,hx,hU⟩:=hrel;by_cases hlt:k<S.length
  ·obtain⟨g,cp,EB,-,-⟩:=H1.out.1.head oM
   injection EB with EB;subst EB;have hcell:wr.cell? ⟨g,0+k,none⟩=some (.string (str S[k].1)):=by
    have h1:=(H1.out.1.ε hU (fun _ _ e=>e)).cellAt k oM;rw[lK,h1];simp[strs,hlt]
   obtain⟨aA,e1,e2⟩:=H.out.map;have kZ:=H1.out.2.2.then hU φ;have hM:=e1.ε kZ id;have hz:(zeroValue 9).run prog wr=.ok (.string ByteArray.empty) wr:=by simp[go_sem];rfl
   have hl:=hM.IP (P:=prog) FO underlying130 underlying9 (str S[k].1) false hz;rw[e2.T5 e1.nodup H.out.ok.xX,Sd H.out.ok.xX (eE hlt)] at hl;have cU:rZ (S.take (k+1))=rZ (S.take k)++bC S[k]:=by rw[ia hlt,YQ]
   have cm:=(H.out.blk.ε kZ id).dX;obtain⟨P,hP⟩:=μ (str S[k].1);obtain⟨V,hV⟩:∃P,str S[k].2=P:=⟨_,rfl⟩;have pq:bC S[k]=[.string P,.string V]:=by unfold bC;rw[hP,hV]
   rw[hP] at hcell hl;rw[pq] at cU;have hl2:(Instr.lookup 130 (.map (some mb)) (.string P) false).run prog wr=.ok (.string V) wr:=by rw[← hV];exact hl
   rw[lK] at hcell;obtain⟨A2,fJ,rfl,-,-⟩:=hX.shape;have j1:(k:Int)<(S.length:Int):=oM;have HX:=aF hX hx hU cU;clear hX hx hU cU hM e1 e2 hz hl pq kZ hP hV;go_wp2_with (first
    |(at_builtin;refine kr rfl _ _ _ _ rfl 55 ti _ 2 32 underlying56 HI.out.1 HI.out.2.1 HI.out.2.2.1 HI.out.2.2.2 rfl (.slice A2 k fJ) k _ rfl (HX.out.1.alloc _) _ 1 [_,_] rfl (Src.rY underlying56 _ rfl) jN ke oM ?_;intro v2 w15 tD oC ye yf
      have jR:=aF tD oC ye yf;clear tD oC ye yf))
   go_roundw
   case rel =>
    have hw:=HX.out.2.2.1.size;refine⟨v2,.string P,ι ((k:Int)+1),⟨k+1,oM,by go_num,?_,fun q hq=>?_,((HX.out.2.2.1.alloc _).then jR.out.2.1 (fun q e=>.inr (HX.out.2.1 q e)))⟩,rfl,rfl,rfl⟩
    ·rw[HX.out.2.2.2];exact jR.out.1
    ·rcases jR.out.2.2.1 with e | e
     ·exact HX.out.2.1 q ux
     ·rw[hq] at e
      have:=dM e;rw[dx] at this;omega
   case measure=>simp[intOf]<;>omega
  ·obtain rfl:k=S.length:=oM
   rw[sW] at hX;have HX:=aq hX hx hU;clear hX hx hU;go_wp2_with fail
   go_ret
   exact⟨_,rfl,HX.out.1,fun q hq=>oO (HX.out.2.1 q hq) H1.out.2.2.size,H1.out.2.2.then HX.out.2.2 φ⟩
end
end Go.Proofs.YtbhjgfibhegddaaGreat
