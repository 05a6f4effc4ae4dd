/-
  Parts of the proof of VaultFalls: FallV, FallW, VlFuse, Same, Ref12, Ref13A, Ref13B.
-/
import Derived.Test.YtbhjgfibhegddaaGreatQVaultFalls20
set_option maxRecDepth 100000
set_option maxHeartbeats 16000000
namespace Go.Proofs.YtbhjgfibhegddaaGreat
abbrev QX:=@decide_eq_decide
abbrev agk:=@List.cons_lt_cons_iff
abbrev Yl:=@UInt8.lt_iff_toNat_lt
abbrev Mj:=@Nat.le_of_not_lt
open Tryz
section
open Go Go.RowKit
def nW {α : Type} (Q:Dk→Prop) (r r0:Dk × α × Int):Prop:=(r.1.off=false∧r.1.free=r0.1∧r.2=r0.2)∨(r.1.off=true∧r.2.2=14∧Q r.1)
theorem nW.imp {α : Type} {Q Q':Dk→Prop} {r r0:Dk × α × Int} (h:nW Q r r0) (hq:Q r.1→Q' r.1):nW Q' r r0:=Or.imp id (fun ⟨a,b,e⟩=>⟨a,b,hq e⟩) h
theorem nW.same {α : Type} {Q:Dk→Prop} {d:Dk} (ho:d.off=false) (x : α × Int):nW Q (d,x) (d.free,x):=.inl ⟨ho,rfl,rfl⟩
def Bz (d D:Dk) (a:Nat) (l:List ByteArray) (n:Nat):Prop:=∃k,k≤n∧D.free=(bV d.free a l k).1
def fB (d:Dk) (a:Nat) (l:List ByteArray) (n:Nat):Dk × Int:=if (bV d a l n).2≠0 then bV d a l n else (bV d a l n).1.sync
theorem RU {d:Dk} (ho:d.off=false) (hw:d.waits.length=d.ψ.length) (a:Nat) (l:List ByteArray) (hs:∀q ∈ l,q.size=64) (n:Nat) (hn:n≤l.length) (ha:a+n≤d.ψ.length) :
 ((fB d a l n).2=0∧(fB d a l n).1.off=false∧(fB d a l n).1.free=(fB d.free a l n).1∧(fB d.free a l n).2=0) ∨
 ((fB d a l n).2=14∧(fB d a l n).1.off=true∧Bz d (fB d a l n).1 a l n):=by
 rcases ahW ho hw a l hs n hn ha with ⟨t1,t2,t3⟩ | ⟨t1,t2,k,t3,t4⟩
 ·obtain⟨f1,f2,f3,f4⟩:=Fo (d:=d.free) rfl rfl hw a l hs n hn ha
  have e0:fB d.free a l n=((bV d.free a l n).1.flush,0):=by
   unfold fB;rw[ν (by rw[f1];simp),Dk.MU f2 f3]
  have e1:fB d a l n=(bV d a l n).1.sync:=by
   unfold fB;rw[ν (by rw[t1];simp)]
  rw[e0,e1];rcases Dk.akA t2 with ⟨u1,u2,u3⟩ | ⟨u1,u2,u3⟩
  ·exact .inl ⟨u1,u2,by rw[u3,t3],rfl⟩
  ·exact .inr ⟨u1,u2,n,bO _,by rw[u3,t3]⟩
 ·have e1:fB d a l n=bV d a l n:=by
   unfold fB;rw[π (by rw[t1];simp)]
  rw[e1];exact .inr ⟨t1,t2,k,t3,t4⟩
structure amj (d D:Dk) (a:Nat) (l:List ByteArray) (n:Nat):Prop where
 bP:D.bP=-1
 off:D.off=false
 waits:D.waits.length=D.ψ.length
 len:D.ψ.length=d.ψ.length
 pend:D.pend=0
 now:∀i,i<d.ψ.length→D.now i=d.now i∨(a≤i∧i<a+n∧D.now i=l.getD (i - a) ByteArray.empty)
theorem Bz.eT {d D:Dk} {a:Nat} {l:List ByteArray} {n:Nat} (hT:Bz d D a l n) (hw:d.waits.length=d.ψ.length) (h0:d.pend=0) (hs:∀q ∈ l,q.size=64) (hn:n≤l.length) (ha:a+n≤d.ψ.length) (hwf:D.wf) (keep:List Int):amj d (D.eT keep) a l n:=by
 obtain⟨k,hk,hD⟩:=hT;obtain⟨s1,s2,s3⟩:=ug d.free a l hw k;have hl:D.ψ.length=d.ψ.length:=aI List.length ((aI Dk.ψ hD).trans s1);have V5:D.waits.length=d.waits.length:=(aI (fun x:Dk=>x.waits.length) hD).trans s2;refine⟨rfl,rfl,by rw[Dk.agT,Dk.Zf,V5,hl,hw],by rw[Dk.Zf,hl],Dk.Zd hwf keep,fun i hi=>?_⟩;rcases akC hw h0 a l hs k oM oM hD keep i hi with e | ⟨e1,e2,e3⟩
 ·exact .inl e
 ·exact .inr ⟨e1,oM,e3⟩
theorem abY (d:Dk) {k:Kp} {t:List UInt8} (hb:k.broken=false) (ht:t.length≤400) (hs:k.seen+1<18446744073709551616) :
 dG d k t=if (fB d (k.from_+(1 - k.at_)*10) ((aU t (k.seen+1)).map Pt.sec) (aM t.length)).2≠0 then ((fB d (k.from_+(1 - k.at_)*10) ((aU t (k.seen+1)).map Pt.sec) (aM t.length)).1,{ k with broken:=true },(fB d (k.from_+(1 - k.at_)*10) ((aU t (k.seen+1)).map Pt.sec) (aM t.length)).2)
  else ((fB d (k.from_+(1 - k.at_)*10) ((aU t (k.seen+1)).map Pt.sec) (aM t.length)).1,k.put t,0):=by
 have cv:=od t (k.seen+1);unfold dG fB;rw[hb,ν sM,ν oM,ν oM,aaD _ _ _ _ oM];by_cases h:(bV d (k.from_+(1 - k.at_)*10) ((aU t (k.seen+1)).map Pt.sec) (aM t.length)).2≠0
 ·rw[π h,π h,π h]
 ·rw[ν h,ν h]
  rfl
theorem abl (d:Dk) {g:Lg} {s:ByteArray} (hb:g.broken=false) (hs:s.size≤1024) (hf:partsOf s.size≤g.dS - g.used) (KW:g.af≠18446744073709551615) :
 jK d g s=if (fB d (g.from_+g.used) (gM g s.data.toList) (partsOf s.size)).2≠0 then ((fB d (g.from_+g.used) (gM g s.data.toList) (partsOf s.size)).1,{ g with broken:=true },(fB d (g.from_+g.used) (gM g s.data.toList) (partsOf s.size)).2)
  else ((fB d (g.from_+g.used) (gM g s.data.toList) (partsOf s.size)).1,g.added s,0):=by
 have hl:s.data.toList.length=s.size:=gZ
 unfold jK qZ fB;rw[hb,ν sM,ν oM,ν oM,hl];by_cases h:(bV d (g.from_+g.used) (gM g s.data.toList) (partsOf s.size)).2≠0
 ·rw[π h,π h,π h]
 ·rw[ν h,ν h]
  rfl
theorem YB (d:Dk) {slot:Nat} {t:List UInt8} (h:bS t≤80):gw d slot t=fB d (dN slot) (jm t) (bS t):=by
 unfold gw fB;rw[ν oM]
theorem aaP {α : Type} {d:Dk} {a:Nat} {l:List ByteArray} {n:Nat} (x y : α) (h:((fB d a l n).2=0∧(fB d a l n).1.off=false∧(fB d a l n).1.free=(fB d.free a l n).1∧(fB d.free a l n).2=0) ∨
 ((fB d a l n).2=14∧(fB d a l n).1.off=true∧Bz d (fB d a l n).1 a l n)) :
 nW (fun D=>Bz d D a l n) (if (fB d a l n).2≠0 then ((fB d a l n).1,x,(fB d a l n).2) else ((fB d a l n).1,y,0)) (if (fB d.free a l n).2≠0 then ((fB d.free a l n).1,x,(fB d.free a l n).2) else ((fB d.free a l n).1,y,0)):=by
 rcases h with ⟨h1,h2,h3,h4⟩ | ⟨h1,h2,h3⟩
 ·rw[ν (by rw[h1];simp),ν (by rw[h4];simp)]
  exact .inl ⟨h2,h3,rfl⟩
 ·rw[π (by rw[h1];simp)]
  exact .inr ⟨h2,h1,h3⟩
section
variable {d:Dk} {k:Kp} {g:Lg} {L0 L1:List (Option Pt)} {rs:List (List UInt8 × Nat)} {R:List (Option Lp)}
theorem ij.secs (h:ij d k L0 L1) (t:List UInt8) (ht:t.length≤400) (hs:k.seen+1<18446744073709551616):(∀q ∈ (aU t (k.seen+1)).map Pt.sec,q.size=64)∧aM t.length≤((aU t (k.seen+1)).map Pt.sec).length∧k.from_+(1 - k.at_)*10+aM t.length≤d.ψ.length:=by
 have e64:(2:Nat) ^ (8*8)=18446744073709551616:=dC;have hat:=h.at_;have hroom:=h.room;have hall:aM t.length≤9:=zJ
 have hok:=Su t (k.seen+1) oM oM ht;have cv:=od t (k.seen+1);refine⟨fun q hq=>?_,by rw[bz,cv];exact bO _,oM⟩;obtain⟨p,hp,rfl⟩:=cu.1 hq;exact aat p (hok p hp)
theorem ij.abm (h:ij d.free k L0 L1) (ho:d.off=false) (t:List UInt8) (ht:t.length≤400) (hs:k.seen+1<18446744073709551616) :
 nW (fun D=>Bz d D (k.from_+(1 - k.at_)*10) ((aU t (k.seen+1)).map Pt.sec) (aM t.length)) (dG d k t) (dG d.free k t):=by
 obtain⟨s1,s2,s3⟩:=h.secs t ht hs;rw[abY d h.broken ht hs,abY d.free h.broken ht hs];exact aaP _ _ (RU ho h.waits _ _ s1 _ s2 s3)
theorem ij.aaQ (h:ij d.free k L0 L1) (hp:d.pend=0) (t:List UInt8) (ht:t.length≤400) (hs:k.seen+1<18446744073709551616) {D:Dk} (hT:Bz d D (k.from_+(1 - k.at_)*10) ((aU t (k.seen+1)).map Pt.sec) (aM t.length)) (hwf:D.wf) (keep:List Int) :
 ∃ k' oJ oK,ij (D.eT keep) k' oJ oK∧k'.from_=k.from_∧k'.seen≤k.seen+1∧(k'=k.put t∨(k'.text=k.text∧k'.gen=k.gen))∧(D.eT keep).ψ.length=d.ψ.length∧(D.eT keep).pend=0 ∧
  ∀i,i<d.ψ.length→(i<k.from_∨k.from_+20≤i)→(D.eT keep).now i=d.now i:=by
 obtain⟨s1,s2,s3⟩:=h.secs t ht hs;have hC:=hT.eT h.waits hp s1 s2 s3 hwf keep;obtain⟨k',oJ,oK,m1,m2,m3,m4,-⟩:=h.mix t ht hs hC.bP hC.off hC.waits hC.len hC.now;have hat:=h.at_;have hall:aM t.length≤9:=zJ
 refine⟨k',oJ,oK,m1,m2,m3,m4,hC.len,hC.pend,fun i hi ho=>?_⟩;rcases hC.now i hi with e | ⟨e1,e2,-⟩
 ·exact e
 ·omega
theorem kS.secs (h:kS d g rs R) (s:ByteArray) (hs:s.size≤1024) (hr:partsOf s.size≤R.length) (xW:g.af<18446744073709551615):(∀q ∈ gM g s.data.toList,q.size=64)∧partsOf s.size≤(gM g s.data.toList).length∧g.from_+g.used+partsOf s.size≤d.ψ.length:=by
 have e64:(2:Nat) ^ (8*8)=18446744073709551616:=dC;have uz:s.data.toList.length=s.size:=gZ
 have eV:=h.θ;have VY:=h.Nz;have hlen:=h.len;have hu:=h.used;have hro:=h.room;have hok:=Ny s.data.toList g.θ (g.af+1) g.last h.zu oM oM oM oM;have dJ:=MT g s.data.toList;rw[uz] at dJ;refine⟨fun q hq=>?_,oM,oM⟩;obtain⟨p,hp,rfl⟩:=cu.1 hq;exact ZE p (hok p hp)
theorem kS.NF (h:kS d.free g rs R) (ho:d.off=false) (s:ByteArray) (hs:s.size≤1024) (hr:partsOf s.size≤R.length) (xW:g.af<18446744073709551615) :
 nW (fun D=>Bz d D (g.from_+g.used) (gM g s.data.toList) (partsOf s.size)) (jK d g s) (jK d.free g s):=by
 obtain⟨s1,s2,s3⟩:=h.secs s hs hr xW;have hlen:=h.len;have hu:=h.used;rw[abl d h.broken hs oM oM,abl d.free h.broken hs oM oM];exact aaP _ _ (RU ho h.waits _ _ s1 _ s2 s3)
end
def Rest (D:Dk) (R:bq) (c:Nat):Prop:=∃V S0,cx D V S0 c∧V.abs=R
def JN (R:bq) (r:bq × Int) (c:Nat) (D:Dk):Prop:=∀keep,D.wf→∃R2,Rest (D.eT keep) R2 c∧(R2=R∨(r.2=0∧R2=r.1)∨(R.rows.length=24∧R2=R.mq))
theorem cx.mono {d:Dk} {V:aQ} {S0:List ai} {c c':Nat} (h:cx d V S0 c) (hc:c≤c'):cx d V S0 c' := { h with aL:=h.aL.mono hc,num:=ic h.num hc }
theorem Rest.mono {D:Dk} {R:bq} {c c':Nat} (h:Rest D R c) (hc:c≤c'):Rest D R c':=by
 obtain⟨V,S0,h1,h2⟩:=h;exact⟨V,S0,h1.mono hc,h2⟩
theorem afe {P:Prop} (h:P:=by
 simp only[tY] at h1 h2 h3;obtain⟨rfl,rfl⟩:=h3;simp only
 by_cases e:x3≠0
 ·rw[π e,π e];exact .inl ⟨h1,h2,rfl⟩
 ·rw[ν e,ν e];exact .inl ⟨h1,h2,rfl⟩):P:=h
theorem aaR {Q:Dk→Prop} {d:Dk} {V:aQ} {s:dw} (h:nW Q (dG d V.kp (cG s (V.wrap er s.m.aW))) (dG d.free V.kp (cG s (V.wrap er s.m.aW)))):nW Q (dm d V s) (dm d.free V s):=by
 unfold dm;generalize dG d V.kp (cG s (V.wrap er s.m.aW))=X at h;generalize dG d.free V.kp (cG s (V.wrap er s.m.aW))=Y at h;obtain⟨x1,x2,x3⟩:=X;obtain⟨y1,y2,y3⟩:=Y;rcases h with ⟨h1,h2,h3⟩ | ⟨h1,h2,h3⟩
 ·exact afe
 ·simp only at h1 h2 h3
  simp only
  rw[π (by rw[h2];simp)]
  exact .inr ⟨h1,h2,h3⟩
section
variable {d:Dk} {V:aQ} {S0:List ai} {c:Nat}
theorem cx.Si (h:cx d.free V S0 c) (hc:c<99000) (ho:d.off=false) (s':dw) (h1:s'.at_=V.st.at_) (h2:s'.θ=V.st.θ) (h3:s'.slot=V.st.slot) (h4:s'.log=V.st.log) (h5:V.st.key≤s'.key) (wK:s'.key≤c+1) (h6:s'.κ≤c+1) (h6b:V.st.κ≤s'.κ) (h7:dF s'.m=true)
 (h8:s'.m.seen≤9223372036854775807∧s'.m.aH≤9223372036854775807) (V0:aQ) (hkp:V0.kp=V.kp) (ht:gY s'.key er s'.m.aW (V0.wrap er s'.m.aW)) :
 nW (fun D=>∀keep,D.wf→∃R2,Rest (D.eT keep) R2 (c+1)∧(R2=V.abs∨R2 = { V.abs with m:=s'.m,key:=s'.key })) (dm d V0 s') (dm d.free V0 s'):=by
 obtain⟨L0,L1,hk⟩:=h.aL.kept;have yN:=h.aL.vD;have pg:=h.aL.aba oM s' h1 h2 h3 h4 wK h6 h7 h8 ht;have hT:=hk.abm ho (cG s' (V0.wrap er s'.m.aW)) pg oM;rw[← hkp] at hT;refine(aaR hT).imp fun hD keep hwf=>?_
 rw[hkp] at hD;obtain⟨k',oJ,oK,m1,m2,m3,m4,m5,m6,m7⟩:=hk.aaQ h.aL.good.pend _ pg oM hD hwf keep;have aoK:=h.gen;have gH:=h.κ;have aff:=h.num;rcases m4 with rfl | ⟨m4,m8⟩
 ·refine⟨_,⟨{ V with kp:=V.kp.put (cG s' (V0.wrap er s'.m.aW)),st:=s',cur:=s'.key },S0,⟨h.aL.NQ s' h1 h2 h3 h4 h5 wK h6 h7 (.inr ⟨by show 0<V.kp.seen+1;omega,_,ht,rfl⟩) h.aL.tq (by show V.kp.seen+1≤c+1;omega) m1 m5 m6 m7,?_,?_,rfl,by show V.n≤_;omega,h.up,h.sL,by show 1≤s'.κ;omega,by show 0<V.kp.seen+1;omega,h8⟩,rfl⟩,.inr rfl⟩
  ·show ja V.rows (S0,s'.at_,s'.θ)=_
   rw[h1,h2];exact h.rep
  ·show V.prev=s'.θ
   rw[h2];exact h.prev
 ·refine⟨_,⟨{ V with kp:=k' },S0,⟨h.aL.NQ V.st rfl rfl rfl rfl (bO _) (oN h.aL.keys) (oN h.aL.qu) h.aL.right (by rw[m4,m8];exact h.aL.text) (m2.trans h.aL.tq) (by show k'.seen≤_;omega) m1 m5 m6 m7,h.rep,h.prev,h.cur,by show V.n≤_;omega,h.up,h.sL,h.κ,by show 0<k'.gen;omega,h.mn⟩,rfl⟩,.inl rfl⟩
theorem cx.O5 (h:cx d.free V S0 c) (ho:d.off=false):iI d V=false∧iI d.free V=false:=by
 unfold iI;rw[h.up,ho];exact⟨rfl,rfl⟩
theorem cx.amk (h:cx d.free V S0 c) (hc:c<99000) (ho:d.off=false) (m:MetaM) (mX:m.seen≤9223372036854775807∧m.aH≤9223372036854775807):nW (JN V.abs (kE V.abs m) (c+1)) (zQ d V m) (zQ d.free V m):=by
 obtain⟨e1,e2⟩:=h.O5 ho;unfold zQ kE;simp only[e1,e2,mH,jj];by_cases hr:dF m=false
 ·simp only[π hr]
  exact .same ho _
 ·simp only[ν hr]
  refine(h.Si hc ho { V.st with m:=m } rfl rfl rfl rfl (bO _) (by have:=h.aL.keys;show V.st.key≤_;omega) Ua (bO _) (by simpa using hr) mX V rfl (h.uk oM er m.aW)).imp fun hQ keep hwf=>?_
  obtain⟨R2,a,b⟩:=hQ keep hwf;exact⟨R2,a,b.imp id fun e=>.inl ⟨rfl,e⟩⟩
theorem cx.aib (h:cx d.free V S0 c) (hc:c<99000) (ho:d.off=false):nW (JN V.abs (rotateR V.abs) (c+1)) (xI d V) (xI d.free V):=by
 have hk:=h.aL.keys;obtain⟨e1,e2⟩:=h.O5 ho;unfold xI rotateR;simp only[e1,e2,mH,jj];have hk1:¬1048576≤V.st.key:=oM;have hk2:¬1048576≤V.abs.key:=hk1;simp only[ν hk1,ν hk2];have hT:=h.Si hc ho { V.st with key:=V.st.key+1 } rfl rfl rfl rfl (Nat.le_succ _) (by show V.st.key+1≤_;omega) Ua (bO _) h.aL.right h.mn V rfl ((h.uk oM er V.st.m.aW).mono (Nat.le_succ _));generalize dm d V { V.st with key:=V.st.key+1 } = X at hT ⊢;generalize dm d.free V { V.st with key:=V.st.key+1 } = Y at hT ⊢;obtain⟨x1,x2,x3⟩:=X;obtain⟨y1,y2,y3⟩:=Y;rcases hT with ⟨h1,h2,h3⟩ | ⟨h1,h2,h3⟩
 ·exact afe
 ·simp only at h1 h2 h3
  simp only
  rw[π (by rw[h2];simp)]
  refine .inr ⟨h1,h2,fun keep hwf=>?_⟩;obtain⟨R2,a,b⟩:=h3 keep hwf;exact⟨R2,a,b.imp id fun e=>.inl ⟨rfl,e⟩⟩
theorem cx.ala (h:cx d.free V S0 c) (hc:c<99000) (ho:d.off=false):nW (fun D=>∀keep,D.wf→Rest (D.eT keep) V.abs (c+1)) (vE d V) (vE d.free V):=by
 have h1:=h.aL.keys;have h2:=h.aL.qu;refine(h.Si hc ho { V.st with κ:=V.st.κ+1 } rfl rfl rfl rfl (bO _) (by show V.st.key≤_;omega) (by show V.st.κ+1≤_;omega) (Nat.le_succ _) h.aL.right h.mn V.again rfl
  (show gY V.st.key er V.st.m.aW (V.again.wrap er V.st.m.aW) from ⟨V.cur,V.st.κ+1,0,by rw[h.cur];exact bO _,by rw[h.cur];omega,oM,oM,rfl⟩)).imp fun hQ keep hwf=>?_
 obtain⟨R2,a,b⟩:=hQ keep hwf;rcases b with rfl | rfl<;>exact a
end
section
variable {d:Dk} {V:aQ} {S0:List ai} {c:Nat}
theorem cx.Z7 (h:cx d.free V S0 c) (hc:c<99000) (ho:d.off=false) (m:MetaM) (hm:dF m=true) (mX:m.seen≤9223372036854775807∧m.aH≤9223372036854775807) (x:List ai) (hx:nx x) (a e:Int) (hp:om a e) :
 nW (fun D=>∀keep,D.wf→∃R2,Rest (D.eT keep) R2 (c+2)∧(R2=V.abs∨R2 = { V.abs with m:=m,S:=x,at_:=a,θ:=e,rows:=[],prev:=e })) (gX d V m x a e) (gX d.free V m x a e):=by
 have hxl:=rX hx;have dJ:=(h.uk oM kD (gL x)).len oM;have nT:1≤bS (V.wrap kD (gL x)):=by unfold bS;omega
 have hn2:bS (V.wrap kD (gL x))≤80:=Be oM;obtain⟨D1',q1,q2,q3⟩:=h.aL.acu (V.wrap kD (gL x)) nT hn2;have hgd:=h.aL.good;have hlen:d.ψ.length=500:=hgd.len;have cn:=h.aL.slots;have hpl:dN (1+V.st.slot % 2)+80≤500:=yj
 have aps:=Yw (V.wrap kD (gL x));have hW:=RU ho hgd.waits (dN (1+V.st.slot % 2)) _ (Q3 (V.wrap kD (gL x))) (bS (V.wrap kD (gL x))) oM oM;rw[← YB d hn2,← YB d.free hn2,q1] at hW;unfold gX;simp only
 rw[show (V.st.whole m a e).slot=1+V.st.slot % 2 from rfl,show (V.st.whole m a e).log=V.st.log+1 from rfl,q1];generalize gw d (1+V.st.slot % 2) (V.wrap kD (gL x))=X at hW;obtain⟨D1,e1⟩:=X;simp only at hW ⊢
 rcases hW with ⟨rfl,w2,rfl,-⟩ | ⟨rfl,w2,w3⟩
 ·simp only[AY,QI,jj]
  -- the state
  have ht:=h.abd oM er m.aW;have hu:=h.uk oM kD (gL x);obtain⟨L0,L1,hk⟩:=q2.kept;have yN:=h.aL.vD;have pg:=q2.ZJ oM m a e hm mX hp ht;have hP:=hk.abm w2 (cG (V.st.whole m a e) (V.next.wrap er m.aW)) pg oM;have WQ:nW _ (dm D1 V.next (V.st.whole m a e)) (dm D1.free V.next (V.st.whole m a e)):=aaR hP;obtain⟨D',g',r1,r2,r3⟩:=q2.whole oM m x a e hm mX hx hp hu q3 ht;have hput:dm D1.free V.next (V.st.whole m a e)=(D',{ V.next.next with kp:=V.kp.put (cG (V.st.whole m a e) (V.next.wrap er m.aW)),st:=V.st.whole m a e },0):=by
   unfold dm;rw[show (V.st.whole m a e).m.aW=m.aW from rfl,show V.next.kp=V.kp from rfl,r1,ν sM]
  rw[hput] at WQ ⊢;generalize dm D1 V.next (V.st.whole m a e)=Y at WQ;obtain⟨D2,V2,e2⟩:=Y;rcases WQ with ⟨p1,p2,p3⟩ | ⟨p1,p2,p3⟩
  ·simp only[tY] at p1 p2 p3
   obtain⟨rfl,rfl⟩:=p3;simp only
   simp only[QI,jj];rw[r2];have e3:nA D2 20 320 (V.st.log+1)=some g':=by
    rw[← p2] at r2;exact r2
   rw[e3];exact .inl ⟨p1,p2,rfl⟩
  ·simp only at p1 p2 p3
   subst p2;simp only
   rw[π (show (14:Int)≠0 by decide)];refine .inr ⟨p1,rfl,fun keep hwf=>?_⟩;obtain⟨k',oJ,oK,m1,m2,m3,m4,m5,m6,m7⟩:=hk.aaQ q2.good.pend _ pg oM p3 hwf keep;have aoK:=h.gen;have gH:=h.κ;have aff:=h.num;rcases m4 with rfl | ⟨m4,m8⟩
   ·obtain⟨g2,-,s2⟩:=q2.aaE oM m x a e hm hx hp hu q3 ht m1 m5 m6 m7
    exact⟨_,⟨{ V with kp:=V.kp.put (cG (V.st.whole m a e) (V.next.wrap er m.aW)),st:=V.st.whole m a e,lg:=g2,S:=x,at_:=a,θ:=e,rows:=[],prev:=e },x,⟨s2.mono oM,rfl,rfl,h.cur,by show V.n≤_;omega,h.up,sM,h.κ,by show 0<V.kp.seen+1;omega,mX⟩,rfl⟩,.inr rfl⟩
   ·exact⟨_,⟨{ V with kp:=k' },S0,⟨(q2.NQ V.st rfl rfl rfl rfl (bO _) (oN h.aL.keys) (oN h.aL.qu) h.aL.right (by rw[m4,m8];exact h.aL.text) (m2.trans h.aL.tq) (by show k'.seen≤_;omega) m1 m5 m6 m7).mono oM,h.rep,h.prev,h.cur,by show V.n≤_;omega,h.up,h.sL,h.κ,by show 0<k'.gen;omega,h.mn⟩,rfl⟩,.inl rfl⟩
 ·rw[π (show (14:Int)≠0 by decide)]
  refine .inr ⟨w2,rfl,fun keep hwf=>?_⟩;have hC:=w3.eT hgd.waits hgd.pend (Q3 _) oM oM hwf keep;exact⟨_,⟨V,S0,({ h with aL:=h.aL.abb _ nT hn2 ⟨hC.bP,hC.off,hC.waits,hC.len.trans hlen,hC.pend⟩ fun i hi=>hC.now i oM } : cx (D1.eT keep) V S0 c).mono oM,rfl⟩,.inl rfl⟩
theorem cx.NF (h:cx d.free V S0 c) (hc:c<99500) (ho:d.off=false) (b:bQ) (he:b.θ≤9223372036854775807) (hr:V.rows.length<24) (h1:d_ b.index b.θ b.ops=0) (h2:b.index=V.at_+1) (h3:V.θ≤b.θ) (h4:fD V.S b.ops=0) :
 nW (fun D=>∀keep,D.wf→∃R2,Rest (D.eT keep) R2 (c+1)∧(R2=V.abs∨R2 = { V.abs with rows:=V.rows++[b],S:=cH V.S b.ops,at_:=b.index,θ:=b.θ })) (iu d V b) (iu d.free V b):=by
 have h48:(cH V.S b.ops).length≤48:=by
  unfold fD at h4;split at h4
  ·rename_i hh;exact absurd h4 hh
  ·split at h4
   ·simp at h4
   ·omega
 have ht:=h.uk oM jZ (ir b);obtain⟨rs,R,hl,eV⟩:=h.aL.log;obtain⟨g1,g2,g3⟩:=h.aL.um;have ef:=Je h1 he;have htl:=(ht.len oM).1;have hul:=hl.aa7;have hu:=h.aL.N2;have hsz:(str (V.wrap jZ (ir b))).size=(V.wrap jZ (ir b)).length:=bR _;have Av:partsOf (str (V.wrap jZ (ir b))).size≤12:=by rw[hsz];unfold partsOf;omega
 have KW:=h.aL.Dt;have hT:=hl.NF ho (str (V.wrap jZ (ir b))) oM oM oM;obtain⟨s1,s2,s3⟩:=hl.secs (str (V.wrap jZ (ir b))) oM oM oM;unfold iu;simp only
 generalize jK d V.lg (str (V.wrap jZ (ir b)))=X at hT;generalize jK d.free V.lg (str (V.wrap jZ (ir b)))=Y at hT;obtain⟨x1,x2,x3⟩:=X;obtain⟨y1,y2,y3⟩:=Y;rcases hT with ⟨p1,p2,p3⟩ | ⟨p1,p2,p3⟩
 ·simp only[tY] at p1 p2 p3
  obtain⟨rfl,rfl⟩:=p3;simp only
  by_cases e:x3≠0
  ·rw[π e,π e];exact .inl ⟨p1,p2,rfl⟩
  ·rw[ν e,ν e];exact .inl ⟨p1,p2,rfl⟩
 ·simp only at p1 p2 p3
  simp only
  rw[π (by rw[p2];simp)]
  refine .inr ⟨p1,p2,fun keep hwf=>?_⟩;have hgd:=h.aL.good;have hlen:d.ψ.length=500:=hgd.len;have hC:=p3.eT hgd.waits hgd.pend s1 s2 s3 hwf keep;obtain⟨g',rs',R',m1,⟨m2,m3,m4,m5⟩,m6,m7⟩:=alT (d2:=x1.eT keep) hl (str (V.wrap jZ (ir b))) oM oM oM hC.bP hC.off hC.waits hC.len (fun i hi=>by
   rcases hC.now (V.lg.from_+i) oM with e | ⟨e1,e2,e3⟩
   ·exact .inl e
   ·exact .inr ⟨oM,oM,by rw[e3,Nat.add_sub_add_left]⟩)
  have nF:∀i,i<d.free.ψ.length→(i<20∨340≤i)→(x1.eT keep).now i=d.free.now i:=fun i hi hio=>by
   rcases hC.now i hi with e | ⟨e1,e2,-⟩
   ·exact e
   ·omega
  have afg:∀p,some p ∈ (rowOf g'.θ 0 rs').map some++R'→p.θ≤V.st.log:=fun p hp=>by
   rcases m7 p hp with e | e
   ·exact eV p e
   ·omega
  have fX:=h.aL.yl;have aff:=h.num;rcases m6 with ⟨n1,n2⟩ | ⟨n1,n2⟩
  ·refine⟨_,⟨{ V with lg:=g' },S0,⟨h.aL.SZ m1 hC.len hC.pend ⟨m2,m3,m4⟩ (by show g'.af≤_;omega) afg (by show g'.used≤12*V.rows.length;omega) (by rw[n1];exact fX) (fun i a1 a2=>?_) h.aL.many nF,h.rep,h.prev,h.cur,by show V.n≤_;omega,h.up,h.sL,h.κ,h.gen,h.mn⟩,rfl⟩,.inl rfl⟩
   have:=h.aL.recs i (by rw[← n1];exact a1) a2;simp only[n1];exact this
  ·refine⟨_,⟨{ V with lg:=g',S:=cH V.S b.ops,rows:=V.rows++[b],at_:=b.index,θ:=b.θ },S0,⟨h.aL.SZ m1 hC.len hC.pend ⟨m2,m3,m4⟩ (by show g'.af≤_;omega) afg (by show g'.used≤_;rw[aN,y_];omega) (by rw[n1,aN,aN,fX];rfl) (ZI fX n1 h.aL.recs ht) (by rw[aN,y_];omega) nF,?_,h.prev,h.cur,by show V.n≤_;omega,h.up,?_,h.κ,h.gen,h.mn⟩,rfl⟩,.inr rfl⟩
   ·exact aen
   ·intro x hx
    rcases jX.1 hx with hx | hx
    ·exact h.sL x hx
    ·rw[xB.1 hx];exact he
theorem cx.aht (h:cx d.free V S0 c) (hc:c<99000) (ho:d.off=false) (m:MetaM) (mX:m.seen≤9223372036854775807∧m.aH≤9223372036854775807) (l:List ai) (a e:Int) (he:e≤9223372036854775807):nW (JN V.abs (iD V.abs m l a e) (c+2)) (zm d V m l a e) (zm d.free V m l a e):=by
 obtain⟨e1,e2⟩:=h.O5 ho;unfold zm iD;simp only[e1,e2,mH,jj];by_cases h1:dF m=false∨mK a e=false
 ·simp only[π h1]
  exact .same ho _
 ·simp only[ν h1]
  by_cases h2:(fM l).2≠0
  ·simp only[π h2]
   exact .same ho _
  ·simp only[ν h2]
   have hm:dF m=true:=by
    cases hh:dF m
    ·exact absurd (.inl hh) h1
    ·rfl
   have hp:om a e:=by
    exact aem
   refine(h.Z7 hc ho m hm mX (fM l).1 (SY oM) a e hp).imp fun hQ keep hwf=>?_
   obtain⟨R2,q1,q2⟩:=hQ keep hwf;exact⟨R2,q1,q2.imp id fun e=>.inl ⟨rfl,e⟩⟩
theorem cx.aic (h:cx d.free V S0 c) (hc:c<99000) (ho:d.off=false) (b:bQ) (he:b.θ≤9223372036854775807):nW (JN V.abs (iZ V.abs b) (c+3)) (vz d V b) (vz d.free V b):=by
 obtain⟨f1,f2⟩:=h.O5 ho;unfold vz iZ;simp only[f1,f2,mH,jj];by_cases h1:d_ b.index b.θ b.ops≠0
 ·simp only[π h1]
  exact .same ho _
 simp only[ν h1];by_cases h2:b.index≠V.at_+1∨b.θ<V.θ
 ·simp only[π h2,π (show b.index≠V.abs.at_+1∨b.θ<V.abs.θ from h2)]
  exact .same ho _
 simp only[ν h2,ν (show ¬(b.index≠V.abs.at_+1∨b.θ<V.abs.θ) from h2)];by_cases h3:fD V.S b.ops≠0
 ·simp only[π h3,π (show fD V.abs.S b.ops≠0 from h3)]
  exact .same ho _
 simp only[ν h3,ν (show ¬fD V.abs.S b.ops≠0 from h3)];have e1:d_ b.index b.θ b.ops=0:=oM;have e2:b.index=V.at_+1:=oM;have e3:V.θ≤b.θ:=oM;have e4:fD V.S b.ops=0:=oM;have zz:=h.aL.many;by_cases h4:24≤V.rows.length
 ·simp only[π h4,π (show 24≤V.abs.rows.length from h4)]
  obtain⟨D1,V1,q1,q2,q3,q4⟩:=h.whole hc V.st.m h.aL.right h.mn V.S h.pairs V.at_ V.θ h.place;have a1:V1.S=V.S:=aI bq.S q3;have a2:V1.at_=V.at_:=aI bq.at_ q3;have a3:V1.θ=V.θ:=aI bq.θ q3;have a4:V1.rows=[]:=aI bq.rows q3;have hW:=h.Z7 hc ho V.st.m h.aL.right h.mn V.S h.pairs V.at_ V.θ h.place;rw[q1] at hW;simp only[q1];generalize gX d V V.st.m V.S V.at_ V.θ=X at hW;obtain⟨x1,x2,x3⟩:=X;rcases hW with ⟨p1,p2,p3⟩ | ⟨p1,p2,p3⟩
  ·simp only[tY] at p1 p2 p3
   obtain⟨rfl,rfl⟩:=p3;subst p2;simp only
   simp only[AY,QI,jj];have hA:=q2.NF oM p1 b he (by rw[a4];decide) e1 (by rw[a2];exact e2) (by rw[a3];exact e3) (by rw[a1];exact e4);generalize iu x1 x2 b=Z at hA;generalize iu x1.free x2 b=Z0 at hA;obtain⟨z1,z2,z3⟩:=Z;obtain⟨y1,y2,y3⟩:=Z0;rcases hA with ⟨p4,p5,p6⟩ | ⟨p4,p5,p6⟩
   ·simp only[tY] at p4 p5 p6
    obtain⟨rfl,rfl⟩:=p6;exact .inl ⟨p4,p5,rfl⟩
   ·refine .inr ⟨p4,p5,fun keep hwf=>?_⟩
    obtain⟨R2,r1,r2⟩:=p6 keep hwf;refine⟨R2,r1,?_⟩;rcases r2 with rfl | rfl
    ·refine .inr (.inr ⟨by show V.rows.length=24;omega,?_⟩)
     rw[q3];rfl
    ·refine .inr (.inl ⟨rfl,?_⟩)
     rw[q3,a4,a1];rfl
  ·simp only at p1 p2 p3
   subst p2;simp only
   rw[π (show (14:Int)≠0 by decide)];refine .inr ⟨p1,rfl,fun keep hwf=>?_⟩;obtain⟨R2,r1,r2⟩:=p3 keep hwf;refine⟨R2,r1.mono oM,?_⟩;rcases r2 with rfl | rfl
   ·exact .inl rfl
   ·exact .inr (.inr ⟨by show V.rows.length=24;omega,rfl⟩)
 ·simp only[ν h4,ν (show ¬24≤V.abs.rows.length from h4)]
  refine(h.NF oM ho b he oM e1 e2 e3 e4).imp fun hQ keep hwf=>?_
  obtain⟨R2,r1,r2⟩:=hQ keep hwf;exact⟨R2,r1.mono oM,r2.imp id fun e=>.inl ⟨rfl,e⟩⟩
end
section
variable {w0 w w':World} {p v:Nat} {d:Dk} {V:aQ} {o:cR} {R:bq} {κ c:Nat} {M:Nat→Prop} {Q Q':bq→Prop}
theorem xQ.NG (h:xQ d.free V):xQ d V:=⟨h.cur,h.n,h.seen,h.at_,h.from_,h.pend⟩
theorem aid (h:aT w p v d V o) (ho:iI d V=true):ς 34 #[.pointer (some ⟨v,0,none⟩)] w fun e w'=>e=ώ (ι 14)∧aT w' p v d { V with down:=true } o∧dc w w' v o o:=by
 have HO:=JL h;rw[ho] at HO;simp only[vf] at HO;have HO:=δ HO;clear h;go_enter func34,ntmps34
 go_wp2_with (first
  |(go_at_call 53;refine HO.out.mono ?_;rintro e w2 ⟨rfl,h2,k2,-⟩;have H2:=τ h2 k2;clear h2 k2))
 go_ret
 exact⟨rfl,H2.out.1,H2.out.2⟩
structure tX (w0 w:World) (p v:Nat) (d:Dk) (V:aQ) (o:cR) (M:Nat→Prop):Prop where
 at_:aT w p v d V o
 turns:∀q,M q↔o.mut v q
 low:∀q,o.mut v q→w0.heap.size≤q
 ε:υ w0 w
def dZ (w0 w:World) (p v:Nat) (R:bq) (κ c:Nat) (M:Nat→Prop):Prop:=∃d V o S0,tX w0 w p v d V o M∧d.off=false∧cx d.free V S0 c∧V.abs=R∧V.st.κ=κ
def kN (w0 w:World) (p v:Nat) (a e:Int) (S:List ai) (Q:bq→Prop) (c:Nat) (M:Nat→Prop):Prop:=∃d V o,tX w0 w p v d V o M∧d.off=true∧V.at_=a∧V.θ=e∧V.S=S∧∀keep,d.wf→∃R2,Rest (d.eT keep) R2 c∧Q R2
def u7 (w0 w w':World) (p v:Nat) (r:Ending) (R:bq) (r2:bq × Int) (κ c:Nat) (M:Nat→Prop):Prop :=
 (∃M',r=ώ (ι r2.2)∧dZ w0 w' p v r2.1 κ c M'∧dL w w' M M') ∨
 (∃M' a e S,r=ώ (ι 14)∧kN w0 w' p v a e S (fun R2=>R2=R∨(r2.2=0∧R2=r2.1)∨(R.rows.length=24∧R2=R.mq)) c M'∧dL w w' M M')
theorem tX.still (h:tX w0 w p v d V o M) (hu:υ w w'):tX w0 w' p v d V o M:=⟨h.at_.still hu,h.turns,h.low,h.ε.then hu φ⟩
theorem tX.step {d':Dk} {V':aQ} {o':cR} (h:tX w0 w p v d V o M) (ha:aT w' p v d' V' o') (hs:dc w w' v o o'):tX w0 w' p v d' V' o' (o'.mut v)∧dL w w' M (o'.mut v):=by
 refine⟨⟨ha,fun _=>ua,fun q hq=>?_,h.ε.then hs.ε (fun q e=>.inr (h.low q e))⟩,hs.ε.mono (fun q e=>.inl ((h.turns q).2 e)),fun q hq=>(hs.sub q hq).imp (h.turns q).2 id⟩;rcases hs.sub q hq with e | e
 ·exact h.low q e
 ·have:=h.ε.size
  omega
theorem dZ.still (h:dZ w0 w p v R κ c M) (hu:υ w w'):dZ w0 w' p v R κ c M:=by
 obtain⟨d,V,o,S0,h1,h2⟩:=h;exact⟨d,V,o,S0,h1.still hu,h2⟩
theorem kN.still {a e:Int} {S:List ai} (h:kN w0 w p v a e S Q c M) (hu:υ w w'):kN w0 w' p v a e S Q c M:=by
 obtain⟨d,V,o,h1,h2⟩:=h;exact⟨d,V,o,h1.still hu,h2⟩
theorem dZ.ε (h:dZ w0 w p v R κ c M):υ w0 w:=by obtain⟨_,_,_,_,h,_⟩:=h;exact h.ε
theorem kN.ε {a e:Int} {S:List ai} (h:kN w0 w p v a e S Q c M):υ w0 w:=by obtain⟨_,_,_,h,_⟩:=h;exact h.ε
theorem dZ.mono (h:dZ w0 w p v R κ c M) {c':Nat} (hc:c≤c'):dZ w0 w p v R κ c' M:=by
 obtain⟨d,V,o,S0,h1,h2,h3,h4⟩:=h;exact⟨d,V,o,S0,h1,h2,h3.mono hc,h4⟩
theorem kN.mono {a e:Int} {S:List ai} (h:kN w0 w p v a e S Q c M) {c':Nat} (hc:c≤c') (hq:∀R,Q R→Q' R):kN w0 w p v a e S Q' c' M:=by
 obtain⟨d,V,o,h1,h2,h3,h4,h5,h6⟩:=h;exact⟨d,V,o,h1,h2,h3,h4,h5,fun keep hwf=>by obtain⟨R2,a,b⟩:=h6 keep hwf;exact⟨R2,a.mono hc,hq _ b⟩⟩
theorem cE.fused (h:cE w0 w p v R κ c M):dZ w0 w p v R κ c M:=by
 obtain⟨d,V,o,S0,h,h1,h2,h3⟩:=h;exact⟨d,V,o,S0,⟨h.at_,h3,h.low,h.ε⟩,h.g.aL.good.off,h.g.free,h1,h2⟩
theorem dZ.Sh (h:dZ w0 w p v R κ c M):om R.at_ R.θ:=by
 obtain⟨d,V,o,S0,-,-,h,rfl,-⟩:=h;exact h.place
theorem dZ.xZ (h:dZ w0 w p v R κ c M):ς 33 #[.pointer (some ⟨p,0,none⟩)] w fun r w'=>r=ώ (.bool false)∧w=w':=by
 obtain⟨d,V,o,S0,h,h1,-⟩:=h;have:=NL h.at_.bH;rw[h1] at this;exact this
theorem kN.xZ {a e:Int} {S:List ai} (h:kN w0 w p v a e S Q c M):ς 33 #[.pointer (some ⟨p,0,none⟩)] w fun r w'=>r=ώ (.bool true)∧w=w':=by
 obtain⟨d,V,o,h,h1,-⟩:=h;have:=NL h.at_.bH;rw[h1] at this;exact this
theorem dZ.act {m m0:Dk × aQ × Int} {r2:bq × Int} {k:Nat} {r:Ending} (hB:tX w0 w p v d V o M) (hT:nW (JN R r2 (c+k)) m m0) (h0:∃D V' mY,m0=(D,V',r2.2)∧cx D V' mY (c+k)∧V'.abs=r2.1∧V'.st.κ=κ)
 (hr:r=ώ (ι m.2.2)) (hp:∃o',aT w' p v m.1 m.2.1 o'∧dc w w' v o o'):u7 w0 w w' p v r R r2 κ (c+k) M:=by
 obtain⟨o',h1,h2⟩:=hp;obtain⟨D,V',mY,q1,q2,q3,q4⟩:=h0;obtain⟨a1,a2⟩:=hB.step h1 h2;rcases hT with ⟨t1,t2,t3⟩ | ⟨t1,t2,t3⟩
 ·rw[q1] at t2 t3
  have e3:m.2.2=r2.2:=aI Prod.snd t3;have e4:m.2.1=V':=aI Prod.fst t3;refine .inl ⟨_,by rw[hr,e3],⟨m.1,V',o',mY,?_,t1,?_,q3,q4⟩,a2⟩
  ·rw[← e4];exact a1
  ·rw[t2];exact q2
 ·refine .inr ⟨_,m.2.1.at_,m.2.1.θ,m.2.1.S,by rw[hr,t2],⟨m.1,m.2.1,o',a1,t1,rfl,rfl,rfl,t3⟩,a2⟩
theorem dZ.RT (h:dZ w0 w p v R κ c M) (hc:c<99000) (b:bQ) {ov:Value} (hO:Bw w0 ov b.ops) (hf:NS b.ops) (jg:b.θ≤9223372036854775807) :
 ς 15 #[.pointer (some ⟨v,0,none⟩),.agg #[ι b.index,ι b.θ,ov]] w fun r w'=>u7 w0 w w' p v r R (iZ R b) κ (c+3) M:=by
 obtain⟨d,V,o,S0,hB,ho,hg,rfl,gH⟩:=h;have hgd:=hg.aL.good;have hs:qo b.ops:=fun o ho=>by have:=hf.2 o ho;omega
 have hq:d.pend=0:=hgd.pend;have hlen:d.ψ.length=500:=hgd.len;have main:∀ {ty:TypeId},ax w ty 3 ov (b.ops.map bY)→(∀W,ζ (o.mut v) w W→ax W ty 3 ov (b.ops.map bY))→ς 15 #[.pointer (some ⟨v,0,none⟩),.agg #[ι b.index,ι b.θ,ov]] w fun r w'=>u7 w0 w w' p v r V.abs (iZ V.abs b) κ (c+3) M:=by
  intro ty h1 h2;refine(ZZ hB.at_ (hg.BV hc) (hg.Bo hc).NG (oN hg.num) oM hlen (oN hg.aL.rD) (hg.aL.Tn oM) hg.aL.many hg.place b h1 h2 hs jg).mono ?_;rintro r w' ⟨rfl,hp⟩;obtain⟨D,V',mY,q1,q2,q3,q4⟩:=hg.q_ hc b jg;exact dZ.act hB (hg.aic hc ho b jg) ⟨D,V',mY,q1,q2,q3,q4.trans gH⟩ rfl hp
 by_cases h0:b.ops.length=0
 ·have hT:ax w 32 3 ov (b.ops.map bY):=by
   exact afd
  exact main hT (fun W hu=>hT.ε hu (fun q ht=>hB.at_.sZ ht dC))
 ·have hT:=(hO.rows.still hB.ε).row Gw
  exact main hT (fun W hu=>hT.low (hO.rows.lt Gq) hu hB.low)
theorem dZ.S6 (h:dZ w0 w p v R κ c M) (hc:c<99000) {m:MetaM} {mv:Value} (hM:xP w0 mv m) (hf:Df m) :
 ς 24 #[.pointer (some ⟨v,0,none⟩),.agg (dD m mv)] w fun r w'=>u7 w0 w w' p v r R (kE R m) κ (c+1) M:=by
 obtain⟨d,V,o,S0,hB,ho,hg,rfl,gH⟩:=h;refine(abU hB.at_ (hg.BV hc) (hg.Bo hc).NG m ((hM.rows.still hB.ε).row Gw) ⟨hM.seen.2,hM.aH.2⟩ (fun x hx=>oN (hf.2.2 x hx))).mono ?_;rintro r w' ⟨rfl,hp⟩;obtain⟨D,V',q1,q2,q3,q4⟩:=hg.bE hc m ⟨hM.seen.2,hM.aH.2⟩;exact dZ.act hB (hg.amk hc ho m ⟨hM.seen.2,hM.aH.2⟩) ⟨D,V',S0,q1,q2,q3,q4.trans gH⟩ rfl hp
theorem dZ.Rv (h:dZ w0 w p v R κ c M) (hc:c<99000) {m:MetaM} {mv:Value} (hM:xP w0 mv m) (hf:Df m) {l:List ai} {lv:Value} (hL:Bx w0 lv l) (hfl:NT l) (at_ ep:Int) (eV:ep≤9223372036854775807) :
 ς 21 #[.pointer (some ⟨v,0,none⟩),.agg (dD m mv),lv,ι at_,ι ep] w fun r w'=>u7 w0 w w' p v r R (iD R m l at_ ep) κ (c+2) M:=by
 obtain⟨d,V,o,S0,hB,ho,hg,rfl,gH⟩:=h;have hgd:=hg.aL.good;have hq:d.pend=0:=hgd.pend;have hlen:d.ψ.length=500:=hgd.len;refine(Zj hB.at_ (hg.BV hc) (hg.Bo hc).NG (oN hg.num) oM hlen (oN hg.aL.rD) m ((hM.rows.still hB.ε).row Gw) ⟨hM.seen.2,hM.aH.2⟩ (fun x hx=>oN (hf.2.2 x hx)) l ((hL.rows.still hB.ε).row (by rw[bz];have:=hfl.1;omega)) (fun p hp=>oN (hfl.2 p hp)) at_ ep eV).mono ?_;rintro r w' ⟨rfl,hp⟩;obtain⟨D,V',mY,q1,q2,q3,q4⟩:=hg.install hc m ⟨hM.seen.2,hM.aH.2⟩ l at_ ep eV;exact dZ.act hB (hg.aht hc ho m ⟨hM.seen.2,hM.aH.2⟩ l at_ ep eV) ⟨D,V',mY,q1,q2,q3,q4.trans gH⟩ rfl hp
theorem dZ.rotate (h:dZ w0 w p v R κ c M) (hc:c<99000) :
 ς 34 #[.pointer (some ⟨v,0,none⟩)] w fun r w'=>u7 w0 w w' p v r R (rotateR R) κ (c+1) M:=by
 obtain⟨d,V,o,S0,hB,ho,hg,rfl,gH⟩:=h;refine(ZV hB.at_ (hg.BV hc) (hg.Bo hc).NG (oN hg.aL.keys) (by rw[hg.cur];have:=hg.aL.keys;omega)).mono ?_;rintro r w' ⟨rfl,hp⟩;obtain⟨D,V',q1,q2,q3,q4⟩:=hg.rotate hc;exact dZ.act hB (hg.aib hc ho) ⟨D,V',S0,q1,q2,q3,q4.trans gH⟩ rfl hp
theorem kN.act {a e:Int} {S:List ai} (hB:tX w0 w p v d V o M) (hx:d.off=true∧V.at_=a∧V.θ=e∧V.S=S∧∀keep,d.wf→∃R2,Rest (d.eT keep) R2 c∧Q R2) (h1:aT w' p v d { V with down:=true } o) (h2:dc w w' v o o):∃M',kN w0 w' p v a e S Q c M'∧dL w w' M M':=by
 obtain⟨a1,a2⟩:=hB.step h1 h2;exact⟨_,⟨d,_,o,a1,hx⟩,a2⟩
theorem anc {d:Dk} {V:aQ} (h:d.off=true):iI d V=true:=by unfold iI;rw[h,Bool.or_true]
theorem kN.rotate {a e:Int} {S:List ai} (h:kN w0 w p v a e S Q c M):ς 34 #[.pointer (some ⟨v,0,none⟩)] w fun r w'=>r=ώ (ι 14)∧∃M',kN w0 w' p v a e S Q c M'∧dL w w' M M':=by
 obtain⟨d,V,o,hB,hx⟩:=h;refine(aid hB.at_ (anc hx.1)).mono ?_;rintro r w' ⟨rfl,h1,h2⟩;exact⟨rfl,kN.act hB hx h1 h2⟩
end
theorem UN {P:Prop} (h:P:=by rw[lf,bu bM,hy];rfl):P:=h
theorem Gx {P:Prop} (h:P:=by rw[← hw1];exact((ζ.refl _ w).alloc _).alloc _):P:=h
def NH (t:TypeId) (a b:Value) (r:Bool):Prop:=prog.plainKey t=true∧∀W d,(Op.equalIn (d+1) t a b).run prog W=.ok r W
def allEq:List TypeId→List Value→List Value→List Bool→Prop
 | [],[],[],[]=>True
 | t::ts,a::va,b::vb,r::rs=>NH t a b r∧allEq ts va vb rs
 | _,_,_,_=>False
theorem YC (d:Nat) (W:World) (xs ys:Array Value):∀(ts:List TypeId) (k:Nat) (fs:List Field) (va vb:List Value) (rs:List Bool),fs.map (fun f=>(f.name == "_",f.type,f.offset))=(ts.zipIdx k).map (fun p=>(false,p.1,p.2)) →
 (∀i,i<ts.length→xs[k+i]? = va[i]? ∧ ys[k+i]? = vb[i]?)→allEq ts va vb rs→(Op.eqFields (d+1) xs ys fs).run prog W=.ok (rs.all id) W
 | [],k,fs,va,vb,rs,hf,hx,he=>by
   have:fs=[]:=by simpa using hf
   subst this;match va,vb,rs,he with
   | [],[],[],_=>simp[Op.eqFields]
 | t::ts,k,[],va,vb,rs,hf,hx,he=>by simp at hf
 | t :: ts,k,f::fs,va,vb,rs,hf,hx,he=>by
   match va,vb,rs,he with
   | a :: va,b::vb,r::rs,⟨h1,h2⟩ =>
     simp only[kO,List.zipIdx_cons,qP,tY,iX] at hf;obtain⟨⟨n1,n2,n3⟩,hf⟩:=hf;have h0:=hx 0 sM;simp only[sU,oV] at h0;have q1:=Fi (w:=W) (P:=prog) h1.1 h0.1;have q2:=Fi (w:=W) (P:=prog) h1.1 h0.2;simp only[Op.eqFields,n2,n3,rT,AY,n1,Iv,vf];rw[q1,fZ,q2,fZ,h1.2,fZ];cases r
     ·simp
     ·simp only[xu,mH,jj,sV,id,IE]
      exact YC d W xs ys ts (k+1) fs va vb rs hf (fun i hi=>by
       have:=hx (i+1) tA;rw[show k+(i+1)=k+1+i by omega] at this;simpa using this) h2
theorem SI {t:TypeId} (ts:List TypeId) (h1:prog.underlying t=some (.struct (prog.fieldsOf t))) (h2:prog.stoodInHeld t=false) (hf:(prog.fieldsOf t).toList.map (fun f=>(f.name == "_",f.type,f.offset))=(ts.zipIdx 0).map (fun p=>(false,p.1,p.2)))
 {va vb:List Value} {rs:List Bool} (he:allEq ts va vb rs) (W:World):(binOp .neq t (.agg va.toArray) (.agg vb.toArray)).run prog W=.ok (.bool (!rs.all id)) W:=by
 rw[run_neq_struct,run_equalIn_agg _ _ _ _ _ h1 h2,YC _ W _ _ ts 0 _ va vb rs hf (fun i hi=>by simp) he];rfl
theorem alb (a b:UInt8):NH 5 (ϋ (a.toNat:Int)) (ϋ (b.toNat:Int)) (decide (a=b)):=⟨kR,fun W d=>by
 rw[QN W d 5 .u8 .u8 _ _ underlying5];congr 1
 rw[y9,jV,eD];exact⟨fun h=>xp.1 oM,fun h=>by rw[h]⟩⟩
theorem I7 (a b:List UInt8):NH 9 (.string (str a)) (.string (str b)) (decide (a=b)):=⟨kR,fun W d=>by
 rw[af' W d 9 _ _ underlying9,Nu]⟩
theorem aie (a b:Bool):NH 4 (.bool a) (.bool b) (decide (a=b)):=⟨kR,fun W d=>by
 rw[run_equalIn_bool W d 4 _ _ underlying4];cases a<;>cases b<;>rfl⟩
theorem alc (p q:ai) (W:World):(binOp .neq 55 (.agg (bC p).toArray) (.agg (bC q).toArray)).run prog W=.ok (.bool (!decide (p=q))) W:=by
 rw[SI (t:=55) [9,9] kR kR kR (show allEq _ (bC p) (bC q) [_,_] from ⟨I7 _ _,I7 _ _,trivial⟩) W];congr 3
 rw[y9];simp only[sV,CZ,id,AX,gV,eD];exact⟨fun h=>Prod.ext h.1 h.2,fun h=>by rw[h];exact⟨rfl,rfl⟩⟩
instance:DecidableEq dn:=fun a b=>if h:a.kind=b.kind∧a.path=b.path∧a.value=b.value then isTrue (by obtain⟨h1,h2,h3⟩:=h;cases a;cases b;simp_all) else isFalse (by rintro rfl;exact h ⟨rfl,rfl,rfl⟩)
theorem ane (p q:dn) (W:World):(binOp .neq 32 (.agg (bY p).toArray) (.agg (bY q).toArray)).run prog W=.ok (.bool (!decide (p=q))) W:=by
 rw[SI (t:=32) [5,9,9] kR kR kR (show allEq _ (bY p) (bY q) [_,_,_] from ⟨alb _ _,I7 _ _,I7 _ _,trivial⟩) W];congr 3
 rw[y9];obtain⟨a,b,c⟩:=p;obtain⟨a',b',c'⟩:=q;simp only[sV,CZ,id,AX,gV,eD,dn.mk.injEq]
theorem ajw (p q:iC) (W:World):(binOp .neq 46 (.agg (cB p).toArray) (.agg (cB q).toArray)).run prog W=.ok (.bool (!decide (p=q))) W:=by
 rw[SI (t:=46) [9,4] kR kR kR (show allEq _ (cB p) (cB q) [_,_] from ⟨I7 _ _,aie _ _,trivial⟩) W];congr 3
 rw[y9];obtain⟨a,b⟩:=p;obtain⟨a',b'⟩:=q;simp only[sV,CZ,id,AX,gV,eD,iC.mk.injEq]
theorem YD {α : Type} {a b:List α} {k:Nat} (h1:k<a.length) (h2:k<b.length) (h:a.take k=b.take k) (he:a[k]=b[k]):a.take (k+1)=b.take (k+1):=by
 rw[ia h1,ia h2,h,he]
theorem Tr {P:Prop} (h:P:=by
 refine YD HX.out.2.2.1 HX.out.2.2.2 HT.out.1 ?_;exact(HX.out.1.trans HE.out).trans HX.out.2.1.symm):P:=h
theorem afh {P:Prop} (h:P:=by
 rw[fo he] at DZ;have HE:=δ he;clear he;go_wp2_with fail
 go_quiet (fail)
 go_wp2_with fail
 go_roundw
 case rel =>
  refine⟨k+1,oM,sM,hu.drewN _,?_⟩;exact Tr
 case measure=>simp[intOf]<;>omega):P:=h
theorem ald {w:World} {ta tb:TypeId} {va vb:Value} {a b:List ai} (ha:ax w ta 2 va (a.map bC)) (hb:ax w tb 2 vb (b.map bC)) :
 ς 32 #[va,vb] w fun e w'=>e=ώ (.bool (decide (a=b)))∧υ w w':=by
 obtain⟨A,cap,bA,off,rfl,hcap,hl,hA,hat⟩:=ha.open_;obtain⟨B,fJ,bB,off2,rfl,th,hl2,hB,vT⟩:=hb.open_;simp only[bz] at hcap hl hA th hl2 hB ⊢;obtain⟨r,hr⟩:=μ (decide (a=b));rw[hr];have H:=aq hat vT hr;clear hat vT ha hb hr;go_enter func32,ntmps32
 by_cases hn:a.length=b.length
 ·have hn':((a.length:Int) == (b.length:Int))=true:=by rw[jV];omega
  have hn2:((a.length:Int) != (b.length:Int))=false:=by rw[bne,hn'];rfl
  have HN:=δ hn;clear hn;go_wp2_with fail
  go_loopw [5] (fun i wr=>∃k:Nat,k≤a.length∧i=ι k∧υ w wr∧a.take k=b.take k) (fun i _=>a.length - (intOf i).toNat)
  case atStart=>exact⟨0,oM,rfl,ζ.refl _ _,rfl⟩
  case round =>
   obtain⟨k,hk,rfl,hu,cU⟩:=hrel;have HT:=aq cU hu hk;clear cU;by_cases hlt:k<a.length
   ·obtain rfl:=hA oM
    obtain rfl:=hB (oN HN.out);have bM:k<b.length:=by have:=HN.out;omega
    obtain⟨x,hx⟩:=μ (a[k]);obtain⟨y,hy⟩:=μ (b[k]'bM);have hrow:=H.out.1 wr _ hu (fun _ _ e=>e) k (bC x) zS
    have nB:=H.out.2.1 wr _ hu (fun _ _ e=>e) k (bC y) UN
    obtain⟨X1,qg⟩:∃X,str x.1=X:=⟨_,rfl⟩;obtain⟨X2,me⟩:∃X,str x.2=X:=⟨_,rfl⟩;obtain⟨Y1,wX⟩:∃X,str y.1=X:=⟨_,rfl⟩;obtain⟨Y2,wY⟩:∃X,str y.2=X:=⟨_,rfl⟩;have WR:wr.cell? ⟨bA,off+k*2,none⟩=some (.string X1):=hrow 0 _ (by rw[← qg];rfl)
    have WS:wr.cell? ⟨bA,off+k*2+1,none⟩=some (.string X2):=hrow 1 _ (by rw[← me];rfl)
    have WT:wr.cell? ⟨bB,off2+k*2,none⟩=some (.string Y1):=nB 0 _ (by rw[← wX];rfl)
    have WU:wr.cell? ⟨bB,off2+k*2+1,none⟩=some (.string Y2):=nB 1 _ (by rw[← wY];rfl)
    have DZ:∀W,(binOp .neq 55 (.agg #[.string X1,.string X2]) (.agg #[.string Y1,.string Y2])).run prog W=.ok (.bool (!decide (x=y))) W:=fun W=>by
     have:=alc x y W;unfold bC at this;rw[qg,me,wX,wY] at this;exact this
    have HX:=aF hx hy hlt bM;have j1:(k:Int)<(a.length:Int):=oM;have j2:(k:Int)<(b.length:Int):=oM;have hwk:IntKind.i64.wrap ((k:Int)+1)=(k:Int)+1:=cZ _ oM;clear hrow nB hx hy qg me wX wY;by_cases he:x=y
    ·exact afh
    ·rw[gI he] at DZ
     have hrf:r=false:=by
      rw[← H.out.2.2,oc];intro hab;apply he
      rw[← HX.out.1,← HX.out.2.1];simp only[hab]
     subst hrf;clear he;go_wp2_with fail
     go_quiet (fail)
     go_wp2_with fail
     go_ret
     exact⟨rfl,hu.drewN _⟩
   ·have j1:¬((k:Int)<(a.length:Int)):=oM
    have yX:r=true:=by
     rw[← H.out.2.2,eD];have:=HT.out.1;rw[dV oM,dV (oN HN.out)] at this;exact this
    subst yX;go_wp2_with fail
    go_ret
    exact⟨rfl,hu⟩
 ·have hn':((a.length:Int) == (b.length:Int))=false:=by rw[iX];omega
  have hn2:((a.length:Int) != (b.length:Int))=true:=by rw[bne,hn'];rfl
  have hrf:r=false:=by
   rw[← H.out.2.2,oc];rintro rfl;exact hn rfl
  subst hrf;go_wp2_with fail
  go_ret
  exact⟨rfl,ζ.refl _ _⟩
instance:DecidableEq bQ:=fun a b=>if h:a.index=b.index∧a.θ=b.θ∧a.ops=b.ops then isTrue (by obtain⟨h1,h2,h3⟩:=h;cases a;cases b;simp_all) else isFalse (by rintro rfl;exact h ⟨rfl,rfl,rfl⟩)
theorem aml {a b:bQ} : a=b↔a.index=b.index∧a.θ=b.θ∧a.ops=b.ops:=⟨by rintro rfl;exact⟨rfl,rfl,rfl⟩,fun ⟨h1,h2,h3⟩=>by cases a;cases b;simp_all⟩
theorem ale {w:World} {ta tb:TypeId} {va vb:Value} {a b:bQ} (ha:ax w ta 3 va (a.ops.map bY)) (hb:ax w tb 3 vb (b.ops.map bY)) :
 ς 83 #[.agg #[ι a.index,ι a.θ,va],.agg #[ι b.index,ι b.θ,vb]] w fun e w'=>e=ώ (.bool (decide (a=b)))∧υ w w':=by
 obtain⟨i1,e1,l1⟩:=a;obtain⟨i2,e2,l2⟩:=b;simp only at ha hb ⊢
 obtain⟨A,cap,bA,off,rfl,hcap,hl,hA,hat⟩:=ha.open_;obtain⟨B,fJ,bB,off2,rfl,th,hl2,hB,vT⟩:=hb.open_;simp only[bz] at hcap hl hA th hl2 hB ⊢;obtain⟨r,hr⟩:=μ (decide ((⟨i1,e1,l1⟩:bQ)=⟨i2,e2,l2⟩));rw[hr];have hr2:decide (i1=i2∧e1=e2∧l1=l2)=r:=by rw[← hr,QX,aml]
 obtain⟨c,hc⟩:=μ w.heap.size;have H:=aF hat vT hr2 hc;clear hat vT ha hb hr hr2 hc;go_enter func83,ntmps83
 go_upto_region 1 with fail
 rw[H.out.2.2.2];generalize hw1:World.alloc (World.alloc _ _) _=w1;have aP:η w1 c 35 #[ι i1,ι e1,.slice A l1.length cap]:=by rw[← hw1,← H.out.2.2.2];exact(η.new w _ _).alloc _
 have aD:η w1 (c+1) 35 #[ι i2,ι e2,.slice B l2.length fJ]:=by
  have:=η.new (w.alloc (.cells #[ι i1,ι e1,.slice A l1.length cap] 35)) 35 #[ι i2,ι e2,.slice B l2.length fJ];rw[dx,H.out.2.2.2] at this;rw[← hw1];exact this
 have az:υ w w1:=Gx
 clear hw1;have HB:=aq aP aD az;have a0:w1.cell? ⟨c,0,none⟩=some (ι i1):=aP.cell 0;have a1:w1.cell? ⟨c,1,none⟩=some (ι e1):=aP.cell 1;have a2:w1.cell? ⟨c,2,none⟩=some (.slice A l1.length cap):=aP.cell 2;have b0:w1.cell? ⟨c+1,0,none⟩=some (ι i2):=aD.cell 0;have b1:w1.cell? ⟨c+1,1,none⟩=some (ι e2):=aD.cell 1;have b2:w1.cell? ⟨c+1,2,none⟩=some (.slice B l2.length fJ):=aD.cell 2;clear aP aD az;by_cases hd:i1=i2∧e1=e2∧l1.length=l2.length
 ·obtain⟨hi,he,hn⟩:=hd
  have q1:(i1 != i2)=false:=by rw[hi];simp
  have q2:(e1 != e2)=false:=by rw[he];simp
  have q3:((l1.length:Int) != (l2.length:Int))=false:=by rw[hn];simp
  have HN:=aq hi he hn;clear hi he hn;go_wp2_with fail
  go_loopw [5] (fun i wr=>∃k:Nat,k≤l1.length∧i=ι k∧υ w1 wr∧l1.take k=l2.take k) (fun i _=>l1.length - (intOf i).toNat)
  case atStart=>exact⟨0,oM,rfl,ζ.refl _ _,rfl⟩
  case round =>
   obtain⟨k,hk,rfl,hu,cU⟩:=hrel;have HT:=aq cU hu hk;clear cU;have a2:wr.cell? ⟨c,2,none⟩=some (.slice A l1.length cap):=(HB.out.1.ε hu id).cell 2;have b2:wr.cell? ⟨c+1,2,none⟩=some (.slice B l2.length fJ):=(HB.out.2.1.ε hu id).cell 2;by_cases hlt:k<l1.length
   ·obtain rfl:=hA oM
    obtain rfl:=hB (oN HN.out.2.2);have bM:k<l2.length:=by have:=HN.out.2.2;omega
    obtain⟨x,hx⟩:=μ (l1[k]);obtain⟨y,hy⟩:=μ (l2[k]'bM);have WV:=HB.out.2.2.then hu φ;have hrow:=H.out.1 wr _ WV (fun _ _ e=>e) k (bY x) zS
    have nB:=H.out.2.1 wr _ WV (fun _ _ e=>e) k (bY y) UN
    obtain⟨X0,EY⟩:∃X:Int,(x.kind.toNat:Int)=X:=⟨_,rfl⟩;obtain⟨X1,qg⟩:∃X,str x.path=X:=⟨_,rfl⟩;obtain⟨X2,me⟩:∃X,str x.value=X:=⟨_,rfl⟩;obtain⟨Y0,WW⟩:∃X:Int,(y.kind.toNat:Int)=X:=⟨_,rfl⟩;obtain⟨Y1,wX⟩:∃X,str y.path=X:=⟨_,rfl⟩;obtain⟨Y2,wY⟩:∃X,str y.value=X:=⟨_,rfl⟩;have cX0:wr.cell? ⟨bA,off+k*3,none⟩=some (ϋ X0):=hrow 0 _ (by rw[← EY];rfl)
    have WR:wr.cell? ⟨bA,off+k*3+1,none⟩=some (.string X1):=hrow 1 _ (by rw[← qg];rfl)
    have WS:wr.cell? ⟨bA,off+k*3+2,none⟩=some (.string X2):=hrow 2 _ (by rw[← me];rfl)
    have cY0:wr.cell? ⟨bB,off2+k*3,none⟩=some (ϋ Y0):=nB 0 _ (by rw[← WW];rfl)
    have WT:wr.cell? ⟨bB,off2+k*3+1,none⟩=some (.string Y1):=nB 1 _ (by rw[← wX];rfl)
    have WU:wr.cell? ⟨bB,off2+k*3+2,none⟩=some (.string Y2):=nB 2 _ (by rw[← wY];rfl)
    have DZ:∀W,(binOp .neq 32 (.agg #[ϋ X0,.string X1,.string X2]) (.agg #[ϋ Y0,.string Y1,.string Y2])).run prog W=.ok (.bool (!decide (x=y))) W:=fun W=>by
     have:=ane x y W;unfold bY at this;rw[EY,qg,me,WW,wX,wY] at this;exact this
    have HX:=aF hx hy hlt bM;have j1:(k:Int)<(l1.length:Int):=oM;have j2:(k:Int)<(l2.length:Int):=oM;have hwk:IntKind.i64.wrap ((k:Int)+1)=(k:Int)+1:=cZ _ oM;clear hrow nB hx hy EY qg me WW wX wY WV;by_cases he:x=y
    ·exact afh
    ·rw[gI he] at DZ
     have hrf:r=false:=by
      rw[← H.out.2.2.1,oc];intro hab;apply he
      rw[← HX.out.1,← HX.out.2.1];simp only[hab.2.2]
     subst hrf;clear he;go_wp2_with fail
     go_quiet (fail)
     go_wp2_with fail
     go_ret
     exact⟨rfl,(HB.out.2.2.then hu φ).drewN _⟩
   ·have j1:¬((k:Int)<(l1.length:Int)):=oM
    have yX:r=true:=by
     rw[← H.out.2.2.1,eD];have:=HT.out.1;rw[dV oM,dV (oN HN.out.2.2)] at this;exact⟨HN.out.1,HN.out.2.1,this⟩
    subst yX;go_wp2_with fail
    go_ret
    exact⟨rfl,HB.out.2.2.then hu φ⟩
 ·have hrf:r=false:=by
   rw[← H.out.2.2.1,oc];rintro⟨h1,h2,rfl⟩;exact hd ⟨h1,h2,rfl⟩
  subst hrf;by_cases hi:i1=i2
  ·by_cases he:e1=e2
   ·have q1:(i1 != i2)=false:=by rw[hi];simp
    have q2:(e1 != e2)=false:=by rw[he];simp
    have q3:((l1.length:Int) != (l2.length:Int))=true:=by
     rw[kq];intro e;exact hd ⟨hi,he,oM⟩
    clear hi he hd;go_wp2_with fail
    go_ret
    exact⟨rfl,HB.out.2.2⟩
   ·have q1:(i1 != i2)=false:=by rw[hi];simp
    have q2:(e1 != e2)=true:=by rw[kq];exact he
    clear hi he hd;go_wp2_with fail
    go_ret
    exact⟨rfl,HB.out.2.2⟩
  ·have q1:(i1 != i2)=true:=by rw[kq];exact hi
   clear hi hd;go_wp2_with fail
   go_ret
   exact⟨rfl,HB.out.2.2⟩
def Gy (s:ByteArray):Value:=.tuple #[.string (str (nE s.data.toList).1),.string (str (nE s.data.toList).2.1),.bool (nE s.data.toList).2.2]
theorem alf {l:List UInt8} {k:Nat} (hk:k<l.length) (hall:(l.take k).all (fun c=>decide (c≠47))=true) (h:l[k]=47):i_ l=l.take k:=by
 induction l generalizing k with
 | nil=>simp at hk
 | cons b r ih =>
   rw[Rf];cases k with
   | zero=>rw[π vW];rfl
   | succ k =>
     rw[y8,sV,gV,eD] at hall;rw[ν hall.1,y8];congr 1
     exact ih (by simpa using hk) hall.2 vW
theorem ajx {l:List UInt8} (hall:l.all (fun c=>decide (c≠47))=true):i_ l=l:=by
 induction l with
 | nil=>rfl
 | cons b r ih =>
   rw[sV,gV,eD] at hall;rw[Rf,ν hall.1,ih hall.2]
theorem acR (s:ByteArray) (hs:s.size≤1000000) (w:World) :
 ς 199 #[.string s] w fun e w'=>e=ώ (Gy s)∧υ w w':=by
 have hlen:s.data.toList.length=s.size:=gZ
 obtain⟨C,hC⟩:=μ (Gy s);have hno:(i_ s.data.toList).length<s.data.toList.length∧oq (i_ s.data.toList)=true∧ur (s.data.toList.drop ((i_ s.data.toList).length+1))=true∨C=.tuple #[.string ⟨#[]⟩,.string ⟨#[]⟩,.bool false]:=by
  by_cases h:(i_ s.data.toList).length<s.data.toList.length∧oq (i_ s.data.toList)=true∧ur (s.data.toList.drop ((i_ s.data.toList).length+1))=true
  ·exact .inl h
  ·right
   rw[← hC];unfold Gy nE;rw[ν h];rfl
 rw[hC];have HB:=aq hC hlen hno;clear hC hlen hno;go_enter func199,ntmps199
 go_wp2_with fail
 go_loop [5] (fun i=>∃k:Nat,k≤s.size∧i=ι (k:Int)∧(s.data.toList.take k).all (fun c=>decide (c≠47))=true) (fun i=>s.size - (intOf i).toNat)
 case atStart=>exact⟨0,oM,rfl,rfl⟩
 case round =>
  obtain⟨k,hk,rfl,hall⟩:=hrel;have HA:=δ hall;clear hall;by_cases hlt:k<s.size
  ·have j1:(k:Int)<(s.size:Int):=oM
   have pe:=qw s k hlt;have e47:((s[k].toNat:Int) == 47)=decide (s[k]=47):=by
    exact aeG
   by_cases g2:s[k]=47
   ·rw[fo g2] at e47
    have hlk:k<s.data.toList.length:=Kc
    have qv:s.data.toList[k]=47:=by
     rw[bN,bu hlk] at pe;rw[← g2,← pe];rfl
    have hh:=alf hlk HA.out qv;have G0:(i_ s.data.toList).length=k:=by rw[hh,iW];omega
    have ea:(s.extract 0 k).data.toList=i_ s.data.toList:=by rw[hh];simp
    have eb:(s.extract (k+1) s.size).data.toList=s.data.toList.drop (k+1):=by
     rw[uc,cA];exact dV (by rw[jC,HB.out.2.1];omega)
    have Qn:(s.extract 0 k)=str (i_ s.data.toList):=by rw[← ea,Bn]
    have hbk:(s.extract (k+1) s.size)=str (s.data.toList.drop (k+1)):=by rw[← eb,Bn]
    have hnm:=fun W=>abh (s.extract 0 k) (by rw[Qn,bR,G0];omega) W
    have AH:=fun W=>anG (s.extract (k+1) s.size) (by rw[hbk,bR,jC,HB.out.2.1];omega) W
    rw[ea] at hnm;rw[eb] at AH;obtain⟨N,hN⟩:=μ (oq (i_ s.data.toList));obtain⟨K,hK⟩:=μ (ur (s.data.toList.drop (k+1)));rw[hN] at hnm;rw[hK] at AH;have Qo:=HB.out.1;unfold Gy nE at Qo;rw[G0,hN,hK,HB.out.2.1] at Qo;obtain⟨a,ha⟩:=μ (s.extract 0 k);obtain⟨b,hb⟩:=μ (s.extract (k+1) s.size);rw[ha] at hnm Qn;rw[hb] at AH hbk;have Cv:=δ hnm;have EG:=δ AH;have hwk:IntKind.i64.wrap ((k:Int)+1)=((k+1:Nat):Int):=qx
    have HX:=aq Qo Qn hbk;clear pe hlk qv hh G0 ea eb Qn hbk hnm AH hN hK Qo g2;cases N
    ·have L4:C=.tuple #[.string ⟨#[]⟩,.string ⟨#[]⟩,.bool false]:=by rw[← HX.out.1,ν sM];rfl
     subst L4;go_wp2_with (first|(go_at_call 144;refine(Cv.out _).mono ?_;rintro e w1 ⟨rfl,rfl⟩));go_ret3
     exact⟨rfl,ζ.refl _ _⟩
    ·cases K
     ·have L4:C=.tuple #[.string ⟨#[]⟩,.string ⟨#[]⟩,.bool false]:=by rw[← HX.out.1,ν sM];rfl
      subst L4;go_wp2_with (first|(go_at_call 144;refine(Cv.out _).mono ?_;rintro e w1 ⟨rfl,rfl⟩)|(go_at_call 242;refine(EG.out _).mono ?_;rintro e w1 ⟨rfl,rfl⟩));go_ret3
      exact⟨rfl,ζ.refl _ _⟩
     ·have L4:C=.tuple #[.string a,.string b,.bool true]:=by rw[← HX.out.1,π ⟨hlt,rfl,rfl⟩,HX.out.2.1,HX.out.2.2]
      subst L4;go_wp2_with (first|(go_at_call 144;refine(Cv.out _).mono ?_;rintro e w1 ⟨rfl,rfl⟩)|(go_at_call 242;refine(EG.out _).mono ?_;rintro e w1 ⟨rfl,rfl⟩));go_quiet (fail)
      go_wp2_with fail
      go_ret3
      exact⟨rfl,(ζ.refl _ _).drewN _⟩
   ·rw[gI g2] at e47
    have HL:=δ (Q0 (p:=fun c=>decide (c≠47)) Kc HA.out (by rw[pe];simp[g2]))
    clear pe g2;exact TC
  ·obtain rfl:k=s.size:=oM
   have ha:=HA.out;rw[dV (by rw[HB.out.2.1];omega)] at ha;have hhp:=ajx ha;obtain rfl:C=.tuple #[.string ⟨#[]⟩,.string ⟨#[]⟩,.bool false]:=by
    rcases HB.out.2.2 with h | h
    ·rw[hhp] at h
     exact absurd h.1 (Mr _)
    ·exact h
   clear ha hhp;go_wp2_with fail
   go_ret3
   exact⟨rfl,ζ.refl _ _⟩
theorem acS:∀(k:Nat) (l m:List UInt8) (h1:k<l.length) (h2:k<m.length),l.take k=m.take k→l[k]≠m[k]→(l<m↔l[k]<m[k])
 | 0,a::l,b::m,_,_,_,hne=>by
   simp only[Mq] at hne ⊢;rw[agk];exact⟨fun h=>h.elim id fun h=>absurd h.1 hne,.inl⟩
 | k+1,a::l,b::m,h1,h2,ht,hne=>by
   simp only[y8,qP] at ht;simp only[List.getElem_cons_succ] at hne ⊢;rw[agk,← acS k l m yc (by simpa using h2) ht.2 hne];obtain⟨rfl,-⟩:=ht;exact⟨fun h=>h.elim (fun h=>absurd h (UInt8.lt_irrefl _)) And.right,fun h=>.inr ⟨rfl,h⟩⟩
theorem S7:∀(k:Nat) (l m:List UInt8),k≤l.length→k≤m.length→(k=l.length∨k=m.length)→l.take k=m.take k→(l<m↔l.length<m.length)
 | 0,[],[],_,_,_,_=>by simp
 | 0,[],b::m,_,_,_,_=>by simp
 | 0,a::l,[],_,_,_,_=>by simp
 | 0,a::l,b::m,_,_,h,_=>by simp at h
 | k+1,[],m,h,_,_,_=>by simp at h
 | k+1,a::l,[],_,h,_,_=>by simp at h
 | k+1,a::l,b::m,h1,h2,h3,ht=>by
   simp only[y8,qP] at ht;obtain⟨rfl,ht⟩:=ht;rw[agk];simp only[eZ] at h1 h2 h3 ⊢;have:=S7 k l m oM oM oM ht;rw[show (l.length+1<m.length+1)↔l.length<m.length by omega,← this];exact⟨fun h=>h.elim (fun h=>absurd h (UInt8.lt_irrefl _)) And.right,fun h=>.inr vW⟩
theorem afi {P:Prop} (h:P:=by
 have tW:decide (a.size<b.size)=r:=by
  rw[← HR.out.1,QX,hl,HR.out.2.1,HR.out.2.2]
 clear hl;go_wp2_with fail
 go_ret
 exact⟨rfl,hu⟩):P:=h
theorem anf (a b:ByteArray) (ha:a.size≤1000000) (hb:b.size≤1000000) (w:World) :
 ς 244 #[.string a,.string b] w fun e w'=>e=ώ (.bool (decide (a.data.toList<b.data.toList)))∧υ w w':=by
 have hla:a.data.toList.length=a.size:=gZ
 have hlb:b.data.toList.length=b.size:=gZ
 obtain⟨r,hr⟩:=μ (decide (a.data.toList<b.data.toList));rw[hr];have HR:=aq hr hla hlb;clear hr hla hlb;go_enter func244,ntmps244
 go_wp2_with fail
 go_loopw [5] (fun i wr=>∃k:Nat,k≤a.size∧k≤b.size∧i=ι k∧υ w wr∧a.data.toList.take k=b.data.toList.take k) (fun i _=>a.size - (intOf i).toNat)
 case atStart=>exact⟨0,oM,oM,rfl,ζ.refl _ _,rfl⟩
 case round =>
  obtain⟨k,hk,hk2,rfl,hu,cU⟩:=hrel;have HT:=aq cU hk hk2;clear cU;by_cases h1:k<a.size
  ·by_cases h2:k<b.size
   ·have j1:(k:Int)<(a.size:Int):=oM
    have j2:(k:Int)<(b.size:Int):=oM;have g1:=qw a k h1;have g2:=qw b k h2;have hwk:IntKind.i64.wrap ((k:Int)+1)=(k:Int)+1:=cZ _ oM;have e1:a.data.toList[k]'(by rw[HR.out.2.1];exact h1)=a[k]:=by simp[ByteArray.getElem_eq_getElem_data]
    have e2:b.data.toList[k]'(by rw[HR.out.2.2];exact h2)=b[k]:=by simp[ByteArray.getElem_eq_getElem_data]
    obtain⟨x,hx⟩:=μ (a[k]);obtain⟨y,hy⟩:=μ (b[k]);have HX:=aF hx hy (e1.trans hx) (e2.trans hy);by_cases he:x=y
    ·have q:((a[k].toNat:Int) == (b[k].toNat:Int))=true:=by rw[jV,hx,hy,he]
     have q2:((a[k].toNat:Int) != (b[k].toNat:Int))=false:=by rw[bne,q];rfl
     have HE:=δ he;clear g1 g2 e1 e2 hx hy he;go_wp2_with fail
     go_quiet (fail)
     go_wp2_with fail
     go_roundw
     case rel =>
      refine⟨k+1,oM,oM,sM,hu.drewN _,YD (by rw[HR.out.2.1];exact h1) (by rw[HR.out.2.2];exact h2) HT.out.1 ?_⟩;rw[HX.out.2.2.1,HX.out.2.2.2,HE.out]
     case measure=>simp[intOf]<;>omega
    ·have aoL:x.toNat≠y.toNat:=fun e=>he (xp.1 e)
     have q:((a[k].toNat:Int) == (b[k].toNat:Int))=false:=by rw[iX,hx,hy];omega
     have q2:((a[k].toNat:Int) != (b[k].toNat:Int))=true:=by rw[bne,q];rfl
     have hl:=acS k _ _ (by rw[HR.out.2.1];exact h1) (by rw[HR.out.2.2];exact h2) HT.out.1 (by rw[HX.out.2.2.1,HX.out.2.2.2];exact he);rw[HX.out.2.2.1,HX.out.2.2.2] at hl;have tW:decide (a[k].toNat<b[k].toNat)=r:=by
      rw[← HR.out.1,QX,hl,hx,hy,Yl]
     have HL:=δ hl;clear g1 g2 e1 e2 hx hy he hl aoL;go_wp2_with fail
     go_quiet (fail)
     go_wp2_with fail
     go_quiet (fail)
     go_wp2_with fail
     go_ret
     exact⟨rfl,(hu.drewN _).drewN _⟩
   ·have j1:(k:Int)<(a.size:Int):=oM
    have j2:¬(k:Int)<(b.size:Int):=oM;have hl:=S7 k _ _ (by rw[HR.out.2.1];exact hk) (by rw[HR.out.2.2];exact hk2) (by rw[HR.out.2.2];omega) HT.out.1;exact afi
  ·have j1:¬(k:Int)<(a.size:Int):=oM
   have hl:=S7 k _ _ (by rw[HR.out.2.1];exact hk) (by rw[HR.out.2.2];exact hk2) (by rw[HR.out.2.1];omega) HT.out.1;exact afi
def js (k:List UInt8):List ai→Nat
 | []=>0
 | p::r=>if p.1<k then js k r+1 else 0
theorem Sj (k:List UInt8) (l:List ai):js k l≤l.length:=by
 induction l with
 | nil=>exact bO _
 | cons p r ih =>
   unfold js;split
   ·simpa using ih
   ·exact xx _
theorem Zl (k:List UInt8) (l:List ai) (i:Nat) (hi:i<l.length) (h:i≤js k l):i+1≤js k l↔l[i].1<k:=by
 induction l generalizing i with
 | nil=>simp at hi
 | cons p r ih =>
   unfold js at h ⊢;cases i with
   | zero =>
     simp only[Mq];split
     ·rename_i c
      exact⟨fun _=>c,fun _=>by omega⟩
     ·rename_i c
      exact⟨fun e=>by omega,fun e=>absurd e c⟩
   | succ i =>
     simp only[List.getElem_cons_succ];split at h
     ·rename_i c
      rw[π c,← ih i tA oM];omega
     ·omega
def iF (k:List UInt8) (l:List ai):Bool:=decide ((l[js k l]?).map (·.1)=some k)
theorem ajy (k v:List UInt8) (l:List ai):jJ k v l=l.take (js k l)++(k,v)::l.drop (js k l+if iF k l then 1 else 0):=by
 induction l with
 | nil=>rfl
 | cons p r ih =>
   unfold jJ;by_cases c:p.1<k
   ·have e:js k (p::r)=js k r+1:=by show (if p.1<k then _ else _)=_;rw[π c]
    have e2:iF k (p::r)=iF k r:=by unfold iF;rw[e,qm]
    rw[π c,ih,e,e2,y8,pI,show js k r+1+(if iF k r then 1 else 0)=(js k r+if iF k r then 1 else 0)+1 by omega,QB]
   ·have e:js k (p::r)=0:=by show (if p.1<k then _ else _)=_;rw[ν c]
    rw[ν c,e];by_cases c2:p.1=k
    ·have e2:iF k (p::r)=true:=by unfold iF;rw[e,eD];simp[c2]
     rw[π c2,e2];rfl
    ·have e2:iF k (p::r)=false:=by unfold iF;rw[e,oc];simp[c2]
     rw[ν c2,e2];rfl
theorem Z8 {k:List UInt8} {l:List ai} (h:gx l):rB k l=if iF k l then l.take (js k l)++l.drop (js k l+1) else l:=by
 induction l with
 | nil=>rfl
 | cons p r ih =>
   have h1:=(za.1 h).1;have h2:gx r:=(za.1 h).2;have ih:=ih h2;unfold rB at ih ⊢;by_cases c:p.1<k
   ·have e:js k (p::r)=js k r+1:=by show (if p.1<k then _ else _)=_;rw[π c]
    have e2:iF k (p::r)=iF k r:=by unfold iF;rw[e,qm]
    rw[List.filter_cons_of_pos (by simpa using Bu c),ih,e,e2];split
    ·rw[y8,pI,QB]
    ·rfl
   ·have e:js k (p::r)=0:=by show (if p.1<k then _ else _)=_;rw[ν c]
    by_cases c2:p.1=k
    ·have e2:iF k (p::r)=true:=by unfold iF;rw[e,eD];simp[c2]
     rw[e2,e,π rfl,List.filter_cons_of_neg (by simpa using c2)];show _=r;exact tZ.2 fun q hq=>by simpa using fun e:q.1=k=>Bu (h1 q hq) (by rw[c2,e])
    ·have e2:iF k (p::r)=false:=by unfold iF;rw[e,oc];simp[c2]
     rw[e2,ν sM,List.filter_cons_of_pos (by simpa using c2)];congr 1
     refine tZ.2 fun q hq=>?_
     have hk:k<p.1:=by
      rcases SW p.1 k with x | x | x
      ·exact absurd x c
      ·exact absurd x c2
      ·exact x
     simpa using fun x:q.1=k=>Bu (List.lt_trans hk (h1 q hq)) x.symm
theorem ajz {k:List UInt8} {l:List ai} (h:gx l):(lT k l).isSome=iF k l:=by
 have hd:=Z8 (k:=k) h;cases ht:iF k l
 ·rw[ht,ν sM] at hd
  rw[RN fun p hp=>?_]
  ·rfl
  ·have:p ∈ rB k l:=by rw[hd];exact hp
   simpa using (AR.1 this).2
 ·unfold iF at ht
  rw[eD] at ht;cases hg:l[js k l]? with
  | none=>rw[hg] at ht;simp at ht
  | some p =>
    rw[hg] at ht;have e:p.1=k:=by simpa using ht
    rw[← e,Sd h (qO hg)];rfl
theorem Z9 {k:List UInt8} {l:List ai} {i:Nat} (h:i≤js k l) (he:i=l.length∨∃hi:i<l.length,¬l[i].1<k):i=js k l:=by
 rcases he with rfl | ⟨hi,he⟩
 ·have:=Sj k l
  omega
 ·apply Nat.le_antisymm h
  apply Mj
  intro hc;exact he ((Zl k l i hi h).1 hc)
theorem ajA {k:List UInt8} {l:List ai} {i:Nat} (h:i=js k l) (hi:i<l.length):iF k l=decide (l[i].1=k):=by
 subst h;unfold iF;rw[bu hi];simp
theorem aif {k:List UInt8} {l:List ai} (h:l.length=js k l):iF k l=false:=by
 unfold iF;rw[← h,nv (bO _)];rfl
theorem S8 {w:World} {ty:TypeId} {lv:Value} {S:List ai} (hT:ax w ty 2 lv (S.map bC)) (hs:∀q ∈ S,q.1.length≤1000000) (p:ByteArray) (hp:p.size≤1000000) :
 ς 202 #[.agg #[lv],.string p] w fun e w'=>e=ώ (.tuple #[ι (js p.data.toList S:Nat),.bool (iF p.data.toList S)])∧υ w w':=by
 obtain⟨A,cap,b,off,rfl,hcap,hl,hA,hat⟩:=hT.open_;simp only[bz] at hcap hl hA ⊢;obtain⟨F,hF⟩:=μ (js p.data.toList S);obtain⟨T,yy⟩:=μ (iF p.data.toList S);rw[hF,yy];have HF:=cD hF yy hat hs hp;obtain⟨c,hc⟩:=μ w.heap.size;have Hc:=δ hc;clear hF yy hat hs hT hc;go_enter func202,ntmps202
 go_upto_region 1 with fail
 rw[Hc.out];generalize hw1:World.alloc _ _=w1;have aP:η w1 c 93 #[.slice A S.length cap]:=Up
 have az:υ w w1:=ry
 have H1:=τ aP az;clear hw1 aP az;go_wp2_with fail
 go_loopw [6] (fun i wr=>∃k:Nat,k≤S.length∧i=ι k∧υ w1 wr∧k≤F) (fun i _=>S.length - (intOf i).toNat)
 case atStart=>exact⟨0,oM,rfl,ζ.refl _ _,oM⟩
 case round =>
  obtain⟨k,hk,rfl,hu,Ig⟩:=hrel;have c0:wr.cell? ⟨c,0,none⟩=some (.slice A S.length cap):=(H1.out.1.ε hu id).cell 0;have HT:=aq hu hk Ig;have hwk:IntKind.i64.wrap ((k:Int)+1)=(k:Int)+1:=cZ _ oM;by_cases hlt:k<S.length
  ·obtain rfl:=hA oM
   obtain⟨x,hx⟩:=μ (S[k]);obtain⟨X,hX⟩:=μ (str x.1);have mS:X.data.toList=x.1:=by rw[← hX,cA]
   have LF:X.size≤1000000:=by
    rw[← hX,bR];exact HF.out.2.2.2.1 x (hx ▸ eE hlt)
   have cX:wr.cell? ⟨b,off+k*2,none⟩=some (.string X):=HF.out.2.2.1 wr _ (H1.out.2.then hu φ) (fun _ _ e=>e) k (bC x) zS 0 _ (by rw[← hX];rfl)
   have Du:=anf X p LF HF.out.2.2.2.2 wr;rw[mS] at Du;have hstep:=Zl p.data.toList S k hlt (by rw[HF.out.1];exact Ig);rw[hx,HF.out.1] at hstep;have nO:(X.toList == p.toList)=decide (x.1=p.data.toList):=by
    rw[CV,CV,mS,y9,jV,eD]
   have HX:=aF hx hstep hlt nO;have j1:(k:Int)<(S.length:Int):=oM;by_cases hl2:x.1<p.data.toList
   ·rw[fo hl2] at Du
    have HL:=τ Du hl2;clear hx hX mS LF hstep nO Du hl2;go_wp2_with (first
     |(go_at_call 244;refine HL.out.1.mono ?_;rintro e w2 ⟨rfl,σ⟩;have H2:=δ (hu.then σ φ);clear σ))
    go_roundw
    case rel=>exact⟨k+1,oM,sM,H2.out,HX.out.2.1.2 HL.out.2⟩
    case measure=>simp[intOf]<;>omega
   ·rw[gI hl2] at Du
    have hend:=Z9 (by rw[HF.out.1];exact Ig) (.inr ⟨hlt,by rw[hx];exact hl2⟩);have Ax:=ajA hend hlt;rw[hx,HF.out.2.1] at Ax;rw[HF.out.1] at hend;subst hend;have HL:=τ Du Ax;have HCX:Hid (∀W,υ w1 W→W.cell? ⟨b,off+k*2,none⟩=some (.string X)):=δ fun W hW=>HF.out.2.2.1 W _ (H1.out.2.then hW φ) (fun _ _ e=>e) k (bC x) zS 0 _ (by rw[← hX];rfl)
    clear hx hX mS LF hstep Du hl2 Ig Ax;obtain⟨bt,gH⟩:=μ (decide (x.1=p.data.toList));rw[gH] at nO;have WX:=δ gH;clear gH;go_upto_region 4 with (first
     |(go_at_call 244;refine HL.out.1.mono ?_;rintro e w2 ⟨rfl,σ⟩
       have rH:=hu.then σ φ;have c0':w2.cell? ⟨c,0,none⟩=some (.slice (some ⟨b,off,none⟩) S.length cap):=(H1.out.1.ε rH id).cell 0;have cX':=HCX.out w2 rH;have H2:=δ rH;clear σ rH))
    go_quiet (fail)
    go_wp2_with fail
    go_ret2
    exact⟨by rw[HL.out.2,WX.out];rfl,(H1.out.2.then H2.out φ).drewN _⟩
  ·have j1:¬(k:Int)<(S.length:Int):=oM
   obtain rfl:k=S.length:=oM;have hend:=Z9 (by rw[HF.out.1];exact Ig) (.inl rfl);have Ax:=aif hend;rw[HF.out.2.1] at Ax;rw[HF.out.1] at hend;subst Ax;have HE:=δ hend;clear hend Ig;go_wp2_with fail
   go_quiet (fail)
   go_wp2_with fail
   go_ret2
   exact⟨by rw[← HE.out];rfl,(H1.out.2.then hu φ).drewN _⟩
end
end Go.Proofs.YtbhjgfibhegddaaGreat
