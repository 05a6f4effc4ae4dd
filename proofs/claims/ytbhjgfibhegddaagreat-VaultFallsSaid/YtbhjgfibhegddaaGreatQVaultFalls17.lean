/-
  Parts of the proof of VaultFalls: VatI, VatJ, InA, Ref11, InB, InC, VatK, VatL.
-/
import Derived.Test.YtbhjgfibhegddaaGreatQVaultFalls16
import Derived.BigQuiet
import Derived.Outline
set_option maxRecDepth 100000
set_option maxHeartbeats 16000000
namespace Go.Proofs.YtbhjgfibhegddaaGreat
abbrev Mr:=@Nat.lt_irrefl
abbrev Ms:=@List.flatten_cons
abbrev Mt:=@Nat.succ_mul
abbrev Yh:=@Go.DataW.trod_struct
abbrev xD:=@Go.DataW.trod_int
abbrev Mu:=@Go.DataW.trod_string
open Tryz
section
open Go Go.RowKit
theorem ZT (c:UInt8) (n:Nat):(BO c n).data.toList=List.replicate n c:=by
 unfold BO;show Lib.repeatL [c] n=_;induction n with
 | zero=>rfl
 | succ n ih=>rw[List.replicate_succ,← ih];rfl
theorem ah3 (t:List UInt8) (k:Nat):str [UInt8.ofNat k,UInt8.ofNat (bS t),UInt8.ofNat (kz t k).length,0]++str (kz t k)++BO 0 (56 - (kz t k).length)=str (oh t k):=by
 have:BO 0 (56 - (kz t k).length)=str (List.replicate (56 - (kz t k).length) 0):=by rw[← ZT,FJ]
 rw[this,Bf,Bf];rfl
theorem al3 {w:World} {p:Nat} {d:Dk} {F:List Nat} (hD:bG w p d F) (hp:d.pend+200<1000000) (slot:Nat) (h1:1≤slot) (h2:slot≤2) (s:ByteArray) (hs:s.size≤4400) :
 ς 103 #[.pointer (some ⟨p,0,none⟩),ι (slot:Int),.string s] w fun e w'=>e=ώ (ι (gw d slot s.data.toList).2)∧∃F',Left w w' p (gw d slot s.data.toList).1 F F':=by
 have hlen:s.data.toList.length=s.size:=gZ
 have hwf:=hD.wf;obtain⟨t,ht⟩:=μ s.data.toList;rw[ht] at hlen ⊢;have n80:bS t≤80:=Be oM;have Qf:bS t=(s.size+55) / 56:=by unfold bS;rw[hlen]
 have hdiv:((s.size:Int)+56 - 1) / 56=(bS t:Int):=by rw[Qf];omega
 have hcell:Hid (∀k,s.extract (k*56) (min (((k:Int)+1)*56) (s.size:Int)).toNat=str (kz t k)):=fun k=>by
  rw[uc,ht];unfold kz;rw[Mb k 56];congr 1
  by_cases hin:56*k+56≤s.size
  ·rw[show (min (((k:Int)+1)*56) (s.size:Int)).toNat - 56*k=56 by omega]
  ·rw[show (min (((k:Int)+1)*56) (s.size:Int)).toNat - 56*k=s.size - 56*k by omega,dV JW,dV JW]
 have hWD:Hid (gw d slot t=if (bV d (dN slot) (jm t) (bS t)).2≠0 then bV d (dN slot) (jm t) (bS t) else (bV d (dN slot) (jm t) (bS t)).1.sync):=by
  show gw _ _ _=_;unfold gw;rw[ν oM]
 have hsame:=δ (fun k=>ug d (dN slot) (jm t) hwf.len k);have lF:=aq Qf n80 hlen;have HD:=δ hD;have k80:(bS t:Int)≤80:=oM;clear hwf hD hlen Qf ht;go_enter func103,ntmps103
 go_wp2_with fail
 rw[hdiv];go_loopw [8,9,10,11,12,21] (fun _ _ _ _ _ u wr=>∃(k:Nat) (Fk:List Nat),k≤bS t∧u=ι (k:Int)∧(bV d (dN slot) (jm t) k).2=0∧Left w wr p (bV d (dN slot) (jm t) k).1 F Fk) (fun _ _ _ _ _ u _=>bS t - (intOf u).toNat)
 case atStart=>exact⟨0,F,oM,rfl,rfl,Left.refl HD.out⟩
 case round =>
  obtain⟨k,Fk,hk,rfl,hE,hL⟩:=hrel;by_cases hlt:k<bS t
  ·have hps:=lF.out.1
   have apn:56*k≤s.size:=oM;have hpl:=Rs t k;have aot:(str (kz t k)).size=(kz t k).length:=bR _;have hsp:=ah3 t k;have cv:=hcell k;obtain⟨P,hP⟩:=μ (str (kz t k));obtain⟨PL,uX⟩:∃n,(kz t k).length=n:=⟨_,rfl⟩;rw[hP,uX] at aot;rw[hP] at cv;rw[hP,uX] at hsp;rw[uX] at hpl;obtain⟨SN,CG⟩:∃n,bS t=n:=⟨_,rfl⟩;rw[CG] at hsp hk hlt k80 ⊢;obtain⟨Z,hZ⟩:=μ (BO 0 (56 - PL));obtain⟨H4,Qg⟩:∃H,str [UInt8.ofNat k,UInt8.ofNat SN,UInt8.ofNat PL,0]=H:=⟨_,rfl⟩;rw[hZ,Qg] at hsp;have hZs:Z.size=56 - PL:=by
    rw[← hZ,show (BO 0 (56 - PL)).size=(BO 0 (56 - PL)).data.toList.length by simp,ZT,jE]
   have hHs:H4.size=4:=by rw[← Qg,bR];rfl
   obtain⟨BD,LG⟩:∃b,str (oh t k)=b:=⟨_,rfl⟩;rw[LG] at hsp;have sJ:BD.size=60:=by rw[← LG,bR,II]
   have NR:=fun W=>Sp BD W sJ
   rw[← LG,cA,LG] at NR;obtain⟨X,hX⟩:∃x,str (gW (oh t k))=x:=⟨_,rfl⟩;rw[hX] at NR;have sx:=fun W=>anz 0 (56 - PL) W oM
   rw[hZ] at sx;have rC:(jm t).getD k ByteArray.empty=X:=by rw[MC t k oM,hX]
   have hpc:=fun (W:World)=>aaK slot k h1 oM oM W
   have qc:=xE (Zr wr [UInt8.ofNat k,UInt8.ofNat SN,UInt8.ofNat PL,0] sM);rw[Qg] at qc;have hcv:(convert 89 9 (.slice (some ⟨wr.heap.size,0,none⟩) 4 4)).run prog (wr.alloc (.cells #[ϋ (k:Int),ϋ (SN:Int),ϋ (PL:Int),ϋ 0] 5))=.ok (.string H4) (wr.alloc (.cells #[ϋ (k:Int),ϋ (SN:Int),ϋ (PL:Int),ϋ 0] 5)):=by
    have e:(aO [UInt8.ofNat k,UInt8.ofNat SN,UInt8.ofNat PL,0]).toArray=#[ϋ (k:Int),ϋ (SN:Int),ϋ (PL:Int),ϋ 0]:=by
     unfold aO;simp
     omega
    rw[e] at qc;exact qc
   have cs1:(9223372036854775807<H4.size+P.size)=False:=eq_false oM;obtain⟨Q,hQ⟩:=μ (H4++P);have CI:Q.size=4+PL:=by rw[← hQ,IC];omega
   have cs2:(9223372036854775807<Q.size+Z.size)=False:=eq_false oM;have e60:(60:Int) - (Q.size:Int)=((56 - PL:Nat):Int):=oM;rw[← e60] at sx;rw[hQ] at hsp;have mZ:=aq cv hsp rC;have aou:=δ NR;have aov:=δ sx;have Qh:=δ hpc;have HQ:=δ hQ;have HQs:=δ CI;have HK:=cD hk hlt CG hE hL;have j1:(k:Int)<(SN:Int):=oM;have j2:(PL:Int)≤56:=oM;clear hQ CI e60 cv hsp rC NR sx hpc hP uX hZ Qg LG hX hZs qc hE hL CG hps;go_upto_region 8 with fail
   rw[mZ.out.1];go_upto_region 9 with fail
   rw[HQ.out];have q60:(Q.size:Int)≤60:=by have:=HQs.out;omega
   go_wp2_with fail
   refine(aov.out _).mono ?_;rintro e w2 ⟨rfl,σ⟩;have H2:=δ σ;clear σ;go_wp2_with fail
   rw[mZ.out.2.1];refine(aou.out _).mono ?_;rintro e w3 ⟨rfl,aC⟩;have hL3:=((HK.out.2.2.2.2.alloc (.cells #[ϋ (k:Int),ϋ (SN:Int),ϋ (PL:Int),ϋ 0] 5)).below (ζ.below H2.out φ)).below aC;have H3:=δ hL3;clear hL3 aC;go_wp2_with fail
   refine(Qh.out _).mono ?_;rintro e w4 ⟨rfl,rfl⟩;have wj:=(hsame k).2.2;have hw:=St H3.out.bH ((dN slot+k:Nat):Int) X (oN lF.out.2.1);have cy:bV d (dN slot) (jm t) (k+1)=(bV d (dN slot) (jm t) k).1.write ((dN slot+k:Nat):Int) X:=by
    conv=>lhs;unfold bV
    rw[ν (by rw[HK.out.2.2.2.1];simp),mZ.out.2.2]
   rw[← cy] at hw;have HW:=δ hw;clear hw cy wj;obtain⟨e',he'⟩:∃e',(bV d (dN slot) (jm t) (k+1)).2=e':=⟨_,rfl⟩;rw[he'] at HW;go_wp2_with fail
   refine HW.out.mono ?_;rintro e w5 ⟨rfl,F5,uQ⟩;have H5:=τ (H3.out.trans uQ) he';clear uQ he';by_cases hz:e'=0
   ·subst hz
    go_wp2_with fail
    go_roundw
    case rel=>exact⟨k+1,F5,by have:=HK.out.2.1;omega,by go_num,H5.out.2,H5.out.1⟩
    case measure=>have:=HK.out.2.1;simp[intOf]<;>omega
   ·have Qi:(e' != 0)=true:=by simpa using hz
    have HZ:=δ hz;clear hz;go_wp2_with fail
    go_ret
    have hstop:=YN (d:=d) (a:=dN slot) (l:=jm t) (j:=k+1) (m:=SN) (by rw[H5.out.2];exact HZ.out) (oN HK.out.2.1);have de:gw d slot t=bV d (dN slot) (jm t) (k+1):=by
     have h:=hWD;rw[HK.out.2.2.1] at h;have h2:gw d slot t=_:=h;rw[h2,hstop,π (by rw[H5.out.2];exact HZ.out)]
    rw[de,H5.out.2];exact⟨rfl,F5,H5.out.1⟩
  ·obtain rfl:k=bS t:=oM
   have hsy:=SR hL.bH;have HSY:=δ hsy;have HK:=τ hL hE;clear hsy hL hE hlt hk;go_wp2_with fail
   refine HSY.out.mono ?_;rintro e w5 ⟨rfl,F5,uQ⟩;have H5:=δ (HK.out.1.trans uQ);clear uQ;go_wp2_with fail
   go_ret
   have h2:gw d slot t=_:=hWD;rw[h2,ν (by rw[HK.out.2];simp)]
   exact⟨rfl,F5,H5.out⟩
def Ty (w:World) (t:TypeId) (b:Nat):Prop:=∃cur fr,w.heap[b]? = some (.cells cur t fr)
def Mp (w:World) (b:Nat):Prop:=∃es c,w.heap[b]? = some (.map es c)
theorem Ty.inj {w:World} {t t':TypeId} {b:Nat} (h:Ty w t b) (h':Ty w t' b):t=t':=by
 obtain⟨a,f,e⟩:=h;obtain⟨a',f',e'⟩:=h';rw[e] at e';injection e' with e';injection e' with _ e'
theorem Ty.jG {w:World} {t:TypeId} {b:Nat} (h:Ty w t b) (h':Mp w b):False:=by
 obtain⟨a,f,e⟩:=h;obtain⟨a',f',e'⟩:=h';rw[e] at e';injection e' with e';cases e'
theorem η.ty {w:World} {t:TypeId} {b:Nat} {cs:Array Value} (h:η w b t cs):Ty w t b:=⟨cs,(0,0),h⟩
theorem cM.mp {α : Type} {inj : α → Value} {w:World} {b:Nat} {m:List (α × Value)} (h:cM inj w b m):Mp w b:=by
 obtain⟨es,c,h1,-⟩:=h;exact⟨es,c,h1⟩
theorem Own.ty {w:World} {e:TypeId} {size n:Nat} {v:Value} {xs:List Value} (h:Own w e size v n xs) {q:Nat} (hq:v.ownBlock=some q):Ty w e q:=by
 rcases h.2 with ⟨rfl,_⟩ | ⟨g,cap,cur,fr,rfl,hg,_⟩
 ·simp[Value.ownBlock] at hq
 ·have:g=q:=by simpa [Value.ownBlock] using hq
  subst this;exact⟨cur,fr,hg⟩
theorem bG.kind {w:World} {p:Nat} {d:Dk} {F:List Nat} (h:bG w p d F) {q:Nat} (hq:q ∈ F):Ty w 151 q∨Ty w 9 q∨Mp w q:=by
 obtain⟨bl,cap,bm,m,g1,g2,g3,g4,g5,rfl,g7⟩:=h;simp only[cC,oU] at hq;rcases hq with rfl | rfl | rfl | ⟨x,hx,hk⟩
 ·exact .inl g1.ty
 ·exact .inr (.inl (g2.ty lV))
 ·exact .inr (.inr g3.mp)
 ·obtain⟨i,_,_,_,h8⟩:=g4.each x hx
  exact .inr (.inl (h8.ty hk))
theorem b_.kind {F:Nat→Prop} {w0 w:World} {r:Nat} {aV:ByteArray} {cur κ n kb:Nat} {aA:List (Int × Nat)} (h:b_ F w0 w r aV cur κ n kb aA) {q:Nat} (hq:fK r kb aA q):Ty w 186 q∨Ty w 269 q∨q=kb:=by
 rcases hq with rfl | rfl | ⟨e,he,rfl⟩
 ·exact .inl h.blk.ty
 ·exact .inr (.inr rfl)
 ·exact .inr (.inl (h.slots e he).ty)
def gC:TypeId:=99999999
def ax (w:World) (t:TypeId) (k:Nat) (v:Value) (cs:List (List Value)):Prop :=
 ∃A cap,v=.slice A cs.length cap∧cs.length≤cap∧cs.length≤1000000∧(0<cs.length→∃b off cur t' fr,A=some ⟨b,off,none⟩∧w.heap[b]? = some (.cells cur t' fr)∧(t≠gC→t'=t)∧∀i c,cs[i]? = some c→∀j u,c[j]? = some u→cur[off+i*k+j]? = some u)
theorem ax.ym {w w':World} {t:TypeId} {k:Nat} {v:Value} {cs:List (List Value)} {Z:Nat→Prop} (h:ax w t k v cs) (hu:ζ Z w w') (hz:∀b,v.ownBlock=some b→(t≠gC→Ty w t b)→¬Z b):ax w' t k v cs:=by
 obtain⟨A,cap,h1,h2,h3,h4⟩:=h;refine⟨A,cap,h1,h2,h3,fun h0=>?_⟩;obtain⟨b,off,cur,t',fr,e1,e2,e4,e3⟩:=h4 h0;refine⟨b,off,cur,t',fr,e1,(hu.block b (nZ.1 e2).1 (hz b (by rw[h1,e1];rfl) (fun hn=>⟨cur,fr,?_⟩))).trans e2,e4,e3⟩
 rw[← e4 hn];exact e2
theorem ax.ε {w w':World} {t:TypeId} {k:Nat} {v:Value} {cs:List (List Value)} {Z:Nat→Prop} (h:ax w t k v cs) (hu:ζ Z w w') (hz:∀b,Ty w t b→¬Z b) (ht:t≠gC:=by decide):ax w' t k v cs :=
 h.ym hu fun b _ hb=>hz b (hb ht)
theorem ax.still {w w':World} {t:TypeId} {k:Nat} {v:Value} {cs:List (List Value)} (h:ax w t k v cs) (hu:υ w w'):ax w' t k v cs:=h.ym hu (fun _ _ _ e=>e)
theorem ax.low {w w':World} {t:TypeId} {k N:Nat} {v:Value} {cs:List (List Value)} {Z:Nat→Prop} (h:ax w t k v cs) (hN:∀b,v.ownBlock=some b→b<N) (hu:ζ Z w w') (hz:∀q,Z q→N≤q):ax w' t k v cs :=
 h.ym hu fun b hb _ e=>Mr b (nY (hN b hb) (hz b e))
theorem ax.any {w:World} {t:TypeId} {k:Nat} {v:Value} {cs:List (List Value)} (h:ax w t k v cs):ax w gC k v cs:=by
 obtain⟨A,cap,h1,h2,h3,h4⟩:=h;refine⟨A,cap,h1,h2,h3,fun h0=>?_⟩;obtain⟨b,off,cur,t',fr,e1,e2,e4,e3⟩:=h4 h0;exact⟨b,off,cur,t',fr,e1,e2,fun e=>absurd rfl e,e3⟩
theorem ax.open_ {w:World} {t:TypeId} {k:Nat} {v:Value} {cs:List (List Value)} (h:ax w t k v cs):∃A cap b off,v=.slice A cs.length cap∧cs.length≤cap∧cs.length≤1000000∧(0<cs.length→A=some ⟨b,off,none⟩) ∧
 ∀w' Z,ζ Z w w'→(∀b,(t≠gC→Ty w t b)→¬Z b)→∀i c,cs[i]? = some c→w'.rangeAt b (off+i*k) c:=by
 have hh:=h;obtain⟨A,cap,h1,h2,h3,h4⟩:=h;by_cases h0:0<cs.length
 ·obtain⟨b,off,cur,t',fr,e1,e2,e4,e3⟩:=h4 h0
  refine⟨A,cap,b,off,h1,h2,h3,fun _=>e1,fun w' Z hu hz i c hc j u hj=>?_⟩;have e5:=(hu.block b (nZ.1 e2).1 (hz b (fun hn=>⟨cur,fr,by rw[← e4 hn];exact e2⟩))).trans e2;rw[Fa w' b _ cur t' fr e5];exact e3 i c hc j u hj
 ·refine⟨A,cap,0,0,h1,h2,h3,fun h=>absurd h h0,fun w' Z hu hz i c hc=>?_⟩
  have:=(mF.1 hc).1;omega
theorem ax.ku {w:World} {t:TypeId} {k n:Nat} {v:Value} {cs:List (List Value)} (h:Own w t k v n cs.flatten) (hn:cs.length=n) (hm:n≤1000000) (hk:∀c ∈ cs,c.length=k):ax w t k v cs:=by
 rcases h.2 with ⟨rfl,h0⟩ | ⟨g,cap,cur,fr,rfl,hg,hfr,hnc,hcm,hcs,Dq⟩
 ·subst h0
  exact⟨none,0,by rw[hn],oM,oM,fun h=>by omega⟩
 ·refine⟨_,cap,by rw[hn],oM,oM,fun h0=>⟨g,0,cur,t,fr,rfl,hg,fun _=>rfl,fun i c hc j u hj=>?_⟩⟩
  have hfl:∀(l:List (List Value)),(∀c ∈ l,c.length=k)→∀i c,l[i]? = some c→∀j u,c[j]? = some u→l.flatten[i*k+j]? = some u:=by
   intro l;induction l with
   | nil=>intro _ i c hc;simp at hc
   | cons x r ih =>
     intro hl i c hc j u hj;have hx:=hl x sM;rw[Ms];cases i with
     | zero =>
       have:x=c:=by simpa using hc
       subst this;have hjl:=(mF.1 hj).1;rw[qi oM];simpa using hj
     | succ i =>
       rw[mG (by rw[hx,Mt];omega)];have e:(i+1)*k+j - x.length=i*k+j:=by rw[hx,Mt];omega
       rw[e];exact ih (fun c hc=>hl c (by simp[hc])) i c (by simpa using hc) j u hj
  have h1:=hfl cs hk i c hc j u hj;rw[← Dq,Mc] at h1;split at h1
  ·rw[lK]
   simpa using h1
  ·cases h1
theorem ax.eS {w:World} {t:TypeId} {v:Value} {l:List iC} (h:ax w t 2 v (l.map cB)):∃A cap b off,v=.slice A l.length cap∧l.length≤cap∧l.length≤1000000∧(0<l.length→A=some ⟨b,off,none⟩) ∧
 ∀w' Z,ζ Z w w'→(∀b,(t≠gC→Ty w t b)→¬Z b)→xY w' b off l:=by
 obtain⟨A,cap,b,off,h1,h2,h3,h4,h5⟩:=h.open_;rw[bz] at h1 h2 h3 h4;refine⟨A,cap,b,off,h1,h2,h3,h4,fun w' Z hu hz i hi=>?_⟩;exact h5 w' Z hu hz i (cB l[i]) (by simp[hi])
theorem ax.ops {w:World} {t:TypeId} {v:Value} {l:List dn} (h:ax w t 3 v (l.map bY)):∃A cap b off,v=.slice A l.length cap∧l.length≤cap∧l.length≤1000000∧(0<l.length→A=some ⟨b,off,none⟩) ∧
 ∀w' Z,ζ Z w w'→(∀b,(t≠gC→Ty w t b)→¬Z b)→vB w' b off l:=by
 obtain⟨A,cap,b,off,h1,h2,h3,h4,h5⟩:=h.open_;rw[bz] at h1 h2 h3 h4;refine⟨A,cap,b,off,h1,h2,h3,h4,fun w' Z hu hz i hi=>?_⟩;exact h5 w' Z hu hz i (bY l[i]) (by simp[hi])
structure cR where
 F:List Nat
 kb:Nat
 lb:Nat
 lv:Value
 rb:Nat
 rk:Nat
 aA:List (Int × Nat)
 m:Nat
 mb:Nat
 rv:Value
 aG:List Value
 mv:Value
def fI (V:aQ) (p:Nat) (o:cR):Array Value :=
 #[.pointer (some ⟨o.m,0,none⟩),ι V.at_,ι V.θ,o.rv,ι V.prev,.pointer (some ⟨p,0,none⟩),.pointer (some ⟨o.kb,0,none⟩),.pointer (some ⟨o.lb,0,none⟩),.pointer (some ⟨o.rb,0,none⟩),
  ι V.st.m.role,ι V.st.m.seen,ι V.st.m.aH,o.mv,.string (str V.st.m.aW),ι V.st.at_,ι V.st.θ,ι (V.st.slot:Int),ω (V.st.log:Int),ι (V.st.key:Int),.int .u32 (V.st.κ:Int),.bool V.down]
def uv:List bQ→List Value→List Value
 | b::r,o::s=>ι b.index::ι b.θ::o::uv r s
 | _,_=>[]
def cR.mut (o:cR) (v q:Nat):Prop:=q=v∨q ∈ o.F∨q=o.kb∨q=o.lb∨o.lv.ownBlock=some q∨fK o.rb o.rk o.aA q∨o.rv.ownBlock=some q
structure aT (w:World) (p v:Nat) (d:Dk) (V:aQ) (o:cR):Prop where
 bH:bG w p d o.F
 blk:η w v 117 (fI V p o)
 kept:η w o.kb 209 (V.kp.cells p)
 log:η w o.lb 199 (V.lg.cells p o.lv)
 recs:Own w 9 1 o.lv V.lg.l.length (strs V.lg.l)
 sep:∀q,o.lv.ownBlock=some q→q ∉ o.F
 ring:b_ (fK o.rb o.rk o.aA) w w o.rb (str jo) V.cur V.st.κ V.n o.rk o.aA
 yV:o.rk ∉ o.F
 map:gy w o.m o.mb V.S
 qL:o.mb ∉ o.F
 uY:o.mb≠o.rk
 rows:Own w 35 3 o.rv V.rows.length (uv V.rows o.aG)
 rM:o.aG.length=V.rows.length
 each:∀(i:Nat) (b:bQ) (ov:Value),V.rows[i]? = some b→o.aG[i]? = some ov→ax w 32 3 ov (b.ops.map bY)
 eS:ax w 46 2 o.mv (V.st.m.aZ.map cB)
structure dc (w w':World) (v:Nat) (o o':cR):Prop where
 ε:ζ (o.mut v) w w'
 sub:∀q,o'.mut v q→o.mut v q∨w.heap.size≤q
 EO:o'.mb=o.mb∨w.heap.size≤o'.mb:=by first| exact .inl rfl | assumption
theorem dc.refl (w:World) (v:Nat) (o:cR):dc w w v o o:=⟨ζ.refl _ _,fun _ h=>.inl h,.inl rfl⟩
theorem dc.trans {w w1 w2:World} {v:Nat} {o o1 o2:cR} (h:dc w w1 v o o1) (k:dc w1 w2 v o1 o2):dc w w2 v o o2 :=
 ⟨h.ε.then k.ε h.sub,fun q hq=>(k.sub q hq).elim (h.sub q) (fun e=>.inr (ic h.ε.size e)),k.EO.elim (fun e=>h.EO.imp (e.trans ·) (fun e2=>e ▸ e2)) (fun e=>.inr (ic h.ε.size e))⟩
theorem dc.still {w w1 w2:World} {v:Nat} {o o1:cR} (h:dc w w1 v o o1) (hu:υ w1 w2):dc w w2 v o o1:=⟨h.ε.then hu φ,h.sub,h.EO⟩
theorem dc.re {w w':World} {v:Nat} {o o':cR} (h:dc w w' v o o') {m mb:Nat} (hmb:mb=o.mb∨w.heap.size≤mb):dc w w' v o { o' with m:=m,mb:=mb } := ⟨h.ε,h.sub,hmb⟩
section
variable {w w':World} {p v:Nat} {d d':Dk} {V:aQ} {o:cR}
theorem aT.kind (h:aT w p v d V o) {q:Nat} (hq:o.mut v q):Ty w 117 q∨Ty w 151 q∨Ty w 9 q∨Ty w 209 q∨Ty w 199 q∨Ty w 186 q∨Ty w 269 q∨Ty w 35 q∨Mp w q∧(q ∈ o.F∨q=o.rk):=by
 rcases hq with rfl | hq | rfl | rfl | hq | hq | hq
 ·exact .inl h.blk.ty
 ·rcases h.bH.kind hq with e | e | e
  ·exact .inr (.inl e)
  ·exact .inr (.inr (.inl e))
  ·exact .inr (.inr (.inr (.inr (.inr (.inr (.inr (.inr ⟨e,.inl hq⟩)))))))
 ·exact .inr (.inr (.inr (.inl h.kept.ty)))
 ·exact .inr (.inr (.inr (.inr (.inl h.log.ty))))
 ·exact .inr (.inr (.inl (h.recs.ty hq)))
 ·rcases h.ring.kind hq with e | e | e
  ·exact .inr (.inr (.inr (.inr (.inr (.inl e)))))
  ·exact .inr (.inr (.inr (.inr (.inr (.inr (.inl e))))))
  ·exact .inr (.inr (.inr (.inr (.inr (.inr (.inr (.inr ⟨by rw[e];exact h.ring.map.mp,.inr e⟩)))))))
 ·exact .inr (.inr (.inr (.inr (.inr (.inr (.inr (.inl (h.rows.ty hq))))))))
theorem aT.sZ (h:aT w p v d V o) {t:TypeId} {q:Nat} (ht:Ty w t q) (hn:t ∉ [117,151,9,209,199,186,269,35]):¬o.mut v q:=by
 intro hq;simp only[cC,vg,vh,ql] at hn;obtain⟨n1,n2,n3,n4,n5,n6,n7,n8⟩:=hn;rcases h.kind hq with e | e | e | e | e | e | e | e | e
 ·exact n1 (ht.inj e)
 ·exact n2 (ht.inj e)
 ·exact n3 (ht.inj e)
 ·exact n4 (ht.inj e)
 ·exact n5 (ht.inj e)
 ·exact n6 (ht.inj e)
 ·exact n7 (ht.inj e)
 ·exact n8 (ht.inj e)
 ·exact ht.jG e.1
theorem aT.am6 (h:aT w p v d V o):¬o.mut v o.mb:=by
 intro hq;obtain⟨aA,e1,-⟩:=h.map.map;have hm:=e1.mp;rcases h.kind hq with e | e | e | e | e | e | e | e | e
 ·exact e.jG hm
 ·exact e.jG hm
 ·exact e.jG hm
 ·exact e.jG hm
 ·exact e.jG hm
 ·exact e.jG hm
 ·exact e.jG hm
 ·exact e.jG hm
 ·rcases e.2 with e | e
  ·exact h.qL e
  ·exact h.uY e
theorem aT.FG {Z:Nat→Prop} (h:aT w p v d V o) (hu:ζ Z w w') (hz:∀q,Z q→o.mut v q):gy w' o.m o.mb V.S :=
 h.map.ε hu (fun e=>h.sZ h.map.blk.ty dC (hz _ e)) (fun e=>h.am6 (hz _ e))
theorem aT.C' {Z:Nat→Prop} (h:aT w p v d V o) (hu:ζ Z w w') (hz:∀q,Z q→o.mut v q):∀(i:Nat) (b:bQ) (ov:Value),V.rows[i]? = some b→o.aG[i]? = some ov→ax w' 32 3 ov (b.ops.map bY) :=
 fun i b ov h1 h2=>(h.each i b ov h1 h2).ε hu (fun _ ht e=>h.sZ ht dC (hz _ e))
theorem aT.Dc {Z:Nat→Prop} (h:aT w p v d V o) (hu:ζ Z w w') (hz:∀q,Z q→o.mut v q):ax w' 46 2 o.mv (V.st.m.aZ.map cB) :=
 h.eS.ε hu (fun _ ht e=>h.sZ ht dC (hz _ e))
theorem b_.move {F:Nat→Prop} {w0 w w':World} {r:Nat} {aV:ByteArray} {cur κ n kb:Nat} {aA:List (Int × Nat)} {Z:Nat→Prop} (h:b_ F w0 w r aV cur κ n kb aA) (hu:ζ Z w w') (hz:∀q,fK r kb aA q→¬Z q):b_ (fK r kb aA) w' w' r aV cur κ n kb aA:=by
 refine⟨h.blk.ε hu (hz _ (.inl rfl)),h.map.ε hu (hz _ (.inr (.inl rfl))),fun e he=>(h.slots e he).ε hu (hz _ (.inr (.inr ⟨e,he,rfl⟩))),.inl (.inl rfl),.inl (.inr (.inl rfl)),fun e he=>.inl (.inr (.inr ⟨e,he,rfl⟩)),ζ.refl _ _⟩
theorem aT.still (h:aT w p v d V o) (hu:υ w w'):aT w' p v d V o :=
 ⟨h.bH.ε hu (fun _ _ e=>e),h.blk.ε hu id,h.kept.ε hu id,h.log.ε hu id,h.recs.ε hu (fun _ _ e=>e),h.sep,h.ring.move hu (fun _ _ e=>e),h.yV,h.map.still hu,h.qL,h.uY,h.rows.ε hu (fun _ _ e=>e),h.rM,fun i b ov h1 h2=>(h.each i b ov h1 h2).still hu,h.eS.still hu⟩
end
theorem Un {P:Prop} (h:P:=by rw[lf,bu hlt,hr];rfl):P:=h
def nV (w:World) (k:Nat) (v:Value) (cs:List (List Value)):Prop :=
 ∃A cap,v=.slice A cs.length cap∧cs.length≤cap∧cs.length≤9223372036854775807∧(0<cs.length→∃b off cur t fr,A=some ⟨b,off,none⟩∧w.heap[b]? = some (.cells cur t fr)∧∀i c,cs[i]? = some c→∀j u,c[j]? = some u→cur[off+i*k+j]? = some u)
section
variable {w w':World} {k:Nat} {v:Value} {cs:List (List Value)}
theorem nV.still (h:nV w k v cs) (hu:υ w w'):nV w' k v cs:=by
 obtain⟨A,cap,h1,h2,h3,h4⟩:=h;refine⟨A,cap,h1,h2,h3,fun h0=>?_⟩;obtain⟨b,off,cur,t,fr,e1,e2,e3⟩:=h4 h0;exact⟨b,off,cur,t,fr,e1,(hu.block b (nZ.1 e2).1 id).trans e2,e3⟩
theorem nV.open_ (h:nV w k v cs):∃A cap b off,v=.slice A cs.length cap∧cs.length≤cap∧cs.length≤9223372036854775807∧(0<cs.length→A=some ⟨b,off,none⟩) ∧
 ∀i c,cs[i]? = some c→∀j u,c[j]? = some u→w.cell? ⟨b,off+i*k+j,none⟩=some u:=by
 obtain⟨A,cap,h1,h2,h3,h4⟩:=h;by_cases h0:0<cs.length
 ·obtain⟨b,off,cur,t,fr,e1,e2,e3⟩:=h4 h0
  refine⟨A,cap,b,off,h1,h2,h3,fun _=>e1,fun i c hc j u hj=>?_⟩;rw[Fa w b _ cur t fr e2];exact e3 i c hc j u hj
 ·refine⟨A,cap,0,0,h1,h2,h3,fun h=>absurd h h0,fun i c hc=>?_⟩
  have:=(mF.1 hc).1;omega
theorem nV.row (h:nV w k v cs) (hl:cs.length≤1000000):ax w gC k v cs:=by
 obtain⟨A,cap,h1,h2,h3,h4⟩:=h;refine⟨A,cap,h1,h2,hl,fun h0=>?_⟩;obtain⟨b,off,cur,t,fr,e1,e2,e3⟩:=h4 h0;exact⟨b,off,cur,t,fr,e1,e2,fun e=>absurd rfl e,e3⟩
theorem aeD {P:Prop} (h:P:=by
 intro q hq;rw[h1,e1] at hq;have:b=q:=by simpa [Value.ownBlock] using hq
 subst this;exact(nZ.1 e2).1):P:=h
theorem nV.lt (h:nV w k v cs) (h0:0<cs.length):∀q,v.ownBlock=some q→q<w.heap.size:=by
 obtain⟨A,cap,h1,h2,h3,h4⟩:=h;obtain⟨b,off,cur,t,fr,e1,e2,e3⟩:=h4 h0;exact aeD
end
def uB (n:Int):Prop:=-9223372036854775808≤n∧n≤9223372036854775807
structure Bw (w:World) (v:Value) (l:List dn):Prop where
 rows:nV w 3 v (l.map bY)
 small:∀o ∈ l,o.path.length≤9223372036854775807∧o.value.length≤9223372036854775807
structure Bx (w:World) (v:Value) (l:List ai):Prop where
 rows:nV w 2 v (l.map bC)
 small:∀p ∈ l,p.1.length≤9223372036854775807∧p.2.length≤9223372036854775807
structure xP (w:World) (mv:Value) (m:MetaM):Prop where
 rows:nV w 2 mv (m.aZ.map cB)
 small:∀x ∈ m.aZ,x.name.length≤9223372036854775807
 aW:m.aW.length≤9223372036854775807
 role:uB m.role
 seen:uB m.seen
 aH:uB m.aH
structure JK (w:World) (ov:Value) (b:bQ):Prop where
 ops:Bw w ov b.ops
 index:uB b.index
 θ:uB b.θ
def NS (l:List dn):Prop:=l.length≤100∧∀o ∈ l,o.path.length≤1000∧o.value.length≤1000
def NT (l:List ai):Prop:=l.length≤200∧∀p ∈ l,p.1.length≤1000∧p.2.length≤1000
def Df (m:MetaM):Prop:=m.aZ.length≤20∧m.aW.length≤500∧∀x ∈ m.aZ,x.name.length≤500
def Jf (Q:Prop) (w:World) (e:Ending) (w':World):Prop:=∃b,e=ώ (.bool b)∧υ w w'∧(b=false→Q)
theorem Bw.still {w w':World} {v:Value} {l:List dn} (h:Bw w v l) (hu:υ w w'):Bw w' v l:=⟨h.rows.still hu,h.small⟩
theorem Bx.still {w w':World} {v:Value} {l:List ai} (h:Bx w v l) (hu:υ w w'):Bx w' v l:=⟨h.rows.still hu,h.small⟩
theorem xP.still {w w':World} {v:Value} {m:MetaM} (h:xP w v m) (hu:υ w w'):xP w' v m := { h with rows:=h.rows.still hu }
theorem JK.still {w w':World} {v:Value} {b:bQ} (h:JK w v b) (hu:υ w w'):JK w' v b:=⟨h.ops.still hu,h.index,h.θ⟩
theorem aeE {P:Prop} (h:P:=by
 have hwk:IntKind.i64.wrap ((k:Int)+1)=(k:Int)+1:=cZ _ oM;have HP:=iw jc CI hr hks hk hlt;have j1:(k:Int)<(l.length:Int):=oM;clear hrow hP hQ hks hr;by_cases g1:(1000:Int)<(P.size:Int)
 ·clear jc CI
  go_wp2_with fail
  go_ret
  exact⟨true,rfl,ζ.refl _ _,sM⟩
 ·by_cases g2:(1000:Int)<(Q.size:Int)
  ·clear jc CI
   go_wp2_with fail
   go_ret
   exact⟨true,rfl,ζ.refl _ _,sM⟩
  ·clear jc CI
   go_wp2_with fail
   go_roundw
   case rel =>
    refine⟨k+1,oM,sM,trivial,fun j h hj=>?_⟩;by_cases e:j=k
    ·subst e
     rw[HP.out.2.2.1];have h1:=HP.out.1;have h2:=HP.out.2.1;omega
    ·exact tF.out j h oM
   case measure=>simp[intOf]<;>omega):P:=h
theorem aeF {P:Prop} (h:P:=by
 have j1:¬((k:Int)<(l.length:Int)):=oM;go_wp2_with fail
 go_ret
 refine⟨false,rfl,ζ.refl _ _,fun _=>⟨oM,fun o ho=>?_⟩⟩;obtain⟨j,hj,rfl⟩:=pL.1 ho;exact tF.out j hj oM):P:=h
theorem ah4 {w:World} {v:Value} {l:List dn} (hA:Bw w v l) :
 ς 39 #[v] w fun e w'=>Jf (NS l) w e w':=by
 obtain⟨A,cap,bA,off,rfl,hcap,hm,l_,jq⟩:=hA.rows.open_;rw[bz] at hm l_ hcap ⊢;have HC:=δ jq;have HK:=δ hA.small;clear jq hA;go_enter func39,ntmps39
 by_cases hn:100<l.length
 ·have hn':(100:Int)<(l.length:Int):=oM
  go_wp2_with fail
  go_ret
  exact⟨true,rfl,ζ.refl _ _,sM⟩
 have hn':¬(100:Int)<(l.length:Int):=oM;go_wp2_with fail
 go_loopw [3] (fun i wr=>∃k:Nat,k≤l.length∧i=ι k∧wr=w∧∀j (h:j<l.length),j<k→l[j].path.length≤1000∧l[j].value.length≤1000) (fun i _=>l.length - (intOf i).toNat)
 case atStart=>exact⟨0,oM,rfl,rfl,fun j h hj=>by omega⟩
 case round =>
  obtain⟨k,hk,rfl,rfl,hall⟩:=hrel;have tF:=δ hall;clear hall;by_cases hlt:k<l.length
  ·obtain rfl:=l_ oM
   obtain⟨r,hr⟩:=μ (l[k]);have hrow:(l.map bY)[k]? = some (bY r):=Un
   have hks:=HK.out r (hr ▸ eE hlt);obtain⟨P,hP⟩:=μ (str r.path);obtain⟨Q,hQ⟩:=μ (str r.value);have jc:P.size=r.path.length:=by rw[← hP,bR]
   have CI:Q.size=r.value.length:=by rw[← hQ,bR]
   have cP:wr.cell? ⟨bA,off+k*3+1,none⟩=some (.string P):=HC.out k _ hrow 1 (.string P) (by rw[← hP];rfl)
   have cQ:wr.cell? ⟨bA,off+k*3+2,none⟩=some (.string Q):=HC.out k _ hrow 2 (.string Q) (by rw[← hQ];rfl)
   exact aeE
  ·exact aeF
theorem ah5 {w:World} {v:Value} {l:List ai} (hA:Bx w v l) :
 ς 40 #[v] w fun e w'=>Jf (NT l) w e w':=by
 obtain⟨A,cap,bA,off,rfl,hcap,hm,l_,jq⟩:=hA.rows.open_;rw[bz] at hm l_ hcap ⊢;have HC:=δ jq;have HK:=δ hA.small;clear jq hA;go_enter func40,ntmps40
 by_cases hn:200<l.length
 ·have hn':(200:Int)<(l.length:Int):=oM
  go_wp2_with fail
  go_ret
  exact⟨true,rfl,ζ.refl _ _,sM⟩
 have hn':¬(200:Int)<(l.length:Int):=oM;go_wp2_with fail
 go_loopw [3] (fun i wr=>∃k:Nat,k≤l.length∧i=ι k∧wr=w∧∀j (h:j<l.length),j<k→l[j].1.length≤1000∧l[j].2.length≤1000) (fun i _=>l.length - (intOf i).toNat)
 case atStart=>exact⟨0,oM,rfl,rfl,fun j h hj=>by omega⟩
 case round =>
  obtain⟨k,hk,rfl,rfl,hall⟩:=hrel;have tF:=δ hall;clear hall;by_cases hlt:k<l.length
  ·obtain rfl:=l_ oM
   obtain⟨r,hr⟩:=μ (l[k]);have hrow:(l.map bC)[k]? = some (bC r):=Un
   have hks:=HK.out r (hr ▸ eE hlt);obtain⟨P,hP⟩:=μ (str r.1);obtain⟨Q,hQ⟩:=μ (str r.2);have jc:P.size=r.1.length:=by rw[← hP,bR]
   have CI:Q.size=r.2.length:=by rw[← hQ,bR]
   have cP:wr.cell? ⟨bA,off+k*2,none⟩=some (.string P):=HC.out k _ hrow 0 (.string P) (by rw[← hP];rfl)
   have cQ:wr.cell? ⟨bA,off+k*2+1,none⟩=some (.string Q):=HC.out k _ hrow 1 (.string Q) (by rw[← hQ];rfl)
   exact aeE
  ·exact aeF
theorem aho {w:World} {v:Value} {m:MetaM} (hA:xP w v m) :
 ς 38 #[.agg (dD m v)] w fun e w'=>Jf (Df m) w e w':=by
 obtain⟨l,hl⟩:=μ m.aZ;obtain⟨S,hS⟩:=μ (str m.aW);have nU:S.size=m.aW.length:=by rw[← hS,bR]
 have hSm:S.size≤9223372036854775807:=by rw[nU];exact hA.aW
 have oZ:=hA.rows;have gS:=hA.small;rw[hl] at oZ gS;obtain⟨C,hC⟩:=μ (dD m v);obtain⟨c,hc⟩:=μ w.heap.size;rw[hC];have sN:=τ hc hC;clear hc hC;go_enter func38,ntmps38
 go_upto_region 1 with fail
 rw[sN.out.1];generalize hw1:World.alloc _ _=w1;have aP:η w1 c 50 (dD m v):=by rw[sN.out.2,← hw1,← sN.out.1];exact η.new w _ _
 have az:υ w w1:=ry
 obtain⟨A,cap,bA,off,rfl,hcap,hm,l_,jq⟩:=(oZ.still az).open_;rw[bz] at hm l_ hcap;unfold dD at aP;rw[bz,hS] at aP;have c3:=aP.cell 3;have c4:=aP.cell 4;simp only[IB,qm,oV] at c3 c4;have HC:=δ jq;have HK:=δ gS;have HM:=aq hl nU az;clear jq gS oZ hA hS hw1 aP nU hl az;by_cases hn:20<l.length
 ·have hn':(20:Int)<(l.length:Int):=oM
  go_wp2_with fail
  go_ret
  exact⟨true,rfl,HM.out.2.2,sM⟩
 have hn':¬(20:Int)<(l.length:Int):=oM;by_cases hs:(500:Int)<(S.size:Int)
 ·go_wp2_with fail
  go_ret
  exact⟨true,rfl,HM.out.2.2,sM⟩
 go_wp2_with fail
 go_loopw [3] (fun i wr=>∃k:Nat,k≤l.length∧i=ι k∧wr=w1∧∀j (h:j<l.length),j<k→l[j].name.length≤500) (fun i _=>l.length - (intOf i).toNat)
 case atStart=>exact⟨0,oM,rfl,rfl,fun j h hj=>by omega⟩
 case round =>
  obtain⟨k,hk,rfl,rfl,hall⟩:=hrel;have tF:=δ hall;clear hall;by_cases hlt:k<l.length
  ·obtain rfl:=l_ oM
   obtain⟨r,hr⟩:=μ (l[k]);have hrow:(l.map cB)[k]? = some (cB r):=Un
   have hks:=HK.out r (hr ▸ eE hlt);obtain⟨P,hP⟩:=μ (str r.name);have jc:P.size=r.name.length:=by rw[← hP,bR]
   have cP:wr.cell? ⟨bA,off+k*2,none⟩=some (.string P):=HC.out k _ hrow 0 (.string P) (by rw[← hP];rfl)
   have hwk:IntKind.i64.wrap ((k:Int)+1)=(k:Int)+1:=cZ _ oM;have HP:=cD jc hr hks hk hlt;have j1:(k:Int)<(l.length:Int):=oM;clear hrow hP hks hr;by_cases g1:(500:Int)<(P.size:Int)
   ·clear jc
    go_wp2_with fail
    go_ret
    exact⟨true,rfl,HM.out.2.2,sM⟩
   ·clear jc
    go_wp2_with fail
    go_roundw
    case rel =>
     refine⟨k+1,oM,sM,trivial,fun j h hj=>?_⟩;by_cases e:j=k
     ·subst e
      rw[HP.out.2.1];have h1:=HP.out.1;omega
     ·exact tF.out j h oM
    case measure=>simp[intOf]<;>omega
  ·have j1:¬((k:Int)<(l.length:Int)):=oM
   go_wp2_with fail
   go_ret
   refine⟨false,rfl,HM.out.2.2,fun _=>⟨by rw[HM.out.1];omega,by have:=HM.out.2.1;omega,fun x hx=>?_⟩⟩;rw[HM.out.1] at hx;obtain⟨j,hj,rfl⟩:=pL.1 hx;exact tF.out j hj oM
theorem Kc {P:Prop} (h:P:=by rw[HB.out.2.1];exact hlt):P:=h
theorem Bn (s:ByteArray):str s.data.toList=s:=by
 obtain⟨d⟩:=s;simp[str]
theorem abh (s:ByteArray) (hs:s.size≤1000000) (w:World) :
 ς 144 #[.string s] w fun e w'=>e=ώ (.bool (oq s.data.toList))∧w=w':=by
 have hlen:s.data.toList.length=s.size:=gZ
 obtain⟨B,hB⟩:=μ (oq s.data.toList);rw[hB];have HB:=τ hB hlen;clear hB hlen;go_enter func144,ntmps144
 by_cases h1:(s.size:Int)<1
 ·obtain rfl:B=false:=by rw[← HB.out.1,IQ,HB.out.2];simp;omega
  go_wp2_with fail
  go_ret
  exact⟨rfl,rfl⟩
 by_cases h2:(8:Int)<(s.size:Int)
 ·obtain rfl:B=false:=by rw[← HB.out.1,IQ,HB.out.2];simp;omega
  go_wp2_with fail
  go_ret
  exact⟨rfl,rfl⟩
 go_wp2_with fail
 go_loop [3] (fun i=>∃k:Nat,k≤s.size∧i=ι (k:Int)∧(s.data.toList.take k).all letter=true) (fun i=>s.size - (intOf i).toNat)
 case atStart=>exact⟨0,oM,rfl,rfl⟩
 case round =>
  obtain⟨k,hk,rfl,hall⟩:=hrel;have HA:=δ hall;clear hall;by_cases hlt:k<s.size
  ·have j1:(k:Int)<(s.size:Int):=oM
   have pe:=qw s k hlt;by_cases g1:(s[k]).toNat<97
   ·exact Of
   ·by_cases g2:122<(s[k]).toNat
    ·exact Of
    ·exact ab_
  ·obtain rfl:k=s.size:=oM
   obtain rfl:B=true:=by
    have ha:=HA.out;rw[dV (by rw[HB.out.2];omega)] at ha;rw[← HB.out.1,IQ,ha,HB.out.2];simp
    omega
   go_wp2_with fail
   go_ret
   exact⟨rfl,rfl⟩
theorem al4 {A:Option Addr} {cap b off:Nat} {l:List iC} {w:World} (hA:0<l.length→A=some ⟨b,off,none⟩) (hb:xY w b off l) (hl:l.length≤1000000) (hs:∀m ∈ l,m.name.length≤1000000) :
 ς 85 #[.slice A l.length cap] w fun e w'=>e=ώ (.bool (qq l))∧υ w w':=by
 obtain⟨B,hB⟩:=μ (qq l);rw[hB];have HB:=δ hb;have HS:=τ hs hB;clear hb hs hB;go_enter func85,ntmps85
 by_cases h1:(l.length:Int)<1
 ·obtain rfl:B=false:=by rw[← HS.out.2];unfold qq;simp;omega
  go_wp2_with fail
  go_ret
  exact⟨rfl,ζ.refl _ _⟩
 by_cases h2:(4:Int)<(l.length:Int)
 ·obtain rfl:B=false:=by rw[← HS.out.2];unfold qq;simp;omega
  go_wp2_with fail
  go_ret
  exact⟨rfl,ζ.refl _ _⟩
 obtain rfl:=hA oM;go_wp2_with fail
 go_loopw [3,4] (fun i _ wr=>∃k:Nat,k≤l.length∧i=ι (k:Int)∧υ w wr∧nI [] (l.take k)=true) (fun i _ _=>l.length - (intOf i).toNat)
 case atStart=>exact⟨0,oM,rfl,ζ.refl _ _,rfl⟩
 case round =>
  obtain⟨k,hk,rfl,hU,hE⟩:=hrel;by_cases hlt:k<l.length
  ·have cy:=ZL hlt hE
   have jI:nI [] (l.take (k+1))=false→B=false:=fun h=>by
    rw[← HS.out.2];unfold qq;rw[Zi h];rfl
   have hsz:=HS.out.1 _ (eE hlt);have jq:∀j (hj:j<l.length),∀W,υ w W→W.cell? ⟨b,off+j*2,none⟩=some (.string (str l[j].name)):=fun j hj W hW=>by
    have h0:=HB.out j hj 0 (.string (str l[j].name)) rfl;rw[← h0];exact CX (hW.block b (Mn _ _ h0) id)
   obtain⟨o,ho⟩:=μ (l[k]);rw[ho] at cy hsz;obtain⟨P,hP⟩:=μ (str o.name);have GP:=jq k hlt wr hU;rw[ho,hP] at GP;have hnm:=fun W=>abh P (by rw[← hP,bR];exact hsz) W
   rw[show P.data.toList=o.name by rw[← hP,cA]] at hnm;obtain⟨N,hN⟩:=μ (oq o.name);rw[hN] at hnm cy;have Cv:=δ hnm;have HX:=p7 cy jI hP hE jq hU ho;have j1:(k:Int)<(l.length:Int):=oM;have hwk:IntKind.i64.wrap ((k:Int)+1)=(k:Int)+1:=cZ _ oM;clear cy jI hsz hnm hE hP hN ho jq hU;cases N
   ·obtain rfl:=HX.out.2.1 (by rw[HX.out.1];rfl)
    go_wp2_with (first
     |(go_at_call 144;refine(Cv.out _).mono ?_;rintro e w2 ⟨rfl,rfl⟩))
    go_ret
    exact⟨rfl,HX.out.2.2.2.2.2.1⟩
   ·go_upto_region 9 with (first
     |(go_at_call 144;refine(Cv.out _).mono ?_;rintro e w2 ⟨rfl,rfl⟩))
    go_loopw [4] (fun i w2=>∃j:Nat,j≤k∧i=ι (j:Int)∧υ w w2∧(l.take j).any (fun x=>decide (x.name=o.name))=false) (fun i _=>k - (intOf i).toNat)
    case atStart=>exact⟨0,oM,rfl,HX.out.2.2.2.2.2.1,rfl⟩
    case round =>
     obtain⟨j,hj,rfl,σ,hF⟩:=hrel;by_cases hjk:j<k
     ·have cj:=HX.out.2.2.2.2.1 j oM _ σ
      have ck:=HX.out.2.2.2.2.1 k hlt _ σ;rw[HX.out.2.2.2.2.2.2,HX.out.2.2.1] at ck;obtain⟨x,hx⟩:=μ (l[j]'oM);rw[hx] at cj;obtain⟨Q,hQ⟩:=μ (str x.name);rw[hQ] at cj;have hcmp:(Q.toList == P.toList)=decide (x.name=o.name):=by rw[← hQ,← HX.out.2.2.1,aaF]
      have hnext:(l.take (j+1)).any (fun y=>decide (y.name=o.name))=decide (x.name=o.name):=by
       rw[ia oM,age,hF,hx];simp
      have j2:(j:Int)<(k:Int):=oM;have j3:(j:Int)<(l.length:Int):=oM;have hwj:IntKind.i64.wrap ((j:Int)+1)=(j:Int)+1:=cZ _ oM;obtain⟨D,hD⟩:=μ (decide (x.name=o.name));rw[hD] at hcmp hnext;have HN:=aq hnext σ hj;clear hnext σ hF hx hQ hD;cases D
      ·go_wp2_with fail
       go_quiet (fail)
       go_wp2_with fail
       go_roundw
       case rel=>exact⟨j+1,oM,sM,HN.out.2.1.drewN _,HN.out.1⟩
       case measure=>simp[intOf]<;>omega
      ·have bM:B=false:=HX.out.2.1 (by
        rw[HX.out.1];have h1:(l.take k).any (fun y=>decide (y.name=o.name))=true:=by
         have h2:=HN.out.1;rw[agf] at h2 ⊢;obtain⟨y,hy,hy2⟩:=h2;exact⟨y,(List.take_sublist_take_left oM).subset hy,hy2⟩
        rw[h1];rfl)
       subst bM;go_wp2_with fail
       go_quiet (fail)
       go_wp2_with fail
       go_ret
       exact⟨rfl,HN.out.2.1.drewN _⟩
     ·obtain rfl:j=k:=oM
      have j2:¬((j:Int)<(j:Int)):=oM;have HF:=τ hF σ;clear hF σ;go_wp2_with fail
      go_roundw
      case rel=>exact⟨j+1,oM,sM,HF.out.2,by rw[HX.out.1,HF.out.1];rfl⟩
      case measure=>simp[intOf]<;>omega
  ·obtain rfl:k=l.length:=oM
   obtain rfl:B=true:=by
    rw[sW] at hE;rw[← HS.out.2];unfold qq;rw[hE];simp
    omega
   have HU:=δ hU;clear hU hE;go_wp2_with fail
   go_ret
   exact⟨rfl,HU.out⟩
theorem aeG {P:Prop} (h:P:=by
 rw[y9,jV,eD];exact⟨fun h=>xp.1 (by have:(47:UInt8).toNat=47:=rfl;omega),fun h=>by rw[h];rfl⟩):P:=h
theorem anG (s:ByteArray) (hs:s.size≤1000000) (w:World) :
 ς 242 #[.string s] w fun e w'=>e=ώ (.bool (ur s.data.toList))∧w=w':=by
 have hlen:s.data.toList.length=s.size:=gZ
 obtain⟨p,hp⟩:∃p:UInt8→Bool,(fun c:UInt8=>decide (c≠0∧c≠47))=p:=⟨_,rfl⟩;have hpx:∀c:UInt8,p c=decide (c≠0∧c≠47):=fun c=>by rw[← hp]
 have hok:ur s.data.toList=(decide (1≤s.data.toList.length∧s.data.toList.length≤24) && s.data.toList.all p):=by rw[← hp];rfl
 obtain⟨B,hB⟩:=μ (ur s.data.toList);rw[hB,hlen] at hok;rw[hB];have HB:=aq hok hlen hpx;clear hB hlen hok hp hpx;go_enter func242,ntmps242
 by_cases h1:(s.size:Int)<1
 ·obtain rfl:B=false:=by rw[HB.out.1];simp;omega
  go_wp2_with fail
  go_ret
  exact⟨rfl,rfl⟩
 by_cases h2:(24:Int)<(s.size:Int)
 ·obtain rfl:B=false:=by rw[HB.out.1];simp;omega
  go_wp2_with fail
  go_ret
  exact⟨rfl,rfl⟩
 go_wp2_with fail
 go_loop [3] (fun i=>∃k:Nat,k≤s.size∧i=ι (k:Int)∧(s.data.toList.take k).all p=true) (fun i=>s.size - (intOf i).toNat)
 case atStart=>exact⟨0,oM,rfl,rfl⟩
 case round =>
  obtain⟨k,hk,rfl,hall⟩:=hrel;have HA:=δ hall;clear hall;by_cases hlt:k<s.size
  ·have j1:(k:Int)<(s.size:Int):=oM
   have pe:=qw s k hlt;have e0:((s[k].toNat:Int) == 0)=decide (s[k]=0):=by
    rw[y9,jV,eD];exact⟨fun h=>xp.1 (by have:(0:UInt8).toNat=0:=rfl;omega),fun h=>by rw[h];rfl⟩
   have e47:((s[k].toNat:Int) == 47)=decide (s[k]=47):=by
    exact aeG
   by_cases g1:s[k]=0
   ·rw[fo g1] at e0
    have KD:B=false:=by
     rw[HB.out.1,all_false (k:=k) Kc (by rw[HB.out.2.2,pe,g1];rfl),Bool.and_false]
    subst KD;clear pe e47 g1;go_wp2_with fail
    go_ret
    exact⟨rfl,rfl⟩
   ·rw[gI g1] at e0
    by_cases g2:s[k]=47
    ·rw[fo g2] at e47
     have KD:B=false:=by
      rw[HB.out.1,all_false (k:=k) Kc (by rw[HB.out.2.2,pe,g2];rfl),Bool.and_false]
     subst KD;clear pe g1 g2;go_wp2_with fail
     go_ret
     exact⟨rfl,rfl⟩
    ·have HL:=δ (Q0 Kc HA.out (by rw[HB.out.2.2,pe];simp[g1,g2]))
     rw[gI g2] at e47;clear pe g1 g2;exact TC
  ·obtain rfl:k=s.size:=oM
   obtain rfl:B=true:=by
    have ha:=HA.out;rw[dV (by rw[HB.out.2.1];omega)] at ha;rw[HB.out.1,ha];simp
    omega
   go_wp2_with fail
   go_ret
   exact⟨rfl,rfl⟩
end
section
open Go Go.RowKit Go.ChangeShapes Go.WideShapes Go.ChangeAt Go.Deep
theorem FN (s:ByteArray):s.data.toList.length=s.size:=by simp
section
variable {H:Type} {enc:TypeId × Value→H} {w:World} {base:Nat} {spare:Nat→Bool} {held:Bool}
theorem ah6 {b i:Nat} {u:Value} (h:w.cell? ⟨b,i,none⟩=some u):∃cur t fr,w.heap[b]? = some (.cells cur t fr)∧cur[i]? = some u:=by
 unfold World.cell? at h;simp only at h
 split at h
 ·rename_i cs t fr hb
  exact⟨cs,t,fr,hb,by simpa using h⟩
 ·simp at h
theorem Jx {P:Program} {t e:TypeId} {k:Nat} {fuel:Nat} {v:Value} {x:DataW H × List MemPlace} (R:List Value→Prop) (ht:P.underlying t=some (.slice e)) (hk:P.cellsOf e=k) (Ll:0<k)
 (hR:∀n cs y,DataW.trod enc P w base spare held n e cs=some y→R cs) (h:DataW.trod enc P w base spare held fuel t [v]=some x):∃cs,nV w k v cs∧∀c ∈ cs,R c:=by
 rcases open_slice ht h with ⟨hcs,_⟩ | ⟨a,len,cap,m,n,D,Pl,hcs,_,hl,hm,K1,_,hi⟩
 ·simp only[qP,qN] at hcs
  subst hcs;exact⟨[],⟨none,0,rfl,sM,sM,fun h=>by simp at h⟩,sM⟩
 ·simp only[qP,qN] at hcs
  subst hcs;have Cf:len≤m:=by rw[K1];split<;>omega
  have each:∀i,i<len→∃c:List Value,c.length=k∧R c∧∀j,j<k→w.cell? (a.add (i*k+j))=c[j]? := by
   intro i hil;obtain⟨cs',hc,hy⟩:=hi i oM;rw[hk] at hc;obtain⟨_,cv,hat⟩:=World.cells?_some hc;refine⟨cs',cv,hR _ _ _ hy,fun j hj=>?_⟩;rw[← Go.Deep.add_add];exact hat j hj
  obtain⟨cs,h1,h2⟩:=ai9 (fun i (c:List Value)=>c.length=k∧R c∧∀j,j<k→w.cell? (a.add (i*k+j))=c[j]?) len each;refine⟨cs,⟨some a,cap,by rw[h1],oM,by have:maxLen=9223372036854775807:=rfl;omega,fun h0=>?_⟩,fun c hc=>?_⟩
  ·obtain⟨b,off,sp⟩:=a
   obtain⟨l0,-,c0⟩:=h2 0 h0;have OQ:=c0 0 Ll;rw[bu oM] at OQ;have hsp:sp=none:=by simpa [Addr.add] using World.cell?_spot OQ
   subst hsp;rw[Zg] at OQ;obtain⟨cur,t',fr,hb,-⟩:=ah6 OQ;refine⟨b,off,cur,t',fr,rfl,hb,fun i c hc j u hj=>?_⟩;have hil:=(mF.1 hc).1;have hie:=(mF.1 hc).2;obtain⟨li,-,ci⟩:=h2 i hil;rw[hie] at li ci;have hjl:=(mF.1 hj).1;have:=ci j oM;rw[Zg,Fa w b _ cur t' fr hb,hj] at this;rw[Ip];exact this
  ·obtain⟨i,hi,rfl⟩:=pL.1 hc
   exact(h2 i hi).2.1
theorem xK {n:Int} (h:(Lit.int .i64 n).wf=true):uB n:=akB h
theorem acC {n:Int} (h:(Lit.int .u8 n).wf=true):∃k:UInt8,n=(k.toNat:Int):=by
 simp only[Lit.wf,gV,eD] at h;have h1:IntKind.u8.min=0:=rfl;have h2:IntKind.u8.max=255:=rfl;refine⟨UInt8.ofNat n.toNat,?_⟩;rw[UInt8.toNat_ofNat'];omega
theorem I4 {P:Program} {t:TypeId} {fs:Array Field} {fuel:Nat} {cs:List Value} {x:DataW H × List MemPlace} (ht:P.underlying t=some (.struct fs)) (hone:oneCellFields P fs=true) (hC:P.cellsOf t=fs.size) (h:DataW.trod enc P w base spare held fuel t cs=some x) :
 cs.length=fs.size∧∃n,∀(j:Nat) (f:Field),fs[j]? = some f→∃u y,cs[j]? = some u∧DataW.trod enc P w base spare held n f.type [u]=some y:=by
 obtain⟨xs,n,_,_,hl,hlen,hf⟩:=Yh ht h;refine⟨by rw[hl,hC],n,fun j f hj=>?_⟩;have hjl:j<fs.size:=(nZ.1 hj).1;obtain⟨ho,hk⟩:=hone_of hone j f hj;have h1:=hf j f hj;rw[ho,hk,vc oM] at h1;rw[bu (show j<xs.length by omega)] at h1;exact⟨cs[j]'oM,_,bu oM,h1⟩
theorem anH {fuel:Nat} {cs:List Value} {x:DataW H × List MemPlace} (h:DataW.trod enc prog w base spare held fuel 32 cs=some x):∃o:dn,cs=bY o∧o.path.length≤9223372036854775807∧o.value.length≤9223372036854775807:=by
 obtain⟨hl,n,hf⟩:=I4 underlying32 kR kR h;obtain⟨u0,y0,c0,t0⟩:=hf 0 _ rfl;obtain⟨u1,y1,c1,t1⟩:=hf 1 _ rfl;obtain⟨u2,y2,c2,t2⟩:=hf 2 _ rfl;obtain⟨n0,q0,_,w0⟩:=xD underlying5 t0;obtain⟨s1,q1,_,w1⟩:=Mu underlying9 t1;obtain⟨s2,q2,_,w2⟩:=Mu underlying9 t2;simp only[qP,qN] at q0 q1 q2;subst q0 q1 q2;obtain⟨k,rfl⟩:=acC w0;match cs,hl with
 | [a,b,c],_ =>
   simp only[oV,qm,xC] at c0 c1 c2;subst c0 c1 c2;refine⟨⟨k,s1.data.toList,s2.data.toList⟩,?_,by rw[FN];exact w1,by rw[FN];exact w2⟩;unfold bY;rw[Bn,Bn]
theorem al5 {fuel:Nat} {cs:List Value} {x:DataW H × List MemPlace} (h:DataW.trod enc prog w base spare held fuel 55 cs=some x):∃p:ai,cs=bC p∧p.1.length≤9223372036854775807∧p.2.length≤9223372036854775807:=by
 obtain⟨hl,n,hf⟩:=I4 underlying55 kR kR h;obtain⟨u1,y1,c1,t1⟩:=hf 0 _ rfl;obtain⟨u2,y2,c2,t2⟩:=hf 1 _ rfl;obtain⟨s1,q1,_,w1⟩:=Mu underlying9 t1;obtain⟨s2,q2,_,w2⟩:=Mu underlying9 t2;simp only[qP,qN] at q1 q2;subst q1 q2;match cs,hl with
 | [b,c],_ =>
   simp only[oV,qm,xC] at c1 c2;subst c1 c2;refine⟨(s1.data.toList,s2.data.toList),?_,by rw[FN];exact w1,by rw[FN];exact w2⟩;unfold bC;rw[Bn,Bn]
theorem akW {fuel:Nat} {cs:List Value} {x:DataW H × List MemPlace} (h:DataW.trod enc prog w base spare held fuel 46 cs=some x):∃m:iC,cs=cB m∧m.name.length≤9223372036854775807:=by
 obtain⟨hl,n,hf⟩:=I4 underlying46 kR kR h;obtain⟨u1,y1,c1,t1⟩:=hf 0 _ rfl;obtain⟨u2,y2,c2,t2⟩:=hf 1 _ rfl;obtain⟨s1,q1,_,w1⟩:=Mu underlying9 t1;obtain⟨b2,q2,_⟩:=DataW.trod_bool underlying4 t2;simp only[qP,qN] at q1 q2;subst q1 q2;match cs,hl with
 | [b,c],_ =>
   simp only[oV,qm,xC] at c1 c2;subst c1 c2;refine⟨⟨s1.data.toList,b2⟩,?_,by rw[FN];exact w1⟩;unfold cB;rw[Bn]
theorem I5 {β : Type} {row : β → List Value} {Q : β → Prop} {cs:List (List Value)} (h:∀c ∈ cs,∃b,c=row b∧Q b):∃l:List β,cs=l.map row∧∀b ∈ l,Q b:=by
 induction cs with
 | nil=>exact⟨[],rfl,sM⟩
 | cons c r ih =>
   obtain⟨b,hb,hq⟩:=h c sM;obtain⟨l,hl,hql⟩:=ih fun c hc=>h c (by simp[hc])
   refine⟨b::l,by rw[hb,hl];rfl,fun x hx=>?_⟩
   rcases cC.1 hx with rfl | hx
   ·exact hq
   ·exact hql x hx
theorem am7 {fuel:Nat} {v:Value} {x:DataW H × List MemPlace} (h:DataW.trod enc prog w base spare held fuel 33 [v]=some x):∃l,Bw w v l:=by
 obtain⟨cs,h1,h2⟩:=Jx (k:=3) (fun c=>∃o:dn,c=bY o∧o.path.length≤9223372036854775807∧o.value.length≤9223372036854775807) underlying33 kR oM (fun n cs y hy=>anH hy) h;obtain⟨l,rfl,hq⟩:=I5 h2;exact⟨l,h1,hq⟩
theorem am8 {fuel:Nat} {v:Value} {x:DataW H × List MemPlace} (h:DataW.trod enc prog w base spare held fuel 56 [v]=some x):∃l,Bx w v l:=by
 obtain⟨cs,h1,h2⟩:=Jx (k:=2) (fun c=>∃o:ai,c=bC o∧o.1.length≤9223372036854775807∧o.2.length≤9223372036854775807) underlying56 kR oM (fun n cs y hy=>al5 hy) h;obtain⟨l,rfl,hq⟩:=I5 h2;exact⟨l,h1,hq⟩
theorem am9 {fuel:Nat} {v:Value} {x:DataW H × List MemPlace} (h:DataW.trod enc prog w base spare held fuel 47 [v]=some x):∃l:List iC,nV w 2 v (l.map cB)∧∀m ∈ l,m.name.length≤9223372036854775807:=by
 obtain⟨cs,h1,h2⟩:=Jx (k:=2) (fun c=>∃o:iC,c=cB o∧o.name.length≤9223372036854775807) underlying47 kR oM (fun n cs y hy=>akW hy) h;obtain⟨l,rfl,hq⟩:=I5 h2;exact⟨l,h1,hq⟩
theorem ah7 {fuel:Nat} {cs:List Value} {x:DataW H × List MemPlace} (h:DataW.trod enc prog w base spare held fuel 50 cs=some x):∃m mv,cs=(dD m mv).toList∧xP w mv m:=by
 obtain⟨hl,n,hf⟩:=I4 underlying50 kR kR h;obtain⟨u0,y0,c0,t0⟩:=hf 0 _ rfl;obtain⟨u1,y1,c1,t1⟩:=hf 1 _ rfl;obtain⟨u2,y2,c2,t2⟩:=hf 2 _ rfl;obtain⟨u3,y3,c3,t3⟩:=hf 3 _ rfl;obtain⟨u4,y4,c4,t4⟩:=hf 4 _ rfl;obtain⟨n0,q0,_,w0⟩:=xD underlying3 t0;obtain⟨n1,q1,_,w1⟩:=xD underlying3 t1;obtain⟨n2,q2,_,w2⟩:=xD underlying3 t2;obtain⟨l,w3,w3b⟩:=am9 t3;obtain⟨s4,q4,_,w4⟩:=Mu underlying9 t4;simp only[qP,qN] at q0 q1 q2 q4;subst q0 q1 q2 q4;match cs,hl with
 | [a,b,c,d,e],_ =>
   simp only[oV,qm,xC] at c0 c1 c2 c3 c4;subst c0 c1 c2 c3 c4;refine⟨⟨n0,n1,n2,l,s4.data.toList⟩,d,?_,w3,w3b,by rw[FN];exact w4,xK w0,xK w1,xK w2⟩;unfold dD;simp only
   rw[Bn]
theorem ajl {fuel:Nat} {cs:List Value} {x:DataW H × List MemPlace} (h:DataW.trod enc prog w base spare held fuel 35 cs=some x):∃(b:bQ) (ov:Value),cs=[ι b.index,ι b.θ,ov]∧JK w ov b:=by
 obtain⟨hl,n,hf⟩:=I4 underlying35 kR kR h;obtain⟨u0,y0,c0,t0⟩:=hf 0 _ rfl;obtain⟨u1,y1,c1,t1⟩:=hf 1 _ rfl;obtain⟨u2,y2,c2,t2⟩:=hf 2 _ rfl;obtain⟨n0,q0,_,w0⟩:=xD underlying3 t0;obtain⟨n1,q1,_,w1⟩:=xD underlying3 t1;obtain⟨l,w2⟩:=am7 t2;simp only[qP,qN] at q0 q1;subst q0 q1;match cs,hl with
 | [a,b,c],_ =>
   simp only[oV,qm,xC] at c0 c1 c2;subst c0 c1 c2;exact⟨⟨n0,n1,l⟩,c,rfl,w2,xK w0,xK w1⟩
end
theorem zS {P:Prop} (h:P:=by rw[lf,bu hlt,hx];rfl):P:=h
structure jM where
 fR:UInt8
 b:bQ
 ov:Value
 m:MetaM
 mv:Value
 l:List ai
 lv:Value
 at_:Int
 ep:Int
def jM.row (a:jM):List Value:=[ϋ (a.fR.toNat:Int),ι a.b.index,ι a.b.θ,a.ov,ι a.m.role,ι a.m.seen,ι a.m.aH,a.mv,.string (str a.m.aW),a.lv,ι a.at_,ι a.ep]
structure jM.In (w:World) (a:jM):Prop where
 AA:JK w a.ov a.b
 met:xP w a.mv a.m
 kL:Bx w a.lv a.l
 at_:uB a.at_
 ep:uB a.ep
theorem jM.In.still {w w':World} {a:jM} (h:a.In w) (hu:υ w w'):a.In w':=⟨h.AA.still hu,h.met.still hu,h.kL.still hu,h.at_,h.ep⟩
structure Dd (w:World) (v:Value) (l:List jM):Prop where
 rows:nV w 12 v (l.map jM.row)
 each:∀a ∈ l,a.In w
section
variable {H:Type} {enc:TypeId × Value→H} {w:World} {base:Nat} {spare:Nat→Bool} {held:Bool}
theorem uq {P:Program} {t:TypeId} {fs:Array Field} {fuel:Nat} {cs:List Value} {x:DataW H × List MemPlace} (ht:P.underlying t=some (.struct fs)) (h:DataW.trod enc P w base spare held fuel t cs=some x)
 (j:Nat) (f:Field) (hj:fs[j]? = some f) (k:Nat) (hk:P.cellsOf f.type=k) (ty:TypeId) (Qj:f.type=ty) (o:Nat) (ho:f.offset=o):∃n y,DataW.trod enc P w base spare held n ty ((cs.drop o).take k)=some y:=by
 obtain⟨xs,n,_,_,hl,hlen,hf⟩:=Yh ht h;have h1:=hf j f hj;have hjl:j<xs.length:=by rw[hlen];exact(nZ.1 hj).1
 rw[hk,Qj,ho,bu hjl] at h1;exact⟨n,_,h1⟩
theorem akX {fuel:Nat} {cs:List Value} {x:DataW H × List MemPlace} (h:DataW.trod enc prog w base spare held fuel 65 cs=some x):∃a:jM,cs=a.row∧a.In w:=by
 have hU:=underlying65;obtain⟨xs,n,_,_,hl,-,-⟩:=Yh hU h;rw[show prog.cellsOf 65=12 by kernel_rfl] at hl;obtain⟨n0,y0,t0⟩:=uq hU h 0 _ rfl 1 kR 5 rfl 0 rfl;obtain⟨n1,y1,t1⟩:=uq hU h 1 _ rfl 3 kR 35 rfl 1 rfl;obtain⟨n2,y2,t2⟩:=uq hU h 2 _ rfl 5 kR 50 rfl 4 rfl;obtain⟨n3,y3,t3⟩:=uq hU h 3 _ rfl 1 kR 56 rfl 9 rfl;obtain⟨n4,y4,t4⟩:=uq hU h 4 _ rfl 1 kR 3 rfl 10 rfl;obtain⟨n5,y5,t5⟩:=uq hU h 5 _ rfl 1 kR 3 rfl 11 rfl;match cs,hl with
 | [c0,c1,c2,c3,c4,c5,c6,c7,c8,c9,c10,c11],_ =>
   simp only[QB,List.drop_zero,y8,Fg] at t0 t1 t2 t3 t4 t5;obtain⟨k0,q0,_,w0⟩:=xD underlying5 t0;obtain⟨b,ov,q1,w1⟩:=ajl t1;obtain⟨m,mv,q2,w2⟩:=ah7 t2;obtain⟨l,w3⟩:=am8 t3;obtain⟨k4,q4,_,w4⟩:=xD underlying3 t4;obtain⟨k5,q5,_,w5⟩:=xD underlying3 t5;unfold dD at q2;simp only[qP,qN] at q0 q1 q2 q4 q5;obtain⟨k,rfl⟩:=acC w0;obtain⟨rfl,rfl,rfl⟩:=q1;obtain⟨rfl,rfl,rfl,rfl,rfl⟩:=q2;subst q0 q4 q5;exact⟨⟨k,b,c3,m,c7,l,c9,k4,k5⟩,rfl,w1,w2,w3,xK w4,xK w5⟩
theorem ajm {fuel:Nat} {v:Value} {x:DataW H × List MemPlace} (h:DataW.trod enc prog w base spare held fuel 60 [v]=some x):∃l,Dd w v l:=by
 obtain⟨cs,h1,h2⟩:=Jx (k:=12) (fun c=>∃a:jM,c=a.row∧a.In w) underlying60 kR oM (fun n cs y hy=>akX hy) h;obtain⟨l,rfl,hq⟩:=I5 h2;exact⟨l,h1,hq⟩
end
structure jM.ER (a:jM):Prop where
 ops:NS a.b.ops
 kL:NT a.l
 met:Df a.m
theorem nV.MM {w:World} {k:Nat} {v:Value} {cs:List (List Value)} (h:nV w k v cs):∃A cap b off,v=.slice A cs.length cap∧cs.length≤cap∧cs.length≤9223372036854775807∧(0<cs.length→A=some ⟨b,off,none⟩) ∧
 ∀w',υ w w'→∀i c,cs[i]? = some c→w'.rangeAt b (off+i*k) c:=by
 obtain⟨A,cap,h1,h2,h3,h4⟩:=h;by_cases h0:0<cs.length
 ·obtain⟨b,off,cur,t,fr,e1,e2,e3⟩:=h4 h0
  refine⟨A,cap,b,off,h1,h2,h3,fun _=>e1,fun w' hu i c hc j u hj=>?_⟩;have e5:=(hu.block b (nZ.1 e2).1 id).trans e2;rw[Fa w' b _ cur t fr e5];exact e3 i c hc j u hj
 ·refine⟨A,cap,0,0,h1,h2,h3,fun h=>absurd h h0,fun w' hu i c hc=>?_⟩
  have:=(mF.1 hc).1;omega
def al6 (l:List jM):Prop:=l.length≤60∧∀a ∈ l,a.ER
theorem ajn {w:World} {v:Value} {l:List jM} (hA:Dd w v l) :
 ς 27 #[v] w fun e w'=>Jf (al6 l) w e w':=by
 obtain⟨A,cap,bA,off,rfl,hcap,hm,l_,jq⟩:=hA.rows.MM;rw[bz] at hm l_ hcap ⊢;have HR:=δ jq;have HE:=δ hA.each;clear jq hA;go_enter func27,ntmps27
 by_cases hn:60<l.length
 ·have hn':(60:Int)<(l.length:Int):=oM
  go_wp2_with fail
  go_ret
  exact⟨true,rfl,ζ.refl _ _,sM⟩
 have hn':¬(60:Int)<(l.length:Int):=oM;go_wp2_with fail
 go_loopw [3] (fun i wr=>∃k:Nat,k≤l.length∧i=ι k∧υ w wr∧∀j (h:j<l.length),j<k→l[j].ER) (fun i _=>l.length - (intOf i).toNat)
 case atStart=>exact⟨0,oM,rfl,ζ.refl _ _,fun j h hj=>by omega⟩
 case round =>
  obtain⟨k,hk,rfl,hu,hall⟩:=hrel;have tF:=τ hall hu;clear hall hu;by_cases hlt:k<l.length
  ·obtain rfl:=l_ oM
   obtain⟨x,hx⟩:=μ (l[k]);have hin:∀W,υ w W→x.In W:=fun W hW=>(HE.out x (hx ▸ eE hlt)).still hW
   have hrow:∀W,υ w W→W.rangeAt bA (off+k*12) x.row:=fun W hW=>HR.out W hW k x.row zS
   have cO:wr.cell? ⟨bA,off+k*12+3,none⟩=some x.ov:=hrow wr tF.out.2 3 _ rfl;have hwk:IntKind.i64.wrap ((k:Int)+1)=(k:Int)+1:=cZ _ oM;have HX:=cD hin hrow hx hk hlt;have j1:(k:Int)<(l.length:Int):=oM;clear hin hrow hx;go_wp2_with fail
   refine(ah4 (HX.out.1 _ tF.out.2).AA.ops).mono ?_;rintro e w2 ⟨b1,rfl,hU,hq1⟩;have jP:=δ (tF.out.2.then hU φ);clear hU cO;cases b1
   rotate_left 1
   ·clear hq1
    go_wp2_with fail
    go_ret
    exact⟨true,rfl,jP.out,sM⟩
   have HF:=δ (hq1 rfl);clear hq1;have cL:w2.cell? ⟨bA,off+k*12+9,none⟩=some x.lv:=HX.out.2.1 w2 jP.out 9 _ rfl;go_wp2_with fail
   refine(ah5 (HX.out.1 _ jP.out).kL).mono ?_;rintro e w3 ⟨b2,rfl,hU,qD⟩;have gr:=δ (jP.out.then hU φ);clear hU cL;cases b2
   rotate_left 1
   ·clear qD
    go_wp2_with fail
    go_ret
    exact⟨true,rfl,gr.out,sM⟩
   have HF2:=τ HF.out (qD rfl);clear qD;obtain⟨S,hS⟩:=μ (str x.m.aW);have c4:w3.cell? ⟨bA,off+k*12+4,none⟩=some (ι x.m.role):=HX.out.2.1 w3 gr.out 4 _ rfl;have c5:w3.cell? ⟨bA,off+k*12+5,none⟩=some (ι x.m.seen):=HX.out.2.1 w3 gr.out 5 _ rfl;have c6:w3.cell? ⟨bA,off+k*12+6,none⟩=some (ι x.m.aH):=HX.out.2.1 w3 gr.out 6 _ rfl;have c7:w3.cell? ⟨bA,off+k*12+7,none⟩=some x.mv:=HX.out.2.1 w3 gr.out 7 _ rfl;have c8:w3.cell? ⟨bA,off+k*12+8,none⟩=some (.string S):=HX.out.2.1 w3 gr.out 8 _ (by rw[← hS];rfl)
   have HM:Hid (ς 38 #[.agg #[ι x.m.role,ι x.m.seen,ι x.m.aH,x.mv,.string S]] w3 fun e w'=>Jf (Df x.m) w3 e w'):=by
    have:=aho (HX.out.1 _ gr.out).met;unfold dD at this;rw[hS] at this;exact δ this
   clear hS;go_wp2_with fail
   refine HM.out.mono ?_;rintro e w4 ⟨b3,rfl,hU,Em⟩;have oH:=δ (gr.out.then hU φ);clear hU c4 c5 c6 c7 c8;cases b3
   rotate_left 1
   ·clear Em
    go_wp2_with fail
    go_ret
    exact⟨true,rfl,oH.out,sM⟩
   have Qk:=δ (Em rfl);clear Em;go_wp2_with fail
   go_roundw
   case rel =>
    refine⟨k+1,oM,sM,oH.out,fun j h hj=>?_⟩;by_cases e:j=k
    ·subst e
     rw[HX.out.2.2.1];exact⟨HF2.out.1,HF2.out.2,Qk.out⟩
    ·exact tF.out.1 j h oM
   case measure=>simp[intOf]<;>omega
  ·have j1:¬((k:Int)<(l.length:Int)):=oM
   go_wp2_with fail
   go_ret
   refine⟨false,rfl,tF.out.2,fun _=>⟨oM,fun o ho=>?_⟩⟩;obtain⟨j,hj,rfl⟩:=pL.1 ho;exact tF.out.1 j hj oM
end
section
open Go Go.RowKit
def cR.cl (o:cR) (v:Nat):Nat→Nat→Prop
 | 0,q=>q=v
 | 1,q=>q ∈ o.F
 | 2,q=>q=o.kb
 | 3,q=>q=o.lb
 | 4,q=>o.lv.ownBlock=some q
 | 5,q=>fK o.rb o.rk o.aA q
 | _,q=>o.rv.ownBlock=some q
def sO:Nat→List TypeId
 | 0=>[117]
 | 1=>[151,9]
 | 2=>[209]
 | 3=>[199]
 | 4=>[9]
 | 5=>[186,269]
 | _=>[35]
theorem cR.S3 {o:cR} {v q:Nat} (h:o.mut v q):∃i,i≤6∧o.cl v i q:=by
 rcases h with h | h | h | h | h | h | h
 ·exact⟨0,oM,h⟩
 ·exact⟨1,oM,h⟩
 ·exact⟨2,oM,h⟩
 ·exact⟨3,oM,h⟩
 ·exact⟨4,oM,h⟩
 ·exact⟨5,oM,h⟩
 ·exact⟨6,oM,h⟩
theorem cR.r8 {o:cR} {v q:Nat} {i:Nat} (h:o.cl v i q):o.mut v q:=by
 match i,h with
 | 0,h=>exact .inl h
 | 1,h=>exact .inr (.inl h)
 | 2,h=>exact .inr (.inr (.inl h))
 | 3,h=>exact .inr (.inr (.inr (.inl h)))
 | 4,h=>exact .inr (.inr (.inr (.inr (.inl h))))
 | 5,h=>exact .inr (.inr (.inr (.inr (.inr (.inl h)))))
 | n+6,h=>exact .inr (.inr (.inr (.inr (.inr (.inr h)))))
theorem al7:∀i:Fin 7,∀j:Fin 7,i≠j→(sO i.val).all (fun t => !(sO j.val).contains t)=true∨(i.val=1∧j.val=4)∨(i.val=4∧j.val=1):=dC
theorem ajo (i:Nat) (hi:i<7) (j:Nat) (hj:j<7) (h:i≠j) (t:TypeId) (h1:t ∈ sO i) (h2:t ∈ sO j):(i=1∧j=4)∨(i=4∧j=1):=by
 rcases al7 ⟨i,hi⟩ ⟨j,hj⟩ (fun e=>h (aI Fin.val e)) with e | e
 ·have:=XY.1 e t h1
  simp[h2] at this
 ·exact e
section
variable {w w':World} {p v:Nat} {d d':Dk} {V V':aQ} {o o':cR}
theorem aT.SG (h:aT w p v d V o) {i q:Nat} (hi:i≤6) (hq:o.cl v i q):(∃t ∈ sO i,Ty w t q)∨(Mp w q∧(i=1∨i=5∧q=o.rk)):=by
 match i,hi,hq with
 | 0,_,hq=>exact .inl ⟨_,by simp[sO],hq ▸ h.blk.ty⟩
 | 1,_,hq =>
   rcases h.bH.kind hq with e | e | e
   ·exact .inl ⟨_,by simp[sO],e⟩
   ·exact .inl ⟨_,by simp[sO],e⟩
   ·exact .inr ⟨e,.inl rfl⟩
 | 2,_,hq=>exact .inl ⟨_,by simp[sO],hq ▸ h.kept.ty⟩
 | 3,_,hq=>exact .inl ⟨_,by simp[sO],hq ▸ h.log.ty⟩
 | 4,_,hq=>exact .inl ⟨_,by simp[sO],h.recs.ty hq⟩
 | 5,_,hq =>
   rcases h.ring.kind hq with e | e | e
   ·exact .inl ⟨_,by simp[sO],e⟩
   ·exact .inl ⟨_,by simp[sO],e⟩
   ·exact .inr ⟨e ▸ h.ring.map.mp,.inr ⟨rfl,e⟩⟩
 | 6,_,hq=>exact .inl ⟨_,by simp[sO],h.rows.ty hq⟩
theorem aT.apart (h:aT w p v d V o) {i j q:Nat} (hi:i≤6) (hj:j≤6) (hij:i≠j) (h1:o.cl v i q) (h2:o.cl v j q):False:=by
 rcases h.SG hi h1 with ⟨t,e1,e2⟩ | ⟨e1,e2⟩<;>rcases h.SG hj h2 with ⟨t',f1,f2⟩ | ⟨f1,f2⟩
 ·obtain rfl:=e2.inj f2
  rcases ajo i oM j oM hij t e1 f1 with ⟨rfl,rfl⟩ | ⟨rfl,rfl⟩
  ·exact h.sep q h2 h1
  ·exact h.sep q h1 h2
 ·exact e2.jG f1
 ·exact f2.jG e1
 ·rcases e2 with rfl | ⟨rfl,e⟩<;>rcases f2 with rfl | ⟨rfl,f⟩
  ·exact hij rfl
  ·subst f;exact h.yV h1
  ·subst e;exact h.yV h2
  ·exact hij rfl
theorem aT.lt (h:aT w p v d V o) {i q:Nat} (hi:i≤6) (hq:o.cl v i q):q<w.heap.size:=by
 rcases h.SG hi hq with ⟨t,-,a,b,e⟩ | ⟨⟨a,b,e⟩,-⟩<;>exact(nZ.1 e).1
theorem aT.off (h:aT w p v d V o) {Z:Nat→Prop} {i k m j:Nat} (hz:∀q,Z q→o.cl v i q∨o.cl v k q∨o.cl v m q) (hj:j≤6∧i≤6∧k≤6∧m≤6∧i≠j∧k≠j∧m≠j) {q:Nat} (hq:o.cl v j q):¬Z q:=by
 intro e;obtain⟨a,b,c,f,g1,g2,g3⟩:=hj;rcases hz q e with e | e | e
 ·exact h.apart b a g1 e hq
 ·exact h.apart c a g2 e hq
 ·exact h.apart f a g3 e hq
theorem dc.ES (hu:ζ (o.mut v) w w') (n:Nat) (hn:n=w.heap.size) (h1:∀q ∈ o'.F,q ∈ o.F∨n≤q) (h2:o'.kb=o.kb∨n≤o'.kb) (h3:o'.lb=o.lb∨n≤o'.lb) (h4:∀q,o'.lv.ownBlock=some q→o.lv.ownBlock=some q∨n≤q)
 (h5:∀q,fK o'.rb o'.rk o'.aA q→fK o.rb o.rk o.aA q∨n≤q) (h6:∀q,o'.rv.ownBlock=some q→o.rv.ownBlock=some q∨n≤q) (h7:o'.mb=o.mb∨n≤o'.mb:=by first| exact .inl rfl | assumption):dc w w' v o o':=by
 subst hn;refine⟨hu,fun q hq=>?_,h7⟩;rcases hq with h | h | h | h | h | h | h
 ·exact .inl (.inl h)
 ·exact(h1 q h).imp (fun e=>.inr (.inl e)) id
 ·exact h2.imp (fun e=>.inr (.inr (.inl (h.trans e)))) (fun e=>h ▸ e)
 ·exact h3.imp (fun e=>.inr (.inr (.inr (.inl (h.trans e))))) (fun e=>h ▸ e)
 ·exact(h4 q h).imp (fun e=>.inr (.inr (.inr (.inr (.inl e))))) id
 ·exact(h5 q h).imp (fun e=>.inr (.inr (.inr (.inr (.inr (.inl e)))))) id
 ·exact(h6 q h).imp (fun e=>.inr (.inr (.inr (.inr (.inr (.inr e)))))) id
theorem Uo {P:Prop} (h:P:=by
 rcases hsub _ hf with e | e
 ·exact h.apart (i:=1) oM hj (fun e=>h1 e.symm) e hq
 ·have:=h.lt hj hq;omega):P:=h
theorem aT.anI {k':Kp} (h:aT w p v d V o) (hP:Nv w w' p o.kb d' k' o.F):∃F',aT w' p v d' { V with kp:=k' } { o with F:=F' } ∧ dc w w' v o { o with F:=F' } := by
 obtain⟨F',hD,hsub⟩:=hP.bH;have hu:=hP.ε;have hz:∀q,(q=o.kb∨q ∈ o.F)→o.cl v 2 q∨o.cl v 1 q∨o.cl v 1 q:=fun q e=>e.elim .inl fun e=>.inr (.inl e)
 have hm:∀q,(q=o.kb∨q ∈ o.F)→o.mut v q:=fun q e=>(hz q e).elim cR.r8 fun e=>e.elim cR.r8 cR.r8
 have hs:∀ {j q:Nat},j≤6→o.cl v j q→j≠1→q ∉ F':=fun hj hq h1 hf=>by
  exact Uo
 refine⟨F',⟨hD,h.blk.ε hu (h.off hz (j:=0) dC rfl),hP.kept,h.log.ε hu (h.off hz (j:=3) dC rfl),h.recs.ε hu (fun q e=>h.off hz (j:=4) dC e),fun q e=>hs (j:=4) oM e oM,h.ring.move hu (fun q e=>h.off hz (j:=5) dC e),hs (j:=5) oM (.inr (.inl rfl)) oM,h.FG hu hm,fun e=>?_,h.uY,h.rows.ε hu (fun q e=>h.off hz (j:=6) dC e),h.rM,h.C' hu hm,h.Dc hu hm⟩,dc.ES (hu.mono fun q e=>.inl (hm q e)) _ rfl hsub (.inl rfl) (.inl rfl) (fun q e=>.inl e) (fun q e=>.inl e) (fun q e=>.inl e)⟩;rcases hsub _ e with e | e
 ·exact h.qL e
 ·exact absurd h.map.lt.2 (Nat.not_lt.2 e)
theorem aT.OS {g':Lg} (h:aT w p v d V o) (hP:Jq w w' p o.lb d' g' o.F o.lv):∃F' fN,aT w' p v d' { V with lg:=g' } { o with F:=F',lv:=fN } ∧ dc w w' v o { o with F:=F',lv:=fN } := by
 obtain⟨F',fN,hD,hsub,hB,hO,hvs,hsep⟩:=hP.ex;have hu:=hP.ε;have hz:∀q,(q=o.lb∨q ∈ o.F∨o.lv.ownBlock=some q)→o.cl v 3 q∨o.cl v 1 q∨o.cl v 4 q:=fun q e=>e
 have hm:∀q,(q=o.lb∨q ∈ o.F∨o.lv.ownBlock=some q)→o.mut v q:=fun q e=>(hz q e).elim cR.r8 fun e=>e.elim cR.r8 cR.r8
 have hs:∀ {j q:Nat},j≤6→o.cl v j q→j≠1→q ∉ F':=fun hj hq h1 hf=>by
  exact Uo
 refine⟨F',fN,⟨hD,h.blk.ε hu (h.off hz (j:=0) dC rfl),h.kept.ε hu (h.off hz (j:=2) dC rfl),hB,hO,hsep,h.ring.move hu (fun q e=>h.off hz (j:=5) dC e),hs (j:=5) oM (.inr (.inl rfl)) oM,h.FG hu hm,fun e=>?_,h.uY,h.rows.ε hu (fun q e=>h.off hz (j:=6) dC e),h.rM,h.C' hu hm,h.Dc hu hm⟩,dc.ES (hu.mono fun q e=>.inl (hm q e)) _ rfl hsub (.inl rfl) (.inl rfl) hvs (fun q e=>.inl e) (fun q e=>.inl e)⟩;rcases hsub _ e with e | e
 ·exact h.qL e
 ·exact absurd h.map.lt.2 (Nat.not_lt.2 e)
theorem aT.N7 {F':List Nat} (h:aT w p v d V o) (hL:Left w w' p d' o.F F'):aT w' p v d' V { o with F:=F' } ∧ dc w w' v o { o with F:=F' } := by
 have hsub:=hL.sub;have hu:=hL.ε;have hz:∀q,q ∈ o.F→o.cl v 1 q∨o.cl v 1 q∨o.cl v 1 q:=fun q e=>.inl e
 have hm:∀q,q ∈ o.F→o.mut v q:=fun q e=>.inr (.inl e)
 have hs:∀ {j q:Nat},j≤6→o.cl v j q→j≠1→q ∉ F':=fun hj hq h1 hf=>by
  exact Uo
 refine⟨⟨hL.bH,h.blk.ε hu (h.off hz (j:=0) dC rfl),h.kept.ε hu (h.off hz (j:=2) dC rfl),h.log.ε hu (h.off hz (j:=3) dC rfl),h.recs.ε hu (fun q e=>h.off hz (j:=4) dC e),fun q e=>hs (j:=4) oM e oM,h.ring.move hu (fun q e=>h.off hz (j:=5) dC e),hs (j:=5) oM (.inr (.inl rfl)) oM,h.FG hu hm,fun e=>?_,h.uY,h.rows.ε hu (fun q e=>h.off hz (j:=6) dC e),h.rM,h.C' hu hm,h.Dc hu hm⟩,dc.ES (hu.mono fun q e=>.inl (hm q e)) _ rfl hsub (.inl rfl) (.inl rfl) (fun q e=>.inl e) (fun q e=>.inl e) (fun q e=>.inl e)⟩;rcases hsub _ e with e | e
 ·exact h.qL e
 ·exact absurd h.map.lt.2 (Nat.not_lt.2 e)
theorem aT.zx {n' cur':Nat} {fU:List (Int × Nat)} (h:aT w p v d V o) (hR:b_ (fK o.rb o.rk o.aA) w w' o.rb (str jo) cur' V.st.κ n' o.rk fU):aT w' p v d { V with n:=n',cur:=cur' } { o with aA:=fU } ∧ dc w w' v o { o with aA:=fU } := by
 have hu:=hR.ε;have hz:∀q,fK o.rb o.rk o.aA q→o.cl v 5 q∨o.cl v 5 q∨o.cl v 5 q:=fun q e=>.inl e
 have hm:∀q,fK o.rb o.rk o.aA q→o.mut v q:=fun q e=>cR.r8 (i:=5) e
 refine⟨⟨h.bH.ε hu (fun q e=>h.off hz (j:=1) dC e),h.blk.ε hu (h.off hz (j:=0) dC rfl),h.kept.ε hu (h.off hz (j:=2) dC rfl),h.log.ε hu (h.off hz (j:=3) dC rfl),h.recs.ε hu (fun q e=>h.off hz (j:=4) dC e),h.sep,hR.here,h.yV,h.FG hu hm,h.qL,h.uY,h.rows.ε hu (fun q e=>h.off hz (j:=6) dC e),h.rM,h.C' hu hm,h.Dc hu hm⟩,dc.ES (hu.mono fun q e=>.inl (hm q e)) _ rfl (fun q e=>.inl e) (.inl rfl) (.inl rfl) (fun q e=>.inl e) (fun q e=>hR.Dj q e) (fun q e=>.inl e)⟩
theorem aT.Dl (h:aT w p v d V o) (hu:ζ (· = v) w w') (hF:o'.F=o.F) (hkb:o'.kb=o.kb) (hrb:o'.rb=o.rb) (uT:o'.rk=o.rk) (he:o'.aA=o.aA) (hB:η w' v 117 (fI V' p o')) (hk:V'.kp=V.kp) (hc:V'.cur=V.cur) (hn:V'.n=V.n) (gH:V'.st.κ=V.st.κ)
 (hl:η w' o'.lb 199 (V'.lg.cells p o'.lv)) (hr:Own w' 9 1 o'.lv V'.lg.l.length (strs V'.lg.l)) (hs:∀q,o'.lv.ownBlock=some q→q ∉ o.F)
 (hm:gy w' o'.m o'.mb V'.S) (pG:o'.mb ∉ o.F) (hmk:o'.mb≠o.rk) (oZ:Own w' 35 3 o'.rv V'.rows.length (uv V'.rows o'.aG)) (jS:o'.aG.length=V'.rows.length)
 (Ti:∀(i:Nat) (b:bQ) (ov:Value),V'.rows[i]? = some b→o'.aG[i]? = some ov→ax w' 32 3 ov (b.ops.map bY)) (Ke:ax w' 46 2 o'.mv (V'.st.m.aZ.map cB)):aT w' p v d V' o':=by
 have hz:∀q,q=v→o.cl v 0 q∨o.cl v 0 q∨o.cl v 0 q:=fun q e=>.inl e
 refine⟨hF ▸ h.bH.ε hu (fun q e=>h.off hz (j:=1) dC e),hB,?_,hl,hr,by rw[hF];exact hs,?_,by rw[hF,uT];exact h.yV,hm,by rw[hF];exact pG,by rw[uT];exact hmk,oZ,jS,Ti,Ke⟩
 ·rw[hkb,hk];exact h.kept.ε hu (h.off hz (j:=2) dC rfl)
 ·rw[hrb,uT,he,hc,hn,gH];exact h.ring.move hu (fun q e=>h.off hz (j:=5) dC e)
theorem aT.F8 (h:aT w p v d V o) {j q:Nat} (hj:j≤6∧0≠j) (hq:o.cl v j q):¬q=v:=fun e=>h.apart (i:=0) oM hj.1 hj.2 e hq
theorem akY {w:World} {b n:Nat} {x:Value} : ζ (· = b) w (w.setCell ⟨b,n,none⟩ x):=(ζ.refl (fun q=>q=b) w).setCell (p:=⟨b,n,none⟩) (.inl rfl) _
theorem aT.zy (h:aT w p v d V o) (hu:ζ (· = v) w w') {di:Value} (hB:η w' v 117 (fI V' p { o with mv:=di })) (hk:V'.kp=V.kp) (hl:V'.lg=V.lg) (hS:V'.S=V.S) (hr:V'.rows=V.rows) (hc:V'.cur=V.cur) (hn:V'.n=V.n) (gH:V'.st.κ=V.st.κ)
 (Ke:ax w' 46 2 di (V'.st.m.aZ.map cB)):aT w' p v d V' { o with mv:=di } ∧ dc w w' v o { o with mv:=di } := by
 have hm:∀q,q=v→o.mut v q:=fun q e=>.inl e
 refine⟨h.Dl hu rfl rfl rfl rfl rfl hB hk hc hn gH ?_ ?_ h.sep ?_ h.qL h.uY ?_ (by rw[hr];exact h.rM) ?_ Ke,dc.ES (hu.mono fun q e=>.inl (hm q e)) _ rfl (fun q e=>.inl e) (.inl rfl) (.inl rfl) (fun q e=>.inl e) (fun q e=>.inl e) (fun q e=>.inl e)⟩
 ·rw[hl];exact h.log.ε hu (h.F8 (j:=3) dC rfl)
 ·rw[hl];exact h.recs.ε hu (fun q e=>h.F8 (j:=4) dC e)
 ·rw[hS];exact h.FG hu hm
 ·rw[hr];exact h.rows.ε hu (fun q e=>h.F8 (j:=6) dC e)
 ·rw[hr];exact h.C' hu hm
end
theorem η.SH {w:World} {g:Nat} {t:TypeId} {a b c d e f h i j k l m n o p q r s u v x:Value} (z:η w g t #[a,b,c,d,e,f,h,i,j,k,l,m,n,o,p,q,r,s,u,v,x]) :
 w.cell? ⟨g,0,none⟩=some a∧w.cell? ⟨g,1,none⟩=some b∧w.cell? ⟨g,2,none⟩=some c∧w.cell? ⟨g,3,none⟩=some d∧w.cell? ⟨g,4,none⟩=some e∧w.cell? ⟨g,5,none⟩=some f∧w.cell? ⟨g,6,none⟩=some h∧w.cell? ⟨g,7,none⟩=some i∧w.cell? ⟨g,8,none⟩=some j∧w.cell? ⟨g,20,none⟩=some x :=
 ⟨z.cell 0,z.cell 1,z.cell 2,z.cell 3,z.cell 4,z.cell 5,z.cell 6,z.cell 7,z.cell 8,z.cell 20⟩
section
variable {w w':World} {p v:Nat} {d d':Dk} {V V':aQ} {o o':cR}
theorem aT.xZ (h:aT w p v d V o):aT (w.setCell ⟨v,20,none⟩ (.bool true)) p v d { V with down:=true } o∧dc w (w.setCell ⟨v,20,none⟩ (.bool true)) v o o:=by
 have hu:ζ (· = v) w (w.setCell ⟨v,20,none⟩ (.bool true)):=akY;exact h.zy (V' := { V with down:=true }) (di:=o.mv) hu (by
  have:=h.blk.bE 20 (.bool true);simpa [fI] using this) rfl rfl rfl rfl rfl rfl rfl (h.Dc hu (fun q e=>.inl e))
theorem Jy (h:aT w p v d V o) (x:Int):ς 59 #[.pointer (some ⟨v,0,none⟩),ι x] w fun e w'=>e=ώ (ι x)∧aT w' p v d (V.told x) o∧dc w w' v o o:=by
 have hB:=h.blk;unfold fI at hB;have hc:=hB.SH;have hz:=hB.frozen 20;have H:=δ h;clear h hB;by_cases hx:x=14
 ·subst hx
  go_enter func59,ntmps59
  go_wp2
  go_ret
  refine⟨rfl,?_⟩;rw[show V.told 14 = { V with down:=true } by unfold aQ.told;simp]
  exact H.out.xZ
 ·have hx':(x == 14)=false:=by simpa using hx
  go_enter func59,ntmps59
  go_wp2
  go_ret
  refine⟨rfl,?_⟩;rw[show V.told x=V by unfold aQ.told;simp[hx]]
  exact⟨H.out,dc.refl _ _ _⟩
theorem JL (h:aT w p v d V o):ς 53 #[.pointer (some ⟨v,0,none⟩)] w fun e w'=>e=ώ (ι (if iI d V then 14 else 0))∧aT w' p v d (if iI d V then { V with down:=true } else V) o∧dc w w' v o o∧(iI d V=false→w=w'):=by
 have hB:=h.blk;unfold fI at hB;have hc:=hB.SH;have hz:=hB.frozen 20;have HD:=δ (NL h.bH);have H:=δ h;clear h hB;cases hd:V.down
 ·rw[hd] at hc
  cases ho:d.off
  ·rw[ho] at HD
   have e:iI d V=false:=by unfold iI;rw[hd,ho];rfl
   rw[e];clear e ho hd;go_enter func53,ntmps53
   go_wp2_with (go_at_call 33;refine HD.out.mono ?_;rintro e w' ⟨rfl,rfl⟩);go_ret
   exact⟨rfl,H.out,dc.refl _ _ _,rfl⟩
  ·rw[ho] at HD
   have e:iI d V=true:=by unfold iI;rw[hd,ho];rfl
   rw[e];clear e ho hd;go_enter func53,ntmps53
   go_wp2_with (go_at_call 33;refine HD.out.mono ?_;rintro e w' ⟨rfl,rfl⟩);go_ret
   exact⟨rfl,H.out.xZ.1,H.out.xZ.2⟩
 ·rw[hd] at hc
  have e:iI d V=true:=by unfold iI;rw[hd];rfl
  rw[e];clear e hd;go_enter func53,ntmps53
  go_wp2_with fail
  go_ret
  exact⟨rfl,H.out.xZ.1,H.out.xZ.2⟩
end
end
end Go.Proofs.YtbhjgfibhegddaaGreat
