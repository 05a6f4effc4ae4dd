/-
  Parts of the proof of VaultFalls: Doc17, Does17, VlAlien.
-/
import Derived.Test.YtbhjgfibhegddaaGreatQVaultFalls23
set_option maxRecDepth 100000
set_option maxHeartbeats 16000000
namespace Go.Proofs.YtbhjgfibhegddaaGreat
open Tryz
section
open Go Go.RowKit
instance:DecidableEq bq:=fun a b=>if h:a.m=b.m∧a.S=b.S∧a.at_=b.at_∧a.θ=b.θ∧a.rows=b.rows∧a.prev=b.prev∧a.key=b.key then isTrue (by obtain⟨h1,h2,h3,h4,h5,h6,h7⟩:=h;cases a;cases b;simp_all) else isFalse (by rintro rfl;exact h ⟨rfl,rfl,rfl,rfl,rfl,rfl,rfl⟩)
theorem Bp {a b:bq} : a=b↔a.m=b.m∧a.S=b.S∧a.at_=b.at_∧a.θ=b.θ∧a.rows=b.rows∧a.prev=b.prev∧a.key=b.key:=⟨by rintro rfl;exact⟨rfl,rfl,rfl,rfl,rfl,rfl,rfl⟩,fun ⟨h1,h2,h3,h4,h5,h6,h7⟩=>by cases a;cases b;simp_all⟩
def eH (R:bq) (x:jM):bq × Int :=
 if x.fR=0∨x.fR=1 then iZ R (gP x R.at_ R.θ) else if x.fR=2 then kE R x.m else if x.fR=3 then iD R x.m x.l x.at_ x.ep else if x.fR=4 then rotateR R else (R,0)
def gu (w:World) (M:Nat→Prop) (k:Nat) (v:Value) (cs:List (List Value)):Prop:=ax w gC k v cs∧(0<cs.length→∀q,v.ownBlock=some q→¬M q)
section
variable {w w':World} {M M':Nat→Prop} {k:Nat} {v:Value} {cs:List (List Value)}
theorem gu.act (h:gu w M k v cs) (s:dL w w' M M'):gu w' M' k v cs:=by
 obtain⟨h1,h2⟩:=h;by_cases h0:0<cs.length
 ·refine⟨h1.ym s.ε (fun b hb _=>h2 h0 b hb),fun _ q hq hM=>?_⟩
  rcases s.sub q hM with e | e
  ·exact h2 h0 q hq e
  ·have:=h1.below h0 q hq
   omega
 ·exact⟨h1.none_ h0,fun e=>absurd e h0⟩
theorem gu.still (h:gu w M k v cs) (hu:υ w w'):gu w' M k v cs:=⟨h.1.still hu,h.2⟩
theorem gu.Bi {t:TypeId} (h:ax w t k v cs) {w0:World} (hn:∀q,v.ownBlock=some q→w0.heap.size≤q) (hM:∀q,M q→q<w0.heap.size):gu w M k v cs:=⟨h.any,fun _ q hq e=>oO (hn q hq) (hM q e)⟩
theorem gu.S_ {t:TypeId} (h:ax w t k v cs) {w0:World} (hn:0<cs.length→∀q,v.ownBlock=some q→q<w0.heap.size) (hM:∀q,M q→w0.heap.size≤q):gu w M k v cs:=⟨h.any,fun h0 q hq e=>oO (hn h0 q hq) (hM q e)⟩
theorem gu.nil (w:World) (M:Nat→Prop) (k:Nat):gu w M k (.slice none 0 0) []:=⟨⟨none,0,rfl,bO _,sM,fun h=>absurd h sM⟩,fun h=>absurd h sM⟩
end
structure eL (w:World) (M:Nat→Prop) (R:bq) (mv lv rv:Value) (aG:List Value):Prop where
 eS:gu w M 2 mv (R.m.aZ.map cB)
 kL:gu w M 2 lv (R.S.map bC)
 rows:gu w M 3 rv (lR R.rows aG)
 len:aG.length=R.rows.length
 each:∀(i:Nat) (b:bQ) (ov:Value),R.rows[i]? = some b→aG[i]? = some ov→gu w M 3 ov (b.ops.map bY)
def fO (R:bq) (mv lv rv:Value):Array Value:=j_ R.m.role R.m.seen R.m.aH mv (str R.m.aW) lv R.at_ R.θ rv R.prev (R.key:Int)
section
variable {w w':World} {M M':Nat→Prop} {R:bq} {mv lv rv:Value} {aG:List Value}
theorem eL.act (h:eL w M R mv lv rv aG) (s:dL w w' M M'):eL w' M' R mv lv rv aG:=⟨h.eS.act s,h.kL.act s,h.rows.act s,h.len,fun i b ov h1 h2=>(h.each i b ov h1 h2).act s⟩
theorem eL.still (h:eL w M R mv lv rv aG) (hu:υ w w'):eL w' M R mv lv rv aG:=⟨h.eS.still hu,h.kL.still hu,h.rows.still hu,h.len,fun i b ov h1 h2=>(h.each i b ov h1 h2).still hu⟩
theorem eL.bt (h:eL w M R mv lv rv aG):Dp w rv R.rows aG:=⟨⟨_,h.rows.1⟩,h.len,fun i b ov h1 h2=>⟨_,(h.each i b ov h1 h2).1⟩⟩
theorem eL.one (h:eL w M R mv lv rv aG):mv.oneCell'=true∧lv.oneCell'=true∧rv.oneCell'=true:=⟨h.eS.1.one,h.kL.1.one,h.rows.1.one⟩
theorem eL.first (w:World) (M:Nat→Prop):eL w M R0 (.slice none 0 0) (.slice none 0 0) (.slice none 0 0) []:=⟨gu.nil _ _ _,gu.nil _ _ _,gu.nil _ _ _,rfl,fun i b ov h=>by simp[R0] at h⟩
theorem eL.mq (h:eL w M R mv lv rv aG):eL w M R.mq mv lv (.slice none 0 0) []:=⟨h.eS,h.kL,gu.nil _ _ _,rfl,fun i b ov h=>by simp[bq.mq] at h⟩
end
structure Oc (R:bq):Prop where
 xX:gx R.S
 many:R.S.length≤1000
 each:∀q ∈ R.S,q.1.length≤1000000
 rows:R.rows.length≤24
 place:om R.at_ R.θ
theorem aT.Tt {w:World} {p v:Nat} {d:Dk} {V:aQ} {o:cR} {S0:List ai} {c:Nat} (h:aT w p v d V o) {d':Dk} (hg:cx d' V S0 c):Oc V.abs :=
 ⟨h.map.ok.xX,by have:=h.map.ok.len;show V.S.length≤1000;omega,fun q hq=>oN (h.map.each q hq).1,hg.aL.many,hg.place⟩
theorem Zm:∀(l:List bQ) (s:List Value) (b:bQ) (o:Value),s.length=l.length→lR (l++[b]) (s++[o])=lR l s++[[ι b.index,ι b.θ,o]]
 | [],[],b,o,_=>rfl
 | [],_::_,_,_,h=>by simp at h
 | _::_,[],_,_,h=>by simp at h
 | x::l,y::s,b,o,h=>by
   have h2:=Zm l s b o vW;show lR (x::(l++[b])) (y::(s++[o]))=_;unfold lR;rw[h2];rfl
theorem aac:∀(l:List bQ) (s:List Value),(∀o ∈ s,o.oneCell'=true)→∀c ∈ lR l s,∀u ∈ c,u.oneCell'=true
 | [],_,_,c,hc=>by simp[lR] at hc
 | _::_,[],_,c,hc=>by simp[lR] at hc
 | x :: l,y::s,h,c,hc=>by
   unfold lR at hc;rcases cC.1 hc with rfl | hc
   ·intro u hu
    simp only[cC,vg,vh] at hu;rcases hu with rfl | rfl | rfl
    ·rfl
    ·rfl
    ·exact h _ sM
   ·exact aac l s (fun o ho=>h o (by simp[ho])) c hc
section
variable {w w':World} {M M':Nat→Prop} {R:bq} {mv lv rv:Value} {aG:List Value}
theorem eL.ones (h:eL w M R mv lv rv aG):∀o ∈ aG,o.oneCell'=true:=fun o ho=>by
 obtain⟨i,hi⟩:=CU ho;have hl:=(mF.1 hi).1;rw[h.len] at hl;exact(h.each i _ o (bu hl) hi).1.one
def yu (w w':World) (M:Nat→Prop) (R2:bq × Int) (r:Ending):Prop:=∃mv lv rv aG,r=ώ (.tuple #[.agg (fO R2.1 mv lv rv),ι R2.2])∧eL w' M R2.1 mv lv rv aG∧υ w w'
theorem eL.q_ (h:eL w M R mv lv rv aG) (hk:Oc R) (b:bQ) {ov:Value} (hO:gu w M 3 ov (b.ops.map bY)) (hs:qo b.ops) (hM:∀q,M q→q<w.heap.size) :
 ς 93 #[.agg (fO R mv lv rv),.agg (mm b.index b.θ ov)] w fun r w'=>yu w w' M (iZ R b) r:=by
 have hlen:=Ba R.rows aG h.len;have hrl:((lR R.rows aG).length=24)=(R.rows.length=24):=by rw[hlen]
 refine(aii h.eS.1.one h.rows.1 (by rw[hlen];exact hk.rows) (MN _ _) (aac _ _ h.ones) h.kL.1 hk.each hk.many hk.xX hO.1 hs b.index b.θ).mono ?_;intro r w' hr;have anQ:Dx R.S R.at_ R.θ b.index b.θ b.ops=(iZ R b).2:=by
  unfold Dx iZ;by_cases h1:d_ b.index b.θ b.ops≠0
  ·rw[π h1,π h1]
  ·rw[ν h1,ν h1]
   by_cases h2:b.index≠R.at_+1∨b.θ<R.θ
   ·rw[π h2,π h2]
   ·rw[ν h2,ν h2]
    by_cases h3:fD R.S b.ops≠0
    ·rw[π h3]
    ·rw[ν h3]
     exact Decidable.not_not.1 h3
 rw[anQ] at hr;rcases hr with ⟨h0,cV,AL,rfl,hC⟩ | ⟨h0,rfl,hU⟩
 ·have hU:=hC.ε
  have zF:gu w' M 2 cV ((cH R.S b.ops).map bC):=⟨hC.kL,fun hn q hq Qv=>by
   rcases hC.prl with e | e
   ·subst e
    exact h.kL.2 (by rw[(h.kL.1).ab2 hC.kL];exact hn) q hq Qv
   ·have:=e q hq
    have:=hM q Qv;omega⟩
  have hnew:∀q,AL.ownBlock=some q→¬M q:=fun q hq Qv=>by
   have:=hC.aoN q hq;have:=hM q Qv;omega
  have oZ:=hC.rows;have hR:(iZ R b).1 = { (if 24≤R.rows.length then R.mq else R) with rows:=(if 24≤R.rows.length then R.mq else R).rows++[b],S:=cH R.S b.ops,at_:=b.index,θ:=b.θ } := by
   unfold iZ at h0 ⊢;by_cases h1:d_ b.index b.θ b.ops≠0
   ·rw[π h1] at h0
    exact absurd h0 h1
   ·rw[ν h1] at h0 ⊢
    by_cases h2:b.index≠R.at_+1∨b.θ<R.θ
    ·rw[π h2] at h0
     exact absurd h0 (show ¬(1:Int)=0 by decide)
    ·rw[ν h2] at h0 ⊢
     by_cases h3:fD R.S b.ops≠0
     ·rw[π h3] at h0
      exact absurd h0 h3
     ·rw[ν h3]
  by_cases h24:R.rows.length=24
  ·rw[π (by rw[hlen];exact h24)] at oZ ⊢
   rw[π oM] at hR;refine⟨mv,cV,AL,[ov],by rw[h0,hR];rfl,?_,hU⟩
   rw[hR];exact⟨h.eS.still hU,zF,⟨oZ,fun _=>hnew⟩,rfl,fun i b' Hy h1 h2=>by
    cases i with
    | zero =>
      obtain rfl:b=b':=by simpa [bq.mq] using h1
      obtain rfl:ov=Hy:=by simpa using h2
      exact hO.still hU
    | succ i=>simp at h2⟩
  ·rw[ν (by rw[hlen];exact h24)] at oZ ⊢
   rw[ν (oN hk.rows)] at hR;refine⟨mv,cV,AL,aG++[ov],by rw[h0,hR];rfl,?_,hU⟩
   rw[hR];refine⟨h.eS.still hU,zF,⟨by rw[Zm _ _ _ _ h.len];exact oZ,fun _=>hnew⟩,by simp[h.len],fun i b' Hy h1 h2=>?_⟩;by_cases hi:i<R.rows.length
   ·rw[qi hi] at h1
    rw[qi (by rw[h.len];exact hi)] at h2;exact(h.each i b' Hy h1 h2).still hU
   ·rw[mG oM] at h1
    rw[mG (by rw[h.len];omega),h.len] at h2;obtain⟨j,hj⟩:=μ (i - R.rows.length);rw[hj] at h1 h2;cases j with
    | zero =>
      obtain rfl:b=b':=yc
      obtain rfl:ov=Hy:=by simpa using h2
      exact hO.still hU
    | succ j=>simp at h2
 ·have hR:(iZ R b).1=R:=by
   unfold iZ at h0 ⊢;by_cases h1:d_ b.index b.θ b.ops≠0
   ·rw[π h1]
   ·rw[ν h1] at h0 ⊢
    by_cases h2:b.index≠R.at_+1∨b.θ<R.θ
    ·rw[π h2]
    ·rw[ν h2] at h0 ⊢
     by_cases h3:fD R.S b.ops≠0
     ·rw[π h3]
     ·rw[ν h3] at h0
      exact absurd rfl h0
  refine⟨mv,lv,rv,aG,by rw[hR];rfl,?_,hU⟩
  rw[hR];exact h.still hU
theorem eL.bE (h:eL w M R mv lv rv aG) (m:MetaM) {bW:Value} (dK:gu w M 2 bW (m.aZ.map cB)) (hs:∀x ∈ m.aZ,x.name.length≤1000000) :
 ς 94 #[.agg (fO R mv lv rv),.agg (dD m bW)] w fun r w'=>yu w w' M (kE R m) r:=by
 obtain⟨o1,o2,o3⟩:=h.one;refine(amn o1 o2 o3 m dK.1 hs).mono ?_;rintro r w' ⟨rfl,hU⟩;unfold yu kE;cases hm:dF m
 ·simp only[mH,jj,vf]
  exact⟨mv,lv,rv,aG,rfl,h.still hU,hU⟩
 ·simp only[Bool.true_eq_false,jj,vf]
  exact⟨bW,lv,rv,aG,rfl,⟨dK.still hU,h.kL.still hU,h.rows.still hU,h.len,fun i b ov h1 h2=>(h.each i b ov h1 h2).still hU⟩,hU⟩
theorem eL.install (h:eL w M R mv lv rv aG) (m:MetaM) {bW:Value} (dK:gu w M 2 bW (m.aZ.map cB)) (hs:∀x ∈ m.aZ,x.name.length≤1000000) {l:List ai} {pv:Value} (hl:gu w M 2 pv (l.map bC)) (dJ:∀q ∈ l,q.1.length≤1000000∧q.2.length≤1000000) (hM:∀q,M q→q<w.heap.size) (eY fS:Int) :
 ς 95 #[.agg (fO R mv lv rv),.agg (dD m bW),pv,ι eY,ι fS] w fun r w'=>yu w w' M (iD R m l eY fS) r:=by
 obtain⟨o1,o2,o3⟩:=h.one;refine(ahu o1 o2 o3 m dK.1 hs hl.1 dJ eY fS).mono ?_;intro r w' hr;have he:Dw m l eY fS=(iD R m l eY fS).2:=by
  unfold Dw iD;by_cases h1:dF m=false∨mK eY fS=false
  ·rw[π h1,π h1]
  ·rw[ν h1,ν h1]
   by_cases h2:(fM l).2≠0
   ·rw[π h2]
   ·rw[ν h2]
    exact Decidable.not_not.1 h2
 rw[he] at hr;rcases hr with ⟨h0,cV,rfl,hT,hU,hn⟩ | ⟨h0,rfl,hU⟩
 ·have hR:(iD R m l eY fS).1 = { R with m:=m,S:=(fM l).1,at_:=eY,θ:=fS,rows:=[],prev:=fS } := by
   unfold iD at h0 ⊢;by_cases h1:dF m=false∨mK eY fS=false
   ·rw[π h1] at h0
    exact absurd h0 (show ¬(1:Int)=0 by decide)
   ·rw[ν h1] at h0 ⊢
    by_cases h2:(fM l).2≠0
    ·rw[π h2] at h0
     exact absurd h0 h2
    ·rw[ν h2]
  refine⟨bW,cV,.slice none 0 0,[],by rw[h0,hR];rfl,?_,hU⟩
  rw[hR];exact⟨dK.still hU,gu.Bi hT hn hM,gu.nil _ _ _,rfl,fun i b ov h=>by simp at h⟩
 ·have hR:(iD R m l eY fS).1=R:=by
   unfold iD at h0 ⊢;by_cases h1:dF m=false∨mK eY fS=false
   ·rw[π h1]
   ·rw[ν h1] at h0 ⊢
    by_cases h2:(fM l).2≠0
    ·rw[π h2]
    ·rw[ν h2] at h0
     exact absurd rfl h0
  refine⟨mv,lv,rv,aG,by rw[hR];rfl,?_,hU⟩
  rw[hR];exact h.still hU
theorem eL.rotate (h:eL w M R mv lv rv aG) :
 ς 96 #[.agg (fO R mv lv rv)] w fun r w'=>yu w w' M (rotateR R) r:=by
 obtain⟨o1,o2,o3⟩:=h.one;refine(alh o1 o2 o3 oM).mono ?_;rintro r w' ⟨rfl,hU⟩;unfold yu rotateR;by_cases hk:1048576≤R.key
 ·rw[π hk,ν oM,ν oM]
  exact⟨mv,lv,rv,aG,rfl,h.still hU,hU⟩
 ·rw[ν hk,π oM,π oM]
  exact⟨mv,lv,rv,aG,rfl,⟨h.eS.still hU,h.kL.still hU,h.rows.still hU,h.len,fun i b ov h1 h2=>(h.each i b ov h1 h2).still hU⟩,hU⟩
end
theorem D6 {P:Prop} (h:P:=by rw[mg.out.1.2];kernel_rfl):P:=h
theorem BX {P:Prop} (h:P:=by rw[oD.out.2];rfl):P:=h
theorem sA {P:Prop} (h:P:=by rw[oD.out.2];kernel_rfl):P:=h
theorem UX {P:Prop} (h:P:=by rw[hd];decide):P:=h
theorem GD {P:Prop} (h:P:=by rw[HX.out];decide):P:=h
structure Bq (w0:World) (v:Nat) (R:bq) (x:jM) (M:Nat→Prop) (I:World→Prop) (Post:World→(Nat→Prop)→Int→Prop):Prop where
 still:∀ {w w'},I w→υ w w'→I w'
 ε:∀ {w},I w→υ w0 w
 lt:∀ {w},I w→∀q,M q→q<w.heap.size
 low:∀ {w},I w→∀q,M q→w0.heap.size≤q
 q_:∀ {w},I w→x.fR=0∨x.fR=1→ς 15 #[.pointer (some ⟨v,0,none⟩),.agg #[ι (gP x R.at_ R.θ).index,ι (gP x R.at_ R.θ).θ,x.ov]] w fun r w'=>∃n M',r=ώ (ι n)∧dL w w' M M'∧Post w' M' n
 bE:∀ {w},I w→x.fR=2→ς 24 #[.pointer (some ⟨v,0,none⟩),.agg (dD x.m x.mv)] w fun r w'=>∃n M',r=ώ (ι n)∧dL w w' M M'∧Post w' M' n
 install:∀ {w},I w→x.fR=3→ς 21 #[.pointer (some ⟨v,0,none⟩),.agg (dD x.m x.mv),x.lv,ι x.at_,ι x.ep] w fun r w'=>∃n M',r=ώ (ι n)∧dL w w' M M'∧Post w' M' n
 rotate:∀ {w},I w→x.fR=4→ς 34 #[.pointer (some ⟨v,0,none⟩)] w fun r w'=>∃n M',r=ώ (ι n)∧dL w w' M M'∧Post w' M' n
 none_:∀ {w},I w→4<x.fR→Post w M 0
 nD:∀ {w w' M' n c},Post w M' n→ζ (· = c) w w'→Ty w 95 c→w0.heap.size≤c→Post w' M' n
def Ga (w w':World) (M X:Nat→Prop) (R2:bq × Int) (Post:World→(Nat→Prop)→Int→Prop) (r:Ending):Prop :=
 ∃n M' mv lv rv aG,r=ώ (.tuple #[.agg (fO R2.1 mv lv rv),ι n,ι R2.2])∧eL w' (fun q=>M' q∨X q) R2.1 mv lv rv aG∧Post w' M' n∧dL w w' M M'
def NW (M:Nat→Prop) (c:Nat) (W:World):Nat→Prop:=fun q=>M q∨(c≤q∧q<W.heap.size)
theorem gu.more {w:World} {M:Nat→Prop} {k:Nat} {v:Value} {cs:List (List Value)} {N:Nat→Prop} (h:gu w M k v cs) (hN:∀q,N q→M q∨w.heap.size≤q):gu w N k v cs :=
 ⟨h.1,fun h0 q hq hn=>(hN q hn).elim (h.2 h0 q hq) (fun e=>oN (h.1.below h0 q hq))⟩
theorem eL.more {w:World} {M N:Nat→Prop} {R:bq} {mv lv rv:Value} {aG:List Value} (h:eL w M R mv lv rv aG) (hN:∀q,N q→M q∨w.heap.size≤q):eL w N R mv lv rv aG:=⟨h.eS.more hN,h.kL.more hN,h.rows.more hN,h.len,fun i b ov h1 h2=>(h.each i b ov h1 h2).more hN⟩
theorem sX {w:World} {M:Nat→Prop} {R:bq} {mv lv rv:Value} {aG:List Value} (h:eL w M R mv lv rv aG):(fO R mv lv rv).all (·.oneCell')=true∧(fO R mv lv rv).size=11:=by
 obtain⟨o1,o2,o3⟩:=h.one;exact⟨vq o1 o2 o3,rfl⟩
theorem ank (w:World) (C D Z:Array Value) {c:Nat} (hc:w.heap.size=c) (w1:World) (h:((w.alloc (.cells C 95)).alloc (.cells D 65)).alloc (.cells Z 95)=w1):η w1 c 95 C∧η w1 (c+1) 65 D∧η w1 (c+2) 95 Z∧υ w w1∧w1.heap.size=c+3:=by
 subst h;refine⟨by rw[← hc];exact((η.new w _ _).alloc _).alloc _,?_,?_,(((ζ.refl _ w).alloc _).alloc _).alloc _,by simp[hc]⟩
 ·have:=(η.new (w.alloc (.cells C 95)) 65 D).alloc (.cells Z 95)
  rw[dx,hc] at this;exact this
 ·have:=η.new ((w.alloc (.cells C 95)).alloc (.cells D 65)) 95 Z
  rw[dx,dx,hc] at this;exact this
theorem aaU {w0 w W w5 w6:World} {c:Nat} {v:Nat} {R:bq} {x:jM} {M M9 X:Nat→Prop} {I:World→Prop} {Post:World→(Nat→Prop)→Int→Prop} {R2:bq × Int} {mv lv rv:Value} {aG:List Value} {n:Int} (hD:Bq w0 v R x M I Post) (hI:I w) (hc:w.heap.size=c)
 (hd:eL W (fun q=>(M q∨X q)∨q=c+2) R2.1 mv lv rv aG) (hU:υ w W) (hS:dL W w5 M M9) (hP:Post w5 M9 n) (h6:ζ (· = c+2) w5 w6) (iQ:Ty w5 95 (c+2)) :
 Ga w w6 M X R2 Post (ώ (.tuple #[.agg (fO R2.1 mv lv rv),ι n,ι R2.2])):=by
 have hs:=(hD.ε hI).size;have cz:dL W w6 (fun q=>(M q∨X q)∨q=c+2) (fun q=>(M9 q∨X q)∨q=c+2):=⟨(hS.ε.mono (fun q e=>.inl (.inl (.inl e)))).then h6 (fun q e=>.inl (.inr e)),fun q hq=>hq.elim (fun e=>e.elim (fun e=>(hS.sub q e).imp (fun e=>.inl (.inl e)) id) (fun e=>.inl (.inl (.inr e)))) (fun e=>.inl (.inr e))⟩;refine⟨n,M9,mv,lv,rv,aG,rfl,(hd.act cz).more (fun q hq=>.inl (.inl hq)),hD.nD hP h6 iQ oM,⟨?_,fun q hq=>?_⟩⟩
 ·exact((hU.mono φ).then hS.ε (fun q e=>.inl e)).then h6 (fun q e=>.inr (oE e))
 ·rcases hS.sub q hq with e | e
  ·exact .inl e
  ·exact .inr (ic hU.size e)
theorem O9 {P:Prop} (h:P:=by
 have hz:=(H3.out.2.2.1.ε gj id).drew;rw[hact,← g_.out.2.2.1,← g_.out.2.2.2];exact aaU HH.out.1 HH.out.2.1 w_.out.2 (wI.still (ζ.refl _ w5).drew) uD.drew hS hP h7 (hz.ε hS.ε (fun e=>oN (qf.out _ e))).ty):P:=h
theorem abp {A P:Prop} (f:A) (h:A→P:=by
 intro hF;obtain⟨o5,χ,aC,HX⟩:=hF;have HX:=δ HX;obtain⟨bi,Qw⟩:∃a,(gP x R.at_ R.θ).index=a:=⟨_,rfl⟩;obtain⟨be,jg⟩:∃a,(gP x R.at_ R.θ).θ=a:=⟨_,rfl⟩;rw[Qw,jg] at aC;have Cu:(gP x R.at_ R.θ).ops=x.b.ops:=by unfold gP;split<;>rfl
 have H3:=cD (H2.out.1.ε o5 (fun e=>oE e)) (H2.out.2.1.ε o5 (fun e=>oE e)) (H2.out.2.2.1.ε o5 (fun e=>oE e)) aC χ;have xj:∀W,υ w W→ς 93 #[.agg row,.agg #[ι bi,ι be,x.ov]] W fun r W'=>yu W W' (NW (fun q=>M q∨X q) c W) (iZ R (gP x R.at_ R.θ)) r:=fun W jd=>by
  have:=(iV.out.1 W _ jd (iV.out.2.2.2.2.1 W)).q_ HH.out.2.2.1 (gP x R.at_ R.θ) (ov:=x.ov) (by rw[Cu];exact iV.out.2.1 W _ jd (iV.out.2.2.2.2.1 W)) (by rw[Cu];exact fun o ho=>oN (HH.out.2.2.2.2.ops.2 o ho)) (iV.out.2.2.2.2.2 W jd);rw[mg.out.2.2.2.2.2.1] at this;unfold mm at this;rw[Qw,jg] at this;exact this
 have CT:∀W,υ w W→ς 15 #[.pointer (some ⟨v,0,none⟩),.agg #[ι bi,ι be,x.ov]] W fun r w'=>∃n M',r=ώ (ι n)∧dL W w' M M'∧Post w' M' n:=fun W hW=>by
  have:=HH.out.1.q_ (HH.out.1.still HH.out.2.1 hW) HX.out;rw[Qw,jg] at this;exact this
 have oQ:=τ xj CT;clear Qw jg Cu χ aC o5 xj CT;go_upto_region 12 with (first
  |(refine eA 95 c H3.out.1 underlying95 D6 ?_)
  |(refine gp 35 (c+3) H3.out.2.2.2.1 underlying35 ?_)
  |(go_at_call 93
    refine(oQ.out.1 _ H3.out.2.2.2.2).mono ?_;rintro r w4 ⟨bW,cI,fT,jb,rfl,fL,au⟩;obtain⟨cF,hr2⟩:∃r,fO (iZ R (gP x R.at_ R.θ)).1 bW cI fT=r:=⟨_,rfl⟩;obtain⟨E2,dQ⟩:∃e,(iZ R (gP x R.at_ R.θ)).2=e:=⟨_,rfl⟩;rw[hr2,dQ];have oD:=δ (hr2 ▸ sX fL);have g_:=aF fL au hr2 dQ;clear fL au hr2 dQ)
  |(refine fG rfl 95 _ _ rfl w4.heap.size cF rfl rfl _ _ (η.new w4 _ _) BX oD.out.1 sA ?_
    intro w5 aK ay iQ))
 obtain⟨g,hg⟩:=μ w4.heap.size;rw[hg] at aK ay ⊢;have fC:c+3<g:=by have:=g_.out.2.1.size;have:=H3.out.2.2.2.1.lt;omega
 have gj:=(g_.out.2.1.alloc _).then ay (fun q e=>.inr (oF e g_.out.2.1.size));have yp:υ w4 w5:=((ζ.refl _ w4).alloc _).then ay (fun q e=>.inr (oE e));have wI:=(g_.out.1.more (N:=fun q=>(M q∨X q)∨q=c+2) (fun q hq=>hq.elim (fun e=>.inl (.inl e)) (fun e=>.inl (.inr ⟨oM,by have:=H3.out.2.2.2.1.lt;omega⟩)))).still yp;clear hg ay iQ yp;have uD:υ w w5:=H3.out.2.2.2.2.then gj φ;have hact:eH R x=iZ R (gP x R.at_ R.θ):=by
  unfold eH;rw[π HX.out]
 have xl:∀w6 n M9 w7,dL w5.drew w6 M M9→Post w6 M9 n→ζ (· = c+2) w6 w7→Ga w w7 M X (eH R x) Post (ώ (.tuple #[.agg cF,ι n,ι E2])):=fun w6 n M9 w7 hS hP h7=>by
  exact O9
 have H5:=iw aK (H3.out.2.1.ε gj id) (H3.out.2.2.1.ε gj id) (H3.out.2.2.2.1.ε gj id) uD fC;have E8:=δ xl;clear aK fC gj uD xl hact wI;refine dW ?_;refine eo (S:=fun w'=>η w' g 95 cF∧η w' (c+3) 35 #[ι bi,ι be,x.ov]) (T:=fun _=>false) kR ?_;have aE:=And.intro H5.out.1.drew H5.out.2.2.2.1.drew;refine iL 0 (.agg cF) (lN rfl ak _ _ rfl g ak _ _ _ (fun w' hSw=>hSw.1) underlying95 rfl sA) ?_
 refine ξ 1 ?_;refine iL 2 (.agg #[ι bi,ι be,x.ov]) (lN rfl ak _ _ rfl (c+3) ak _ _ _ (fun w' hSw=>hSw.2) underlying35 rfl kR) ?_;refine ξ 4 ?_;refine bf 3 (fun KK ο=>?_);go_simp
 refine(oQ.out.2 _ H5.out.2.2.2.2.1.drew).mono ?_;rintro r w6 ⟨n6,M9,rfl,cW,xm⟩;have wS:=(H5.out.2.2.1.drew).ε cW.ε (fun e=>oN (qf.out _ e));have pZ:=(And.intro (H5.out.1.drew.ε cW.ε (fun e=>oO (qf.out _ e) H5.out.2.2.2.2.2)) (H5.out.2.2.2.1.drew.ε cW.ε (fun e=>oN (qf.out _ e))));have de:=fun w7 h7=>E8.out w6 n6 M9 w7 cW xm h7
 have yq:=δ de;refine ο.out _ _ pZ ?_;clear ο xm de;try simp only[av]
 refine bf 5 (fun KK ο=>?_);refine ud ak 95 _ _ ak (c+2) cF ak ak _ _ wS BX oD.out.1 sA ?_
 intro w7 dI bI jf;have zX:=(And.intro (pZ.1.ε bI (fun e=>oF e H5.out.2.2.2.2.2)) (pZ.2.ε bI (fun e=>oE e)));refine ο.out _ _ zX ?_;clear ο;simp only[Act.put];refine ξ 6 ?_;refine ξ 7 ?_;refine dY ?_;refine dz ?_;have L_:=τ dI bI;clear dI bI jf cW wS pZ zX aE;go_wp2_with fail
 refine cJ (Mx rfl _ _ (c+2) _ _ _ _ rfl L_.out.1 underlying95 rfl sA _ _ rfl rfl) rfl ?_
 exact yq.out w7 L_.out.2):P:=h f
theorem UY {P:Prop} (h:P:=by
 refine dY ?_;refine dz ?_;have L_:=τ dI bI;clear dI bI jf cW wS pZ zX aE;go_wp2_with fail
 refine cJ (Mx rfl _ _ (c+2) _ _ _ _ rfl L_.out.1 underlying95 rfl sA _ _ rfl rfl) rfl ?_
 exact yq.out w7 L_.out.2):P:=h
theorem UZ {P:Prop} (h:P:=by
 unfold eH;rw[ν (fun e=>e.elim (hne 0 dC) (hne 1 dC)),ν (hne 2 dC),ν (hne 3 dC),ν (hne 4 dC)]):P:=h
theorem U1 {P:Prop} (h:P:=by
 rw[e] at hd;exact absurd hd (by rw[Yl];have:=UInt8.le_iff_toNat_le.1 hn;omega)):P:=h
theorem afC {P:Prop} (h:P:=by
 exact abp (And.intro o5 (And.intro (H2.out.2.2.2.2.then o5 (fun q e=>.inr (oF e w_.out.2))) (And.intro aC HX.out)))):P:=h
theorem alk {w0 w:World} {v:Nat} {R:bq} {x:jM} {M X:Nat→Prop} {I:World→Prop} {Post:World→(Nat→Prop)→Int→Prop} {mv lv rv:Value} {aG:List Value} (hD:Bq w0 v R x M I Post) (hI:I w) (hX:∀q,X q→w0.heap.size≤q∧q<w.heap.size) (hd:eL w (fun q=>M q∨X q) R mv lv rv aG) (hk:Oc R) (hx:x.In w0) (hf:x.ER) :
 ς 49 #[.pointer (some ⟨v,0,none⟩),.agg (fO R mv lv rv),.agg x.row.toArray] w fun r w'=>Ga w w' M X (eH R x) Post r:=by
 obtain⟨c,hc⟩:=μ w.heap.size;obtain⟨D,Ik⟩:∃D:Int,(x.fR.toNat:Int)=D:=⟨_,rfl⟩;obtain⟨S,hS⟩:=μ (str x.m.aW);have hrow:x.row.toArray=#[ϋ D,ι x.b.index,ι x.b.θ,x.ov,ι x.m.role,ι x.m.seen,ι x.m.aH,x.mv,.string S,x.lv,ι x.at_,ι x.ep]:=by unfold jM.row;rw[Ik,hS]
 have acX:dD x.m x.mv=#[ι x.m.role,ι x.m.seen,ι x.m.aH,x.mv,.string S]:=by rw[← hS];rfl
 rw[hrow];obtain⟨row,hro⟩:∃r,fO R mv lv rv=r:=⟨_,rfl⟩;obtain⟨AT,Xe⟩:∃a,R.at_=a:=⟨_,rfl⟩;obtain⟨EP,Xf⟩:∃a,R.θ=a:=⟨_,rfl⟩;have yU:row[6]? = some (ι AT):=by rw[← hro,← Xe];rfl
 have hr7:row[7]? = some (ι EP):=by rw[← hro,← Xf];rfl
 have hone:=sX hd;have jS:=hx.AA.ops.rows.one;have hmo:=hx.met.rows.one;have Cu:(#[ι x.b.index,ι x.b.θ,x.ov]:Array Value).all (·.oneCell')=true:=by simp only[Mv,sV,CZ,jS,AX];rfl
 rw[hro] at hone ⊢
 -- the rows that are handed in,apart from what is turned
 have vS:∀N:Nat→Prop,(∀q,N q→(M q∨X q)∨c≤q)→∀q,N q→w0.heap.size≤q:=fun N hN q hq=>(hN q hq).elim (fun e=>e.elim (hD.low hI q) (fun e=>(hX q e).1)) (fun e=>oN (hD.ε hI).size)
 have hfo:∀W N,υ w W→(∀q,N q→(M q∨X q)∨c≤q)→gu W N 3 x.ov (x.b.ops.map bY):=fun W N hW hN=>gu.S_ ((hx.AA.ops.rows.still ((hD.ε hI).then hW φ)).row (by rw[bz];have:=hf.ops.1;omega)) (fun h0=>(hx.AA.ops.rows.lt h0)) (vS N hN)
 have qH:∀W N,υ w W→(∀q,N q→(M q∨X q)∨c≤q)→gu W N 2 x.mv (x.m.aZ.map cB):=fun W N hW hN=>gu.S_ ((hx.met.rows.still ((hD.ε hI).then hW φ)).row (by rw[bz];have:=hf.met.1;omega)) (fun h0=>(hx.met.rows.lt h0)) (vS N hN)
 have hfl:∀W N,υ w W→(∀q,N q→(M q∨X q)∨c≤q)→gu W N 2 x.lv (x.l.map bC):=fun W N hW hN=>gu.S_ ((hx.kL.rows.still ((hD.ε hI).then hW φ)).row (by rw[bz];have:=hf.kL.1;omega)) (fun h0=>(hx.kL.rows.lt h0)) (vS N hN)
 have U3:=hD.lt hI;have nL:∀W N,υ w W→(∀q,N q→(M q∨X q)∨c≤q)→eL W N R mv lv rv aG:=fun W N hW hN=>(hd.more (fun q hq=>hc ▸ hN q hq)).still hW
 have Cd:∀W q,NW (fun q=>M q∨X q) c W q→(M q∨X q)∨c≤q:=fun W q hq=>hq.imp id (·.1)
 have hnl:∀W,υ w W→∀q,NW (fun q=>M q∨X q) c W q→q<W.heap.size:=fun W hW q hq=>by
  have:=hW.size;rcases hq with (e | e)| e
  ·have:=U3 q e
   omega
  ·have:=(hX q e).2
   omega
  ·exact e.2
 have iV:=iw nL hfo qH hfl Cd hnl;have mg:=B0 hone Cu acX yU hr7 hro Xe Xf;have w_:=τ Ik hc;have qf:=δ (fun q hq=>hc ▸ U3 q hq:∀q,M q→q<c);have HH:=cD hD hI hk hx hf;clear hd hc Ik hS hrow acX hro yU hr7 hone jS hmo Cu vS hfo qH hfl U3 nL hD hI hk hx hf Xe Xf Cd hnl hX;go_enter func49,ntmps49
 go_upto_region 1 with fail
 rw[w_.out.2];generalize hw1:World.alloc (World.alloc (World.alloc _ _) _) _=w1;obtain⟨aP,hM1,qh,az,bK⟩:=ank w row #[ϋ D,ι x.b.index,ι x.b.θ,x.ov,ι x.m.role,ι x.m.seen,ι x.m.aH,x.mv,.string S,x.lv,ι x.at_,ι x.ep] #[ι 0,ι 0,ι 0,.slice none 0 0,.string ⟨#[]⟩,.slice none 0 0,ι 0,ι 0,.slice none 0 0,ι 0,ι 0] w_.out.2 w1 hw1;have H1:=cD aP hM1 qh az bK;clear hw1 aP hM1 qh az bK;go_upto_region 2 with (first
  |(refine rV rfl 35 _ rfl (c+1) 1 rfl _ _ [ι x.b.index,ι x.b.θ,x.ov] _ H1.out.2.1 (fun j u hj=>og (cs:=#[ϋ D,ι x.b.index,ι x.b.θ,x.ov,ι x.m.role,ι x.m.seen,ι x.m.aH,x.mv,.string S,x.lv,ι x.at_,ι x.ep]) (i:=1) (n:=3) rfl j u hj) underlying35 rfl kR ?_)
  |(refine eN 35 w1.heap.size #[ι x.b.index,ι x.b.θ,x.ov] (η.new w1 _ _) mg.out.2.1 ?_
    intro w2 aD σ aY))
 rw[H1.out.2.2.2.2] at aD σ ⊢;have iq:υ w1 w2:=((ζ.refl _ w1).alloc _).then σ (fun q e=>.inr (oF e H1.out.2.2.2.2));have BW:υ w w2:=H1.out.2.2.2.1.then iq φ;have d0:w2.cell? ⟨c+1,0,none⟩=some (ϋ D):=(H1.out.2.1.ε iq id).cell 0;have H2:=cD (H1.out.1.ε iq id) (H1.out.2.1.ε iq id) (H1.out.2.2.1.ε iq id) aD BW;clear aD σ aY iq BW;have L8:x.fR=0∨x.fR=1∨x.fR=2∨x.fR=3∨x.fR=4∨4<x.fR:=by
  rcases Io 4 x.fR.toNat with h | h
  ·exact .inr (.inr (.inr (.inr (.inr (by rw[Yl];exact h)))))
  ·have hz:∀n:Nat,n≤4→x.fR.toNat=n→x.fR=UInt8.ofNat n:=fun n hn e=>xp.1 (by rw[e,UInt8.toNat_ofNat'];omega)
   rcases (show x.fR.toNat=0∨x.fR.toNat=1∨x.fR.toNat=2∨x.fR.toNat=3∨x.fR.toNat=4 by omega) with e | e | e | e | e
   ·exact .inl (hz 0 oM e)
   ·exact .inr (.inl (hz 1 oM e))
   ·exact .inr (.inr (.inl (hz 2 oM e)))
   ·exact .inr (.inr (.inr (.inl (hz 3 oM e))))
   ·exact .inr (.inr (.inr (.inr (.inl (hz 4 oM e)))))
 rcases L8 with hd | hd | hd | hd | hd | hd
 ·obtain rfl:D=0:=by rw[← w_.out.1,hd];rfl
  have hb0:gP x R.at_ R.θ=x.b:=by unfold gP;rw[π hd]
  have HX:=δ (show x.fR=0∨x.fR=1 from .inl hd);have o5:ζ (· = c+3) w2 w2:=ζ.refl _ _;have aC:η w2 (c+3) 35 #[ι (gP x R.at_ R.θ).index,ι (gP x R.at_ R.θ).θ,x.ov]:=by
   rw[hb0];exact H2.out.2.2.2.1
  exact abp (And.intro o5 (And.intro (H2.out.2.2.2.2) (And.intro aC HX.out)))
 ·obtain rfl:D=1:=by rw[← w_.out.1,hd];rfl
  have HX:=δ (show x.fR=0∨x.fR=1 from .inr hd);have eO:gP x R.at_ R.θ=⟨IntKind.i64.wrap (AT+1),max x.b.θ EP,x.b.ops⟩:=by
   unfold gP;rw[ν UX,mg.out.2.2.2.2.2.2.1,mg.out.2.2.2.2.2.2.2]
  have c6:w2.cell? ⟨c,6,none⟩=some (ι AT):=(H2.out.1.cell 6).trans mg.out.2.2.2.1;obtain⟨ix,Ek⟩:∃m,IntKind.i64.wrap (AT+1)=m:=⟨_,rfl⟩;have rG:=τ eO Ek;clear eO hd;go_upto_region 9 with (first
   |(refine gJ rfl 3 _ _ rfl (c+3) 0 (ι ix) rfl rfl _ _ H2.out.2.2.2.1 sM rfl kR ?_
     intro Qx O_ U5 aoP))
  rw[show (#[ι x.b.index,ι x.b.θ,x.ov]:Array Value).setIfInBounds 0 (ι ix)=#[ι ix,ι x.b.θ,x.ov] from rfl] at O_;have c7:Qx.cell? ⟨c,7,none⟩=some (ι EP):=((H2.out.1.ε U5 (fun e=>oE e)).cell 7).trans mg.out.2.2.2.2.1;have c31:Qx.cell? ⟨c+3,1,none⟩=some (ι x.b.θ):=O_.cell 1;have Qy:=τ O_ U5;clear O_ U5 aoP Ek c6;by_cases hlt:x.b.θ<EP
  ·go_upto_region 11 with (first
    |(refine gJ rfl 3 _ _ rfl (c+3) 1 (ι EP) rfl rfl _ _ Qy.out.1 sM rfl kR ?_
      intro w2b U6 afD aoQ))
   rw[show (#[ι ix,ι x.b.θ,x.ov]:Array Value).setIfInBounds 1 (ι EP)=#[ι ix,ι EP,x.ov] from rfl] at U6;have vN:max x.b.θ EP=EP:=oM;have Xg:=aq U6 afD vN;clear U6 afD aoQ c7 c31 hlt vN;have o5:ζ (· = c+3) w2 w2b:=Qy.out.2.then Xg.out.2.1 (fun _ e=>.inl e);have aC:η w2b (c+3) 35 #[ι (gP x R.at_ R.θ).index,ι (gP x R.at_ R.θ).θ,x.ov]:=by
    rw[rG.out.1,rG.out.2,Xg.out.2.2];exact Xg.out.1
   exact afC
  ·have vN:max x.b.θ EP=x.b.θ:=oM
   have PC:=δ vN;clear vN;go_upto_region 11 with fail
   clear c7 c31 hlt;have o5:ζ (· = c+3) w2 Qx:=Qy.out.2;have aC:η Qx (c+3) 35 #[ι (gP x R.at_ R.θ).index,ι (gP x R.at_ R.θ).θ,x.ov]:=by
    rw[rG.out.1,rG.out.2,PC.out];exact Qy.out.1
   exact afC
 ·obtain rfl:D=2:=by rw[← w_.out.1,hd];rfl
  have H3:=H2;have HX:=δ hd;have E4:∀W,υ w W→ς 43 #[.agg #[ι x.m.role,ι x.m.seen,ι x.m.aH,x.mv,.string S]] W fun e w'=>e=ώ (.agg #[ι x.m.role,ι x.m.seen,ι x.m.aH,x.mv,.string S])∧υ W w':=fun W hW=>by
   have:=SJ x.m (iV.out.2.2.1 W _ hW (iV.out.2.2.2.2.1 W)).1;rw[mg.out.2.2.1] at this;exact this
  have xj:∀W,υ w2 W→ς 94 #[.agg row,.agg #[ι x.m.role,ι x.m.seen,ι x.m.aH,x.mv,.string S]] W fun r W'=>yu W W' (NW (fun q=>M q∨X q) c W) (kE R x.m) r:=fun W hW=>by
   have jd:=H3.out.2.2.2.2.then hW φ;have:=(iV.out.1 W _ jd (iV.out.2.2.2.2.1 W)).bE x.m (iV.out.2.2.1 W _ jd (iV.out.2.2.2.2.1 W)) (fun y hy=>oN (HH.out.2.2.2.2.met.2.2 y hy));rw[mg.out.2.2.2.2.2.1,mg.out.2.2.1] at this;exact this
  have CT:∀W,υ w W→ς 24 #[.pointer (some ⟨v,0,none⟩),.agg #[ι x.m.role,ι x.m.seen,ι x.m.aH,x.mv,.string S]] W fun r w'=>∃n M',r=ώ (ι n)∧dL W w' M M'∧Post w' M' n:=fun W hW=>by
   have:=HH.out.1.bE (HH.out.1.still HH.out.2.1 hW) HX.out;rw[mg.out.2.2.1] at this;exact this
  have oQ:=aq xj CT E4;clear E4 xj CT hd;go_upto_region 13 with fail
  refine dW ?_;refine eo (S:=fun w'=>υ w2 w') (T:=fun _=>false) kR ?_;have aE:=(ζ.refl (fun _=>False) w2).drew;refine iL 0 (.agg row) (lN rfl ak _ _ rfl c ak _ _ _ (fun w' hSw=>H3.out.1.ε hSw id) underlying95 rfl D6) ?_
  refine ξ 1 ?_;refine iL 2 (.agg #[ι x.m.role,ι x.m.seen,ι x.m.aH,x.mv,.string S]) (C0 rfl ak _ _ rfl (c+1) 4 ak _ _ [ι x.m.role,ι x.m.seen,ι x.m.aH,x.mv,.string S] _ (fun w' hSw=>H3.out.2.1.ε hSw id) (fun j u hj=>og (cs:=#[ϋ 2,ι x.b.index,ι x.b.θ,x.ov,ι x.m.role,ι x.m.seen,ι x.m.aH,x.mv,.string S,x.lv,ι x.at_,ι x.ep]) (i:=4) (n:=5) rfl j u hj) underlying50 rfl kR) ?_;refine vn (i:=3) (j:=8) kR rfl rfl (fun KK ο=>?_) (fun KK ο=>?_);go_simp
  refine(oQ.out.2.2 _ (H3.out.2.2.2.2.then aE φ)).mono ?_;rintro e E9 ⟨rfl,rQ⟩;have cz:=aE.then rQ φ;refine ο.out _ _ cz ?_;clear ο;try simp only[av]
  refine vn (i:=4) (j:=8) kR rfl rfl (fun KK ο=>?_) (fun KK ο=>?_);go_simp
  refine(oQ.out.1 _ cz).mono ?_;rintro r w4 ⟨bW,cI,fT,jb,rfl,fL,au⟩;obtain⟨cF,hr2⟩:∃r,fO (kE R x.m).1 bW cI fT=r:=⟨_,rfl⟩;obtain⟨E2,dQ⟩:∃e,(kE R x.m).2=e:=⟨_,rfl⟩;rw[hr2,dQ];have oD:=δ (hr2 ▸ sX fL);have g_:=aF fL au hr2 dQ;clear fL au hr2 dQ;have bn:=cz.then g_.out.2.1 φ;refine ο.out _ _ bn ?_;clear ο;try simp only[av]
  refine ξ 5 ?_;refine ξ 6 ?_;refine ξ 7 ?_;refine bf 8 (fun KK ο=>?_);go_simp
  refine ο.out _ _ (bn.alloc _) ?_;clear ο;try simp only[av]
  obtain⟨g,hg⟩:=μ w4.heap.size;have jx:eL (w4.alloc (.cells #[ι 0,ι 0,ι 0,.slice none 0 0,.string ⟨#[]⟩,.slice none 0 0,ι 0,ι 0,.slice none 0 0,ι 0,ι 0] 95)) (fun q=>(M q∨X q)∨q=c+2∨q=g) (kE R x.m).1 bW cI fT jb∧υ w2 (w4.alloc (.cells #[ι 0,ι 0,ι 0,.slice none 0 0,.string ⟨#[]⟩,.slice none 0 0,ι 0,ι 0,.slice none 0 0,ι 0,ι 0] 95))∧η (w4.alloc (.cells #[ι 0,ι 0,ι 0,.slice none 0 0,.string ⟨#[]⟩,.slice none 0 0,ι 0,ι 0,.slice none 0 0,ι 0,ι 0] 95)) g 95 #[ι 0,ι 0,ι 0,.slice none 0 0,.string ⟨#[]⟩,.slice none 0 0,ι 0,ι 0,.slice none 0 0,ι 0,ι 0]∧w2.heap.size≤g:=⟨(g_.out.1.more (fun q hq=>hq.elim (fun e=>.inl (.inl e)) (fun e=>e.elim (fun e=>.inl (.inr ⟨oM,by have:=cz.size;have:=H3.out.2.2.2.1.lt;omega⟩)) (fun e=>.inr oM)))).still ((ζ.refl _ w4).alloc _),bn.alloc _,(by rw[← hg];exact η.new w4 _ _),(oN bn.size)⟩;rw[hg];generalize World.alloc w4 _=Ma at jx ⊢
  have rR:=δ jx;clear jx hg bn cz rQ;rotate_left 1;go_simp
  refine ο.out _ _ (cz.alloc _) ?_;clear ο;try simp only[av]
  refine bf 4 (fun KK ο=>?_);go_simp
  refine(oQ.out.1 _ (cz.alloc _)).mono ?_;rintro r w4 ⟨bW,cI,fT,jb,rfl,fL,au⟩;obtain⟨cF,hr2⟩:∃r,fO (kE R x.m).1 bW cI fT=r:=⟨_,rfl⟩;obtain⟨E2,dQ⟩:∃e,(kE R x.m).2=e:=⟨_,rfl⟩;rw[hr2,dQ];have oD:=δ (hr2 ▸ sX fL);have g_:=aF fL au hr2 dQ;clear fL au hr2 dQ;have bn:=(cz.alloc (.cells #[ι 0,ι 0,ι 0,.slice none 0 0,.string ⟨#[]⟩,.slice none 0 0,ι 0,ι 0,.slice none 0 0,ι 0,ι 0] 95)).then g_.out.2.1 φ;refine ο.out _ _ bn ?_;clear ο;try simp only[av]
  refine ξ 5 ?_;refine ξ 6 ?_;refine ξ 7 ?_;obtain⟨g,hg⟩:=μ E9.heap.size;have jx:eL w4 (fun q=>(M q∨X q)∨q=c+2∨q=g) (kE R x.m).1 bW cI fT jb∧υ w2 w4∧η w4 g 95 #[ι 0,ι 0,ι 0,.slice none 0 0,.string ⟨#[]⟩,.slice none 0 0,ι 0,ι 0,.slice none 0 0,ι 0,ι 0]∧w2.heap.size≤g:=⟨(g_.out.1.more (fun q hq=>hq.elim (fun e=>.inl (.inl e)) (fun e=>e.elim (fun e=>.inl (.inr ⟨oM,by have:=cz.size;have:=H3.out.2.2.2.1.lt;rw[dx];omega⟩)) (fun e=>.inl (.inr ⟨by have:=cz.size;have:=H3.out.2.2.2.1.lt;omega,by rw[dx];omega⟩))))),bn,(by rw[← hg];exact(η.new E9 _ _).ε g_.out.2.1 id),(oN cz.size)⟩;rw[hg];obtain⟨Ma,vV⟩:=μ w4;rw[vV] at jx ⊢;have rR:=δ jx;clear jx hg bn cz rQ vV;rotate_left 1;go_simp
  refine ο.out _ _ (aE.alloc _) ?_;clear ο;try simp only[av]
  refine bf 3 (fun KK ο=>?_);go_simp
  refine(oQ.out.2.2 _ (H3.out.2.2.2.2.then (aE.alloc (.cells #[ι 0,ι 0,ι 0,.slice none 0 0,.string ⟨#[]⟩,.slice none 0 0,ι 0,ι 0,.slice none 0 0,ι 0,ι 0] 95)) φ)).mono ?_;rintro e E9 ⟨rfl,rQ⟩;have cz:=(aE.alloc (.cells #[ι 0,ι 0,ι 0,.slice none 0 0,.string ⟨#[]⟩,.slice none 0 0,ι 0,ι 0,.slice none 0 0,ι 0,ι 0] 95)).then rQ φ;refine ο.out _ _ cz ?_;clear ο;try simp only[av]
  refine bf 4 (fun KK ο=>?_);go_simp
  refine(oQ.out.1 _ cz).mono ?_;rintro r w4 ⟨bW,cI,fT,jb,rfl,fL,au⟩;obtain⟨cF,hr2⟩:∃r,fO (kE R x.m).1 bW cI fT=r:=⟨_,rfl⟩;obtain⟨E2,dQ⟩:∃e,(kE R x.m).2=e:=⟨_,rfl⟩;rw[hr2,dQ];have oD:=δ (hr2 ▸ sX fL);have g_:=aF fL au hr2 dQ;clear fL au hr2 dQ;have bn:=cz.then g_.out.2.1 φ;refine ο.out _ _ bn ?_;clear ο;try simp only[av]
  refine ξ 5 ?_;refine ξ 6 ?_;refine ξ 7 ?_;obtain⟨g,hg⟩:=μ w2.heap.size;have hb4:=(η.new w2 95 #[ι 0,ι 0,ι 0,.slice none 0 0,.string ⟨#[]⟩,.slice none 0 0,ι 0,ι 0,.slice none 0 0,ι 0,ι 0]).drew.ε rQ id;have jx:eL w4 (fun q=>(M q∨X q)∨q=c+2∨q=g) (kE R x.m).1 bW cI fT jb∧υ w2 w4∧η w4 g 95 #[ι 0,ι 0,ι 0,.slice none 0 0,.string ⟨#[]⟩,.slice none 0 0,ι 0,ι 0,.slice none 0 0,ι 0,ι 0]∧w2.heap.size≤g:=⟨(g_.out.1.more (fun q hq=>hq.elim (fun e=>.inl (.inl e)) (fun e=>e.elim (fun e=>.inl (.inr ⟨oM,by have:=cz.size;have:=H3.out.2.2.2.1.lt;omega⟩)) (fun e=>.inl (.inr ⟨by have:=H3.out.2.2.2.1.lt;omega,by have:=hb4.lt;omega⟩))))),bn,(by rw[← hg];exact hb4.ε g_.out.2.1 id),oM⟩;first| rw[hg] | skip
  obtain⟨Ma,vV⟩:=μ w4;rw[vV] at jx ⊢;have rR:=δ jx;clear jx hg bn cz rQ vV hb4;all_goals
   have jO:=rR.out.2.1;refine bf 9 (fun KK ο=>?_);refine ud ak 95 _ _ ak g cF ak ak _ _ rR.out.2.2.1 BX oD.out.1 sA ?_
   intro w5 aK ay iQ;have gj:=jO.then ay (fun q e=>.inr (oF e rR.out.2.2.2));refine ο.out _ _ gj ?_;clear ο;simp only[Act.put];refine ξ 10 ?_;refine dY ?_;refine dz ?_;have fC:c+3<g:=by have:=H3.out.2.2.2.1.lt;have:=rR.out.2.2.2;omega
   have wI:=(rR.out.1.act (w':=w5) (M':=(fun q=>(M q∨X q)∨q=c+2∨q=g)) ⟨ay.mono (fun q e=>.inl (.inr (.inr e))),fun q e=>.inl e⟩).more (N:=fun q=>(M q∨X q)∨q=c+2) (fun q hq=>.inl (hq.imp id .inl));clear ay iQ jO aE;have uD:υ w w5:=H3.out.2.2.2.2.then gj φ;have hact:eH R x=kE R x.m:=by
    unfold eH;rw[ν GD,π HX.out]
   have xl:∀w6 n M9 w7,dL w5.drew w6 M M9→Post w6 M9 n→ζ (· = c+2) w6 w7→Ga w w7 M X (eH R x) Post (ώ (.tuple #[.agg cF,ι n,ι E2])):=fun w6 n M9 w7 hS hP h7=>by
    exact O9
   have H5:=iw aK (H3.out.2.1.ε gj id) (H3.out.2.2.1.ε gj id) (H3.out.2.2.2.1.ε gj id) uD fC;have E8:=δ xl;clear aK fC gj uD xl hact wI;go_upto_region 14 with fail
   refine dW ?_;refine eo (S:=fun w'=>η w' g 95 cF∧η w' (c+1) 65 #[ϋ 2,ι x.b.index,ι x.b.θ,x.ov,ι x.m.role,ι x.m.seen,ι x.m.aH,x.mv,.string S,x.lv,ι x.at_,ι x.ep]) (T:=fun _=>false) kR ?_;have aE:=And.intro H5.out.1.drew H5.out.2.1.drew;refine iL 0 (.agg cF) (lN rfl ak _ _ rfl g ak _ _ _ (fun w' hSw=>hSw.1) underlying95 rfl sA) ?_
   refine ξ 1 ?_;refine ξ 2 ?_;refine iL 3 (.agg #[ι x.m.role,ι x.m.seen,ι x.m.aH,x.mv,.string S]) (C0 rfl ak _ _ rfl (c+1) 4 ak _ _ [ι x.m.role,ι x.m.seen,ι x.m.aH,x.mv,.string S] _ (fun w' hSw=>hSw.2) (fun j u hj=>og (cs:=#[ϋ 2,ι x.b.index,ι x.b.θ,x.ov,ι x.m.role,ι x.m.seen,ι x.m.aH,x.mv,.string S,x.lv,ι x.at_,ι x.ep]) (i:=4) (n:=5) rfl j u hj) underlying50 rfl kR) ?_;refine ξ 5 ?_;refine bf 4 (fun KK ο=>?_);go_simp
   refine(oQ.out.2.1 _ H5.out.2.2.2.2.1.drew).mono ?_;rintro r w6 ⟨n6,M9,rfl,cW,xm⟩;have wS:=(H5.out.2.2.1.drew).ε cW.ε (fun e=>oN (qf.out _ e));have pZ:=(And.intro (H5.out.1.drew.ε cW.ε (fun e=>oO (qf.out _ e) H5.out.2.2.2.2.2)) (H5.out.2.1.drew.ε cW.ε (fun e=>oN (qf.out _ e))));have de:=fun w7 h7=>E8.out w6 n6 M9 w7 cW xm h7
   have yq:=δ de;refine ο.out _ _ pZ ?_;clear ο xm de;try simp only[av]
   refine bf 6 (fun KK ο=>?_);refine ud ak 95 _ _ ak (c+2) cF ak ak _ _ wS BX oD.out.1 sA ?_
   intro w7 dI bI jf;have zX:=(And.intro (pZ.1.ε bI (fun e=>oF e H5.out.2.2.2.2.2)) (pZ.2.ε bI (fun e=>oE e)));refine ο.out _ _ zX ?_;clear ο;simp only[Act.put];refine ξ 7 ?_;refine ξ 8 ?_;exact UY
 ·obtain rfl:D=3:=by rw[← w_.out.1,hd];rfl
  have H3:=H2;have HX:=δ hd;have E4:∀W,υ w W→ς 43 #[.agg #[ι x.m.role,ι x.m.seen,ι x.m.aH,x.mv,.string S]] W fun e w'=>e=ώ (.agg #[ι x.m.role,ι x.m.seen,ι x.m.aH,x.mv,.string S])∧υ W w':=fun W hW=>by
   have:=SJ x.m (iV.out.2.2.1 W _ hW (iV.out.2.2.2.2.1 W)).1;rw[mg.out.2.2.1] at this;exact this
  have xj:∀W,υ w2 W→ς 95 #[.agg row,.agg #[ι x.m.role,ι x.m.seen,ι x.m.aH,x.mv,.string S],x.lv,ι x.at_,ι x.ep] W fun r W'=>yu W W' (NW (fun q=>M q∨X q) c W) (iD R x.m x.l x.at_ x.ep) r:=fun W hW=>by
   have jd:=H3.out.2.2.2.2.then hW φ;have:=(iV.out.1 W _ jd (iV.out.2.2.2.2.1 W)).install x.m (iV.out.2.2.1 W _ jd (iV.out.2.2.2.2.1 W)) (fun y hy=>oN (HH.out.2.2.2.2.met.2.2 y hy)) (iV.out.2.2.2.1 W _ jd (iV.out.2.2.2.2.1 W)) (fun y hy=>oN (HH.out.2.2.2.2.kL.2 y hy)) (iV.out.2.2.2.2.2 W jd) x.at_ x.ep;rw[mg.out.2.2.2.2.2.1,mg.out.2.2.1] at this;exact this
  have CT:∀W,υ w W→ς 21 #[.pointer (some ⟨v,0,none⟩),.agg #[ι x.m.role,ι x.m.seen,ι x.m.aH,x.mv,.string S],x.lv,ι x.at_,ι x.ep] W fun r w'=>∃n M',r=ώ (ι n)∧dL W w' M M'∧Post w' M' n:=fun W hW=>by
   have:=HH.out.1.install (HH.out.1.still HH.out.2.1 hW) HX.out;rw[mg.out.2.2.1] at this;exact this
  have oQ:=aq xj CT E4;clear E4 xj CT hd;go_upto_region 15 with fail
  refine dW ?_;refine eo (S:=fun w'=>υ w2 w') (T:=fun _=>false) kR ?_;have aE:=(ζ.refl (fun _=>False) w2).drew;refine iL 0 (.agg row) (lN rfl ak _ _ rfl c ak _ _ _ (fun w' hSw=>H3.out.1.ε hSw id) underlying95 rfl D6) ?_
  refine ξ 1 ?_;refine iL 2 (.agg #[ι x.m.role,ι x.m.seen,ι x.m.aH,x.mv,.string S]) (C0 rfl ak _ _ rfl (c+1) 4 ak _ _ [ι x.m.role,ι x.m.seen,ι x.m.aH,x.mv,.string S] _ (fun w' hSw=>H3.out.2.1.ε hSw id) (fun j u hj=>og (cs:=#[ϋ 3,ι x.b.index,ι x.b.θ,x.ov,ι x.m.role,ι x.m.seen,ι x.m.aH,x.mv,.string S,x.lv,ι x.at_,ι x.ep]) (i:=4) (n:=5) rfl j u hj) underlying50 rfl kR) ?_;refine ξ 4 ?_;refine aX 5 (fun w' hSw=>(H3.out.2.1.ε hSw id).cell 9) ?_;refine ξ 6 ?_;refine aX 7 (fun w' hSw=>(H3.out.2.1.ε hSw id).cell 10) ?_;refine ξ 8 ?_;refine aX 9 (fun w' hSw=>(H3.out.2.1.ε hSw id).cell 11) ?_;refine vn (i:=3) (j:=14) kR rfl rfl (fun KK ο=>?_) (fun KK ο=>?_);go_simp
  refine(oQ.out.2.2 _ (H3.out.2.2.2.2.then aE φ)).mono ?_;rintro e E9 ⟨rfl,rQ⟩;have cz:=aE.then rQ φ;refine ο.out _ _ cz ?_;clear ο;try simp only[av]
  refine vn (i:=10) (j:=14) kR rfl rfl (fun KK ο=>?_) (fun KK ο=>?_);go_simp
  refine(oQ.out.1 _ cz).mono ?_;rintro r w4 ⟨bW,cI,fT,jb,rfl,fL,au⟩;obtain⟨cF,hr2⟩:∃r,fO (iD R x.m x.l x.at_ x.ep).1 bW cI fT=r:=⟨_,rfl⟩;obtain⟨E2,dQ⟩:∃e,(iD R x.m x.l x.at_ x.ep).2=e:=⟨_,rfl⟩;rw[hr2,dQ];have oD:=δ (hr2 ▸ sX fL);have g_:=aF fL au hr2 dQ;clear fL au hr2 dQ;have bn:=cz.then g_.out.2.1 φ;refine ο.out _ _ bn ?_;clear ο;try simp only[av]
  refine ξ 11 ?_;refine ξ 12 ?_;refine ξ 13 ?_;refine bf 14 (fun KK ο=>?_);go_simp
  refine ο.out _ _ (bn.alloc _) ?_;clear ο;try simp only[av]
  obtain⟨g,hg⟩:=μ w4.heap.size;have jx:eL (w4.alloc (.cells #[ι 0,ι 0,ι 0,.slice none 0 0,.string ⟨#[]⟩,.slice none 0 0,ι 0,ι 0,.slice none 0 0,ι 0,ι 0] 95)) (fun q=>(M q∨X q)∨q=c+2∨q=g) (iD R x.m x.l x.at_ x.ep).1 bW cI fT jb∧υ w2 (w4.alloc (.cells #[ι 0,ι 0,ι 0,.slice none 0 0,.string ⟨#[]⟩,.slice none 0 0,ι 0,ι 0,.slice none 0 0,ι 0,ι 0] 95))∧η (w4.alloc (.cells #[ι 0,ι 0,ι 0,.slice none 0 0,.string ⟨#[]⟩,.slice none 0 0,ι 0,ι 0,.slice none 0 0,ι 0,ι 0] 95)) g 95 #[ι 0,ι 0,ι 0,.slice none 0 0,.string ⟨#[]⟩,.slice none 0 0,ι 0,ι 0,.slice none 0 0,ι 0,ι 0]∧w2.heap.size≤g:=⟨(g_.out.1.more (fun q hq=>hq.elim (fun e=>.inl (.inl e)) (fun e=>e.elim (fun e=>.inl (.inr ⟨oM,by have:=cz.size;have:=H3.out.2.2.2.1.lt;omega⟩)) (fun e=>.inr oM)))).still ((ζ.refl _ w4).alloc _),bn.alloc _,(by rw[← hg];exact η.new w4 _ _),(oN bn.size)⟩
  rw[hg];generalize World.alloc w4 _=Ma at jx ⊢;have rR:=δ jx;clear jx hg bn cz rQ;rotate_left 1;go_simp
  refine ο.out _ _ (cz.alloc _) ?_;clear ο;try simp only[av]
  refine bf 10 (fun KK ο=>?_);go_simp
  refine(oQ.out.1 _ (cz.alloc _)).mono ?_;rintro r w4 ⟨bW,cI,fT,jb,rfl,fL,au⟩;obtain⟨cF,hr2⟩:∃r,fO (iD R x.m x.l x.at_ x.ep).1 bW cI fT=r:=⟨_,rfl⟩;obtain⟨E2,dQ⟩:∃e,(iD R x.m x.l x.at_ x.ep).2=e:=⟨_,rfl⟩;rw[hr2,dQ];have oD:=δ (hr2 ▸ sX fL);have g_:=aF fL au hr2 dQ;clear fL au hr2 dQ;have bn:=(cz.alloc (.cells #[ι 0,ι 0,ι 0,.slice none 0 0,.string ⟨#[]⟩,.slice none 0 0,ι 0,ι 0,.slice none 0 0,ι 0,ι 0] 95)).then g_.out.2.1 φ;refine ο.out _ _ bn ?_;clear ο;try simp only[av]
  refine ξ 11 ?_;refine ξ 12 ?_;refine ξ 13 ?_;obtain⟨g,hg⟩:=μ E9.heap.size;have jx:eL w4 (fun q=>(M q∨X q)∨q=c+2∨q=g) (iD R x.m x.l x.at_ x.ep).1 bW cI fT jb∧υ w2 w4∧η w4 g 95 #[ι 0,ι 0,ι 0,.slice none 0 0,.string ⟨#[]⟩,.slice none 0 0,ι 0,ι 0,.slice none 0 0,ι 0,ι 0]∧w2.heap.size≤g:=⟨(g_.out.1.more (fun q hq=>hq.elim (fun e=>.inl (.inl e)) (fun e=>e.elim (fun e=>.inl (.inr ⟨oM,by have:=cz.size;have:=H3.out.2.2.2.1.lt;rw[dx];omega⟩)) (fun e=>.inl (.inr ⟨by have:=cz.size;have:=H3.out.2.2.2.1.lt;omega,by rw[dx];omega⟩))))),bn,(by rw[← hg];exact(η.new E9 _ _).ε g_.out.2.1 id),(oN cz.size)⟩;rw[hg];obtain⟨Ma,vV⟩:=μ w4;rw[vV] at jx ⊢;have rR:=δ jx;clear jx hg bn cz rQ vV;rotate_left 1;go_simp
  refine ο.out _ _ (aE.alloc _) ?_;clear ο;try simp only[av]
  refine bf 3 (fun KK ο=>?_);go_simp
  refine(oQ.out.2.2 _ (H3.out.2.2.2.2.then (aE.alloc (.cells #[ι 0,ι 0,ι 0,.slice none 0 0,.string ⟨#[]⟩,.slice none 0 0,ι 0,ι 0,.slice none 0 0,ι 0,ι 0] 95)) φ)).mono ?_;rintro e E9 ⟨rfl,rQ⟩;have cz:=(aE.alloc (.cells #[ι 0,ι 0,ι 0,.slice none 0 0,.string ⟨#[]⟩,.slice none 0 0,ι 0,ι 0,.slice none 0 0,ι 0,ι 0] 95)).then rQ φ;refine ο.out _ _ cz ?_;clear ο;try simp only[av]
  refine bf 10 (fun KK ο=>?_);go_simp
  refine(oQ.out.1 _ cz).mono ?_;rintro r w4 ⟨bW,cI,fT,jb,rfl,fL,au⟩;obtain⟨cF,hr2⟩:∃r,fO (iD R x.m x.l x.at_ x.ep).1 bW cI fT=r:=⟨_,rfl⟩;obtain⟨E2,dQ⟩:∃e,(iD R x.m x.l x.at_ x.ep).2=e:=⟨_,rfl⟩;rw[hr2,dQ];have oD:=δ (hr2 ▸ sX fL);have g_:=aF fL au hr2 dQ;clear fL au hr2 dQ;have bn:=cz.then g_.out.2.1 φ;refine ο.out _ _ bn ?_;clear ο;try simp only[av]
  refine ξ 11 ?_;refine ξ 12 ?_;refine ξ 13 ?_;obtain⟨g,hg⟩:=μ w2.heap.size;have hb4:=(η.new w2 95 #[ι 0,ι 0,ι 0,.slice none 0 0,.string ⟨#[]⟩,.slice none 0 0,ι 0,ι 0,.slice none 0 0,ι 0,ι 0]).drew.ε rQ id;have jx:eL w4 (fun q=>(M q∨X q)∨q=c+2∨q=g) (iD R x.m x.l x.at_ x.ep).1 bW cI fT jb∧υ w2 w4∧η w4 g 95 #[ι 0,ι 0,ι 0,.slice none 0 0,.string ⟨#[]⟩,.slice none 0 0,ι 0,ι 0,.slice none 0 0,ι 0,ι 0]∧w2.heap.size≤g:=⟨(g_.out.1.more (fun q hq=>hq.elim (fun e=>.inl (.inl e)) (fun e=>e.elim (fun e=>.inl (.inr ⟨oM,by have:=cz.size;have:=H3.out.2.2.2.1.lt;omega⟩)) (fun e=>.inl (.inr ⟨by have:=H3.out.2.2.2.1.lt;omega,by have:=hb4.lt;omega⟩))))),bn,(by rw[← hg];exact hb4.ε g_.out.2.1 id),oM⟩;first| rw[hg] | skip
  obtain⟨Ma,vV⟩:=μ w4;rw[vV] at jx ⊢;have rR:=δ jx;clear jx hg bn cz rQ vV hb4;all_goals
   have jO:=rR.out.2.1;refine bf 15 (fun KK ο=>?_);refine ud ak 95 _ _ ak g cF ak ak _ _ rR.out.2.2.1 BX oD.out.1 sA ?_
   intro w5 aK ay iQ;have gj:=jO.then ay (fun q e=>.inr (oF e rR.out.2.2.2));refine ο.out _ _ gj ?_;clear ο;simp only[Act.put];refine ξ 16 ?_;refine dY ?_;refine dz ?_;have fC:c+3<g:=by have:=H3.out.2.2.2.1.lt;have:=rR.out.2.2.2;omega
   have wI:=(rR.out.1.act (w':=w5) (M':=(fun q=>(M q∨X q)∨q=c+2∨q=g)) ⟨ay.mono (fun q e=>.inl (.inr (.inr e))),fun q e=>.inl e⟩).more (N:=fun q=>(M q∨X q)∨q=c+2) (fun q hq=>.inl (hq.imp id .inl));clear ay iQ jO aE;have uD:υ w w5:=H3.out.2.2.2.2.then gj φ;have hact:eH R x=iD R x.m x.l x.at_ x.ep:=by
    unfold eH;rw[ν GD,ν GD,π HX.out]
   have xl:∀w6 n M9 w7,dL w5.drew w6 M M9→Post w6 M9 n→ζ (· = c+2) w6 w7→Ga w w7 M X (eH R x) Post (ώ (.tuple #[.agg cF,ι n,ι E2])):=fun w6 n M9 w7 hS hP h7=>by
    exact O9
   have H5:=iw aK (H3.out.2.1.ε gj id) (H3.out.2.2.1.ε gj id) (H3.out.2.2.2.1.ε gj id) uD fC;have E8:=δ xl;clear aK fC gj uD xl hact wI;go_upto_region 16 with fail
   refine dW ?_;refine eo (S:=fun w'=>η w' g 95 cF∧η w' (c+1) 65 #[ϋ 3,ι x.b.index,ι x.b.θ,x.ov,ι x.m.role,ι x.m.seen,ι x.m.aH,x.mv,.string S,x.lv,ι x.at_,ι x.ep]) (T:=fun _=>false) kR ?_;have aE:=And.intro H5.out.1.drew H5.out.2.1.drew;refine iL 0 (.agg cF) (lN rfl ak _ _ rfl g ak _ _ _ (fun w' hSw=>hSw.1) underlying95 rfl sA) ?_
   refine ξ 1 ?_;refine ξ 2 ?_;refine iL 3 (.agg #[ι x.m.role,ι x.m.seen,ι x.m.aH,x.mv,.string S]) (C0 rfl ak _ _ rfl (c+1) 4 ak _ _ [ι x.m.role,ι x.m.seen,ι x.m.aH,x.mv,.string S] _ (fun w' hSw=>hSw.2) (fun j u hj=>og (cs:=#[ϋ 3,ι x.b.index,ι x.b.θ,x.ov,ι x.m.role,ι x.m.seen,ι x.m.aH,x.mv,.string S,x.lv,ι x.at_,ι x.ep]) (i:=4) (n:=5) rfl j u hj) underlying50 rfl kR) ?_;refine ξ 4 ?_;refine aX 5 (fun w' hSw=>(hSw.2).cell 9) ?_;refine ξ 6 ?_;refine aX 7 (fun w' hSw=>(hSw.2).cell 10) ?_;refine ξ 8 ?_;refine aX 9 (fun w' hSw=>(hSw.2).cell 11) ?_;refine ξ 11 ?_;refine bf 10 (fun KK ο=>?_);go_simp
   refine(oQ.out.2.1 _ H5.out.2.2.2.2.1.drew).mono ?_;rintro r w6 ⟨n6,M9,rfl,cW,xm⟩;have wS:=(H5.out.2.2.1.drew).ε cW.ε (fun e=>oN (qf.out _ e));have pZ:=(And.intro (H5.out.1.drew.ε cW.ε (fun e=>oO (qf.out _ e) H5.out.2.2.2.2.2)) (H5.out.2.1.drew.ε cW.ε (fun e=>oN (qf.out _ e))));have de:=fun w7 h7=>E8.out w6 n6 M9 w7 cW xm h7
   have yq:=δ de;refine ο.out _ _ pZ ?_;clear ο xm de;try simp only[av]
   refine bf 12 (fun KK ο=>?_);refine ud ak 95 _ _ ak (c+2) cF ak ak _ _ wS BX oD.out.1 sA ?_
   intro w7 dI bI jf;have zX:=(And.intro (pZ.1.ε bI (fun e=>oF e H5.out.2.2.2.2.2)) (pZ.2.ε bI (fun e=>oE e)));refine ο.out _ _ zX ?_;clear ο;simp only[Act.put];refine ξ 13 ?_;refine ξ 14 ?_;exact UY
 ·obtain rfl:D=4:=by rw[← w_.out.1,hd];rfl
  have H3:=H2;have HX:=δ hd;have xj:∀W,υ w2 W→ς 96 #[.agg row] W fun r W'=>yu W W' (NW (fun q=>M q∨X q) c W) (rotateR R) r:=fun W hW=>by
   have jd:=H3.out.2.2.2.2.then hW φ;have:=(iV.out.1 W _ jd (iV.out.2.2.2.2.1 W)).rotate;rw[mg.out.2.2.2.2.2.1] at this;exact this
  have oQ:=τ xj (fun W hW=>HH.out.1.rotate (HH.out.1.still HH.out.2.1 hW) HX.out:∀W,υ w W→ς 34 #[.pointer (some ⟨v,0,none⟩)] W fun r w'=>∃n M',r=ώ (ι n)∧dL W w' M M'∧Post w' M' n);clear xj hd;go_upto_region 18 with (first
   |(refine eA 95 c H3.out.1 underlying95 D6 ?_)
   |(go_at_call 96
     refine(oQ.out.1 _ (ζ.refl _ _)).mono ?_;rintro r w4 ⟨bW,cI,fT,jb,rfl,fL,au⟩;obtain⟨cF,hr2⟩:∃r,fO (rotateR R).1 bW cI fT=r:=⟨_,rfl⟩;obtain⟨E2,dQ⟩:∃e,(rotateR R).2=e:=⟨_,rfl⟩;rw[hr2,dQ];have oD:=δ (hr2 ▸ sX fL);have g_:=aF fL au hr2 dQ;clear fL au hr2 dQ)
   |(refine fG rfl 95 _ _ rfl w4.heap.size cF rfl rfl _ _ (η.new w4 _ _) BX oD.out.1 sA ?_
     intro w5 aK ay iQ))
  obtain⟨g,hg⟩:=μ w4.heap.size;rw[hg] at aK ay ⊢;have fC:c+3<g:=by have:=g_.out.2.1.size;have:=H3.out.2.2.2.1.lt;omega
  have gj:υ w2 w5:=(g_.out.2.1.alloc _).then ay (fun q e=>.inr (oF e g_.out.2.1.size));have yp:υ w4 w5:=((ζ.refl _ w4).alloc _).then ay (fun q e=>.inr (oE e));have wI:=(g_.out.1.more (N:=fun q=>(M q∨X q)∨q=c+2) (fun q hq=>hq.elim (fun e=>.inl (.inl e)) (fun e=>.inl (.inr ⟨oM,by have:=H3.out.2.2.2.1.lt;omega⟩)))).still yp;clear hg ay iQ yp;have uD:υ w w5:=H3.out.2.2.2.2.then gj φ;have hact:eH R x=rotateR R:=by
   unfold eH;rw[ν GD,ν GD,ν GD,π HX.out]
  have xl:∀w6 n M9 w7,dL w5.drew w6 M M9→Post w6 M9 n→ζ (· = c+2) w6 w7→Ga w w7 M X (eH R x) Post (ώ (.tuple #[.agg cF,ι n,ι E2])):=fun w6 n M9 w7 hS hP h7=>by
   exact O9
  have H5:=iw aK (H3.out.2.1.ε gj id) (H3.out.2.2.1.ε gj id) (H3.out.2.2.2.1.ε gj id) uD fC;have E8:=δ xl;clear aK fC gj uD xl hact wI;refine dW ?_;refine eo (S:=fun w'=>η w' g 95 cF∧η w' (c+1) 65 #[ϋ 4,ι x.b.index,ι x.b.θ,x.ov,ι x.m.role,ι x.m.seen,ι x.m.aH,x.mv,.string S,x.lv,ι x.at_,ι x.ep]) (T:=fun _=>false) kR ?_;have aE:=And.intro H5.out.1.drew H5.out.2.1.drew;refine iL 0 (.agg cF) (lN rfl ak _ _ rfl g ak _ _ _ (fun w' hSw=>hSw.1) underlying95 rfl sA) ?_
  refine ξ 1 ?_;refine ξ 3 ?_;refine bf 2 (fun KK ο=>?_);go_simp
  refine(oQ.out.2 _ H5.out.2.2.2.2.1.drew).mono ?_;rintro r w6 ⟨n6,M9,rfl,cW,xm⟩;have wS:=(H5.out.2.2.1.drew).ε cW.ε (fun e=>oN (qf.out _ e));have pZ:=(And.intro (H5.out.1.drew.ε cW.ε (fun e=>oO (qf.out _ e) H5.out.2.2.2.2.2)) (H5.out.2.1.drew.ε cW.ε (fun e=>oN (qf.out _ e))));have de:=fun w7 h7=>E8.out w6 n6 M9 w7 cW xm h7
  have yq:=δ de;refine ο.out _ _ pZ ?_;clear ο xm de;try simp only[av]
  refine bf 4 (fun KK ο=>?_);refine ud ak 95 _ _ ak (c+2) cF ak ak _ _ wS BX oD.out.1 sA ?_
  intro w7 dI bI jf;have zX:=(And.intro (pZ.1.ε bI (fun e=>oF e H5.out.2.2.2.2.2)) (pZ.2.ε bI (fun e=>oE e)));refine ο.out _ _ zX ?_;clear ο;simp only[Act.put];refine ξ 5 ?_;refine ξ 6 ?_;exact UY
 ·have LM:4<D:=by rw[← w_.out.1];have:=Yl.1 hd;exact_mod_cast this
  have hne:∀n:UInt8,n≤4→x.fR≠n:=fun n hn e=>by
   exact U1
  have hact:eH R x=(R,0):=by
   exact UZ
  have e0:(D == (0:Int))=false:=ru
  have e1:(D == (1:Int))=false:=ru
  have e2:(D == (2:Int))=false:=ru
  have e3:(D == (3:Int))=false:=ru
  have e4:(D == (4:Int))=false:=ru
  have CE:=τ hact hd;clear hact hd hne;go_wp2_with (first
   |(refine eA 95 c H2.out.1 underlying95 D6 ?_)
   |(refine fG rfl 95 _ _ rfl (c+2) row rfl rfl _ _ H2.out.2.2.1 (by rw[mg.out.1.2];rfl) mg.out.1.1 D6 ?_
     intro w7 dI bI jf))
  refine cJ (Mx rfl _ _ (c+2) _ _ _ _ rfl dI underlying95 rfl D6 _ _ rfl rfl) rfl ?_
  have nL:=iV.out.1 w2 (fun q=>(M q∨X q)∨q=c+2) H2.out.2.2.2.2 (fun q hq=>hq.imp id (fun e=>by omega));have de:=aaU (R2:=(R,0)) HH.out.1 HH.out.2.1 w_.out.2 nL H2.out.2.2.2.2 (dL.still (ζ.refl _ w2)) (HH.out.1.none_ (HH.out.1.still HH.out.2.1 H2.out.2.2.2.2) CE.out.2) bI H2.out.2.2.1.ty;rw[mg.out.2.2.2.2.2.1] at de;rw[CE.out.1];exact de
theorem afE {P:Prop} (h:P:=by unfold eH;rw[ν (by rw[hd];decide),ν (by rw[hd];decide),π hd]):P:=h
theorem acY {P:Prop} (h:P:=by unfold eH;rw[ν (by rw[hd];decide),ν (by rw[hd];decide),ν (by rw[hd];decide),π hd]):P:=h
section
variable {w0 w w':World} {p v:Nat} {d:Dk} {V:aQ} {o:cR} {R:bq} {κ c b:Nat} {M:Nat→Prop} {T:TypeId}
def F0 (T:TypeId):Prop:=T ∉ qs∧T≠132∧T≠32∧T≠46
theorem aT.nD (h:aT w p v d V o) (hu:ζ (· = b) w w') (ht:Ty w T b) (hT:F0 T):aT w' p v d V o:=by
 have hm:∀q,o.mut v q→¬q=b:=fun q hq e=>ht.Dm hT.1 (e ▸ h.oP hq)
 have hmb:o.mb≠b:=fun e=>by
  obtain⟨aA,e1,-⟩:=h.map.map;exact ht.jG (e ▸ e1.mp)
 refine⟨h.bH.ε hu (fun q hq e=>hm q (.inr (.inl hq)) e),h.blk.ε hu (hm _ (.inl rfl)),h.kept.ε hu (hm _ (.inr (.inr (.inl rfl)))),h.log.ε hu (hm _ (.inr (.inr (.inr (.inl rfl))))),h.recs.ε hu (fun q hq=>hm q (.inr (.inr (.inr (.inr (.inl hq)))))),h.sep,h.ring.move hu (fun q hq=>hm q (.inr (.inr (.inr (.inr (.inr (.inl hq))))))),h.yV,
  h.map.ε hu (fun e=>?_) hmb,h.qL,h.uY,h.rows.ε hu (fun q hq=>hm q (.inr (.inr (.inr (.inr (.inr (.inr hq))))))),h.rM,fun i b' ov h1 h2=>(h.each i b' ov h1 h2).ε hu (fun q hq e=>?_),h.eS.ε hu (fun q hq e=>?_)⟩
 ·have e2:o.m=b:=e
  exact hT.2.1 (ht.inj (e2 ▸ h.map.blk.ty))
 ·have e2:q=b:=e
  exact hT.2.2.1 (ht.inj (e2 ▸ hq))
 ·have e2:q=b:=e
  exact hT.2.2.2 (ht.inj (e2 ▸ hq))
theorem cE.nD (h:cE w0 w p v R κ c M) (hu:ζ (· = b) w w') (ht:Ty w T b) (hT:F0 T) (hb:w0.heap.size≤b):cE w0 w' p v R κ c M:=by
 obtain⟨d,V,o,S0,h,e⟩:=h;exact⟨d,V,o,S0,⟨h.at_.nD hu ht hT,h.g,h.low,h.ε.then hu (fun q e=>.inr (oE e))⟩,e⟩
theorem tX.nD (h:tX w0 w p v d V o M) (hu:ζ (· = b) w w') (ht:Ty w T b) (hT:F0 T) (hb:w0.heap.size≤b):tX w0 w' p v d V o M :=
 ⟨h.at_.nD hu ht hT,h.turns,h.low,h.ε.then hu (fun q e=>.inr (oE e))⟩
theorem dZ.nD (h:dZ w0 w p v R κ c M) (hu:ζ (· = b) w w') (ht:Ty w T b) (hT:F0 T) (hb:w0.heap.size≤b):dZ w0 w' p v R κ c M:=by
 obtain⟨d,V,o,S0,h1,h2⟩:=h;exact⟨d,V,o,S0,h1.nD hu ht hT hb,h2⟩
theorem kN.nD {a e:Int} {S:List ai} {Q:bq→Prop} (h:kN w0 w p v a e S Q c M) (hu:ζ (· = b) w w') (ht:Ty w T b) (hT:F0 T) (hb:w0.heap.size≤b):kN w0 w' p v a e S Q c M:=by
 obtain⟨d,V,o,h1,h2⟩:=h;exact⟨d,V,o,h1.nD hu ht hT hb,h2⟩
theorem vr:F0 95:=⟨dC,dC,dC,dC⟩
theorem cE.Js (hc:c<99000) {x:jM} (hx:x.In w0) (hf:x.ER) (h0:cE w0 w p v R κ c M):Bq w0 v R x M (fun w=>cE w0 w p v R κ c M) (fun w' M' n=>n=(eH R x).2∧cE w0 w' p v (eH R x).1 κ (c+3) M'):=by
 have ho:(gP x R.at_ R.θ).ops=x.b.ops:=by unfold gP;split<;>rfl
 have eV:(gP x R.at_ R.θ).θ≤9223372036854775807:=by
  have e1:=hx.AA.θ.2;have e2:=h0.Sh.P6;unfold gP;split
  ·exact e1
  ·show max _ _≤_
   omega
 refine⟨fun h hu=>h.still hu,fun h=>h.ε,fun h q hq=>h.lt hq,fun h q hq=>h.low hq,fun h hd=>?_,fun h hd=>?_,fun h hd=>?_,fun h hd=>?_,fun h hd=>?_,fun h hu ht hb=>⟨h.1,h.2.nD hu ht vr hb⟩⟩
 ·refine(h.RT hc (gP x R.at_ R.θ) (ov:=x.ov) (by rw[ho];exact hx.AA.ops) (by rw[ho];exact hf.ops) eV).mono ?_
  rintro r w' ⟨rfl,M',h6,h7⟩;have e:eH R x=iZ R (gP x R.at_ R.θ):=by unfold eH;rw[π hd]
  exact⟨_,M',rfl,h7,by rw[e],by rw[e];exact h6⟩
 ·refine(h.S6 hc hx.met hf.met).mono ?_
  rintro r w' ⟨rfl,M',h6,h7⟩;have e:eH R x=kE R x.m:=by unfold eH;rw[ν UX,π hd]
  exact⟨_,M',rfl,h7,by rw[e],by rw[e];exact h6⟩
 ·refine(h.Rv hc hx.met hf.met hx.kL hf.kL x.at_ x.ep hx.ep.2).mono ?_
  rintro r w' ⟨rfl,M',h6,h7⟩;have e:eH R x=iD R x.m x.l x.at_ x.ep:=afE
  exact⟨_,M',rfl,h7,by rw[e],by rw[e];exact h6⟩
 ·refine(h.rotate hc).mono ?_
  rintro r w' ⟨rfl,M',h6,h7⟩;have e:eH R x=rotateR R:=acY
  exact⟨_,M',rfl,h7,by rw[e],by rw[e];exact h6⟩
 ·have hne:∀n:UInt8,n≤4→x.fR≠n:=fun n hn e=>by
   exact U1
  have e:eH R x=(R,0):=by
   exact UZ
  rw[e];exact⟨rfl,h.mono oM⟩
end
end
end Go.Proofs.YtbhjgfibhegddaaGreat
