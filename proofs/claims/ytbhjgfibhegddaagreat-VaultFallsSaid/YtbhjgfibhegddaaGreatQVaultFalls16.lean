/-
  Parts of the proof of VaultFalls: VatB, VatC, VatD, VatE, VatF, VatG, VatH.
-/
import Derived.Test.YtbhjgfibhegddaaGreatQVaultFalls15
import Derived.Shelf.Strings.BuilderK
set_option maxRecDepth 100000
set_option maxHeartbeats 16000000
namespace Go.Proofs.YtbhjgfibhegddaaGreat
abbrev Yg:=@Go.Lib.cell_of_heap
open Tryz
section
open Go Go.RowKit
theorem aaK (slot i:Nat) (h1:1≤slot) (h2:slot≤1000) (h3:i≤1000) (w:World):ς 158 #[ι (slot:Int),ι (i:Int)] w fun e w'=>e=ώ (ι ((dN slot+i:Nat):Int))∧w=w':=by
 have e0:((dN slot+i:Nat):Int)=340+((slot:Int) - 1)*80+(i:Int):=yj
 rw[e0];have k1:(1:Int)≤(slot:Int):=oM;have k2:(slot:Int)≤1000:=oM;have k3:(i:Int)≤1000:=oM;clear e0;go_enter func158,ntmps158
 go_wp2_with fail
 go_ret
 exact⟨rfl,rfl⟩
theorem FF {F:Nat→Prop} {w0 W:World} {o:Nat} {acc:List UInt8} (n:Nat) (h1:n<18446744073709551616) (h2:acc.length≤10000) (h:eF F w0 W o acc):ς 98 #[.pointer (some ⟨o,0,none⟩),ω (n:Int)] W fun e w'=>e=ώ (.tuple #[])∧eF F w0 w' o (acc++aR n):=FP h n h1 oM
theorem ah1 {l:List ai} {k:Nat} (hk:k<l.length):(l.take (k+1)).flatMap lu=(l.take k).flatMap lu++lu l[k]:=by
 rw[ia hk,xq];simp
theorem Ue {P:Prop} (h:P:=by
 clear h14 c0 c1;go_wp2_with fail
 go_roundw
 case rel=>exact⟨k+1,oM,by go_num,by rw[HX.out.1];exact lD.out⟩
 case measure=>simp[intOf]<;>omega):P:=h
theorem alY {w:World} {A:Option Addr} {cap b off:Nat} {l:List ai} (hA:0<l.length→A=some ⟨b,off,none⟩) (hb:∀w',υ w w'→Sz w' b off l) (hs:∀p ∈ l,p.1.length≤33∧p.2.length≤32) (hl:l.length≤48) :
 ς 102 #[.slice A l.length cap] w fun e w'=>e=ώ (.string (str (gL l)))∧υ w w':=by
 have s1:=dA (n:=l.length) oM;have htl:∀k,((l.take k).flatMap lu).length≤3400:=fun k=>by
  have:=Rx (l:=l.take k) (a:=33) (b:=32) oM oM (fun p hp=>hs p (Iw hp));rw[iW] at this;have h2:(33+32+4)*min k l.length≤69*48:=QV _ oM;omega
 have de:gL l=aR l.length++(l.take l.length).flatMap lu:=by rw[sW];rfl
 have HF:=δ de;have HB:=δ hb;have HS:=τ hs htl;have HN1:=δ s1;have l1:(l.length:Int)≤48:=oM;clear hb hs de s1 htl;obtain⟨o,ho⟩:=μ w.heap.size;go_enter func102,ntmps102
 go_upto_region 2 with (fail)
 generalize wg:World.alloc _ _=w7;have Ad:eF (fun _=>False) w w7 o []:=by rw[← wg,← ho];exact eF.start w
 have KH:=δ Ad;clear Ad wg ho;go_wp2_with fail
 refine(FF l.length oM sM KH.out).mono ?_;rintro e w8 ⟨rfl,h8⟩;rw[oR] at h8;have H8:=δ h8;clear h8;go_wp2_with fail
 go_loopw [5,15] (fun _ u wr=>∃k:Nat,k≤l.length∧u=ι (k:Int)∧eF (fun _=>False) w wr o (aR l.length++(l.take k).flatMap lu)) (fun _ u _=>l.length - (intOf u).toNat)
 case atStart=>exact⟨0,oM,rfl,by simpa using H8.out⟩
 case round =>
  obtain⟨k,hk,rfl,hO⟩:=hrel;have l5:(aR l.length++(l.take k).flatMap lu).length≤3500:=by
   rw[aN,iY];have:=HS.out.2 k;have:=HN1.out;omega
  obtain⟨M,hM⟩:=μ (aR l.length++(l.take k).flatMap lu);rw[hM] at hO l5;by_cases hlt:k<l.length
  ·obtain rfl:=hA oM
   have hrow:=HB.out wr hO.ε k hlt;have gS:=HS.out.1 _ (eE hlt);have cy:aR l.length++(l.take (k+1)).flatMap lu=M++lu l[k]:=by rw[ah1 hlt,← eC,hM]
   obtain⟨p,hp⟩:=μ (l[k]);rw[hp] at hrow gS cy;obtain⟨P,hP⟩:=μ (str p.1);obtain⟨V,hV⟩:∃P,str p.2=P:=⟨_,rfl⟩;have lX:P.data.toList=p.1:=DC
   have kV:V.data.toList=p.2:=by rw[← hV,cA]
   have jc:P.size=p.1.length:=by rw[← hP,bR]
   have sC:V.size=p.2.length:=JU
   have hrw:bC p=[.string P,.string V]:=by unfold bC;rw[hP,hV]
   rw[hrw] at hrow;have hpb:lu p=bJ P.data.toList++bJ V.data.toList:=by unfold lu;rw[lX,kV]
   rw[hpb,← eC] at cy;have tP:(bJ P.data.toList).length≤40:=by
    rw[jl,lX];have:=lP (n:=p.1.length) oM;omega
   have HX:=iw cy l5 jc sC gS tP;have HR:=δ hrow;have lW:=δ hO;have j1:(k:Int)<(l.length:Int):=oM;obtain⟨g,hg⟩:∃q,wr.heap.size=q:=⟨_,rfl⟩;have HQ:=δ hg;clear hrow gS cy hp hP hV lX kV jc sC hrw hpb hO hM l5 tP;go_upto_region 6 with (first
    |(refine ve rfl _ _ rfl b (off+k*2) rfl [.string P,.string V] _ HR.out underlying55 rfl kR ?_))
   generalize zD:World.alloc _ _=w11;have gA:η w11 g 55 #[.string P,.string V]:=Oj
   have h11:eF (fun _=>False) w w11 o M:=Ol
   obtain⟨c0,c1⟩:=gA.vA;have ez:=τ h11 gA;clear h11 gA zD hg;obtain⟨G,g1,g2,g3⟩:=ez.out.1.here;have HG:=aq g1 g2 (g3 g _ _ ez.out.2 dC dC);clear g1 g2 g3;go_wp2_with fail
   refine(xH HG.out.1 P (oO HX.out.2.2.1 HX.out.2.2.2.2.1) (oN HX.out.2.1)).mono ?_;rintro e w13 ⟨rfl,h13⟩;obtain⟨c0,c1⟩:=(ez.out.2.ε h13.ε HG.out.2.2).vA;have dR:=δ h13;clear h13;go_wp2_with fail
   refine(xH dR.out V (oO HX.out.2.2.2.1 HX.out.2.2.2.2.1) (by rw[aN];have:=HX.out.2.1;have:=HX.out.2.2.2.2.2;omega)).mono ?_;rintro e w14 ⟨rfl,h14⟩;have lD:=δ (ez.out.1.back HG.out.2.1 h14);exact Ue
  ·obtain rfl:k=l.length:=oM
   rw[← HF.out] at hM;subst hM;have hst:=I1 hO;have gl:=δ hst;have HU:=δ hO.ε;clear hst hO hlt hk l5;go_wp2_with fail
   refine gl.out.mono ?_;rintro e wz ⟨rfl,rfl⟩;go_wp2_with fail
   go_ret
   exact⟨rfl,HU.out⟩
def gN (s:dw) (mv:Value):Array Value:=#[ι s.m.role,ι s.m.seen,ι s.m.aH,mv,.string (str s.m.aW),ι s.at_,ι s.θ,ι (s.slot:Int),ω (s.log:Int),ι (s.key:Int),.int .u32 (s.κ:Int)]
structure mz (s:dw):Prop where
 right:dF s.m=true
 place:om s.at_ s.θ
 slot:s.slot≤2
 log:s.log≤1000000
 key:s.key≤1000000
 κ:s.κ≤1000000
 mn:s.m.seen≤9223372036854775807∧s.m.aH≤9223372036854775807
structure am3 (m:MetaM):Prop where
 acz:0≤m.role
 acA:m.role≤3
 seen:0≤m.seen
 aH:0≤m.aH
 eS:m.aZ.length≤4
 each:∀x ∈ m.aZ,1≤x.name.length∧x.name.length≤8
 sec:m.aW.length≤64
theorem aji {l a:List iC} (h:nI a l=true):∀m ∈ l,oq m.name=true:=by
 induction l generalizing a with
 | nil=>simp
 | cons x r ih =>
   unfold nI at h;simp only[gV] at h;intro m hm;rcases cC.1 hm with rfl | hm
   ·exact h.1.1
   ·exact ih h.2 m hm
theorem zg {m:MetaM} (h:dF m=true):am3 m:=by
 unfold dF at h;simp only[gV,IA,eD] at h;obtain⟨hm,h5,h6,h7,h8,h9⟩:=h;refine⟨h5,h6,h7,h8,?_,?_,h9⟩
 ·rcases hm with e | e
  ·rw[e];simp
  ·unfold qq at e
   simp only[gV,eD] at e;exact e.2.2
 ·rcases hm with e | e
  ·rw[e];simp
  ·unfold qq at e
   simp only[gV,eD] at e;intro x hx;have:=aji e.1 x hx;unfold oq at this;simp only[gV,eD] at this;exact this.1
theorem akR {l:List iC} {k:Nat} (hk:k<l.length):(l.take (k+1)).flatMap kK=(l.take k).flatMap kK++kK l[k]:=by
 rw[ia hk,xq];simp
theorem alZ {x:iC} (h:x.name.length≤8):(kK x).length≤11:=by
 have:=lP (n:=x.name.length) oM;unfold kK;rw[aN,jl];simp only[eZ,AV];omega
theorem aaL {l:List iC} (h:∀x ∈ l,x.name.length≤8):(l.flatMap kK).length≤11*l.length:=by
 induction l with
 | nil=>simp
 | cons x r ih =>
   have h1:=ih fun m hm=>h m (by simp[hm])
   have h2:=alZ (h x sM);rw[yZ,aN,eZ];omega
def FX (s:dw):List Nat:=[s.m.role.toNat,s.m.seen.toNat,s.m.aH.toNat,s.at_.toNat,s.θ.toNat,s.slot,s.key]
theorem ZR (s:dw) (t:List UInt8):cG s t=aR 1++(FX s).flatMap aR++aR s.log++aR s.κ++aR s.m.aZ.length++s.m.aZ.flatMap kK++bJ t:=by
 unfold cG FX;simp[List.append_assoc]
theorem am4 (a b c d e f g:Int):prog.built 295 [(0,ι a),(1,ι b),(2,ι c),(3,ι d),(4,ι e),(5,ι f),(6,ι g)]=some #[ι a,ι b,ι c,ι d,ι e,ι f,ι g]:=kR
theorem al0 {w:World} {A:Option Addr} {cap b off:Nat} (s:dw) (hs:mz s) (hA:0<s.m.aZ.length→A=some ⟨b,off,none⟩) (hb:∀w',υ w w'→xY w' b off s.m.aZ) (t:ByteArray) (ht:t.size≤200) :
 ς 128 #[.agg (gN s (.slice A s.m.aZ.length cap)),.string t] w fun e w'=>e=ώ (.string (str (cG s t.data.toList)))∧υ w w':=by
 have hm:=zg hs.right;have hp:=hs.place;obtain⟨n0,hn0⟩:∃n:Nat,s.m.role=n:=⟨s.m.role.toNat,by have:=hm.acz;omega⟩;obtain⟨n1,nT⟩:∃n:Nat,s.m.seen=n:=⟨s.m.seen.toNat,by have:=hm.seen;omega⟩;obtain⟨n2,hn2⟩:∃n:Nat,s.m.aH=n:=⟨s.m.aH.toNat,by have:=hm.aH;omega⟩;obtain⟨n3,yT⟩:∃n:Nat,s.at_=n:=⟨s.at_.toNat,by have:=hp.V7;omega⟩;obtain⟨n4,qB⟩:∃n:Nat,s.θ=n:=⟨s.θ.toNat,by have:=hp.ep0;omega⟩;have b0:n0≤3:=by have:=hm.acA;omega
 have b1:n1≤9223372036854775807:=by have:=hs.mn.1;omega
 have b2:n2≤9223372036854775807:=by have:=hs.mn.2;omega
 have b3:n3≤9223372036854775807:=by have:=hp.V8;omega
 have b4:n4≤9223372036854775807:=by have:=hp.P6;omega
 have b5:=hs.slot;have b6:=hs.key;have b7:=hs.log;have b8:=hs.κ;have hsplit:=ZR s t.data.toList;have JI:FX s=[n0,n1,n2,n3,n4,s.slot,s.key]:=by unfold FX;rw[hn0,nT,hn2,yT,qB];rfl
 rw[JI] at hsplit;obtain⟨T,hT⟩:=μ (cG s t.data.toList);rw[hT] at hsplit ⊢;obtain⟨SE,hSE⟩:∃S,str s.m.aW=S:=⟨_,rfl⟩;have hrow:gN s (.slice A s.m.aZ.length cap)=#[ι (n0:Int),ι (n1:Int),ι (n2:Int),.slice A s.m.aZ.length cap,.string SE,ι (n3:Int),ι (n4:Int),ι (s.slot:Int),ω (s.log:Int),ι (s.key:Int),.int .u32 (s.κ:Int)]:=by unfold gN;rw[hn0,nT,hn2,yT,qB,hSE]
 rw[hrow];have Wk:=hm.eS;have hme:=hm.each;obtain⟨n5,uU⟩:∃n,s.slot=n:=⟨_,rfl⟩;obtain⟨n6,EJ⟩:∃n,s.key=n:=⟨_,rfl⟩;obtain⟨n7,EK⟩:∃n,s.log=n:=⟨_,rfl⟩;obtain⟨n8,B_⟩:∃n,s.κ=n:=⟨_,rfl⟩;obtain⟨L,hL⟩:=μ s.m.aZ;rw[uU] at b5 hsplit;rw[EJ] at b6 hsplit;rw[EK] at b7 hsplit;rw[B_] at b8 hsplit;rw[hL] at Wk hme hA hb hsplit;rw[uU,EJ,EK,B_,hL];have HS:=δ hsplit;have HB:=δ hb;have HM:=δ hme;have HT:=δ ht;clear hm hp hs hn0 nT hn2 yT qB JI hT hSE hrow uU EJ EK B_ hL hsplit hb hme ht;obtain⟨q,hq⟩:=μ w.heap.size;go_enter func128,ntmps128
 go_upto_region 1 with fail
 generalize fk:World.alloc _ _=w5;have aK:η w5 q 115 #[ι (n0:Int),ι (n1:Int),ι (n2:Int),.slice A L.length cap,.string SE,ι (n3:Int),ι (n4:Int),ι (n5:Int),ω (n7:Int),ι (n6:Int),.int .u32 (n8:Int)]:=Gc
 have ay:υ w w5:=DA
 have H5:=τ aK ay;clear aK ay fk hq;obtain⟨o,ho⟩:=μ w5.heap.size;go_upto_region 2 with fail
 generalize wg:World.alloc _ _=w7;have Ad:eF (fun _=>False) w5 w7 o []:=by rw[← wg,← ho];exact eF.start w5
 have KH:=δ Ad;clear Ad wg ho;have HC:∀W,υ w5 W→W.cell? ⟨q,0,none⟩=some (ι (n0:Int))∧W.cell? ⟨q,1,none⟩=some (ι (n1:Int))∧W.cell? ⟨q,2,none⟩=some (ι (n2:Int))∧W.cell? ⟨q,3,none⟩=some (.slice A L.length cap)∧W.cell? ⟨q,5,none⟩=some (ι (n3:Int))∧W.cell? ⟨q,6,none⟩=some (ι (n4:Int))∧W.cell? ⟨q,7,none⟩=some (ι (n5:Int))∧W.cell? ⟨q,8,none⟩=some (ω (n7:Int))∧W.cell? ⟨q,9,none⟩=some (ι (n6:Int))∧W.cell? ⟨q,10,none⟩=some (.int .u32 (n8:Int)):=fun W hW=>by
  have h:=H5.out.1.ε hW id;exact⟨h.cell 0,h.cell 1,h.cell 2,h.cell 3,h.cell 5,h.cell 6,h.cell 7,h.cell 8,h.cell 9,h.cell 10⟩
 have HC:=δ HC;go_wp2_with fail
 refine(FF 1 oM sM KH.out).mono ?_;rintro e w8 ⟨rfl,h8⟩;rw[oR] at h8;obtain⟨c0,c1,c2,c3,c5,c6,c7,c8,c9,c10⟩:=HC.out _ h8.ε;have H8:=δ h8;clear h8;go_wp2_with (first
  |(refine qQ rfl _ _ rfl [(0,ι (n0:Int)),(1,ι (n1:Int)),(2,ι (n2:Int)),(3,ι (n3:Int)),(4,ι (n4:Int)),(5,ι (n5:Int)),(6,ι (n6:Int))] _ zR (am4 _ _ _ _ _ _ _) ?_))
 obtain⟨DQ,N4⟩:∃a,aR 1=a:=⟨_,rfl⟩;have hl0:DQ.length≤10:=by rw[← N4,iY];exact dA (n:=1) oM
 rw[N4] at H8;have Hl:=τ N4 hl0;clear N4 hl0;go_loopw [7,33] (fun _ u wr=>∃k:Nat,k≤7∧u=ι (k:Int)∧(DQ++([n0,n1,n2,n3,n4,n5,n6].take k).flatMap aR).length≤10+10*k∧eF (fun _=>False) w5 wr o (DQ++([n0,n1,n2,n3,n4,n5,n6].take k).flatMap aR)) (fun _ u _=>7 - (intOf u).toNat)
 case atStart=>exact⟨0,oM,rfl,by simpa using Hl.out.2,by simpa using H8.out⟩
 case round =>
  obtain⟨k,hk,rfl,fW,hO⟩:=hrel;have G6:k<7∨k=7:=oM;rcases G6 with h7 | rfl
  ·obtain⟨nk,cy,hnk,Ek⟩:∃nk,DQ++([n0,n1,n2,n3,n4,n5,n6].take (k+1)).flatMap aR=(DQ++([n0,n1,n2,n3,n4,n5,n6].take k).flatMap aR)++aR nk∧nk≤9223372036854775807∧∀W,(Instr.index 295 (.agg #[ι (n0:Int),ι (n1:Int),ι (n2:Int),ι (n3:Int),ι (n4:Int),ι (n5:Int),ι (n6:Int)]) (ι (k:Int))).run prog W=.ok (ι (nk:Int)) W:=by
    refine⟨[n0,n1,n2,n3,n4,n5,n6].getD k 0,?_⟩;rcases (show k=0∨k=1∨k=2∨k=3∨k=4∨k=5∨k=6 by omega) with rfl | rfl | rfl | rfl | rfl | rfl | rfl
    all_goals exact⟨by simp[List.append_assoc],by simp<;>omega,fun W=>by first| rfl | kernel_rfl⟩
   obtain⟨acc,hacc⟩:∃a,DQ++([n0,n1,n2,n3,n4,n5,n6].take k).flatMap aR=a:=⟨_,rfl⟩;rw[hacc] at fW hO cy;have hz:=dA (n:=nk) oM;have HN:=aq cy fW hz;have HO:=δ hO;have j1:(k:Int)<7:=oM;clear cy hacc fW hO hz hk;go_wp2_with fail
   refine(FF nk oM (oN HN.out.2.1) HO.out).mono ?_;rintro e w9 ⟨rfl,h9⟩;rw[← HN.out.1] at h9;have H9:=δ h9;clear h9;go_wp2_with fail
   go_roundw
   case rel =>
    refine⟨k+1,oM,by go_num,?_,H9.out⟩;rw[HN.out.1,aN,iY];have:=HN.out.2;omega
   case measure=>simp[intOf]<;>omega
  ·have hfull:([n0,n1,n2,n3,n4,n5,n6]:List Nat).take 7=[n0,n1,n2,n3,n4,n5,n6]:=rfl
   rw[hfull] at fW hO;obtain⟨acc,hacc⟩:∃a,DQ++([n0,n1,n2,n3,n4,n5,n6]:List Nat).flatMap aR=a:=⟨_,rfl⟩;rw[hacc] at fW hO;have mC:=HS.out;rw[Hl.out.1,hacc] at mC;have CE:=τ mC fW;obtain⟨c0,c1,c2,c3,c5,c6,c7,c8,c9,c10⟩:=HC.out _ hO.ε;have HO:=δ hO;clear mC fW hO hacc hfull hk;go_wp2_with fail
   refine(FF n7 oM (oN CE.out.2) HO.out).mono ?_;rintro e w9 ⟨rfl,h9⟩;obtain⟨c0,c1,c2,c3,c5,c6,c7,c8,c9,c10⟩:=HC.out _ h9.ε;have H9:=δ h9;clear h9;go_wp2_with fail
   refine(FF n8 oM (by have:=CE.out.2;rw[aN,iY];have:=dA (n:=n7) oM;omega) H9.out).mono ?_;rintro e w10 ⟨rfl,h10⟩;obtain⟨c0,c1,c2,c3,c5,c6,c7,c8,c9,c10⟩:=HC.out _ h10.ε;have gT:=δ h10;clear h10;go_wp2_with fail
   refine(FF L.length oM (by have:=CE.out.2;rw[aN,aN,iY,iY];have:=dA (n:=n7) oM;have:=dA (n:=n8) oM;omega) gT.out).mono ?_;rintro e w11 ⟨rfl,h11⟩;obtain⟨c0,c1,c2,c3,c5,c6,c7,c8,c9,c10⟩:=HC.out _ h11.ε;obtain⟨N,hN⟩:∃a,acc++aR n7++aR n8++aR L.length=a:=⟨_,rfl⟩;rw[hN] at h11;have p8:N.length≤200:=by
    rw[← hN];simp only[aN,iY];have:=CE.out.2;have:=dA (n:=n7) oM;have:=dA (n:=n8) oM;have:=dA (n:=L.length) oM;omega
   have m_:=CE.out.1;rw[hN] at m_;have ez:=δ h11;have HN:=τ m_ p8;clear h11 hN p8 m_;go_wp2_with fail
   have l4:(L.length:Int)≤4:=oM;have hml:∀k,((L.take k).flatMap kK).length≤44:=fun k=>by
    have:=aaL (l:=L.take k) (fun x hx=>(HM.out x (Iw hx)).2);rw[iW] at this;have h2:11*min k L.length≤11*4:=QV _ oM;omega
   have HML:=δ hml;clear hml c0 c1 c2 c3 c5 c6 c7 c8 c9 c10;go_loopw [9,10,61] (fun _ _ u wr=>∃k:Nat,k≤L.length∧u=ι (k:Int)∧eF (fun _=>False) w5 wr o (N++(L.take k).flatMap kK)) (fun _ _ u _=>L.length - (intOf u).toNat)
   case atStart=>exact⟨0,oM,rfl,by simpa using ez.out⟩
   case round =>
    obtain⟨k,hk,rfl,hO⟩:=hrel;have l5:(N++(L.take k).flatMap kK).length≤300:=by
     rw[aN];have:=HML.out k;have:=HN.out.2;omega
    obtain⟨M,hM⟩:=μ (N++(L.take k).flatMap kK);rw[hM] at hO l5;by_cases hlt:k<L.length
    ·obtain rfl:=hA oM
     have hrow:=HB.out wr (H5.out.2.then hO.ε φ) k hlt;have gS:=HM.out _ (eE hlt);have cy:N++(L.take (k+1)).flatMap kK=M++kK L[k]:=by rw[akR hlt,← eC,hM]
     obtain⟨p,hp⟩:=μ (L[k]);rw[hp] at hrow gS cy;obtain⟨nm,sh⟩:=p;obtain⟨P,hP⟩:=μ (str nm);have lX:P.data.toList=nm:=DC
     have jc:P.size≤8:=by rw[← hP,bR];exact gS.2
     have hrw:cB ⟨nm,sh⟩=[.string P,.bool sh]:=by unfold cB;rw[hP]
     rw[hrw] at hrow;have hpb:kK ⟨nm,sh⟩=bJ P.data.toList++[if sh then 1 else 0]:=by unfold kK;rw[lX]
     rw[hpb,← eC] at cy;have tP:(bJ P.data.toList).length≤11:=by
      rw[jl,lX];have:=lP (n:=nm.length) (by have:=gS.2;simp only at this;omega);have:=gS.2;simp only at this
      omega
     have HX:=aF cy l5 jc tP;have HR:=δ hrow;have lW:=δ hO;have j1:(k:Int)<(L.length:Int):=oM;obtain⟨g,hg⟩:∃q,wr.heap.size=q:=⟨_,rfl⟩;have HQ:=δ hg;clear hrow gS cy hp hP lX jc hrw hpb hO hM l5 tP;go_upto_region 14 with (first
      |(refine ve rfl _ _ rfl b (off+k*2) rfl [.string P,.bool sh] _ HR.out underlying46 rfl kR ?_))
     generalize zD:World.alloc _ _=w12;have gA:η w12 g 46 #[.string P,.bool sh]:=Oj
     have h12:eF (fun _=>False) w5 w12 o M:=Ol
     obtain⟨c0,c1⟩:=gA.vA;have dU:=τ h12 gA;clear h12 gA zD hg;obtain⟨G,g1,g2,g3⟩:=dU.out.1.here;have HG:=aq g1 g2 (g3 g _ _ dU.out.2 dC dC);clear g1 g2 g3;go_wp2_with fail
     refine(xH HG.out.1 P (oN HX.out.2.2.1) (oN HX.out.2.1)).mono ?_;rintro e w13 ⟨rfl,h13⟩;obtain⟨c0,c1⟩:=(dU.out.2.ε h13.ε HG.out.2.2).vA;have dR:=δ h13;have ef:(M++bJ P.data.toList).length≤800000:=by rw[aN];have:=HX.out.2.1;have:=HX.out.2.2.2;omega
     have sD:=δ ef;clear h13 ef;cases sh
     ·go_wp2_with fail
      refine(Nq dR.out 0 sD.out).mono ?_;rintro e w14 ⟨rfl,h14⟩;have lD:=δ (dU.out.1.back HG.out.2.1 h14);exact Ue
     ·go_wp2_with fail
      refine(Nq dR.out 1 sD.out).mono ?_;rintro e w14 ⟨rfl,h14⟩;have lD:=δ (dU.out.1.back HG.out.2.1 h14);exact Ue
    ·obtain rfl:k=L.length:=oM
     rw[sW] at hM;have Hp:=HN.out.1;rw[hM] at Hp;have HX:=τ Hp l5;have HO:=δ hO;clear hO hM l5 Hp hlt hk;go_wp2_with fail
     refine(xH HO.out t (oN HT.out) (oN HX.out.2)).mono ?_;rintro e w13 ⟨rfl,h13⟩;rw[← HX.out.1] at h13;have hst:=I1 h13;have gl:=δ hst;have HU:=δ (H5.out.2.then h13.ε φ);clear h13 hst;go_wp2_with fail
     refine gl.out.mono ?_;rintro e wz ⟨rfl,rfl⟩;go_wp2_with fail
     go_ret
     exact⟨rfl,HU.out⟩
def BP (l:List iC):List Value:=l.flatMap cB
theorem ajj (l:List iC) (p:iC):BP (l++[p])=BP l++cB p:=by unfold BP;rw[xq];simp
theorem RQ:(prog.info? 46).map (fun i=>(i.zero,i.size,i.bytes))=some (some (.agg #[.string ByteArray.empty,.bool false]),2,24):=kR
def rowAt (n0 n1 n2 n3 n4 n5 n6:Nat) (k:Nat):Array Value:=#[ι (if 0<k then (n0:Int) else 0),ι (if 1<k then (n1:Int) else 0),ι (if 2<k then (n2:Int) else 0),.slice none 0 0,.string ⟨#[]⟩,ι (if 3<k then (n3:Int) else 0),ι (if 4<k then (n4:Int) else 0),ι (if 5<k then (n5:Int) else 0),ω 0,ι (if 6<k then (n6:Int) else 0),.int .u32 0]
theorem N5 {F:Nat→Prop} {w0 W:World} {y:Nat} (m:Nat) {z:Int} (hz:z=(m:Int)) (n:Nat) (r:List UInt8) (k:Nat) (hn:n≤m) (hm:m≤9223372036854775807) (hk:k≤10000) (h:ct F w0 W y ⟨aR n++r,k,0⟩):ς 176 #[.pointer (some ⟨y,0,none⟩),ι z] W fun e w'=>e=ώ (ι (n:Int))∧ct F w0 w' y ⟨r,k+bD n,0⟩:=by
 subst hz;have:=FQ h m hm (by show k≤_;omega);rw[Fw n m k oM hn r] at this;exact this
theorem aeq {F:Nat→Prop} {w0 W:World} {y:Nat} (n:Nat) (r:List UInt8) (k:Nat) (hn:n<18446744073709551616) (hk:k≤10000) (h:ct F w0 W y ⟨aR n++r,k,0⟩):ς 175 #[.pointer (some ⟨y,0,none⟩)] W fun e w'=>e=ώ (ω (n:Int))∧ct F w0 w' y ⟨r,k+bD n,0⟩:=by
 have:=aby h (by show k≤_;omega);rw[aah n k hn r] at this;exact this
theorem texts {F:Nat→Prop} {w0 W:World} {y:Nat} (m:Nat) {z:Int} (hz:z=(m:Int)) (t r:List UInt8) (k:Nat) (ht:t.length≤m) (hm:m≤9223372036854775807) (hk:k≤10000) (hl:t.length+r.length≤90000) (h:ct F w0 W y ⟨bJ t++r,k,0⟩):ς 177 #[.pointer (some ⟨y,0,none⟩),ι z] W fun e w'=>e=ώ (.string (str t))∧ct F w0 w' y ⟨r,k+(bJ t).length,0⟩:=by
 subst hz;have hsz:=dA (n:=t.length) oM;have:=Jj h m hm (by show k≤_;omega) (by show (bJ t++r).length≤_;rw[aN,jl];omega);rw[I9 t m k ht oM r] at this;exact this
theorem aoo {F:Nat→Prop} {w0 W:World} {y:Nat} (b:UInt8) (r:List UInt8) (k:Nat) (hk:k≤10000) (h:ct F w0 W y ⟨b::r,k,0⟩):ς 178 #[.pointer (some ⟨y,0,none⟩)] W fun e w'=>e=ώ (ϋ (b.toNat:Int))∧ct F w0 w' y ⟨r,k+1,0⟩:=by
 have:=Nr h (by show k≤_;omega);rw[MP] at this;exact this
theorem ah2 (c:Nat):prog.built 284 [(0,.pointer (some ⟨c,0,none⟩)),(1,.pointer (some ⟨c,1,none⟩)),(2,.pointer (some ⟨c,2,none⟩)),(3,.pointer (some ⟨c,5,none⟩)),(4,.pointer (some ⟨c,6,none⟩)),(5,.pointer (some ⟨c,7,none⟩)),(6,.pointer (some ⟨c,9,none⟩))]=some #[.pointer (some ⟨c,0,none⟩),.pointer (some ⟨c,1,none⟩),.pointer (some ⟨c,2,none⟩),.pointer (some ⟨c,5,none⟩),.pointer (some ⟨c,6,none⟩),.pointer (some ⟨c,7,none⟩),.pointer (some ⟨c,9,none⟩)]:=kR
theorem Mx {P:Program} {fn:Func} {p q q2:Tmp} {ty:TypeId} (h:fn.results=#[.cell p ty,.tmp q,.tmp q2]) (tmps:Array Value) (w:World) (g:Nat) (t:TypeId) (cs:Array Value) (fr:Nat × Nat) (d:TypeDesc)
 (hp:tmps.getD p undef=.pointer (some ⟨g,0,none⟩)) (hg:w.heap[g]? = some (.cells cs t fr))
 (hu:P.underlying ty=some d) (hd:(match d with | .struct _ | .array _ _=>true | _=>false)=true) (hi:(P.info? ty).map (·.size)=some cs.size) (v v2:Value) (hv:tmps.getD q undef=v) (Qb:tmps.getD q2 undef=v2) :
 (results fn tmps).run P w=.ok (.tuple #[.agg cs,v,v2]) w:=by
 subst hv Qb;exact adU
theorem zz8 {P:Prop} (h:P:=by
 generalize Uf:World.setCell _ _ _=w19;have anE:w13.heap.size≤w17.heap.size:=tV.out.2.2.1.ε.size;have Ug:=DR.bE 3 (.slice (some ⟨g2,0,none⟩) (k+1) fJ);rw[Uf] at Ug;have Uh:ζ (· = c) w18 w19:=by rw[← Uf];exact(ζ.refl (· = c) w18).setCell (p:=⟨c,3,none⟩) (.inl rfl) _
 have tS:w13.heap.size≤g2:=by
  rcases Gs with e | e
  ·exact HK.out.2.1 g2 (by rw[← e];rfl)
  ·have e2:some g2=some _:=e
   have:=dM e2;rw[dx] at this;omega
 have aer:=BQ.ε Uh (fun q hq e=>by have e2:some g2=some q:=hq;have:=dM e2;have e3:q=c:=e;have:=EL.out.2;omega);have abT:ζ (fun q=>(Value.slice A k cap).ownBlock=some q∨q=c) w17 w19:=(((ζ.refl _ w17).alloc _).then vP (fun q e=>.inl (.inl e))).then Uh (fun q e=>.inl (.inr e));have aes:ct (fun q=>q=y∨q=c) w13 w19 y ⟨rest++bJ t,r6+1,0⟩:=by
  refine tV.out.2.2.1.b9 abT (fun e=>?_) (fun q e=>?_)
  ·rcases e with e | e
   ·have:=HK.out.2.1 y e;have:=EL.out.1;omega
   ·exact H5.out.2.2.1.2 e.symm
  ·rcases e with e | e
   ·exact .inr (HK.out.2.1 q e)
   ·exact .inl (.inr e)
 have Qc:=aF Ug aer aes tS;clear Uf Ug Uh aer aes tS anE abT BQ vP Gs OM DR e2 G4 d2 c0 c1 bx bU bK aY;go_wp2_with fail
 go_roundw
 case rel =>
  refine⟨k+1,r6+1,_,oM,?_,?_,?_,Qc.out.1,?_,fun q hq=>by have e2:some g2=some q:=hq;have:=dM e2;have:=Qc.out.2.2.2;omega⟩
  ·have:=HN.out.1
   congr 1
   omega
  ·have:=lD.out.2.2.2
   omega
  ·rw[HN.out.2.2.2.1];exact Qc.out.2.2.1
  ·rw[HN.out.2.2.2.2.1]
   have:=Qc.out.2.1;rw[← fQ.out] at this;exact this
 case measure=>simp[intOf]<;>omega):P:=h
theorem al1 {w:World} (s:dw) (hs:mz s) (t:List UInt8) (ht:t.length≤200) (txt:ByteArray) (mW:txt.data.toList=cG s t) :
 ς 121 #[.string txt] w fun e w'=>∃mv,e=ώ (.tuple #[.agg (gN { s with m := { s.m with aW:=[] } } mv),.string (str t),.bool true])∧Own w' 46 2 mv s.m.aZ.length (BP s.m.aZ)∧(∀q,mv.ownBlock=some q→w.heap.size≤q)∧υ w w':=by
 have hm:=zg hs.right;have hp:=hs.place;obtain⟨n0,hn0⟩:∃n:Nat,s.m.role=n:=⟨s.m.role.toNat,by have:=hm.acz;omega⟩;obtain⟨n1,nT⟩:∃n:Nat,s.m.seen=n:=⟨s.m.seen.toNat,by have:=hm.seen;omega⟩;obtain⟨n2,hn2⟩:∃n:Nat,s.m.aH=n:=⟨s.m.aH.toNat,by have:=hm.aH;omega⟩;obtain⟨n3,yT⟩:∃n:Nat,s.at_=n:=⟨s.at_.toNat,by have:=hp.V7;omega⟩;obtain⟨n4,qB⟩:∃n:Nat,s.θ=n:=⟨s.θ.toNat,by have:=hp.ep0;omega⟩;have b0:n0≤3:=by have:=hm.acA;omega
 have b1:n1≤9223372036854775807:=by have:=hs.mn.1;omega
 have b2:n2≤9223372036854775807:=by have:=hs.mn.2;omega
 have b3:n3≤9223372036854775807:=by have:=hp.V8;omega
 have b4:n4≤9223372036854775807:=by have:=hp.P6;omega
 have b5:=hs.slot;have b6:=hs.key;have b7:=hs.log;have b8:=hs.κ;have hsplit:=ZR s t;have JI:FX s=[n0,n1,n2,n3,n4,s.slot,s.key]:=by unfold FX;rw[hn0,nT,hn2,yT,qB];rfl
 rw[JI] at hsplit;have Wk:=hm.eS;have hme:=hm.each;have hrow:∀A n cap,gN { s with m := { s.m with aW:=[] } } (.slice A n cap)=#[ι (n0:Int),ι (n1:Int),ι (n2:Int),.slice A n cap,.string ⟨#[]⟩,ι (n3:Int),ι (n4:Int),ι (s.slot:Int),ω (s.log:Int),ι (s.key:Int),.int .u32 (s.κ:Int)]:=by
  intro A n cap;unfold gN;simp only[hn0,nT,hn2,yT,qB];rfl
 obtain⟨n5,uU⟩:∃n,s.slot=n:=⟨_,rfl⟩;obtain⟨n6,EJ⟩:∃n,s.key=n:=⟨_,rfl⟩;obtain⟨n7,EK⟩:∃n,s.log=n:=⟨_,rfl⟩;obtain⟨n8,B_⟩:∃n,s.κ=n:=⟨_,rfl⟩;obtain⟨L,hL⟩:=μ s.m.aZ;rw[uU] at b5 hsplit;rw[EJ] at b6 hsplit;rw[EK] at b7 hsplit;rw[B_] at b8 hsplit;rw[hL] at Wk hme hsplit ⊢;have nB:∀A n cap,gN { s with m := { s.m with aW:=[] } } (.slice A n cap)=#[ι (n0:Int),ι (n1:Int),ι (n2:Int),.slice A n cap,.string ⟨#[]⟩,ι (n3:Int),ι (n4:Int),ι (n5:Int),ω (n7:Int),ι (n6:Int),.int .u32 (n8:Int)]:=fun A n cap=>by rw[hrow A n cap,uU,EJ,EK,B_]
 obtain⟨TL,Wl⟩:=μ (aR n7++(aR n8++(aR L.length++(L.flatMap kK++bJ t))));have hsp:txt.data.toList=aR 1++(([n0,n1,n2,n3,n4,n5,n6]:List Nat).flatMap aR++TL):=by
  rw[mW,hsplit,← Wl];simp only[eC]
 have ef:Hid (∀k,((L.drop k).flatMap kK).length≤44):=δ fun k=>by
  have:=aaL (l:=L.drop k) (fun x hx=>(hme x (CY hx)).2);rw[jC] at this;have h2:11*(L.length - k)≤11*4:=QV _ oM;omega
 have oD:=δ nB;have PU:=δ Wl;have HM:=δ hme;have mE:=fun W=>OE txt W
 rw[hsp] at mE;have Cy:=δ mE;clear hm hp hs hn0 nT hn2 yT qB JI hrow nB uU EJ EK B_ hL hsplit hme mW Wl hsp mE;obtain⟨g,hg⟩:=μ w.heap.size;have HG:=δ hg;go_enter func121,ntmps121
 go_upto_region 1 with fail
 generalize bp:World.alloc _ _=w2;have hr2:η w2 g 115 (rowAt n0 n1 n2 n3 n4 n5 n6 0):=DG
 have σ:υ w w2:=yb
 have a_:=τ hr2 σ;clear hr2 σ bp hg;go_wp2_with fail
 refine(Cy.out _).mono ?_;rintro e w3 ⟨y,rfl,h3⟩;have H3:=δ h3;clear h3;go_wp2_with fail
 refine(aeq 1 _ 0 oM oM H3.out).mono ?_;rintro e w4 ⟨rfl,h4⟩;have bK:(0:Nat)+bD 1≤10:=by have:=dA (n:=1) oM;omega
 obtain⟨r0,Hu⟩:∃r,0+bD 1=r:=⟨_,rfl⟩;rw[Hu] at h4 bK;have H4:=δ h4;clear h4 Hu;obtain⟨c,hc⟩:=μ w4.heap.size;go_upto_region 4 with fail
 generalize fk:World.alloc _ _=w5;have aK:η w5 c 115 (rowAt n0 n1 n2 n3 n4 n5 n6 0):=by rw[← fk,← hc];exact η.new w4 _ _
 have h5:ct (fun _=>False) w2 w5 y ⟨([n0,n1,n2,n3,n4,n5,n6]:List Nat).flatMap aR++TL,r0,0⟩:=by rw[← fk];exact H4.out.still ((ζ.refl _ w4).alloc _)
 have Le:w2.heap.size≤c∧c≠y:=⟨by rw[← hc];exact H4.out.ε.size,by have:=H4.out.blk.lt;omega⟩;have H5:=cD aK h5 Le h5.blk.lt aK.lt;clear aK h5 Le fk hc;go_wp2_with (first
  |(refine qQ rfl _ _ rfl [(0,.pointer (some ⟨c,0,none⟩)),(1,.pointer (some ⟨c,1,none⟩)),(2,.pointer (some ⟨c,2,none⟩)),(3,.pointer (some ⟨c,5,none⟩)),(4,.pointer (some ⟨c,6,none⟩)),(5,.pointer (some ⟨c,7,none⟩)),(6,.pointer (some ⟨c,9,none⟩))] _ zR (ah2 c) ?_))
 go_loopw [9,28] (fun _ u wr=>∃k r:Nat,k≤7∧u=ι (k:Int)∧r≤10+10*k∧ct (fun q=>q=y∨q=c) w5 wr y ⟨(([n0,n1,n2,n3,n4,n5,n6]:List Nat).drop k).flatMap aR++TL,r,0⟩∧η wr c 115 (rowAt n0 n1 n2 n3 n4 n5 n6 k)) (fun _ u _=>7 - (intOf u).toNat)
 case atStart=>exact⟨0,r0,oM,rfl,oM,⟨H5.out.2.1.blk,.inl (.inl rfl),ζ.refl _ _⟩,H5.out.1⟩
 case round =>
  obtain⟨k,r,hk,rfl,hr,hI,hB⟩:=hrel;have G6:k<7∨k=7:=oM;rcases G6 with h7 | rfl
  ·obtain⟨nk,j,cy,hnk,Ek,hj0,hj1⟩:∃nk j,(([n0,n1,n2,n3,n4,n5,n6]:List Nat).drop k).flatMap aR++TL=aR nk++((([n0,n1,n2,n3,n4,n5,n6]:List Nat).drop (k+1)).flatMap aR++TL)∧nk≤9223372036854775807∧(∀W,(Instr.index 284 (.agg #[.pointer (some ⟨c,0,none⟩),.pointer (some ⟨c,1,none⟩),.pointer (some ⟨c,2,none⟩),.pointer (some ⟨c,5,none⟩),.pointer (some ⟨c,6,none⟩),.pointer (some ⟨c,7,none⟩),.pointer (some ⟨c,9,none⟩)]) (ι (k:Int))).run prog W=.ok (.pointer (some ⟨c,j,none⟩)) W)∧(rowAt n0 n1 n2 n3 n4 n5 n6 k)[j]? = some (ι 0)∧(rowAt n0 n1 n2 n3 n4 n5 n6 k).setIfInBounds j (ι (nk:Int))=rowAt n0 n1 n2 n3 n4 n5 n6 (k+1):=by
    refine⟨[n0,n1,n2,n3,n4,n5,n6].getD k 0,[0,1,2,5,6,7,9].getD k 0,?_⟩;rcases (show k=0∨k=1∨k=2∨k=3∨k=4∨k=5∨k=6 by omega) with rfl | rfl | rfl | rfl | rfl | rfl | rfl
    all_goals exact⟨by simp[List.append_assoc],by simp<;>omega,fun W=>by first| rfl | kernel_rfl,rfl,rfl⟩
   rw[cy] at hI;have hz:=dA (n:=nk) oM;have HI:=iw hI hB hr hz hj0 hj1;have j1:(k:Int)<7:=oM;clear hI hB hr hz hk cy hj0 hj1;go_wp2_with fail
   refine(N5 9223372036854775807 rfl nk _ r oM oM (oN HI.out.2.2.1) HI.out.1.here).mono ?_;rintro e w9 ⟨rfl,h9⟩;have dy:=HI.out.2.1.ε h9.ε H5.out.2.2.1.2;have H9:=τ (HI.out.1.back h9) dy;have cw:w9.cell? ⟨c,j,none⟩=some (ι 0):=(dy.cell j).trans HI.out.2.2.2.2.1;have fw:=dy.frozen j;clear h9 dy;go_wp2_with fail
   have nG:=H9.out.2.bE j (ι (nk:Int));rw[HI.out.2.2.2.2.2] at nG;have aet:=H9.out.1.b9 ((ζ.refl (· = c) w9).setCell (p:=⟨c,j,none⟩) (.inl rfl) (ι (nk:Int))) (fun e=>H5.out.2.2.1.2 e.symm) (fun q e=>.inl (.inr e));have gT:=τ nG aet;clear nG aet cw fw;go_roundw
   case rel =>
    refine⟨k+1,_,oM,by go_num,?_,gT.out.2,gT.out.1⟩;have:=HI.out.2.2;omega
   case measure=>simp[intOf]<;>omega
  ·have hfull:(([n0,n1,n2,n3,n4,n5,n6]:List Nat).drop 7).flatMap aR++TL=TL:=rfl
   rw[hfull] at hI;have hB':η wr c 115 #[ι (n0:Int),ι (n1:Int),ι (n2:Int),.slice none 0 0,.string ⟨#[]⟩,ι (n3:Int),ι (n4:Int),ι (n5:Int),ω 0,ι (n6:Int),.int .u32 0]:=hB;rw[← PU.out] at hI;have z7:=dA (n:=n7) oM;have z8:=dA (n:=n8) oM;have zL:=dA (n:=L.length) oM;have HI:=aq hI hB' hr;have HZ:=aq z7 z8 zL;clear hI hB hB' hr z7 z8 zL hk hfull;rw[show ((7:Nat):Int)=7 from rfl];go_wp2_with fail
   refine(aeq n7 _ r oM (oN HI.out.2.2) HI.out.1.here).mono ?_;rintro e w9 ⟨rfl,h9⟩;have dy:=HI.out.2.1.ε h9.ε H5.out.2.2.1.2;have H9:=τ (HI.out.1.back h9) dy;have cw:w9.cell? ⟨c,8,none⟩=some (ω 0):=dy.cell 8;have fw:=dy.frozen 8;clear h9 dy;have b9:∀(W:World) (j:Nat) (v:Value) (i:eM),ct (fun q=>q=y∨q=c) w5 W y i→ct (fun q=>q=y∨q=c) w5 (W.setCell ⟨c,j,none⟩ v) y i:=fun W j v i h=>h.b9 ((ζ.refl (· = c) W).setCell (p:=⟨c,j,none⟩) (.inl rfl) v) (fun e=>H5.out.2.2.1.2 e.symm) (fun q e=>.inl (.inr e))
   have FAR:=δ b9;clear b9;go_upto_region 10 with fail
   have gT:=τ (FAR.out _ 8 (ω (n7:Int)) _ H9.out.1) (H9.out.2.bE 8 (ω (n7:Int)));clear cw fw;generalize aop:World.setCell w9 _ _=w10 at gT ⊢;clear aop;go_wp2_with fail
   refine(N5 4294967295 rfl n8 _ _ oM oM (oO HI.out.2.2 HZ.out) gT.out.1.here).mono ?_;rintro e w11 ⟨rfl,h11⟩;have gA:η w11 c 115 #[ι (n0:Int),ι (n1:Int),ι (n2:Int),.slice none 0 0,.string ⟨#[]⟩,ι (n3:Int),ι (n4:Int),ι (n5:Int),ω (n7:Int),ι (n6:Int),.int .u32 0]:=gT.out.2.ε h11.ε H5.out.2.2.1.2;have ez:=τ (gT.out.1.back h11) gA;have cw:w11.cell? ⟨c,10,none⟩=some (.int .u32 0):=gA.cell 10;have fw:=gA.frozen 10;have eB:IntKind.u32.wrap (n8:Int)=(n8:Int):=by simp only[IntKind.wrap,IntKind.bits,IntKind.signed];simp;omega
   clear h11 gA;go_upto_region 11 with fail
   have dU:=τ (FAR.out _ 10 (.int .u32 (n8:Int)) _ ez.out.1) (ez.out.2.bE 10 (.int .u32 (n8:Int)));clear cw fw eB;generalize aoq:World.setCell w11 _ _=w12 at dU ⊢;clear aoq;go_wp2_with fail
   refine(N5 4 rfl L.length _ _ oM oM (oO HI.out.2.2 HZ.out) dU.out.1.here).mono ?_;rintro e w13 ⟨rfl,h13⟩;obtain⟨r3,wu⟩:=μ (r+bD n7+bD n8+bD L.length);rw[wu] at h13;have aeu:r3≤120:=by have:=HI.out.2.2;have:=HZ.out;omega
   have mO:η w13 c 115 #[ι (n0:Int),ι (n1:Int),ι (n2:Int),.slice none 0 0,.string ⟨#[]⟩,ι (n3:Int),ι (n4:Int),ι (n5:Int),ω (n7:Int),ι (n6:Int),.int .u32 (n8:Int)]:=dU.out.2.ε h13.ε H5.out.2.2.1.2;have dR:=aq (dU.out.1.back h13) mO aeu;clear h13 mO aeu wu;have aev:w5.heap.size≤w13.heap.size:=dR.out.1.ε.size;have lF:=δ aev;clear aev;go_wp2_with fail
   go_loopw [10,11] (fun n _ wr=>∃(k r:Nat) (v:Value),k≤L.length∧n=ι ((L.length - k:Nat):Int)∧r≤120+20*k∧ct (fun q=>q=y∨q=c) w13 wr y ⟨(L.drop k).flatMap kK++bJ t,r,0⟩∧η wr c 115 #[ι (n0:Int),ι (n1:Int),ι (n2:Int),v,.string ⟨#[]⟩,ι (n3:Int),ι (n4:Int),ι (n5:Int),ω (n7:Int),ι (n6:Int),.int .u32 (n8:Int)]∧Own wr 46 2 v k (BP (L.take k))∧(∀q,v.ownBlock=some q→w13.heap.size≤q)) (fun n _ _=>(intOf n).toNat)
   case atStart=>exact⟨0,r3,.slice none 0 0,oM,sM,by have:=dR.out.2.2;omega,⟨dR.out.1.blk,.inl (.inl rfl),ζ.refl _ _⟩,dR.out.2.1,Own.nil _ _ _,by simp[Value.ownBlock]⟩
   case round =>
    obtain⟨k,r5,v,hk,rfl,hr,hI,hB,hO,hv⟩:=hrel;by_cases hlt:k<L.length
    ·have mP:=HM.out _ (eE hlt)
     have cU:BP (L.take (k+1))=BP (L.take k)++cB L[k]:=by rw[ia hlt,ajj]
     have hdl:=ef.out (k+1);rw[vc hlt,yZ] at hI;obtain⟨rest,r9⟩:∃r,(L.drop (k+1)).flatMap kK=r:=⟨_,rfl⟩;rw[r9] at hI hdl;obtain⟨p,hp⟩:=μ (L[k]);rw[hp] at mP cU hI;obtain⟨P,sh⟩:=p;simp only at mP
     have Lz:ct (fun q=>q=y∨q=c) w13 wr y ⟨bJ P++((if sh then (1:UInt8) else 0)::(rest++bJ t)),r5,0⟩:=by
      have e:kK ⟨P,sh⟩++rest++bJ t=bJ P++((if sh then (1:UInt8) else 0)::(rest++bJ t)):=by unfold kK;simp[List.append_assoc]
      rw[e] at hI;exact hI
     have Cn:=lP (n:=P.length) oM;have hst:=lP (n:=t.length) oM;have htt:(bJ t).length≤210:=by rw[jl];omega
     obtain⟨n,hn⟩:∃n:Nat,L.length - k=n:=⟨_,rfl⟩;have j1:(0:Int)<(n:Int):=oM;have nle:(n:Int)≤4:=oM;have HN:=B0 hn hr hdl r9 cU htt mP Cn;have HK:=aq hO hv hB;have LB:=δ Lz;clear hI Lz hB hO hv r9 hdl cU htt mP hp hr Cn hst;rw[hn];clear hn;go_wp2_with fail
     refine(texts 8 rfl P _ r5 HN.out.2.2.2.2.2.2.1.2 oM (oN HN.out.2.1) (by have:=HN.out.2.2.1;have:=HN.out.2.2.2.2.2.1;have:=HN.out.2.2.2.2.2.2.1;simp only[eZ,aN];omega) LB.out.here).mono ?_;rintro e w14 ⟨rfl,h14⟩;have Wm:=h14.ε;have Hv:y<w13.heap.size:=dR.out.1.blk.lt;have cv:c<w13.heap.size:=dR.out.2.1.lt;have EL:=τ Hv cv;obtain⟨r6,yU⟩:=μ (r5+(bJ P).length);rw[yU] at h14;have J':r6≤130+20*k:=by rw[← yU,jl];have:=HN.out.2.1;have:=HN.out.2.2.2.2.2.2;omega
     have lD:=aF (HK.out.1.ε Wm (fun q hq e=>oF e (HK.out.2.1 q hq))) (HK.out.2.2.ε Wm H5.out.2.2.1.2) (LB.out.back h14) J';clear h14 Wm yU J' Hv cv;obtain⟨S,hS⟩:=μ (str P);rw[hS];have fQ:=δ hS;clear hS;obtain⟨d,hd⟩:=μ w14.heap.size;go_upto_region 15 with fail
     generalize OO:World.alloc _ _=w15;have BJ:η w15 d 46 #[.string S,.bool false]:=by rw[← OO,← hd];exact η.new w14 _ _
     have Ed:υ w14 w15:=by rw[← OO];exact(ζ.refl _ w14).alloc _
     have hdb:w13.heap.size≤d:=by rw[← hd];exact lD.out.2.2.1.ε.size
     have Co:∀q,v.ownBlock=some q→q<d:=fun q hq=>by rw[← hd];exact lD.out.1.lt hq
     have jR:=aF (lD.out.1.ε Ed (fun _ _ e=>e)) (lD.out.2.1.ε Ed id) (lD.out.2.2.1.still Ed) BJ;have pE:=τ hdb Co;clear OO BJ Ed hd hdb Co;go_wp2_with fail
     refine(aoo _ _ r6 (oN lD.out.2.2.2) jR.out.2.2.1.here).mono ?_;rintro e w16 ⟨rfl,h16⟩;have wE:d≠y:=by have:=pE.out.1;have:=EL.out.1;omega
     have hdc:d≠c:=by have:=pE.out.1;have:=EL.out.2;omega
     have rK:=τ wE hdc;have EM:=aF (jR.out.1.ε h16.ε (fun q hq e=>oG e (HK.out.2.1 q hq) EL.out.1)) (jR.out.2.1.ε h16.ε H5.out.2.2.1.2) (jR.out.2.2.1.back h16) (jR.out.2.2.2.ε h16.ε wE);have Ka:=EM.out.2.2.2;have c0:w16.cell? ⟨d,0,none⟩=some (.string S):=Ka.cell 0;have c1:w16.cell? ⟨d,1,none⟩=some (.bool false):=Ka.cell 1;have fz:=Ka.frozen 1;have aew:=δ Ka;clear h16 wE hdc Ka;cases sh
     ·go_upto_region 16 with fail
      have DS:=aew.out.bE 1 (.bool false);have wO:ζ (· = d) w16 (w16.setCell ⟨d,1,none⟩ (.bool false)):=(ζ.refl (· = d) w16).setCell (p:=⟨d,1,none⟩) (.inl rfl) _;generalize Ui:World.setCell w16 _ _=w17 at DS wO ⊢;have JJ:η w17 d 46 #[.string S,.bool false]:=DS;have tV:=aF (EM.out.1.ε wO (fun q hq e=>oF e (pE.out.2 q hq))) (EM.out.2.1.ε wO (fun e=>rK.out.2 e.symm)) (EM.out.2.2.1.b9 wO (fun e=>rK.out.1 e.symm) (fun q e=>.inr (oF e pE.out.1))) JJ;clear Ui DS wO JJ c0 c1 fz;obtain⟨A,cap,rfl,-,-⟩:=tV.out.1.shape;have d2:w17.cell? ⟨c,3,none⟩=some (.slice A k cap):=tV.out.2.1.cell 3;obtain⟨c0,c1⟩:=tV.out.2.2.2.vA;obtain⟨ti,bx,bU,bK,aY⟩:=jD RQ;have oI:k≤4:=oM;go_wp2_with (first
       |(at_builtin;refine kr rfl _ _ _ _ rfl 46 ti _ 2 24 underlying47 bx bU bK aY rfl (.slice A k cap) k _ rfl (tV.out.1.alloc _) _ 1 [_,_] rfl (Src.rY underlying47 _ rfl) jN ke oM ?_;intro v2 w18 BQ vP Gs OM
         have DR:=η.ε (tV.out.2.1.alloc (.cells #[.string S,.bool false] 46)) vP (fun hq=>oO (HK.out.2.1 c hq) EL.out.2);obtain⟨g2,fJ,rfl,-,-⟩:=BQ.head oM;have e2:w18.cell? ⟨c,3,none⟩=some (.slice A k cap):=DR.cell 3;have G4:=DR.frozen 3))
      exact zz8
     ·go_upto_region 16 with fail
      have DS:=aew.out.bE 1 (.bool true);have wO:ζ (· = d) w16 (w16.setCell ⟨d,1,none⟩ (.bool true)):=(ζ.refl (· = d) w16).setCell (p:=⟨d,1,none⟩) (.inl rfl) _;generalize Ui:World.setCell w16 _ _=w17 at DS wO ⊢;have JJ:η w17 d 46 #[.string S,.bool true]:=DS;have tV:=aF (EM.out.1.ε wO (fun q hq e=>oF e (pE.out.2 q hq))) (EM.out.2.1.ε wO (fun e=>rK.out.2 e.symm)) (EM.out.2.2.1.b9 wO (fun e=>rK.out.1 e.symm) (fun q e=>.inr (oF e pE.out.1))) JJ;clear Ui DS wO JJ c0 c1 fz;obtain⟨A,cap,rfl,-,-⟩:=tV.out.1.shape;have d2:w17.cell? ⟨c,3,none⟩=some (.slice A k cap):=tV.out.2.1.cell 3;obtain⟨c0,c1⟩:=tV.out.2.2.2.vA;obtain⟨ti,bx,bU,bK,aY⟩:=jD RQ;have oI:k≤4:=oM;go_wp2_with (first
       |(at_builtin;refine kr rfl _ _ _ _ rfl 46 ti _ 2 24 underlying47 bx bU bK aY rfl (.slice A k cap) k _ rfl (tV.out.1.alloc _) _ 1 [_,_] rfl (Src.rY underlying47 _ rfl) jN ke oM ?_;intro v2 w18 BQ vP Gs OM
         have DR:=η.ε (tV.out.2.1.alloc (.cells #[.string S,.bool true] 46)) vP (fun hq=>oO (HK.out.2.1 c hq) EL.out.2);obtain⟨g2,fJ,rfl,-,-⟩:=BQ.head oM;have e2:w18.cell? ⟨c,3,none⟩=some (.slice A k cap):=DR.cell 3;have G4:=DR.frozen 3))
      exact zz8
    ·obtain rfl:k=L.length:=oM
     have hz:L.length - L.length=0:=oM;rw[hz];have hdr:(L.drop L.length).flatMap kK++bJ t=bJ t++[]:=by rw[qj (bO _)];simp
     rw[hdr] at hI;rw[dV (bO _)] at hO;obtain⟨A,cap,rfl,-,-⟩:=hO.shape;have T3:=a_.out.1.lt;have Cb:g≠c:=by have:=H5.out.2.2.1.1;omega
     have G5:g≠y:=by
      rcases H5.out.2.1.new with e | e
      ·exact e.elim
      ·omega
     have aex:ζ (fun q=>q=y∨q=c) w5 wr:=dR.out.1.ε.then hI.ε (fun _ e=>.inl e);have Uj:ζ (fun q=>q=y∨q=c) w2 wr:=(H5.out.2.1.ε.mono (G:=fun q=>q=y∨q=c) φ).then aex (fun _ e=>.inl e);have B6:=a_.out.1.ε Uj (fun e=>e.elim G5 Cb);have aey:υ w wr:=a_.out.2.then Uj (fun q e=>.inr (by
      have bp:=a_.out.2.size;rcases e with e | e
      ·rw[e]
       rcases H5.out.2.1.new with e2 | e2
       ·exact e2.elim
       ·omega
      ·rw[e];have:=H5.out.2.2.1.1;omega))
     have apm:=lP (n:=t.length) oM;have HL:=p7 B6 aey Cb G5 hB hO hv;have HI:=τ hI hr;clear B6 aey Cb G5 hB hO hv hI hr hz hdr T3 aex Uj hlt hk;go_wp2_with fail
     refine(texts 300 rfl t [] r5 oM oM (oN HI.out.2) iy HI.out.1.here).mono ?_;rintro e wq ⟨rfl,hq⟩;have hgq:=HL.out.1.ε hq.ε HL.out.2.2.2.1;have LC:=HL.out.2.2.2.2.1.ε hq.ε H5.out.2.2.1.2;have hoq:=HL.out.2.2.2.2.2.1.ε hq.ε (fun q LD e=>oG e (HL.out.2.2.2.2.2.2 q LD) dR.out.1.blk.lt);have qb:υ w wq:=HL.out.2.1.then hq.ε (fun q e=>.inr (by
      have e2:q=y:=e;rw[e2];rcases H3.out.new with e3 | e3
      ·exact e3.elim
      ·have:=a_.out.2.size;omega))
     have HQ:=cD hgq LC hoq qb hq;obtain⟨ST,Wn⟩:∃S,str t=S:=⟨_,rfl⟩;rw[Wn];have aor:=δ Wn;clear hgq LC hoq qb hq Wn;go_upto_region 18 with fail
     refine dW ?_;refine eo (S:=fun w'=>ζ (fun q=>q=g) wq w') (T:=fun _=>false) kR ?_;have aE:=(ζ.refl (fun q=>q=g) wq).drew;have wP:=δ (fun (w':World) (h:ζ (fun q=>q=g) wq w')=>HQ.out.2.1.ε h (fun e=>HL.out.2.2.1 e.symm));refine iL 0 (.agg #[ι (n0:Int),ι (n1:Int),ι (n2:Int),.slice A L.length cap,.string ⟨#[]⟩,ι (n3:Int),ι (n4:Int),ι (n5:Int),ω (n7:Int),ι (n6:Int),.int .u32 (n8:Int)]) (lN rfl ak _ _ rfl c ak _ _ _ (fun w' hSw=>wP.out w' hSw) underlying115 rfl kR) ?_;refine ξ 1 ?_;refine ξ 2 ?_;refine bf 3 (fun KK ο=>?_);go_simp
     refine(NX (HQ.out.2.2.2.2.still (ζ.refl _ _).drew)).mono ?_;rintro e w21 ⟨rfl,Uk⟩;have Ul:ζ (fun q=>q=g) wq w21:=aE.then Uk φ;refine ο.out _ _ Ul ?_;have aez:=HQ.out.1.drew.ε Uk id;have mU:(n5:Int)≤2:=oM;clear ο Uk;refine aX 4 (fun w' hSw=>show w'.cell? ⟨c,7,none⟩=some (ι (n5:Int)) from (wP.out _ hSw).cell 7) ?_;refine aX 5 (fun w' hSw=>show w'.cell? ⟨c,7,none⟩=some (ι (n5:Int)) from (wP.out _ hSw).cell 7) ?_;refine aX 6 (fun w' hSw=>show w'.cell? ⟨c,7,none⟩=some (ι (n5:Int)) from (wP.out _ hSw).cell 7) ?_;refine aX 7 (fun w' hSw=>show w'.cell? ⟨c,7,none⟩=some (ι (n5:Int)) from (wP.out _ hSw).cell 7) ?_;refine aX 8 (fun w' hSw=>show w'.cell? ⟨c,7,none⟩=some (ι (n5:Int)) from (wP.out _ hSw).cell 7) ?_;refine aX 9 (fun w' hSw=>show w'.cell? ⟨c,7,none⟩=some (ι (n5:Int)) from (wP.out _ hSw).cell 7) ?_;refine aX 10 (fun w' hSw=>show w'.cell? ⟨c,7,none⟩=some (ι (n5:Int)) from (wP.out _ hSw).cell 7) ?_;refine aX 11 (fun w' hSw=>show w'.cell? ⟨c,7,none⟩=some (ι (n5:Int)) from (wP.out _ hSw).cell 7) ?_
     refine aX 12 (fun w' hSw=>show w'.cell? ⟨c,7,none⟩=some (ι (n5:Int)) from (wP.out _ hSw).cell 7) ?_;refine aX 13 (fun w' hSw=>show w'.cell? ⟨c,7,none⟩=some (ι (n5:Int)) from (wP.out _ hSw).cell 7) ?_;refine bf 14 (fun KK ο=>?_);refine ud rfl 115 _ _ rfl g #[ι (n0:Int),ι (n1:Int),ι (n2:Int),.slice A L.length cap,.string ⟨#[]⟩,ι (n3:Int),ι (n4:Int),ι (n5:Int),ω (n7:Int),ι (n6:Int),.int .u32 (n8:Int)] rfl rfl _ _ aez rfl jN kR ?_;intro ws sJ CA hzs;have nU:ζ (fun q=>q=g) wq ws:=Ul.then CA (fun _ e=>.inl e);refine ο.out _ _ nU ?_;clear ο;refine ξ 15 ?_;refine ξ 16 ?_;refine dY ?_;refine dz ?_;have HZ:=aq sJ nU (HQ.out.2.2.1.ε nU (fun q LD e=>by have:=HL.out.2.2.2.2.2.2 q LD;have:=dR.out.1.blk.lt;have:=a_.out.1.lt;have Wo:=H5.out.2.1.ε.size;have e2:q=g:=e;have:=lF.out;omega));clear sJ CA hzs nU Ul aE aez;go_wp2_with fail
     refine cJ (Mx rfl _ _ g _ _ _ _ rfl HZ.out.1 underlying115 rfl kR (.string ST) (.bool true) rfl sM) rfl ⟨.slice A L.length cap,?_,HZ.out.2.2,fun q LD=>?_,?_⟩
     ·rw[oD.out,aor.out]
     ·have:=HL.out.2.2.2.2.2.2 q LD
      have h1:=a_.out.2.size;have h2:=H5.out.2.1.ε.size;have h3:=lF.out;omega
     ·exact HQ.out.2.2.2.1.then HZ.out.2.1 (fun q e=>.inr (oF e HG.out))
theorem agp {l:List ai} (h:∀p ∈ l,p.1.length≤33∧p.2.length≤32) (hl:l.length≤48) (k:Nat):((l.drop k).flatMap lu).length≤3400:=by
 have:=Rx (l:=l.drop k) (a:=33) (b:=32) oM oM (fun p hp=>h p (CY hp));rw[jC] at this;have h2:(33+32+4)*(l.length - k)≤69*48:=QV _ oM;omega
theorem akS {w:World} (l:List ai) (hs:∀p ∈ l,p.1.length≤33∧p.2.length≤32) (hl:l.length≤48) (txt:ByteArray) (mW:txt.data.toList=gL l) :
 ς 183 #[.string txt] w fun e w'=>∃v,e=ώ (.tuple #[v,ι 0])∧Own w' 55 2 v l.length (rZ l)∧(∀q,v.ownBlock=some q→w.heap.size≤q)∧υ w w':=by
 have mE:=fun W=>OE txt W
 unfold gL at mW;rw[mW] at mE;have Cy:=δ mE;have HM:=τ hs (agp hs hl);have zL:=dA (n:=l.length) oM;clear mE mW hs;go_enter func183,ntmps183
 go_wp2_with fail
 refine(Cy.out _).mono ?_;rintro e w3 ⟨y,rfl,h3⟩;have H3:=δ h3;clear h3;go_wp2_with fail
 refine(N5 48 rfl l.length _ 0 hl oM oM H3.out).mono ?_;rintro e w4 ⟨rfl,h4⟩;have Hu:0+bD l.length≤10:=oM;obtain⟨r0,hr⟩:∃r,0+bD l.length=r:=⟨_,rfl⟩;rw[hr] at h4 Hu;have H4:=τ h4 Hu;clear h4 Hu hr zL;go_wp2_with fail
 go_loopw [5,6] (fun v n wr=>∃(k r:Nat),k≤l.length∧n=ι ((l.length - k:Nat):Int)∧r≤10+80*k∧ct (fun q=>q=y) w4 wr y ⟨(l.drop k).flatMap lu,r,0⟩∧Own wr 55 2 v k (rZ (l.take k))∧(∀q,v.ownBlock=some q→w4.heap.size≤q)) (fun _ n _=>(intOf n).toNat)
 case atStart=>exact⟨0,r0,oM,sM,by have:=H4.out.2;omega,⟨H4.out.1.blk,.inl rfl,ζ.refl _ _⟩,Own.nil _ _ _,by simp[Value.ownBlock]⟩
 case round =>
  obtain⟨k,r5,hk,rfl,hr,hI,hO,hv⟩:=hrel;have Hv:y<w4.heap.size:=H4.out.1.blk.lt;by_cases hlt:k<l.length
  ·have mP:=HM.out.1 _ (eE hlt)
   have cU:rZ (l.take (k+1))=rZ (l.take k)++bC l[k]:=by rw[ia hlt,YQ]
   have hdl:=HM.out.2 (k+1);rw[vc hlt,yZ] at hI;obtain⟨rest,r9⟩:∃r,(l.drop (k+1)).flatMap lu=r:=⟨_,rfl⟩;rw[r9] at hI hdl;obtain⟨p,hp⟩:=μ (l[k]);rw[hp] at mP cU hI;obtain⟨P,V⟩:=p;simp only at mP
   have Lz:ct (fun q=>q=y) w4 wr y ⟨bJ P++(bJ V++rest),r5,0⟩:=by
    have e:lu (P,V)++rest=bJ P++(bJ V++rest):=by unfold lu;simp[List.append_assoc]
    rw[e] at hI;exact hI
   have Cn:=lP (n:=P.length) oM;have Lf:=lP (n:=V.length) oM;obtain⟨n,hn⟩:∃n:Nat,l.length - k=n:=⟨_,rfl⟩;have j1:(0:Int)<(n:Int):=oM;have nle:(n:Int)≤48:=oM;have adR:k<48:=oM;obtain⟨A,cap,rfl,-,-⟩:=hO.shape;have HN:=δ (And.intro hn (And.intro hr (And.intro hdl (And.intro r9 (And.intro cU (And.intro mP (And.intro Cn (And.intro Lf Hv))))))));have HK:=τ hO hv;have LB:=δ Lz;clear hI Lz hO hv r9 hdl cU mP hp hr Cn Lf Hv;rw[hn];clear hn;go_wp2_with fail
   refine(texts 9223372036854775807 rfl P _ r5 (oN HN.out.2.2.2.2.2.1) oM (oN HN.out.2.1) (by have:=HN.out;rw[aN,jl];omega) LB.out.here).mono ?_;rintro e w14 ⟨rfl,h14⟩;obtain⟨S,hS⟩:=μ (str P);rw[hS];have lD:=δ h14;clear h14;go_wp2_with fail
   refine(texts 9223372036854775807 rfl V _ _ (oN HN.out.2.2.2.2.2.1) oM (by have:=HN.out;rw[jl];omega) (oN HN.out) lD.out).mono ?_;rintro e w15 ⟨rfl,h15⟩;obtain⟨T,hT⟩:∃S,str V=S:=⟨_,rfl⟩;rw[hT];have gl:=τ hS hT;obtain⟨r6,yU⟩:=μ (r5+(bJ P).length+(bJ V).length);rw[yU] at h15;have J':r6≤10+80*(k+1):=by rw[← yU,jl,jl];have:=HN.out;omega
   have aeA:∀q,(Value.slice A k cap).ownBlock=some q→¬q=y:=fun q hq e=>by have:=HK.out.2 q hq;have:=HN.out.2.2.2.2.2.2.2.2;omega
   have uM:ζ (fun q=>q=y) wr w15:=h15.ε;have jR:=aq (LB.out.back h15) (HK.out.1.ε uM aeA) J';clear h15 hS hT yU J' aeA uM;obtain⟨ti,bx,bU,bK,aY⟩:=jD Nl;go_wp2_with (first
    |(at_builtin;refine kr rfl _ _ _ _ rfl 55 ti _ 2 32 underlying56 bx bU bK aY rfl (.slice A k cap) k _ rfl (jR.out.2.1.alloc _) _ 1 [_,_] rfl (Src.rY underlying56 _ rfl) jN ke oM ?_;intro v2 w18 BQ vP Gs OM
      have EN:=aq BQ vP Gs;clear BQ vP Gs OM))
   clear bx bU bK aY;have OO:w4.heap.size≤w15.heap.size:=jR.out.1.ε.size;have am5:ζ (fun q=>(Value.slice A k cap).ownBlock=some q) w15 w18:=((ζ.refl _ w15).alloc _).then EN.out.2.1 (fun q e=>.inl e);go_roundw
   case rel =>
    refine⟨k+1,r6,oM,?_,jR.out.2.2,?_,?_,fun q hq=>?_⟩
    ·have:=HN.out.1
     congr 1
     omega
    ·rw[HN.out.2.2.2.1]
     exact jR.out.1.b9 am5 (fun e=>oO (HK.out.2 y e) HN.out.2.2.2.2.2.2.2.2) (fun q e=>.inr (HK.out.2 q e))
    ·rw[HN.out.2.2.2.2.1]
     have:=EN.out.1;rw[← gl.out.1,← gl.out.2] at this;exact this
    ·rcases EN.out.2.2 with e | e
     ·exact HK.out.2 q ux
     ·rw[hq] at e
      have:=dM e;rw[dx] at this;omega
   case measure=>simp[intOf]<;>omega
  ·obtain rfl:k=l.length:=oM
   have hz:l.length - l.length=0:=oM;rw[hz];rw[qj (bO _)] at hI;rw[dV (bO _)] at hO;have yJ:=NX hI;have Ld:=δ yJ;have HL:=aq hO hv hI.ε;have hfz:(if (⟨([]:List ai).flatMap lu,r5,0⟩:eM).fail≠0 then (⟨([]:List ai).flatMap lu,r5,0⟩:eM).fail else if (⟨([]:List ai).flatMap lu,r5,0⟩:eM).rest≠[] then 8 else 0)=0:=rfl;obtain⟨A,cap,rfl,-,-⟩:=hO.shape;clear yJ hO hv hI hz hr hlt hk Hv;go_wp2_with fail
   refine Ld.out.mono ?_;rintro e wz ⟨rfl,Qd⟩;have HZ:=δ Qd;clear Qd;go_wp2_with fail
   go_ret2
   refine⟨.slice A l.length cap,rfl,HL.out.1.ε HZ.out (fun _ _ e=>e),fun q hq=>?_,?_⟩
   ·have:=HL.out.2.1 q hq
    have:=H4.out.1.ε.size;omega
   ·exact(H4.out.1.ε.then HL.out.2.2 (fun q e=>.inr (by
     have e2:q=y:=e;rw[e2];rcases H3.out.new with e3 | e3
     ·exact e3.elim
     ·exact e3))).then HZ.out φ
def uA (d:Dk) (k:Nat):Bool:=(List.range k).any fun i=>decide ((cK (d.now (340+i)).data.toList).2=2)
theorem ZS (d:Dk) (k:Nat):uA d (k+1)=(uA d k || decide ((cK (d.now (340+k)).data.toList).2=2)):=by
 unfold uA;rw[t_,age];simp
theorem ajk {d:Dk} {k n:Nat} (h:uA d k=true) (hn:k≤n):uA d n=true:=by
 unfold uA at *;rw[agf] at *;obtain⟨i,hi,h2⟩:=h;exact⟨i,Iz.2 (oN (Iz.1 hi)),h2⟩
theorem akT {w:World} {p:Nat} {d:Dk} {F:List Nat} (hD:bG w p d F) (ho:d.off=false) (hl:500≤d.ψ.length) (hs:∀i,i<500→(d.now i).size=64) :
 ς 62 #[.pointer (some ⟨p,0,none⟩)] w fun e w'=>e=ώ (.tuple #[.bool (uA d 160),ι 0])∧υ w w':=by
 obtain⟨B,hB⟩:=μ (uA d 160);rw[hB];have hrd:∀(W:World),υ w W→∀k:Nat,k<160→ς 46 #[.pointer (some ⟨p,0,none⟩),ι (340+(k:Int))] W fun e w'=>e=ώ (.tuple #[.string (d.now (340+k)),ι 0])∧W=w':=fun W hW k hk=>by
  have:=NM (hD.ε hW (fun _ _ e=>e)) (340+(k:Int));have e:d.read (340+(k:Int))=(d.now (340+k),0):=by
   unfold Dk.read Dk.there;rw[ho,ν sM,π iy];congr 1
  rw[e] at this;refine this.mono ?_;rintro e w' ⟨rfl,rfl⟩;exact⟨rfl,rfl⟩
 have HR:=δ hrd;have HS:=τ hs hB;clear hrd hs hB hD;go_enter func62,ntmps62
 go_wp2_with fail
 go_loopw [4,5,6,7,8,9] (fun _ _ _ _ _ u wr=>∃k:Nat,k≤160∧u=ι (k:Int)∧υ w wr∧uA d k=false) (fun _ _ _ _ _ u _=>160 - (intOf u).toNat)
 case atStart=>exact⟨0,oM,rfl,ζ.refl _ _,rfl⟩
 case round =>
  obtain⟨k,hk,rfl,hU,hE⟩:=hrel;by_cases hlt:k<160
  ·have hsz:=HS.out.1 (340+k) oM
   have hst:=ZS d k;rw[hE,Bool.false_or] at hst;have hmo:=fun h:uA d (k+1)=true=>ajk h (show k+1≤160 by omega)
   have hlk:=fun W=>abN (d.now (340+k)) W oM
   obtain⟨N,hN⟩:=μ (d.now (340+k));have hr:=HR.out wr hU k hlt;rw[hN] at hst hlk hr;obtain⟨a,ha⟩:=μ (str (cK N.data.toList).1);obtain⟨z,hz⟩:∃a,(cK N.data.toList).2=a:=⟨_,rfl⟩;rw[ha,hz] at hlk;rw[hz] at hst;have j1:(k:Int)<160:=oM;have Lw:=δ hr;have Lt:=δ hlk;have HX:=aq hst hmo hU;clear hsz hst hmo hlk hr hU hE hN ha hz;go_wp2_with fail
   refine Lw.out.mono ?_;rintro e w1 ⟨rfl,rfl⟩;go_wp2_with fail
   refine(Lt.out _).mono ?_;rintro e w2 ⟨rfl,σ⟩;have HU:=δ (HX.out.2.2.then σ φ);clear σ;by_cases h2:z=2
   ·subst h2
    obtain rfl:true=B:=by
     rw[← HS.out.2];exact(HX.out.2.1 (by rw[HX.out.1];rfl)).symm
    go_wp2_with fail
    go_ret2
    exact⟨rfl,HU.out⟩
   ·have h2b:(z == 2)=false:=by simpa using h2
    go_wp2_with fail
    go_roundw
    case rel=>exact⟨k+1,oM,by go_num,HU.out,by rw[HX.out.1];simpa using h2⟩
    case measure=>simp[intOf]<;>omega
  ·obtain rfl:k=160:=oM
   obtain rfl:false=B:=by rw[← HS.out.2,hE]
   have HU:=δ hU;clear hU hE hlt hk;rw[show ((160:Nat):Int)=160 from rfl];go_wp2_with fail
   go_ret2
   exact⟨rfl,HU.out⟩
theorem bsize:∃j,prog.info? 139=some j∧j.size=2:=by
 obtain⟨j,hj,Wp⟩:=Option.map_eq_some_iff.1 (show (prog.info? 139).map (·.size)=some 2 by kernel_rfl);exact⟨j,hj,Wp⟩
theorem anF:liesAt prog prog.depth 139 (2 / prog.cellsOf 139) 0 139 1=true:=kR
theorem infoByte:(prog.info? 5).map (fun i=>(i.zero,i.size,i.bytes))=some (some (ϋ 0),1,1):=kR
theorem ahl (b:Nat) (w:World) (h0:w.cell? ⟨b,0,none⟩=some (.pointer (some ⟨b,0,none⟩))) :
 ς 132 #[.pointer (some ⟨b,0,none⟩)] w fun e w'=>e=ώ (.tuple #[])∧w'=w:=by
 obtain⟨j,hj,-⟩:=bsize;go_enter func132,ntmps132
 go_wp2
 rw[Lib.run_neq_ptr_same w _ underlying137 hj];go_wp2
 go_end0
 exact⟨rfl,rfl⟩
theorem agV (b:Nat) (w:World) (h0:w.cell? ⟨b,0,none⟩=some (.pointer none)) (hsh:w.shape? b=some (139,2)) (hfz:w.frozen? ⟨b,0,none⟩=false) :
 ς 132 #[.pointer (some ⟨b,0,none⟩)] w fun e w'=>e=ώ (.tuple #[])∧w'=w.setCell ⟨b,0,none⟩ (.pointer (some ⟨b,0,none⟩)):=by
 obtain⟨j,hj,Wp⟩:=bsize;go_enter func132,ntmps132
 go_wp2
 rw[Lib.run_to_unsafe w ⟨b,0,none⟩ underlying137 underlying296 hj (by rw[Wp];decide) hsh (Nat.zero_lt_succ 1)]
 simp only[Result.andThen];rw[Oper.upon_value];go_wp2
 rw[run_callFunc_extern func187 kR kR kR (e:=Extern.AbiNoEscape.same) kR];rw[Lib.run_noEscape];simp only[Result.andThen];rw[Oper.upon_value];go_wp2
 rw[Lib.run_from_unsafe w ⟨b,0,none⟩ underlying296 underlying137 hj hsh anF];simp only[Result.andThen];rw[Oper.upon_value];go_wp2
 go_end0
 exact⟨rfl,rfl⟩
theorem akU (B b:Nat) (bs:List Value) (w:World) (h:Lib.IsBuilder 139 5 B b bs w) :
 ς 132 #[.pointer (some ⟨b,0,none⟩)] w fun e w'=>e=ώ (.tuple #[])∧(Lib.BuilderAt 139 5 B b (.pointer (some ⟨b,0,none⟩)) bs w'∧Below B w w'):=by
 rcases h with h | h
 ·refine(agV b w h.cell0 h.shape h.frozen0).mono ?_
  rintro e w' ⟨rfl,rfl⟩;exact⟨rfl,h.used _,(oT B w).setCell (p:=⟨b,0,none⟩) h.1 _⟩
 ·refine(ahl b w h.cell0).mono ?_
  rintro e w' ⟨rfl,rfl⟩;exact⟨rfl,h,oT B _⟩
theorem akV (B b:Nat) (bs:List Value) (s:ByteArray) (w:World) (h:Lib.IsBuilder 139 5 B b bs w) (hlen:bs.length+s.size≤140737488355328) (hBw:B≤w.heap.size) :
 ς 72 #[.pointer (some ⟨b,0,none⟩),.string s] w fun e w'=>e=ώ (.tuple #[ι s.size,.nilIface])∧(Lib.BuilderAt 139 5 B b (.pointer (some ⟨b,0,none⟩)) (bs++Lib.strCells s) w'∧Below B w w'):=by
 obtain⟨i0,hi,bU,bK,aY⟩:=jD infoByte;have HC:=δ (akU B b bs w h);clear h;go_enter func72,ntmps72
 go_wp2_with fail
 refine HC.out.mono ?_;rintro e w1 ⟨rfl,h1,eO⟩;obtain⟨hB,v,hbk,hown,hne⟩:=h1;have c0:w1.cell? ⟨b,0,none⟩=some (.pointer (some ⟨b,0,none⟩)):=by rw[Yg hbk];rfl
 have c1:w1.cell? ⟨b,1,none⟩=some v:=by rw[Yg hbk];rfl
 go_wp2_with (at_builtin;refine Lib.wpList_append_own_string _ rfl _ _ 89 9 rfl B 5 i0 underlying89 underlying9 hi bU bK aY _ _ _ rfl hown s rfl ?c3 ?c4 ?c5 ?_)
 case c3=>unfold maxLen;omega
 case c4=>omega
 case c5=>have:=eO.size;omega
 intro v' w2 acB hgrow _;have hlt:b<w1.heap.size:=by
  rcases Io b w1.heap.size with h' | h'
  ·exact h'
  ·simp[Array.getElem?_eq_none h'] at hbk
 have bM:w2.heap[b]? = some (.cells #[.pointer (some ⟨b,0,none⟩),v] 139 (0,0)):=by
  rw[hgrow.block b hlt (fun e=>hne e.symm)];exact hbk
 have d0:w2.cell? ⟨b,0,none⟩=some (.pointer (some ⟨b,0,none⟩)):=by rw[Yg bM];rfl
 have d1:w2.cell? ⟨b,1,none⟩=some v:=by rw[Yg bM];rfl
 have f1:w2.frozen? ⟨b,1,none⟩=false:=Lib.frozen_of_heap bM 1;obtain⟨ao,n',cap,rfl⟩:∃ao n' cap,v'=.slice ao n' cap:=by
  rcases acB.2 with ⟨hv,_⟩ | ⟨g,cap,cur,hv,_⟩
  ·exact⟨_,_,_,hv⟩
  ·exact⟨_,_,_,hv⟩
 go_wp2
 go_ret2
 refine⟨rfl,?_,?_⟩
 ·exact Lib.BuilderAt.put (T:=139) (e:=5) hB bM (bs':=bs++Lib.strCells s) (by simpa [Lib.strCells_length] using acB) dC
 ·exact(eO.grown hgrow (oN eO.size) (fun k hk=>(hown.lt k hk).1)).setCell (p:=⟨b,1,none⟩) hB _
theorem ahm (s:ByteArray):Lib.strCells s=Lib.byteCells s.data.toList:=rfl
theorem ahn (t:List UInt8) (k:Nat):(t.take (56*k))++kz t k=t.take (56*(k+1)):=by
 unfold kz;rw[Nat.mul_succ,Yb]
theorem BuilderAt.ε {T e:TypeId} {B b:Nat} {p:Value} {bs:List Value} {w w':World} (h:Lib.BuilderAt T e B b p bs w) (hu:υ w w'):Lib.BuilderAt T e B b p bs w':=by
 obtain⟨h1,v,h2,h3,h4⟩:=h;have ef:b<w.heap.size:=(nZ.1 h2).1;refine⟨h1,v,(hu.block b ef id).trans h2,⟨h3.1,?_⟩,h4⟩;rcases h3.2 with ⟨e1,e2⟩ | ⟨g,cap,cur,e1,e2,e3,e4⟩
 ·exact .inl ⟨e1,e2⟩
 ·exact .inr ⟨g,cap,cur,e1,e2,(hu.block g (nZ.1 e3).1 id).trans e3,e4⟩
theorem IsBuilder.ε {T e:TypeId} {B b:Nat} {bs:List Value} {w w':World} (h:Lib.IsBuilder T e B b bs w) (hu:υ w w'):Lib.IsBuilder T e B b bs w' :=
 h.elim (fun x=>.inl (BuilderAt.ε x hu)) (fun x=>.inr (BuilderAt.ε x hu))
theorem al2 {w:World} {p:Nat} {d:Dk} {F:List Nat} (hD:bG w p d F) (ho:d.off=false) (hl:d.ψ.length=500) (slot:Nat) (h1:1≤slot) (h2:slot≤2) (t:List UInt8) (ht:zo d slot t) (n1:1≤bS t) (n2:bS t≤80) :
 ς 182 #[.pointer (some ⟨p,0,none⟩),ι (slot:Int)] w fun e w'=>e=ώ (.tuple #[.string (str t),.bool true])∧υ w w':=by
 have hpl:dN slot+80≤500:=yj
 have hrd:∀(W:World),υ w W→∀k:Nat,k<bS t→ς 46 #[.pointer (some ⟨p,0,none⟩),ι ((dN slot+k:Nat):Int)] W fun e w'=>e=ώ (.tuple #[.string (str (gW (oh t k))),ι 0])∧W=w':=fun W hW k hk=>by
  have:=NM (hD.ε hW (fun _ _ e=>e)) ((dN slot+k:Nat):Int);have e:d.read ((dN slot+k:Nat):Int)=(d.now (dN slot+k),0):=by
   unfold Dk.read Dk.there;rw[ho,ν sM,π iy];congr 1
  rw[e,ht k hk] at this;refine this.mono ?_;rintro e w' ⟨rfl,rfl⟩;exact⟨rfl,rfl⟩
 have hlk:∀W k,ς 47 #[.string (str (gW (oh t k)))] W fun e w'=>e=ώ (.tuple #[.string (str (oh t k)),ι 1])∧υ W w':=fun W k=>by
  have:=abN (str (gW (oh t k))) W (by rw[bR,gW,aN,II,pN];omega);rw[ZH t k n1 n2] at this;exact this
 have hpc:=fun (W:World) (k:Nat) (hk:k≤1000)=>aaK slot k h1 oM hk W
 have HR:=δ hrd;have HL:=δ hlk;have HP:=δ hpc;have HN:=τ n1 n2;clear hrd hlk hpc hD ht ho hl hpl;obtain⟨c,hc⟩:=μ w.heap.size;go_enter func182,ntmps182
 go_upto_region 2 with fail
 generalize bp:World.alloc _ _=w2;have aD:Lib.IsBuilder 139 5 c c (Lib.byteCells []) w2:=by
  refine .inl ⟨bO _,.slice none 0 0,?_,⟨rfl,.inl ⟨rfl,rfl⟩⟩,by simp[Value.ownBlock]⟩;rw[← bp,← hc];exact η.new w _ _
 have σ:Below c w w2:=by rw[← bp,← hc];exact(oT _ w).alloc (bO _) _
 have H2:=τ aD σ;have HC:=δ hc;clear aD σ bp hc;go_wp2_with fail
 go_loopw [7,8,9,10,11,12] (fun i n _ _ _ _ wr=>∃k:Nat,k≤bS t∧i=ι (k:Int)∧n=ι ((if k=0 then 1 else bS t:Nat):Int)∧Lib.IsBuilder 139 5 c c (Lib.byteCells (t.take (56*k))) wr∧Below c w wr) (fun i _ _ _ _ _ _=>200 - (intOf i).toNat)
 case atStart=>exact⟨0,oM,rfl,rfl,by simpa using H2.out.1,H2.out.2⟩
 case round =>
  obtain⟨k,hk,rfl,rfl,hB,hU⟩:=hrel;by_cases hlt:k<bS t
  ·have j1:(k:Int)<((if k=0 then 1 else bS t:Nat):Int):=by split<;>omega
   obtain⟨M,hM⟩:∃M:Int,((if k=0 then 1 else bS t:Nat):Int)=M:=⟨_,rfl⟩;rw[hM] at j1 ⊢;have kZ:υ w wr:=ζ.pM (by rw[HC.out];exact hU) _;have hbody:oh t k=UInt8.ofNat k::UInt8.ofNat (bS t)::UInt8.ofNat (kz t k).length::0::(kz t k++List.replicate (56 - (kz t k).length) 0):=rfl;have hpl:=Rs t k;have ef:=II t k;obtain⟨b,hb⟩:=μ (str (oh t k));have aos:=HL.out;have hsz:b.size=60:=by rw[← hb,bR];exact ef
   have g0:(b[0]'oM).toNat=k:=by
    have h:=qw b 0 oM;rw[← h,← hb,cA,hbody];simp
    omega
   have g1:(b[1]'oM).toNat=bS t:=by
    have h:=qw b 1 oM;rw[← h,← hb,cA,hbody];have:=HN.out;simp
    omega
   have g2:(b[2]'oM).toNat=(kz t k).length:=by
    have h:=qw b 2 oM;rw[← h,← hb,cA,hbody];simp
    omega
   have hex:(b.extract 4 (4+(kz t k).length)).data.toList=kz t k:=by
    rw[uc,cA,← hb,cA,hbody,rU];show List.take _ (kz t k++_)=_;rw[Md]
   obtain⟨PL,uX⟩:=μ (kz t k).length;obtain⟨SN,CG⟩:=μ (bS t);rw[uX] at g2 hex hpl;obtain⟨X,hX⟩:=μ (b.extract 4 (4+PL));rw[hX] at hex;have LF:X.size=PL:=by
    have:=aI List.length hex;rw[uX] at this;simpa using this
   have hM0:(Lib.byteCells (t.take (56*k))).length+X.size≤140737488355328:=by
    rw[Lib.byteCells_length,iW];have:=HN.out;omega
   have hcs:c≤wr.heap.size:=by rw[← HC.out];exact kZ.size
   have Um:=HR.out wr kZ k hlt;obtain⟨s64,aeB⟩:∃x,str (gW (oh t k))=x:=⟨_,rfl⟩;have OP:=fun W=>HL.out W k
   rw[aeB] at Um OP;rw[hb] at OP;have hpp:=HP.out wr k (oN HN.out.2);have cy:Lib.byteCells (t.take (56*k))++Lib.strCells X=Lib.byteCells (t.take (56*(k+1))):=by
    rw[ahm,hex,← ahn];unfold Lib.byteCells;rw[lq]
   have Qe:=δ hX;have qf:=δ hlt;have Lw:=δ Um;have Lt:=δ OP;have Po:=δ hpp;have HX:=p7 hB hU kZ cy hM0 hcs CG;have k0:(0:Int)<(b.size:Int):=oM;have k60:(b.size:Int)=60:=oM;have i0:0<b.size:=oM;have i1:1<b.size:=oM;have i2:2<b.size:=oM;have hne:((k:Int) != (k:Int))=false:=gZ
   rw[CG] at g1;have Qf:SN≤80:=by rw[← CG];exact HN.out.2
   clear hB hU kZ cy hM0 hcs Um OP hpp aeB hb hbody ef aos hX LF hex uX CG hlt;go_wp2_with fail
   refine Po.out.mono ?_;rintro e w3 ⟨rfl,rfl⟩;go_wp2_with fail
   refine Lw.out.mono ?_;rintro e w3 ⟨rfl,rfl⟩;go_wp2_with fail
   refine(Lt.out _).mono ?_;rintro e w4 ⟨rfl,au⟩;have H4:=δ au;clear au;go_wp2_with fail
   rw[Qe.out];refine(akV c c _ X w4 (IsBuilder.ε HX.out.1 H4.out) HX.out.2.2.2.2.1 (oO HX.out.2.2.2.2.2.1 H4.out.size)).mono ?_;rintro e w5 ⟨rfl,aK,ay⟩;have aeC:Below c w w5:=(HX.out.2.1.trans (((H4.out.below φ).mono HX.out.2.2.2.2.2.1))).trans ay;rw[HX.out.2.2.2.1] at aK;have H5:=τ aK aeC;clear aK aeC;go_wp2_with fail
   go_roundw
   case rel =>
    refine⟨k+1,qf.out,by go_num,?_,.inr H5.out.1,H5.out.2⟩;rw[ν (Nat.succ_ne_zero k),HX.out.2.2.2.2.2.2,show min (SN:Int) 80=(SN:Int) by omega]
   case measure=>simp[intOf]<;>omega
  ·obtain rfl:k=bS t:=oM
   have hM:((if bS t=0 then 1 else bS t:Nat):Int)=(bS t:Int):=by rw[ν (oN HN.out.1)]
   rw[hM];have ht:t.take (56*bS t)=t:=dV (by unfold bS;omega);rw[ht] at hB;have hst:=Tryz.Builder_String_any c c t wr hB (oO hU.size (show c≤w.heap.size by rw[HC.out];exact bO _));have gl:=δ hst;have HU:=δ hU;clear hst hU hB hM ht hlt hk;go_wp2_with fail
   refine gl.out.mono ?_;rintro e w6 ⟨rfl,aB⟩;have H6:=δ (HU.out.trans aB);clear aB;go_wp2_with fail
   go_ret2
   exact⟨rfl,ζ.pM (by rw[HC.out];exact H6.out) _⟩
end
end Go.Proofs.YtbhjgfibhegddaaGreat
