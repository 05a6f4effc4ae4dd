/-
  Parts of the proof of VaultFalls: OmapC, OmapD, Ring, Once, RingB, RingC, RingD, RingE, RingF, VatA.
-/
import Derived.Test.YtbhjgfibhegddaaGreatQVaultFalls14
import Derived.Defers
import Derived.Laws.LoneSync
import Derived.Laws.Pointers
import Derived.Lib.SlBytesConst
import Derived.RegionCalls
import Derived.RegionTactic
import Derived.StillTailTactics
set_option maxRecDepth 100000
set_option maxHeartbeats 16000000
namespace Go.Proofs.YtbhjgfibhegddaaGreat
open Tryz
section
open Go Go.RowKit
theorem zR {P:Prop} (h:P:=by first| rfl | kernel_rfl):P:=h
theorem Ud {P:Prop} (h:P:=by rw[← fk,← HG.out];exact η.new wr _ _):P:=h
theorem ajd {w:World} {b:Nat} {m:List (ByteArray × Value)} (h:cM uo w b m):(Builtin.len_ #[130] 3 #[.map (some b)]).run prog w=.ok (ι (m.length:Int)) w:=by
 obtain⟨es,clock,hb,-,hm⟩:=h;have hl:es.toList.length=m.length:=T8
 have hl2:es.size=m.length:=by simpa using hl
 rw[run_len_map w _ _ _ es clock kR hb,hl2];first| rfl | simp[goInt]
structure anB (w w':World) (m:Nat) (S:List ai) (l:List dn):Prop where
 no:fD S l≠0→υ w w'
 yes:fD S l=0→∃iU,gy w' m iU (cH S l)∧w.heap.size≤iU∧ζ (· = m) w w'
theorem aaH {S:List ai} {l:List dn} {k:Nat} (hk:k<l.length):cH S (l.take (k+1))=if l[k].kind=2 then rB l[k].path (cH S (l.take k)) else jJ l[k].path l[k].value (cH S (l.take k)):=by
 rw[ia hk];unfold cH;rw[List.foldl_append];rfl
theorem ZM {S:List ai} (h:gx S) (l:List dn):gx (cH S l):=by
 induction l generalizing S with
 | nil=>exact h
 | cons o r ih =>
   have e:cH S (o::r)=cH (if o.kind=2 then rB o.path S else jJ o.path o.value S) r:=rfl;rw[e];refine ih ?_;split
   ·exact Rl h
   ·exact C9 h
theorem RP (A:Option Addr) (n cap:Nat):prog.built 35 [(0,ι 1),(1,ι 1),(2,.slice A n cap)]=some (mm 1 1 (.slice A n cap)):=kR
theorem acv {w:World} {m mb:Nat} {S:List ai} (h:gy w m mb S) {A:Option Addr} {cap b off:Nat} {l:List dn} (hA:0<l.length→A=some ⟨b,off,none⟩) (hb:∀w',υ w w'→vB w' b off l) (hs:qo l) (hl:l.length≤1000000) :
 ς 36 #[.pointer (some ⟨m,0,none⟩),.slice A l.length cap] w fun e w'=>e=ώ (ι (fD S l))∧anB w w' m S l:=by
 have eX:=Nb (cap:=cap) (i:=1) (ep:=1) (w:=w) hA hb hs hl;by_cases eU:d_ 1 1 l=0
 ·rw[eU] at eX
  obtain⟨-,-,-,b4,b5⟩:=ue eU;have HE:Hid (fD S l=if 48<(cH S l).length then 6 else 0):=δ (by unfold fD;rw[ν (by simp[eU])]);have nS:=δ eX;have HB:=δ hb;have HX:=τ eU b5;have H:=δ h;have l4:(l.length:Int)≤4:=oM;clear eX hb hs eU b4 b5 h;go_enter func36,ntmps36
  go_upto_region 6 with (first
   |(refine qQ rfl _ _ rfl [(0,ι 1),(1,ι 1),(2,.slice A l.length cap)] _ zR (RP _ _ _) ?_)
   |(go_at_call 81
     refine nS.out.mono ?_;rintro e w1 ⟨rfl,az⟩;have H1:=τ (H.out.still az) az;clear az))
  obtain⟨aA,e1,e2⟩:=H1.out.1.map;have cv:=aaG e1;have cm:=H1.out.1.blk.dX;have mZ:=τ cv e2;clear cv e1 e2;obtain⟨c,hc⟩:=μ w1.heap.size;have HC:=δ hc;rw[hc] at mZ;have hmn:∀W:World,(binOp .eql 130 (.map (some c)) (.map none)).run prog W=.ok (.bool false) W:=fun W=>by first| rfl | kernel_rfl | simp[binOp,Op.equal,run_underlying underlying130]
  clear hc;go_wp2_with fail
  refine mZ.out.1.mono ?_;rintro e w2 ⟨rfl,hM2,σ⟩;have H2:=τ hM2 σ;clear hM2 σ cm;have OJ:=hmn w2;go_wp2_with fail
  go_loopw [8,27] (fun _ u wr=>∃(k:Nat) (es:List (ByteArray × Value)),k≤l.length∧u=ι (k:Int)∧cM uo wr c es∧qY es (cH S (l.take k))∧ζ (· = c) w2 wr) (fun _ u _=>l.length - (intOf u).toNat)
  case atStart=>exact⟨0,aA,oM,rfl,H2.out.1,mZ.out.2,ζ.refl _ _⟩
  case round =>
   obtain⟨k,es,hk,rfl,hM,hH,hU⟩:=hrel;by_cases hlt:k<l.length
   ·obtain rfl:=hA oM
    have B8:w.heap.size≤c:=by rw[← HC.out];exact H1.out.2.size
    have kZ:υ w wr:=(H1.out.2.then H2.out.2 φ).then hU (fun q e=>.inr (oE e));have hrow:=HB.out wr kZ k hlt;have mP:=HX.out.2 _ (eE hlt);have hst:=aaH (S:=S) hlt;obtain⟨o,ho⟩:=μ (l[k]);rw[ho] at hrow mP hst;obtain⟨x1,-,-,-,-⟩:=C6 mP;obtain⟨P,hP⟩:=μ (str o.path);obtain⟨V,hV⟩:∃P,str o.value=P:=⟨_,rfl⟩;obtain⟨Kb,rF⟩:∃K,o.kind=K:=⟨_,rfl⟩;have hrw:bY o=[ϋ (Kb.toNat:Int),.string P,.string V]:=by unfold bY;rw[hP,hV,rF]
    rw[hrw] at hrow;rw[rF] at x1 hst;have HR:=δ hrow;have HM:=aq hM hH hU;have HS:=aq hst hP hV;have GJ:=δ x1;have j1:(k:Int)<(l.length:Int):=oM;obtain⟨g,hg⟩:=μ wr.heap.size;have HG:=δ hg;clear hrow hM hH hU hst hP hV x1 mP ho rF hrw kZ B8;rcases GJ.out with rfl | rfl
    ·go_upto_region 12 with (first
      |(refine ve rfl _ _ rfl b (off+k*3) rfl [ϋ 1,.string P,.string V] _ HR.out underlying32 rfl kR ?_))
     generalize fk:World.alloc _ _=w5;have aK:η w5 g 32 #[ϋ 1,.string P,.string V]:=Ud
     have Aw:cM uo w5 c es:=by rw[← fk];exact HM.out.1.alloc _
     have ay:ζ (· = c) w2 w5:=by rw[← fk];exact HM.out.2.2.alloc _
     obtain⟨c0,c1,c2⟩:=aK.gd;have H5:=τ Aw ay;clear aK Aw ay fk hg;obtain⟨w6,N3,uS,aB,iT⟩:=H5.out.1.MH (P:=prog) FO underlying130 underlying9 P (.string V);have H6:=τ uS (H5.out.2.then aB (fun _ e=>.inl e));clear uS aB iT;have EC:=HM.out.2.1.bE HM.out.1.nodup (ZM H.out.ok.xX _) o.path o.value;rw[HS.out.2.1,HS.out.2.2] at EC;have V_:=δ EC;clear EC;go_wp2_with (first|(refine Ym rfl _ _ _ _ rfl rfl rfl rfl N3 ?_))
     go_roundw
     case rel=>exact⟨k+1,_,oM,by go_num,H6.out.1,by rw[HS.out.1,ν dC];exact V_.out,H6.out.2⟩
     case measure=>simp[intOf]<;>omega
    ·go_upto_region 12 with (first
      |(refine ve rfl _ _ rfl b (off+k*3) rfl [ϋ 2,.string P,.string V] _ HR.out underlying32 rfl kR ?_))
     generalize fk:World.alloc _ _=w5;have aK:η w5 g 32 #[ϋ 2,.string P,.string V]:=Ud
     have Aw:cM uo w5 c es:=by rw[← fk];exact HM.out.1.alloc _
     have ay:ζ (· = c) w2 w5:=by rw[← fk];exact HM.out.2.2.alloc _
     obtain⟨c0,c1,c2⟩:=aK.gd;have H5:=τ Aw ay;clear aK Aw ay fk hg;obtain⟨w6,N3,uS,aB,iT⟩:=H5.out.1.C7 (P:=prog) (ty:=0) FO underlying130 underlying9 P;have H6:=τ uS (H5.out.2.then aB (fun _ e=>.inl e));clear uS aB iT;have EC:=HM.out.2.1.aob o.path;rw[HS.out.2.1] at EC;have V_:=δ EC;clear EC;go_wp2_with (first|(refine My rfl _ _ _ _ rfl rfl rfl N3 ?_))
     go_roundw
     case rel=>exact⟨k+1,_,oM,by go_num,H6.out.1,by rw[HS.out.1,π rfl];exact V_.out,H6.out.2⟩
     case measure=>simp[intOf]<;>omega
   ·obtain rfl:k=l.length:=oM
    rw[sW] at hH;have HM:=aq hM hH hU;have pg:=ajd hM;have hle:es.length=(cH S l).length:=by have:=hH.length_eq;simpa using this
    rw[hle] at pg;have hok:=abO (i:=1) (e:=1) H.out.ok HX.out.1;clear hM hH hU hlt hk;have HMB:=τ hok hle;have jP:Hid (υ w1 wr):=δ (H2.out.2.then HM.out.2.2 (fun q e=>.inr (oF e HC.out)));have HUw:Hid (υ w wr):=δ (H1.out.2.then jP.out φ);clear hok hle;by_cases h48:(48:Int)<((cH S l).length:Int)
    ·have Cm:fD S l=6:=by rw[HE.out,π oM]
     have Ls:=δ Cm;clear Cm;go_wp2_with fail
     go_ret
     exact⟨by rw[Ls.out];rfl,fun _=>HUw.out,fun e=>by rw[Ls.out] at e;exact absurd e dC⟩
    ·have Cm:fD S l=0:=by rw[HE.out,ν oM]
     have Ls:=δ Cm;have hBm:=H1.out.1.blk.ε jP.out id;have cm:=hBm.dX;have fm:=hBm.frozen 0;have HBm:=δ hBm;clear Cm hBm;go_wp2_with fail
     go_ret
     refine⟨by rw[Ls.out];rfl,fun e=>absurd Ls.out e,fun _=>⟨c,⟨HBm.out.bE 0 _,⟨es,HM.out.1.b9 ?_ _,HM.out.2.1⟩,HMB.out.1 oM⟩,by rw[← HC.out];exact H1.out.2.size,(HUw.out.mono (G:=(· = m)) φ).setCell (p:=⟨m,0,none⟩) (.inl rfl) _⟩⟩;exact HM.out.1.f_ HBm.out
 ·have nS:=δ eX
  have HE:Hid (fD S l=d_ 1 1 l):=δ (by unfold fD;rw[π eU]);obtain⟨E,hE⟩:=μ (d_ 1 1 l);rw[hE] at eU nS HE;rw[HE.out];have k1:(E != 0)=true:=by simpa using eU
  have tH:=δ eU;clear eX hb hs hE eU h;go_enter func36,ntmps36
  go_wp2_with (first
   |(refine qQ rfl _ _ rfl [(0,ι 1),(1,ι 1),(2,.slice A l.length cap)] _ zR (RP _ _ _) ?_)
   |(go_at_call 81
     refine nS.out.mono ?_;rintro e w1 ⟨rfl,az⟩;have H1:=δ az;clear az))
  go_ret
  exact⟨rfl,fun _=>H1.out,fun e=>absurd (HE.out ▸ e) tH.out⟩
def Sz (w:World) (b off:Nat) (l:List ai):Prop:=∀i (h:i<l.length),w.rangeAt b (off+i*2) (bC l[i])
structure anC (w w':World) (l:List ai) (e:Ending):Prop where
 no:(fM l).2≠0→e=ώ (.tuple #[.pointer none,ι (fM l).2])
 yes:(fM l).2=0→∃m mb,e=ώ (.tuple #[.pointer (some ⟨m,0,none⟩),ι 0])∧gy w' m mb (fM l).1∧w.heap.size≤m∧w.heap.size≤mb
 ε:υ w w'
theorem SA {T r:List ai} {p:ai} (h:jF p.1=false∨32<p.2.length):lI T (p::r)=([],1):=by unfold lI;rw[π h]
theorem ZN {T r:List ai} {p:ai} (h:¬(jF p.1=false∨32<p.2.length)) (h2:(lT p.1 T).isSome=true):lI T (p::r)=([],5):=by unfold lI;rw[ν h,π h2]
theorem aaI {T r:List ai} {p:ai} (h:¬(jF p.1=false∨32<p.2.length)) (h2:(lT p.1 T).isSome=false):lI T (p::r)=lI (jJ p.1 p.2 T) r:=by
 conv=>lhs;unfold lI
 rw[ν h,ν (by rw[h2];simp)]
theorem aeo {P:Prop} (h:P:=by
 have OK:=δ (HP.out.2.2.2.2.symm.trans jI);clear jI;go_wp2_with fail
 go_ret2
 exact⟨fun _=>by rw[HR.out.1,OK.out];rfl,fun e=>by rw[HR.out.1,OK.out] at e;exact absurd e dC,HM.out.2.2.2.2.then H6.out.2 φ⟩):P:=h
theorem acw {w:World} {A:Option Addr} {cap b off:Nat} {l:List ai} (hA:0<l.length→A=some ⟨b,off,none⟩) (hb:∀w',υ w w'→Sz w' b off l) (hs:∀p ∈ l,p.1.length≤1000000∧p.2.length≤1000000) (hl:l.length≤1000000) :
 ς 75 #[.slice A l.length cap] w fun e w'=>anC w w' l e:=by
 by_cases h48:(48:Int)<(l.length:Int)
 ·have hR:fM l=([],6):=by unfold fM;rw[π oM]
  have HR:=δ hR;clear hb hs hA hR;go_enter func75,ntmps75
  go_wp2_with fail
  go_ret2
  exact⟨fun _=>by rw[HR.out];rfl,fun e=>by rw[HR.out] at e;exact absurd e dC,ζ.refl _ _⟩
 ·have hR:fM l=lI [] l:=by unfold fM;rw[ν oM]
  obtain⟨R,wM⟩:=μ (lI [] l);rw[wM] at hR;have HR:=τ hR wM;have HB:=δ hb;have HS:=δ hs;have HNW:=δ (fun W=>abP W);clear hb hs hR wM;go_enter func75,ntmps75
  go_wp2_with fail
  refine(HNW.out _).mono ?_;rintro e w1 ⟨m,mb,rfl,hM,hm,hmb,az⟩;have H1:=aF hM hm hmb az;clear hM hm hmb az;go_wp2_with fail
  go_loopw [6,7,8,9,10,11,18] (fun _ _ _ _ _ _ u wr=>∃(k:Nat) (T:List ai) (es:List (ByteArray × Value)),k≤l.length∧u=ι (k:Int)∧lI T (l.drop k)=R∧gx T∧cM uo wr mb es∧qY es T∧ζ (· = mb) w1 wr) (fun _ _ _ _ _ _ u _=>l.length - (intOf u).toNat)
  case atStart =>
   obtain⟨aA,e1,e2⟩:=H1.out.1.map;exact⟨0,[],aA,oM,rfl,HR.out.2,List.Pairwise.nil,e1,e2,ζ.refl _ _⟩
  case round =>
   obtain⟨k,T,es,hk,rfl,hE,hT,hM,hH,hU⟩:=hrel;have kZ:υ w wr:=H1.out.2.2.2.then hU (fun q e=>.inr (oF e H1.out.2.2.1));have P9:mb≠m:=by
    obtain⟨aA,e1,e2⟩:=H1.out.1.map;exact e1.f_ H1.out.1.blk
   by_cases hlt:k<l.length
   ·obtain rfl:=hA oM
    have hrow:=HB.out wr kZ k hlt;have gS:=HS.out _ (eE hlt);rw[vc hlt] at hE;obtain⟨p,hp⟩:=μ (l[k]);rw[hp] at hrow gS hE;obtain⟨P,hP⟩:=μ (str p.1);obtain⟨V,hV⟩:∃P,str p.2=P:=⟨_,rfl⟩;have lX:P.data.toList=p.1:=DC
    have sC:V.size=p.2.length:=JU
    have hrw:bC p=[.string P,.string V]:=by unfold bC;rw[hP,hV]
    rw[hrw] at hrow;have hcut:=fun W=>abw P (by rw[← hP,bR];exact gS.1) W
    rw[lX] at hcut;obtain⟨ca,hca⟩:∃a,str (nE p.1).1=a:=⟨_,rfl⟩;obtain⟨cb,hcb⟩:∃a,str (nE p.1).2.1=a:=⟨_,rfl⟩;obtain⟨B,hB⟩:=μ (jF p.1);rw[hca,hcb,hB] at hcut;have aon:=δ hcut;have Cw:=δ hrow;have HM:=cD hM hH hT hU kZ;have HP:=cD hP hV sC hB hE;have HN:=δ P9;have j1:(k:Int)<(l.length:Int):=oM;obtain⟨g,hg⟩:=μ wr.heap.size;have HG:=δ hg;clear hrow gS hE hP hV lX sC hrw hcut hca hcb hB hM hH hT hU kZ hp P9;go_upto_region 7 with (first
     |(refine ve rfl _ _ rfl b (off+k*2) rfl [.string P,.string V] _ Cw.out underlying55 rfl kR ?_))
    generalize fk:World.alloc _ _=w5;have aK:η w5 g 55 #[.string P,.string V]:=Ud
    have ay:υ wr w5:=by rw[← fk];exact(ζ.refl _ wr).alloc _
    obtain⟨c0,c1⟩:=aK.vA;have H5:=τ aK ay;clear aK ay fk hg;go_wp2_with fail
    refine(aon.out _).mono ?_;rintro e w6 ⟨rfl,aB⟩;obtain⟨c0,c1⟩:=(H5.out.1.ε aB id).vA;have rE:=H5.out.2.then aB φ;have H6:=τ (H5.out.1.ε aB id) rE;clear aB rE;cases B
    ·have jI:=SA (T:=T) (r:=l.drop (k+1)) (p:=p) (.inl HP.out.2.2.2.1)
     exact aeo
    ·by_cases h32:(32:Int)<(V.size:Int)
     ·have jI:=SA (T:=T) (r:=l.drop (k+1)) (p:=p) (.inr (oN HP.out.2.2.1))
      exact aeo
     ·have JH:¬(jF p.1=false∨32<p.2.length):=by
       have:=HP.out.2.2.1;rw[HP.out.2.2.2.1];simp
       omega
      have HGD:=δ JH;have uS:=HM.out.1.ε H6.out.2 id;have cm:=(H1.out.1.blk.ε (HM.out.2.2.2.1.then H6.out.2 φ) (fun e=>HN.out e.symm)).dX;have hz:∀W:World,(zeroValue 9).run prog W=.ok (.string ByteArray.empty) W:=fun W=>by simp[go_sem];rfl
      have hlk:∀n,(Instr.lookup 130 (.map (some mb)) (.string P) true).run prog (w6.drewN n)=.ok (.tuple #[((lT p.1 T).map fun v=>Value.string (str v)).getD (.string ByteArray.empty),.bool (lT p.1 T).isSome]) (w6.drewN n):=fun n=>by
       have h:=(uS.ε ((ζ.refl (fun _=>False) w6).drewN n) id).IP (P:=prog) FO underlying130 underlying9 P true (hz _);have hgt:=HM.out.2.1.T5 HM.out.1.nodup HM.out.2.2.1 p.1;rw[HP.out.1] at hgt;rw[hgt,π rfl,Option.isSome_map] at h;exact h
      obtain⟨GV,hGV⟩:∃G,((lT p.1 T).map fun v=>Value.string (str v)).getD (.string ByteArray.empty)=G:=⟨_,rfl⟩;obtain⟨GB,Wa⟩:∃G,(lT p.1 T).isSome=G:=⟨_,rfl⟩;rw[hGV,Wa] at hlk;have PW:=δ Wa;have HM6:=τ uS hlk;clear JH uS hz hlk hGV Wa;go_upto_region 10 with fail
      have hlk:=HM6.out.2;go_quiet (fail)
      go_upto_region 11 with fail
      have Wb:=HM6.out.1.ε ((ζ.refl (fun _=>False) w6).drewN nq) id;have bI:=H6.out.2.drewN nq;have dI:=H6.out.1.drewN nq;generalize wg:World.drewN w6 nq=w7 at Wb bI dI ⊢;have H7:=aq Wb bI dI;clear wg hlk Wb bI dI c0 c1 cm;cases GB
      ·have cy:=aaI (T:=T) (r:=l.drop (k+1)) (p:=p) HGD.out PW.out
       have hcm:=H1.out.1.blk.ε (HM.out.2.2.2.1.then H7.out.2.1 φ) (fun e=>HN.out e.symm);have cm:=hcm.dX;obtain⟨c0,c1⟩:=H7.out.2.2.vA;obtain⟨w8,anD,hM8,cT,kX⟩:=(H7.out.1.drew).MH (P:=prog) FO underlying130 underlying9 P (.string V);have Wc:=HM.out.2.1.bE HM.out.1.nodup HM.out.2.2.1 p.1 p.2;rw[HP.out.1,HP.out.2.1] at Wc;have H8:=aF hM8 Wc ((HM.out.2.2.2.1.then H7.out.2.1.drew φ).then cT (fun _ e=>.inl e)) cy;clear cy hcm hM8 cT kX Wc;go_upto_region 13 with fail
       go_still_tail 8,kR
       change wpList _ _ _ _ _ w7.drew;go_wp2_with (first|(refine Ym rfl _ _ _ _ rfl rfl rfl rfl anD ?_))
       go_roundw
       case rel=>exact⟨k+1,jJ p.1 p.2 T,_,oM,by go_num,by rw[← H8.out.2.2.2];exact HP.out.2.2.2.2,C9 HM.out.2.2.1,H8.out.1,H8.out.2.1,H8.out.2.2.1⟩
       case measure=>simp[intOf]<;>omega
      ·have Ax:=ZN (T:=T) (r:=l.drop (k+1)) (p:=p) HGD.out PW.out
       have ED:=δ (HP.out.2.2.2.2.symm.trans Ax);clear Ax;go_wp2_with fail
       go_ret2
       exact⟨fun _=>by rw[HR.out.1,ED.out];rfl,fun e=>by rw[HR.out.1,ED.out] at e;exact absurd e dC,HM.out.2.2.2.2.then H7.out.2.1 φ⟩
   ·obtain rfl:k=l.length:=oM
    rw[qj (bO _)] at hE;have iP:R=(T,0):=by rw[← hE];rfl
    have HM:=iw hM hH hU kZ iP P9;clear hM hH hU kZ hE iP hlt hk P9;go_wp2_with fail
    go_ret2
    refine⟨fun e=>absurd (show (fM l).2=0 by rw[HR.out.1,HM.out.2.2.2.2.1]) e,fun e=>⟨m,mb,rfl,⟨H1.out.1.blk.ε HM.out.2.2.1 (fun e=>HM.out.2.2.2.2.2 e.symm),⟨es,HM.out.1,?_⟩,SY e⟩,H1.out.2.1,H1.out.2.2.1⟩,HM.out.2.2.2.1⟩;rw[HR.out.1,HM.out.2.2.2.2.1];exact HM.out.2.1
theorem J9 {P:Prop} (h:P:=by rw[← hK];exact vo _ _):P:=h
theorem am0 (aV:ByteArray) (i:Nat) (hi:i≤1048576) (hm:aV.size≤64) (w:World) :
 ς 167 #[.string aV,ι (i:Int)] w fun e w'=>e=ώ (.agg (aj (kP aV.data.toList i)))∧υ w w':=by
 obtain⟨g,hg⟩:=μ w.heap.size;have HG:=δ hg;have ei:IntKind.u64.wrap (i:Int)=(i:Int):=Ja i oM;obtain⟨B,hB⟩:=μ (([114,105,110,103]:List UInt8)++jw i 8);have hBl:B.length=12:=by rw[← hB,aN,vu];rfl
 obtain⟨K,hK⟩:=μ (sn aV.data.toList B);have qJ:K.length=32:=J9
 have uT:kP aV.data.toList i=K:=by unfold kP;rw[hB,hK]
 rw[uT];have Ep:=fun W=>Td aV (str B) W hm DF
 rw[cA,hK] at Ep;have GQ:=δ Ep;have HX:=aq hB qJ uT;clear hi hm hB hBl hK qJ uT Ep;go_enter func167,ntmps167
 go_upto_region 1 with (fail)
 generalize bp:World.alloc _ _=w2;have hr2:η w2 g 194 (aj (List.replicate 32 0)):=DG
 have σ:υ w w2:=yb
 have a_:=τ hr2 σ;clear hr2 σ bp hg;obtain⟨q,hq⟩:=μ w2.heap.size;have HQ:=δ hq;have hcv:=Lib.run_convert_bytes_const (P:=prog) w2 89 5 #[ϋ 114,ϋ 105,ϋ 110,ϋ 103] 4 4 underlying89 underlying5;rw[hq] at hcv;go_upto_region 2 with (first
  |(go_at_call 215
    generalize iz:World.alloc _ _=w3;have lY:Own w3 5 1 (.slice (some ⟨q,0,none⟩) 4 4) 4 (aO [114,105,110,103]):=by
     refine⟨rfl,.inr ⟨q,4,#[ϋ 114,ϋ 105,ϋ 110,ϋ 103],(4,5),rfl,?_,.inr dC,dC,dC,rfl,rfl⟩⟩;rw[← iz,← hq];exact AP w2 _
    have l6:υ w2 w3:=Ou
    refine(ag1 _ 4 _ i 8 w3 lY dC dC).mono ?_;rintro e w4 ⟨v4,rfl,qc,au,nN⟩;rw[← rW,HX.out.1] at qc;have uL:υ w2 w4:=l6.then au (fun b hb=>.inr (by simp[Value.ownBlock] at hb;have:=HQ.out;omega));have kW:=aq qc (a_.out.1.ε uL id) (a_.out.2.then uL φ);clear iz lY l6 au nN uL hcv qc hq))
 have hcs:=xE kW.out.1;go_wp2_with (first
  |(go_at_call 212
    refine(GQ.out _).mono ?_;rintro e w5 ⟨rfl,ay⟩;have Eu:=τ (kW.out.2.1.ε ay id) (kW.out.2.2.then ay φ);clear ay hcs)
  |(refine fG rfl 194 _ _ rfl g (aj K) rfl rfl _ _ Eu.out.1 (by rw[bX,bX,HX.out.2.1];rfl) (mI _) (by rw[bX,HX.out.2.1];kernel_rfl) ?_
    intro w6 cY aB iT))
 refine cJ (jU rfl _ _ g _ _ _ _ rfl cY underlying194 rfl (by rw[bX,HX.out.2.1];kernel_rfl)) rfl ⟨rfl,Eu.out.2.then aB (fun b hb=>.inr (oF hb HG.out))⟩
theorem alW (b off:Nat) (x:Int) (w:World) (hc:w.cell? ⟨b,off,none⟩=some (ω x)) :
 ς 106 #[.pointer (some ⟨b,off,none⟩)] w fun e w'=>e=ώ (ω x)∧w'=w:=by
 have hl:=run_call_load (P:=prog) func161 kR kR kR .u64 kR hc;go_enter func106,ntmps106
 go_wp2
 go_ret
 exact⟨rfl,rfl⟩
theorem abR (b off:Nat) (x:Nat) (hx:x<18446744073709551615) (w:World) (hc:w.cell? ⟨b,off,none⟩=some (ω (x:Int))) (hz:w.frozen? ⟨b,off,none⟩=false) :
 ς 110 #[.pointer (some ⟨b,off,none⟩),ω 1] w fun e w'=>e=ώ (ω ((x+1:Nat):Int))∧w'=w.setCell ⟨b,off,none⟩ (ω ((x+1:Nat):Int)):=by
 have hw:=Ja (x+1) oM;have ju:=run_call_add (P:=prog) func169 kR kR kR .u64 kR (y:=1) (s:=((x+1:Nat):Int)) hc hz (by simp[go_sem];first| exact hw |(push_cast at hw ⊢;exact hw)|(simp at hw;exact hw));clear hw;go_enter func110,ntmps110
 go_wp2
 go_ret
 exact⟨rfl,rfl⟩
theorem aaJ (w:World):(callFunc 294 #[]).run prog w=.ok (.value (.tuple #[])) w:=run_call_mark0 func294 kR kR kR .disable kR w
theorem abf (w:World):(callFunc 296 #[]).run prog w=.ok (.value (.tuple #[])) w:=run_call_mark0 func296 kR kR kR .enable kR w
theorem akO (a:Addr) (w:World):(callFunc 297 #[.pointer (some a)]).run prog w=.ok (.value (.tuple #[])) w:=run_call_marked func297 kR kR kR .acquire kR a w
theorem akP (a:Addr) (w:World):(callFunc 299 #[.pointer (some a)]).run prog w=.ok (.value (.tuple #[])) w:=run_call_marked func299 kR kR kR .releaseMerge kR a w
theorem SB (a:Addr) (x:Bool) (w:World) (hc:w.cell? a=some (.int .u32 (if x then 1 else 0))) :
 ς 213 #[.pointer (some a)] w fun e w'=>e=ώ (.bool x)∧w'=w:=by
 have hl:=run_call_load (P:=prog) func250 kR kR kR .u32 kR hc;cases x
 ·go_enter func213,ntmps213
  go_wp2
  go_ret
  exact⟨rfl,rfl⟩
 ·go_enter func213,ntmps213
  go_wp2
  go_ret
  exact⟨rfl,rfl⟩
theorem akQ (a:Addr) (x:Value) (u:FrameMode) (w:World) (hc:w.cell? a=some x) (hz:w.frozen? a=false) :
 CallsD prog 253 #[.pointer (some a),.bool true] u w fun e u' w'=>u'=u∧(e=ώ (.tuple #[])∧w'=w.drew.setCell a (.int .u32 1)):=by
 have Wd:w.drew.cell? a=some x:=by go_simp
 have hz':w.drew.frozen? a=false:=by go_simp
 have hst:=run_call_store (P:=prog) func280 kR kR kR kR (k:=.u32) (y:=1) Wd hz';go_enter_d func253,ntmps253
 go_wp2
 go_region_calls
 all_goals (go_end0;exact⟨rfl,rfl⟩)
theorem aje (a:Addr) (u:FrameMode) (w:World) (hc:w.cell? a=some (.int .i32 1)) (hz:w.frozen? a=false) :
 CallsD prog 252 #[.pointer (some a)] u w fun e u' w'=>u'=u∧(e=ώ (.tuple #[])∧w'=w.setCell a (.int .i32 0)):=by
 have hd:=aaJ;have he:=abf;have hr:=akP;have ju:=run_call_add (P:=prog) func300 kR kR kR .i32 kR (y:=-1) (s:=0) hc hz (by simp[go_sem];rfl)
 have hcv:=run_convert_to_unsafe (P:=prog) (src:=385) (dst:=296) underlying385 underlying296 kR hc;go_enter_d func252,ntmps252
 go_wp2
 go_end0
 go_wp2
 go_end0
 exact⟨rfl,rfl⟩
theorem alX (a:Addr) (w:World) (hc:w.cell? a=some (.int .i32 0)) (hz:w.frozen? a=false) :
 ς 251 #[.pointer (some a)] w fun e w'=>e=ώ (.tuple #[])∧w'=w.setCell a (.int .i32 1):=by
 have hd:=aaJ;have he:=abf;have ha:=akO;have apk:=run_call_cas_hit (P:=prog) func295 kR kR kR .i32 kR (y:=1) hc hz;have Wd:(w.setCell a (.int .i32 1)).cell? a=some (.int .i32 1):=World.cell?_setCell_same w a _ hc;have hcv:=run_convert_to_unsafe (P:=prog) (src:=385) (dst:=296) underlying385 underlying296 kR Wd;go_enter func251,ntmps251
 go_wp2
 first| go_end0 |(simp only[Exit.inBlock,Exit.then];refine cJ (results_none rfl _ _ _) rfl ?_)| refine cJ (results_none rfl _ _ _) rfl ?_
 go_wp2
 go_end0
 exact⟨rfl,rfl⟩
def i6 (d m:Int) (z:List UInt8):Array Value:=([Value.int .u32 d,.int .i32 m,.int .u32 0]++aO z).toArray
theorem Yx (d m:Int) {z:List UInt8} (h:z.length=32):(i6 d m z).size=35:=by simp[i6,aO,h]
theorem ahk {d m:Int} {z K:List UInt8} (hz:z.length=32) (hK:K.length=32):(i6 d m z).toList.take 3++(aj K).toList++(i6 d m z).toList.drop (3+(aj K).size)=(i6 d m K).toList:=by
 rw[bX,hK];have h1:(i6 d m z).toList.drop (3+32)=[]:=qj (by rw[xo,Yx d m hz];decide)
 rw[h1,y7];rfl
theorem Yy (d m:Int) (z:List UInt8):∀j v,(aO z)[j]? = some v→(i6 d m z)[3+j]? = some v:=by
 intro j v h;unfold i6;rw[IB,mG sM];rw[show 3+j - [Value.int .u32 d,.int .i32 m,.int .u32 0].length=j by simp];exact h
theorem am1 {w:World} {a b c r sb i:Nat} {ta tb tc:TypeId} {aV:ByteArray} {v1 v2 v3 v4:Value} {z:List UInt8} {d m:Int} (ha:η w a ta #[.pointer (some ⟨r,0,none⟩)]) (hb:η w b tb #[ι (i:Int)]) (hc:η w c tc #[.pointer (some ⟨sb,0,none⟩)])
 (hr:η w r 186 #[.string aV,v1,v2,v3,v4]) (hs:η w sb 269 (i6 d m z)) (hz:z.length=32) (hi:i≤1048576) (hm:aV.size≤64) :
 ς 166 #[.pointer (some ⟨a,0,none⟩),.pointer (some ⟨b,0,none⟩),.pointer (some ⟨c,0,none⟩)] w fun e w'=>e=ώ (.tuple #[])∧η w' sb 269 (i6 d m (kP aV.data.toList i))∧ζ (· = sb) w w':=by
 obtain⟨K,hK⟩:=μ (kP aV.data.toList i);have qJ:K.length=32:=J9
 have hkc:=fun W=>am0 aV i hi hm W
 rw[hK] at hkc ⊢;have HKC:=δ hkc;have HX:=τ qJ (ahk (d:=d) (m:=m) hz qJ);have HB:=cD ha hb hc hr hs;have HZ:=δ (Yx d m hz);clear hK qJ hkc ha hb hc hr hs hz hi hm;go_enter func166,ntmps166
 refine dW ?_;refine eo (S:=fun w'=>υ w w') (T:=fun k=>k == 9) kR ?_;have aE:=(ζ.refl (fun _=>False) w).drew;refine aX 0 (fun w' hSw=>And.intro (HB.out.1.ε hSw id).dX (And.intro (HB.out.2.1.ε hSw id).dX (And.intro (HB.out.2.2.1.ε hSw id).dX (show w'.cell? ⟨r,0,none⟩=some (.string aV) from (HB.out.2.2.2.1.ε hSw id).cell 0)))) ?_;refine aX 1 (fun w' hSw=>And.intro (HB.out.1.ε hSw id).dX (And.intro (HB.out.2.1.ε hSw id).dX (And.intro (HB.out.2.2.1.ε hSw id).dX (show w'.cell? ⟨r,0,none⟩=some (.string aV) from (HB.out.2.2.2.1.ε hSw id).cell 0)))) ?_;refine aX 2 (fun w' hSw=>And.intro (HB.out.1.ε hSw id).dX (And.intro (HB.out.2.1.ε hSw id).dX (And.intro (HB.out.2.2.1.ε hSw id).dX (show w'.cell? ⟨r,0,none⟩=some (.string aV) from (HB.out.2.2.2.1.ε hSw id).cell 0)))) ?_;refine aX 3 (fun w' hSw=>And.intro (HB.out.1.ε hSw id).dX (And.intro (HB.out.2.1.ε hSw id).dX (And.intro (HB.out.2.2.1.ε hSw id).dX (show w'.cell? ⟨r,0,none⟩=some (.string aV) from (HB.out.2.2.2.1.ε hSw id).cell 0)))) ?_;refine aX 4 (fun w' hSw=>And.intro (HB.out.1.ε hSw id).dX (And.intro (HB.out.2.1.ε hSw id).dX (And.intro (HB.out.2.2.1.ε hSw id).dX (show w'.cell? ⟨r,0,none⟩=some (.string aV) from (HB.out.2.2.2.1.ε hSw id).cell 0)))) ?_
 refine aX 5 (fun w' hSw=>And.intro (HB.out.1.ε hSw id).dX (And.intro (HB.out.2.1.ε hSw id).dX (And.intro (HB.out.2.2.1.ε hSw id).dX (show w'.cell? ⟨r,0,none⟩=some (.string aV) from (HB.out.2.2.2.1.ε hSw id).cell 0)))) ?_;refine bf 6 (fun KK hK=>?_);go_simp
 refine(HKC.out _).mono ?_;rintro e w4 ⟨rfl,au⟩;have dH:=aE.then au φ;refine hK.out _ _ dH ?_;clear hK au;refine ξ 7 ?_;refine ξ 8 ?_;refine lG 9 (fun KK hK=>?_);refine Yr ak 194 _ _ ak sb 3 (aj K) ak ak _ _ (i6 d m K) (HB.out.2.2.2.2.ε dH id) (by rw[bX,HX.out.1,HZ.out];decide) HX.out.2 (mI _) (by rw[bX,HX.out.1];kernel_rfl) ?_
 intro w5 aK ay iQ;refine hK.out _ _ ?_;refine dY ?_;refine dz ?_;have HF:=τ aK ((dH.mono (G:=(· = sb)) φ).then ay (fun _ e=>.inl e));clear aK ay iQ hK aE dH;go_wp2_with fail
 go_end0
 exact⟨rfl,HF.out⟩
theorem ZO (d m m2:Int) (z:List UInt8):(i6 d m z).setIfInBounds 1 (.int .i32 m2)=i6 d m2 z:=by unfold i6;rw[jW];rfl
theorem ajf (d d2 m:Int) (z:List UInt8):(i6 d m z).setIfInBounds 0 (.int .u32 d2)=i6 d2 m z:=by unfold i6;rw[jW];rfl
theorem am2 {w:World} {a b c r sb i:Nat} {ta tb tc:TypeId} {aV:ByteArray} {v1 v2 v3 v4:Value} {z:List UInt8} (ha:η w a ta #[.pointer (some ⟨r,0,none⟩)]) (hb:η w b tb #[ι (i:Int)]) (hc:η w c tc #[.pointer (some ⟨sb,0,none⟩)])
 (hr:η w r 186 #[.string aV,v1,v2,v3,v4]) (hs:η w sb 269 (i6 0 0 z)) (hz:z.length=32) (hi:i≤1048576) (hm:aV.size≤64) (na:a≠sb) (nb:b≠sb) (nc:c≠sb) (nr:r≠sb) :
 ς 214 #[.pointer (some ⟨sb,0,none⟩),.func (.func 166) #[] #[.pointer (some ⟨a,0,none⟩),.pointer (some ⟨b,0,none⟩),.pointer (some ⟨c,0,none⟩)]] w fun e w'=>e=ώ (.tuple #[])∧η w' sb 269 (i6 1 0 (kP aV.data.toList i))∧ζ (· = sb) w w':=by
 obtain⟨w1,hw1⟩:=μ (w.setCell ⟨sb,1,none⟩ (.int .i32 1));have hs1:η w1 sb 269 (i6 0 1 z):=by rw[← hw1,← ZO 0 0 1 z];exact hs.bE 1 _
 have sK:ζ (· = sb) w w1:=by rw[← hw1];exact(ζ.refl (· = sb) w).setCell (p:=⟨sb,1,none⟩) (.inl rfl) _
 have hlk:=alX ⟨sb,1,none⟩ w (hs.cell 1) (hs.frozen 1);rw[hw1] at hlk;have ef:=SB ⟨sb,0,none⟩ false w1 (hs1.cell 0);have hk1:=am1 (ha.ε sK na) (hb.ε sK nb) (hc.ε sK nc) (hr.ε sK nr) hs1 hz hi hm;have Lt:=δ hlk;have sD:=δ ef;have HK1:=δ hk1;have lJ:=δ sK;have hnot:∀(x:Bool) (w:World),(Op.unary .not (.bool x)).run prog w=.ok (.bool (!x)) w:=fun _ _=>rfl
 clear hw1 hs1 sK hlk ef hk1 ha hb hc hr hs hz hi hm na nb nc nr;go_enter_defers func214,ntmps214
 go_wp2_with (first
  |(go_at_call 251
    refine Lt.out.mono ?_;rintro e w' ⟨rfl,rfl⟩)
  |(go_at_call 213
    refine sD.out.mono ?_;rintro e w' ⟨rfl,rfl⟩)
  |(go_at_call 166
    refine HK1.out.mono ?_;rintro e w2 ⟨rfl,aD,σ⟩;have H2:=τ aD (lJ.out.then σ (fun _ e=>.inl e));clear aD σ))
 have hc0:=H2.out.1.cell 0;have Eb:=H2.out.1.frozen 0;obtain⟨w3,iz⟩:=μ (w2.drew.setCell ⟨sb,0,none⟩ (.int .u32 1));have fF:η w3 sb 269 (i6 1 1 (kP aV.data.toList i)):=by rw[← iz,← ajf 0 1 1];exact H2.out.1.drew.bE 0 _
 have l6:ζ (· = sb) w w3:=by rw[← iz];exact H2.out.2.drew.setCell (p:=⟨sb,0,none⟩) (.inl rfl) _
 obtain⟨w4,Cl⟩:=μ (w3.setCell ⟨sb,1,none⟩ (.int .i32 0));have hs4:η w4 sb 269 (i6 1 0 (kP aV.data.toList i)):=by rw[← Cl,← ZO 1 1 0];exact fF.bE 1 _
 have uL:ζ (· = sb) w w4:=by rw[← Cl];exact l6.setCell (p:=⟨sb,1,none⟩) (.inl rfl) _
 refine leaves_cons (f:=253) (args:=#[.pointer (some ⟨sb,0,none⟩),.bool true]) sM (by simp[go_sem]) ?_;refine(akQ ⟨sb,0,none⟩ _ .returning _ hc0 Eb).mono ?_;rintro e u' w'' ⟨rfl,rfl,rfl⟩;rw[iz];refine leaves_cons (f:=252) (args:=#[.pointer (some ⟨sb,1,none⟩)]) (by simp[settle]) (by simp[go_sem]) ?_;refine(aje ⟨sb,1,none⟩ _ _ (fF.cell 1) (fF.frozen 1)).mono ?_;rintro e u' w'' ⟨rfl,rfl,rfl⟩;rw[Cl];simp[Leaves,settle,results,results214]
 exact⟨hs4,uL⟩
theorem ahZ {w:World} {a b c r sb i:Nat} {ta tb tc:TypeId} {aV:ByteArray} {v1 v2 v3 v4:Value} {z:List UInt8} (ha:η w a ta #[.pointer (some ⟨r,0,none⟩)]) (hb:η w b tb #[ι (i:Int)]) (hc:η w c tc #[.pointer (some ⟨sb,0,none⟩)])
 (hr:η w r 186 #[.string aV,v1,v2,v3,v4]) (hs:η w sb 269 (i6 0 0 z)) (hz:z.length=32) (hi:i≤1048576) (hm:aV.size≤64) (na:a≠sb) (nb:b≠sb) (nc:c≠sb) (nr:r≠sb) :
 ς 165 #[.pointer (some ⟨sb,0,none⟩),.func (.func 166) #[] #[.pointer (some ⟨a,0,none⟩),.pointer (some ⟨b,0,none⟩),.pointer (some ⟨c,0,none⟩)]] w fun e w'=>e=ώ (.tuple #[])∧η w' sb 269 (i6 1 0 (kP aV.data.toList i))∧ζ (· = sb) w w':=by
 have pn:=δ (am2 ha hb hc hr hs hz hi hm na nb nc nr);have sD:=δ (SB ⟨sb,0,none⟩ false w (hs.cell 0));have hnot:∀(x:Bool) (w:World),(Op.unary .not (.bool x)).run prog w=.ok (.bool (!x)) w:=fun _ _=>rfl
 clear ha hb hc hr hs hz hi hm na nb nc nr;go_enter func165,ntmps165
 go_wp2_with (first
  |(go_at_call 214
    refine pn.out.mono ?_;rintro e w2 ⟨rfl,aD,σ⟩;have H2:=τ aD σ;clear aD σ)
  |(go_at_call 213
    refine sD.out.mono ?_;rintro e w' ⟨rfl,rfl⟩))
 go_end0
 exact⟨rfl,H2.out⟩
theorem ajg {w:World} {sb:Nat} {z:List UInt8} {fv:Value} (hs:η w sb 269 (i6 1 0 z)) :
 ς 165 #[.pointer (some ⟨sb,0,none⟩),fv] w fun e w'=>e=ώ (.tuple #[])∧w'=w:=by
 have sD:=δ (SB ⟨sb,0,none⟩ true w (hs.cell 0));have hnot:∀(x:Bool) (w:World),(Op.unary .not (.bool x)).run prog w=.ok (.bool (!x)) w:=fun _ _=>rfl
 clear hs;go_enter func165,ntmps165
 go_wp2_with (first
  |(go_at_call 213
    refine sD.out.mono ?_;rintro e w' ⟨rfl,rfl⟩))
 go_end0
 exact⟨rfl,rfl⟩
theorem OL {P:Prop} (h:P:=by rw[bX,Hf.out];kernel_rfl):P:=h
def Bh (e:Int × Nat):Int × Value:=(e.1,.pointer (some ⟨e.2,0,none⟩))
structure b_ (F:Nat→Prop) (w0 w:World) (r:Nat) (aV:ByteArray) (cur κ n kb:Nat) (aA:List (Int × Nat)):Prop where
 blk:η w r 186 #[.string aV,ι (cur:Int),.int .u32 (κ:Int),ω (n:Int),.map (some kb)]
 map:cM (fun i:Int=>Value.int .i64 i) w kb (aA.map Bh)
 slots:∀e ∈ aA,η w e.2 269 (i6 1 0 (kP aV.data.toList e.1.toNat))
 new:F r∨w0.heap.size≤r
 DP:F kb∨w0.heap.size≤kb
 Gr:∀e ∈ aA,F e.2∨w0.heap.size≤e.2
 ε:ζ F w0 w
theorem b_.still {F:Nat→Prop} {w0 w w':World} {r:Nat} {aV:ByteArray} {cur κ n kb:Nat} {aA:List (Int × Nat)} (h:b_ F w0 w r aV cur κ n kb aA) (hu:υ w w'):b_ F w0 w' r aV cur κ n kb aA :=
 ⟨h.blk.ε hu id,h.map.ε hu id,fun e he=>(h.slots e he).ε hu id,h.new,h.DP,h.Gr,h.ε.then hu φ⟩
theorem ZP {aA:List (Int × Nat)} {i:Int} : oB (aA.map Bh) i=none∨∃e ∈ aA,e.1=i∧oB (aA.map Bh) i=some (.pointer (some ⟨e.2,0,none⟩)):=by
 unfold oB;cases hf:(aA.map Bh).find? (fun p=>decide (p.1=i)) with
 | none=>exact .inl rfl
 | some p =>
   obtain⟨e,he,rfl⟩:=cu.1 (List.mem_of_find?_eq_some hf);exact .inr ⟨e,he,by have h:=List.find?_some hf;exact of_decide_eq_true h,rfl⟩
theorem ah0:prog.built 269 []=some (i6 0 0 (List.replicate 32 0)):=kR
theorem ZQ {F:Nat→Prop} {w0 w:World} {r:Nat} {aV:ByteArray} {cur κ n kb:Nat} {aA:List (Int × Nat)} (h:b_ F w0 w r aV cur κ n kb aA) (i:Nat) (hi:i≤1048576) (hm:aV.size≤64) :
 ς 108 #[.pointer (some ⟨r,0,none⟩),ι (i:Int)] w fun e w'=>e=ώ (.agg (aj (kP aV.data.toList i)))∧∃fU,b_ F w0 w' r aV cur κ n kb fU:=by
 obtain⟨g,hg⟩:=μ w.heap.size;have HG:=δ hg;have HH:=δ h;have HI:=τ hi hm;obtain⟨K,hK⟩:=μ (kP aV.data.toList i);have qJ:K.length=32:=J9
 rw[hK];have HK:=δ hK;have Hf:=δ qJ;clear h hi hm hK qJ;go_enter func108,ntmps108
 go_upto_region 1 with (fail)
 generalize bp:World.alloc _ _=w2;have GM:η w2 g 111 #[.pointer (some ⟨r,0,none⟩)]:=TU
 have bM:η w2 (g+1) 3 #[ι (i:Int)]:=by
  have h:=(η.new (w.alloc (.cells #[.pointer (some ⟨r,0,none⟩)] 111)) 3 #[ι (i:Int)]).alloc (.cells (aj (List.replicate 32 0)) 194);rw[dx,hg] at h;rw[← bp];exact h
 have hc2:η w2 (g+1+1) 194 (aj (List.replicate 32 0)):=by
  have h:=η.new ((w.alloc (.cells #[.pointer (some ⟨r,0,none⟩)] 111)).alloc (.cells #[ι (i:Int)] 3)) 194 (aj (List.replicate 32 0));rw[dx,dx,hg] at h;rw[← bp];exact h
 have σ:υ w w2:=TV
 have aY:w2.heap.size=g+3:=by rw[← bp,dx,dx,dx,hg]
 have a_:=cD GM bM hc2 (HH.out.still σ) aY;have jP:=δ σ;clear GM bM hc2 σ bp hg aY;obtain⟨q,hq⟩:=μ w2.heap.size;have HQ:=δ (show q=g+3 by rw[← hq];exact a_.out.2.2.2.2);refine dW ?_;refine eo (S:=fun w'=>υ w2 w') (T:=fun _=>false) kR ?_;have aE:=(ζ.refl (fun _=>False) w2).drew;refine aX 0 (fun w' hSw=>And.intro (a_.out.1.ε hSw id).dX (And.intro (a_.out.2.1.ε hSw id).dX (show w'.cell? ⟨r,4,none⟩=some (.map (some kb)) from (a_.out.2.2.2.1.blk.ε hSw id).cell 4))) ?_;refine aX 1 (fun w' hSw=>And.intro (a_.out.1.ε hSw id).dX (And.intro (a_.out.2.1.ε hSw id).dX (show w'.cell? ⟨r,4,none⟩=some (.map (some kb)) from (a_.out.2.2.2.1.blk.ε hSw id).cell 4))) ?_;refine aX 2 (fun w' hSw=>And.intro (a_.out.1.ε hSw id).dX (And.intro (a_.out.2.1.ε hSw id).dX (show w'.cell? ⟨r,4,none⟩=some (.map (some kb)) from (a_.out.2.2.2.1.blk.ε hSw id).cell 4))) ?_;refine aX 3 (fun w' hSw=>And.intro (a_.out.1.ε hSw id).dX (And.intro (a_.out.2.1.ε hSw id).dX (show w'.cell? ⟨r,4,none⟩=some (.map (some kb)) from (a_.out.2.2.2.1.blk.ε hSw id).cell 4))) ?_
 refine aX 4 (fun w' hSw=>And.intro (a_.out.1.ε hSw id).dX (And.intro (a_.out.2.1.ε hSw id).dX (show w'.cell? ⟨r,4,none⟩=some (.map (some kb)) from (a_.out.2.2.2.1.blk.ε hSw id).cell 4))) ?_;obtain⟨V,hV⟩:=μ ((oB (aA.map Bh) (i:Int)).getD (.pointer none));obtain⟨B,hB⟩:=μ (oB (aA.map Bh) (i:Int)).isSome;have hz:∀W:World,(zeroValue 257).run prog W=.ok (.pointer none) W:=fun W=>by simp[go_sem]
 have hlk:∀w',υ w2 w'→(Instr.lookup 184 (.map (some kb)) (ι (i:Int)) true).run prog w'=.ok (.tuple #[V,.bool B]) w':=fun w' hSw=>by
  have:=(a_.out.2.2.2.1.map.ε hSw id).IP (P:=prog) zI underlying184 underlying3 (i:Int) true (hz w');rw[π rfl,hV,hB] at this;exact this
 refine aX 5 (fun w' hSw=>hlk _ hSw) ?_;refine ξ 6 ?_;refine ξ 7 ?_;refine ξ 8 ?_;refine bf 9 (fun KK hK=>?_);go_simp
 have hV1:V.oneCell'=true:=by
  rw[← hV];rcases ZP (aA:=aA) (i:=(i:Int)) with e | ⟨e,-,-,h⟩
  ·rw[e];rfl
  ·rw[h];rfl
 have Cx:υ w2 (w2.alloc (.cells #[.pointer none] 257)).drew:=((ζ.refl _ w2).alloc _).drew;have dy:η (w2.alloc (.cells #[.pointer none] 257)).drew q 257 #[.pointer none]:=by rw[← hq];exact η.new w2 _ _
 refine hK.out _ _ Cx ?_;clear hK;generalize iz:(w2.alloc (.cells #[.pointer none] 257)).drew=w3 at Cx dy ⊢;refine bf 10 (fun KK hK=>?_);refine agz ak 257 _ _ ak q 0 V ak ak _ _ #[V] dy dC rfl hV1 kR ?_;intro w4 aJ au dh;have dH:υ w2 w4:=Cx.then au (fun b hb=>.inr oM);refine hK.out _ _ dH ?_;clear hK;refine ξ 11 ?_;refine dY ?_;refine dz ?_;have kW:=cD (a_.out.1.ε dH id) (a_.out.2.1.ε dH id) (a_.out.2.2.1.ε dH id) aJ (a_.out.2.2.2.1.still dH);have oH:=δ (jP.out.then dH φ);have dh:g+3<w4.heap.size:=by have:=aJ.lt;have:=HQ.out;omega
 have HZ4:=δ dh;clear iz Cx dy au dH aJ hlk hz aE hV1 dh hq;have hnot:∀(x:Bool) (w:World),(Op.unary .not (.bool x)).run prog w=.ok (.bool (!x)) w:=fun _ _=>rfl
 rcases ZP (aA:=aA) (i:=(i:Int)) with EE | ⟨e,he,hei,EE⟩
 ·rw[EE] at hV hB
  obtain rfl:Value.pointer none=V:=hV;obtain rfl:false=B:=hB;have HGA:=δ EE;obtain⟨sb,Ay⟩:=μ w4.heap.size;have HSB:=δ Ay;clear EE dh;go_upto_region 4 with (first
   |(refine qQ rfl _ _ rfl [] _ rfl ah0 ?_)
   |(refine gJ rfl 257 _ _ rfl q 0 (.pointer (some ⟨sb,0,none⟩)) rfl (by rw[← Ay];rfl) _ _ ((kW.out.2.2.2.1).alloc _) dC rfl kR ?_
     intro w5 aK ay iQ))
  have hqs:q<sb:=by rw[← Ay];exact kW.out.2.2.2.1.lt
  have uU:η w5 sb 269 (i6 0 0 (List.replicate 32 0)):=by
   have h:=η.new w4 269 (i6 0 0 (List.replicate 32 0));rw[Ay] at h;exact h.ε ay oM
  have Hg:υ w w5:=(oH.out.alloc _).then ay (fun b hb=>.inr (oG hb HQ.out HG.out));have Ca:η w5 g 111 #[.pointer (some ⟨r,0,none⟩)]:=(kW.out.1.alloc _).ε ay (oN HQ.out);have Lu:η w5 (g+1) 3 #[ι (i:Int)]:=(kW.out.2.1.alloc _).ε ay (oN HQ.out);have Et:η w5 (g+1+1) 194 (aj (List.replicate 32 0)):=(kW.out.2.2.1.alloc _).ε ay (oN HQ.out);have J_:η w5 q 257 #[.pointer (some ⟨sb,0,none⟩)]:=aK;have R5:=HH.out.still Hg.drew;obtain⟨w6,N3,uS,aB,iT⟩:=R5.map.MH (P:=prog) zI underlying184 underlying3 (i:Int) (.pointer (some ⟨sb,0,none⟩));have ca:=Ca.dX;have cb:=Lu.dX;have cq:=J_.dX;have cr:w5.cell? ⟨r,4,none⟩=some (.map (some kb)):=R5.blk.cell 4;have We:=R5.map.f_ R5.blk;have Wf:kb≠sb:=R5.map.f_ uU.drew;have nkg:kb≠g:=R5.map.f_ Ca.drew;have nki:kb≠g+1:=R5.map.f_ Lu.drew;have nkq:kb≠q:=R5.map.f_ J_.drew;have H6:=cD (uU.drew.ε aB Wf.symm) (Ca.drew.ε aB nkg.symm) (Lu.drew.ε aB nki.symm) (J_.drew.ε aB nkq.symm) (R5.blk.ε aB We.symm)
  have HN:=τ We Wf;clear We Wf nkg nki nkq;have H5:=B0 uU Hg Ca Lu Et J_ uS aB;clear uU Hg Ca Lu Et aK J_ uS aB ay iQ Ay R5;go_still_tail 6,kR
  change wpList _ _ _ _ _ w5.drew;go_upto_region 5 with (fail)
  have cq6:=H6.out.2.2.2.1.dX;have mE:=ahZ H6.out.2.1 H6.out.2.2.1 H6.out.2.2.2.1 H6.out.2.2.2.2 H6.out.1 jE HI.out.1 HI.out.2 (oN HQ.out) (oN HQ.out) oM (by have:=HH.out.blk.lt;have:=HG.out;have:=HQ.out;omega);rw[HK.out] at mE;have Cy:=δ mE;clear mE;go_wp2_with (first
   |(go_at_call 165
     refine Cy.out.mono ?_;rintro e w7 ⟨rfl,dI,bI⟩;have H7:=τ dI bI;have cq7:=(H6.out.2.2.2.1.ε bI oM).dX;clear dI bI cq6)
   |(refine rV rfl _ _ rfl sb 3 rfl _ _ (aO K) _ H7.out.1 (Yy _ _ _) underlying194 rfl (by rw[uh,Hf.out];kernel_rfl) ?_)
   |(refine fG rfl 194 _ _ rfl (g+1+1) (aj K) rfl rfl 194 (aj (List.replicate 32 0)) ((H5.out.2.2.2.2.1.drew.ε H5.out.2.2.2.2.2.2.2 (oO HH.out.map.lt HG.out)).ε H7.out.2 (oN HQ.out)) (by rw[bX,bX,Hf.out];rfl) (mI _) OL ?_
     intro w8 jB cT kX))
  have apl:=HG.out;have oI:=HH.out.map.lt;have hrl:=HH.out.blk.lt;have hqe:=HQ.out;have hU:ζ (· = kb) w w8:=(((H5.out.2.1.drew.mono (G:=(· = kb)) φ).then H5.out.2.2.2.2.2.2.2 (fun _ e=>.inl e)).then H7.out.2 (fun b e=>.inr (oE e))).then cT (fun b e=>.inr (oE e));have tE:mu (aA.map Bh) (i:Int) (.pointer (some ⟨sb,0,none⟩))=(aA++[((i:Int),sb)]).map Bh:=by
   unfold mu;rw[ν ?_,lq]
   ·rfl
   ·intro hmem
    obtain⟨p,hp,hpi⟩:=cu.1 hmem;have h:=HGA.out;unfold oB at h;rw[Option.map_eq_none_iff,afW] at h;exact h p hp (by simp[hpi])
  have hM:=H5.out.2.2.2.2.2.2.1;rw[tE] at hM;refine cJ (jU rfl _ _ (g+1+1) _ _ _ _ rfl jB underlying194 rfl OL) rfl ⟨rfl,aA++[((i:Int),sb)],?_⟩
  refine⟨HH.out.blk.ε hU HN.out.1.symm,(hM.ε H7.out.2 HN.out.2).ε cT oM,fun e he=>?_,HH.out.new,HH.out.DP,fun e he=>?_,HH.out.ε.then hU (fun b e=>by have e2:b=kb:=e;rw[e2];exact HH.out.DP)⟩
  ·rcases jX.1 he with he | he
   ·exact(HH.out.slots e he).ε hU (fun e2=>HH.out.map.f_ (HH.out.slots e he) e2.symm)
   ·obtain rfl:=xB.1 he
    show η w8 sb _ (i6 1 0 (kP aV.data.toList i));rw[HK.out];exact H7.out.1.ε cT oM
  ·rcases jX.1 he with he | he
   ·exact HH.out.Gr e he
   ·obtain rfl:=xB.1 he
    exact .inr (by have:=HH.out.ε.size;show w0.heap.size≤sb;omega)
 ·rw[EE] at hV hB
  obtain rfl:Value.pointer (some ⟨e.2,0,none⟩)=V:=hV;obtain rfl:true=B:=hB;have dJ:=kW.out.2.2.2.2.slots e he;rw[hei] at dJ;have Cz:((i:Int)).toNat=i:=rfl;rw[Cz] at dJ;rw[HK.out] at dJ;obtain⟨sb,Ay⟩:=μ e.2;rw[Ay] at dJ ⊢;have pn:=δ dJ;have cq:=kW.out.2.2.2.1.dX;rw[Ay] at cq;clear EE dJ Ay hei Cz;go_wp2_with (first
   |(go_at_call 165
     refine(ajg pn.out).mono ?_;rintro e w5 ⟨rfl,rfl⟩)
   |(refine rV rfl _ _ rfl sb 3 rfl _ _ (aO K) _ pn.out (Yy _ _ _) underlying194 rfl (by rw[uh,Hf.out];kernel_rfl) ?_)
   |(refine fG rfl 194 _ _ rfl (g+1+1) (aj K) rfl rfl _ _ kW.out.2.2.1 (by rw[bX,bX,Hf.out];rfl) (mI _) OL ?_
     intro w6 cY aB iT))
  refine cJ (jU rfl _ _ (g+1+1) _ _ _ _ rfl cY underlying194 rfl OL) rfl ⟨rfl,aA,HH.out.still (oH.out.then aB (fun b hb=>.inr (oF hb HG.out)))⟩
section
variable {F:Nat→Prop} {w0 w:World} {r:Nat} {aV:ByteArray} {cur κ n kb:Nat} {aA:List (Int × Nat)}
theorem SC (h:b_ F w0 w r aV cur κ n kb aA):ς 105 #[.pointer (some ⟨r,0,none⟩)] w fun e w'=>e=ώ (.bool false)∧w'=w:=by
 have cr:w.cell? ⟨r,4,none⟩=some (.map (some kb)):=h.blk.cell 4;have hmn:(binOp .eql 184 (.map (some kb)) (.map none)).run prog w=.ok (.bool false) w:=by first| rfl | kernel_rfl | simp[binOp,Op.equal,run_underlying underlying184]
 clear h;go_enter func105,ntmps105
 go_wp2_with fail
 go_ret
 exact⟨rfl,rfl⟩
theorem b_.set (h:b_ F w0 w r aV cur κ n kb aA) {w':World} {cur' n':Nat} (hu:ζ (· = r) w w') (hB:η w' r 186 #[.string aV,ι (cur':Int),.int .u32 (κ:Int),ω (n':Int),.map (some kb)]):b_ F w0 w' r aV cur' κ n' kb aA:=by
 refine⟨hB,h.map.ε hu (h.map.f_ h.blk),fun e he=>(h.slots e he).ε hu ?_,h.new,h.DP,h.Gr,h.ε.then hu (fun b e=>by have e2:b=r:=e;rw[e2];exact h.new)⟩;exact fun e2=>absurd rfl ((h.slots e he).B5 (e2 ▸ h.blk) dC)
theorem ajh (h:b_ F w0 w r aV cur κ n kb aA) (hc:cur<1048576):ς 79 #[.pointer (some ⟨r,0,none⟩)] w fun e w'=>e=ώ (ι 0)∧b_ F w0 w' r aV (cur+1) κ n kb aA:=by
 have HN:=δ (SC h);have cr:w.cell? ⟨r,1,none⟩=some (ι (cur:Int)):=h.blk.cell 1;have fr:=h.blk.frozen 1;have k1:(cur:Int)<1048576:=oM;have HC:=δ hc;clear hc;have HH:=δ h;clear h;obtain⟨C,hC⟩:∃C:Int,(cur:Int)=C:=⟨_,rfl⟩;rw[hC] at cr k1;have k0:(0:Int)≤C:=oM;have sN:=δ hC;clear hC;go_enter func79,ntmps79
 go_wp2_with (first
  |(go_at_call 105
    refine HN.out.mono ?_;rintro e w' ⟨rfl,rfl⟩))
 go_ret
 refine⟨rfl,?_⟩;refine HH.out.set ((ζ.refl (· = r) _).setCell (p:=⟨r,1,none⟩) (.inl rfl) _) ?_;have:=HH.out.blk.bE 1 (ι (C+1));rw[← sN.out] at this ⊢;exact this
end
theorem abS (aV:ByteArray) (cur κ:Nat) (hc:cur≤1048576) (w:World) :
 ς 122 #[.string aV,ι (cur:Int),.int .u32 (κ:Int)] w fun e w'=>∃r kb,e=ώ (.tuple #[.pointer (some ⟨r,0,none⟩),ι 0])∧b_ (fun _=>False) w w' r aV cur κ 0 kb []:=by
 obtain⟨C,hC⟩:∃C:Int,(cur:Int)=C:=⟨_,rfl⟩;have k0:(0:Int)≤C:=oM;have k1:C≤1048576:=oM;rw[hC];have sN:=δ hC;clear hC hc;have K1:=@run_makeMap prog;have Lv:prog.built 186 [(0,.string aV),(1,ι C),(2,.int .u32 (κ:Int)),(4,.map (some w.heap.size))]=some #[.string aV,ι C,.int .u32 (κ:Int),ω 0,.map (some w.heap.size)]:=kR;go_enter func122,ntmps122
 go_wp2_with (first
  |(refine qQ rfl _ _ rfl [(0,.string aV),(1,ι C),(2,.int .u32 (κ:Int)),(4,.map (some w.heap.size))] _ zR Lv ?_))
 go_ret2
 refine⟨w.heap.size+1,w.heap.size,rfl,?_⟩;have h2:=η.new (w.alloc (.map #[] 0)) 186 #[.string aV,ι C,.int .u32 (κ:Int),ω 0,.map (some w.heap.size)];rw[dx,← sN.out] at h2;rw[← sN.out];exact⟨h2,(cM.new w).alloc _,fun e he=>by simp at he,.inr oM,.inr (bO _),fun e he=>by simp at he,((ζ.refl _ w).alloc _).alloc _⟩
section
variable {F:Nat→Prop} {w0 w w':World} {r:Nat} {aV:ByteArray} {cur κ n kb:Nat} {aA:List (Int × Nat)}
def fK (r kb:Nat) (aA:List (Int × Nat)) (q:Nat):Prop:=q=r∨q=kb∨∃e ∈ aA,e.2=q
theorem b_.here (h:b_ F w0 w r aV cur κ n kb aA):b_ (fK r kb aA) w w r aV cur κ n kb aA :=
 ⟨h.blk,h.map,h.slots,.inl (.inl rfl),.inl (.inr (.inl rfl)),fun e he=>.inl (.inr (.inr ⟨e,he,rfl⟩)),ζ.refl _ _⟩
theorem b_.Dj (h:b_ F w0 w r aV cur κ n kb aA) (q:Nat) (hq:fK r kb aA q):F q∨w0.heap.size≤q:=by
 rcases hq with rfl | rfl | ⟨e,he,rfl⟩
 ·exact h.new
 ·exact h.DP
 ·exact h.Gr e he
theorem b_.back {cur' n':Nat} {fU:List (Int × Nat)} (h:b_ F w0 w r aV cur κ n kb aA) (h':b_ (fK r kb aA) w w' r aV cur' κ n' kb fU):b_ F w0 w' r aV cur' κ n' kb fU:=by
 have hs:=h.ε.size;refine⟨h'.blk,h'.map,h'.slots,h.new,h.DP,fun e he=>(h'.Gr e he).elim (h.Dj _) (fun x=>.inr oM),h.ε.then h'.ε (fun q hq=>h.Dj q hq)⟩
theorem b_.xJ (h:b_ F w0 w r aV cur κ n kb aA) {q:Nat} {t:TypeId} {cs:Array Value} (hB:η w q t cs) (n1:t≠186) (n2:t≠269):¬fK r kb aA q:=by
 rintro (rfl | rfl | ⟨e,he,rfl⟩)
 ·exact absurd rfl (hB.B5 h.blk n1)
 ·exact h.map.f_ hB rfl
 ·exact absurd rfl (hB.B5 (h.slots e he) n2)
end
theorem b_.abg {F:Nat→Prop} {w0 w w':World} {r:Nat} {aV:ByteArray} {cur κ n kb q:Nat} {cs:Array Value} {aA:List (Int × Nat)} (h:b_ F w0 w r aV cur κ n kb aA) (hB:η w q 191 cs) (hu:ζ (· = q) w w') (h0:w0.heap.size≤q):b_ F w0 w' r aV cur κ n kb aA:=by
 have hno:=h.xJ hB dC dC;exact⟨h.blk.ε hu (fun e=>hno (.inl e.symm)),h.map.ε hu (fun e=>hno (.inr (.inl e.symm))),fun e he=>(h.slots e he).ε hu (fun e2=>hno (.inr (.inr ⟨e,he,e2⟩))),h.new,h.DP,h.Gr,h.ε.then hu (fun b e=>.inr (oE e))⟩
theorem zz2 {P:Prop} (h:P:=by
 refine ο.out _ _ EF ?_;clear ο;refine ξ 18 ?_;refine ξ 19 ?_;refine ξ 20 ?_;refine bf 22 (fun KK ο=>?_);refine ud rfl 191 _ _ rfl q x.row rfl rfl 191 _ mV (by rw[HX.out.2.2.2.1];exact bF.qT jE) (bF.row_one x) J4 ?_
 intro ws sJ CA hzs;have nU:∃es,b_ F w0 ws r aV cur κ n kb es:=by
  obtain⟨es,h⟩:=EF;exact⟨es,h.abg mV CA wJ⟩
 refine ο.out _ _ nU ?_;clear ο;refine ξ 23 ?_;refine dY ?_;refine dz ?_;obtain⟨Wg,hz⟩:=nU;have HZ:=aq hz sJ wJ;clear sJ CA hzs wJ hz;go_upto_region 11 with (first
  |(refine eA _ q HZ.out.2.1 underlying191 J4 ?_)
  |(go_at_call 109
    refine(lE.out _).mono ?_;rintro e wb ⟨rfl,kY⟩;have Az:=δ (HZ.out.1.still kY);clear kY))
 have had:=abR r 3 n (oN HX.out.2.2.2.2) wb (Az.out.blk.cell 3) (Az.out.blk.frozen 3);have Wh:=δ had;clear had;go_wp2_with fail
 refine Wh.out.mono ?_;rintro e wd ⟨rfl,rfl⟩;go_wp2_with fail
 go_ret2
 refine⟨rfl,Wg,Az.out.set ((ζ.refl (· = r) _).setCell (p:=⟨r,3,none⟩) (.inl rfl) _) ?_⟩;exact Az.out.blk.bE 3 _):P:=h
theorem NB {F:Nat→Prop} {w0 w:World} {r:Nat} {aV:ByteArray} {cur κ n kb:Nat} {aA:List (Int × Nat)} (h:b_ F w0 w r aV cur κ n kb aA) (hm:aV.size≤64) (hc:cur≤1048576) (hb:κ<4294967296) (hn:n<4611686018427387904) (about text:ByteArray) (ha:about.size≤1000) (ht:text.size≤8192) :
 ς 57 #[.pointer (some ⟨r,0,none⟩),.string about,.string text] w fun e w'=>e=ώ (.tuple #[.string (str (r_ (kP aV.data.toList cur) cur κ n about.data.toList text.data.toList)),ι 0])∧∃fU,b_ F w0 w' r aV cur κ (n+1) kb fU:=by
 obtain⟨K,hK⟩:=μ (kP aV.data.toList cur);have qJ:K.length=32:=J9
 rw[hK];obtain⟨D,hD⟩:=μ (pR K κ n text.data.toList);have hDl:D.length=text.size:=by rw[← hD,MR];rfl
 obtain⟨T,hT⟩:=μ (td K cur κ n about.data.toList D);have iN:T.length=32:=by rw[← hT];exact vo _ _
 obtain⟨x,hx⟩:=μ (⟨cur,κ,n,D,T⟩:bF);have CB:vC x:=by rw[← hx];exact⟨hc,hb,by show n<_;omega,by show D.length≤_;omega,iN⟩
 have cv:=fun W=>akd K qJ cur κ n hc hb oM about text ha ht W
 rw[hD,hT,hx] at cv;have hby:=fun W=>ake x CB W
 obtain⟨O,hO⟩:=μ (str (r_ K cur κ n about.data.toList text.data.toList));rw[show str (qR x.key x.κ x.n++(bJ x.data++x.tag))=O by rw[← hO,← hx];unfold r_;rw[hD,hT]] at hby;rw[hO];have hkey:∀(F:Nat→Prop) (w0 W:World) (es:List (Int × Nat)),b_ F w0 W r aV cur κ n kb es→ς 108 #[.pointer (some ⟨r,0,none⟩),ι (cur:Int)] W fun e w'=>e=ώ (.agg (aj K))∧∃fU,b_ F w0 w' r aV cur κ n kb fU:=fun F w0 W es h=>by
  have:=ZQ h cur hc hm;rw[hK] at this;exact this
 obtain⟨C,hC⟩:∃C:Int,(cur:Int)=C:=⟨_,rfl⟩;obtain⟨B,hB⟩:∃C:Int,(κ:Int)=C:=⟨_,rfl⟩;obtain⟨N,hN⟩:∃C:Int,(n:Int)=C:=⟨_,rfl⟩;have n0:(0:Int)≤N:=oM;have n1:N<9223372036854775808:=oM;rw[hC] at hkey cv;rw[hB,hN] at cv;have Wi:=alW r 3 (n:Int) w (h.blk.cell 3);rw[hN] at Wi;have Ct:=δ (SC h);have P_:=δ Wi;have EG:=δ hkey;have mZ:=δ cv;have lE:=δ hby;have HH:=δ h;have HX:=cD hC hB hN (bF.qT CB.tag) hn;have Hf:=δ qJ;clear h hm hc hb hn ha ht hK qJ hD hDl hT iN hx CB cv hby hO hkey hC hB hN Wi;go_enter func57,ntmps57
 go_upto_region 6 with (first
  |(go_at_call 105
    refine Ct.out.mono ?_;rintro e w1 ⟨rfl,rfl⟩)
  |(go_at_call 106
    refine P_.out.mono ?_;rintro e w2 ⟨rfl,rfl⟩))
 refine dW ?_;refine eo (S:=fun w'=>∃es,b_ F w0 w' r aV cur κ n kb es) (T:=fun _=>false) kR ?_;have aE:∃es,b_ F w0 w2.drew r aV cur κ n kb es:=⟨aA,HH.out.still (ζ.refl _ _).drew⟩;have jq:∀w',(∃es,b_ F w0 w' r aV cur κ n kb es)→w'.cell? ⟨r,1,none⟩=some (ι C)∧w'.cell? ⟨r,2,none⟩=some (.int .u32 B):=fun w' h=>by
  obtain⟨es,h⟩:=h;have h1:=h.blk.cell 1;have h2:=h.blk.cell 2;exact⟨h1.trans (by rw[← HX.out.1];rfl),h2.trans (by rw[← HX.out.2.1];rfl)⟩
 have qK:=δ jq;clear jq;refine aX 0 (fun w' hSw=>qK.out _ hSw) ?_;refine aX 1 (fun w' hSw=>qK.out _ hSw) ?_;refine aX 2 (fun w' hSw=>qK.out _ hSw) ?_;refine aX 3 (fun w' hSw=>qK.out _ hSw) ?_;refine aX 4 (fun w' hSw=>qK.out _ hSw) ?_;refine aX 6 (fun w' hSw=>qK.out _ hSw) ?_;refine aX 7 (fun w' hSw=>qK.out _ hSw) ?_;refine aX 8 (fun w' hSw=>qK.out _ hSw) ?_;refine aX 9 (fun w' hSw=>qK.out _ hSw) ?_;refine aX 10 (fun w' hSw=>qK.out _ hSw) ?_;refine aX 11 (fun w' hSw=>qK.out _ hSw) ?_;refine aX 12 (fun w' hSw=>qK.out _ hSw) ?_;refine aX 13 (fun w' hSw=>qK.out _ hSw) ?_;refine aX 14 (fun w' hSw=>qK.out _ hSw) ?_;refine aX 15 (fun w' hSw=>qK.out _ hSw) ?_;refine aX 16 (fun w' hSw=>qK.out _ hSw) ?_;refine vn (i:=5) (j:=21) kR rfl rfl (fun KK ο=>?_) (fun KK ο=>?_)
 ·go_simp
  obtain⟨es1,l9⟩:=aE;refine(EG.out _ _ _ _ l9.here).mono ?_;rintro e wk ⟨rfl,Hj,hk2⟩;have uV:∃es,b_ F w0 wk r aV cur κ n kb es:=⟨Hj,l9.back hk2⟩;refine ο.out _ _ uV ?_;clear ο;refine vn (i:=17) (j:=21) kR rfl rfl (fun KK ο=>?_) (fun KK ο=>?_)
  ·go_simp
   refine(mZ.out _).mono ?_;rintro e wc ⟨rfl,nQ⟩;have EF:∃es,b_ F w0 wc r aV cur κ n kb es:=by
    obtain⟨es,h⟩:=uV;exact⟨es,h.still nQ⟩
   refine ο.out _ _ EF ?_;clear ο;refine ξ 18 ?_;refine ξ 19 ?_;refine ξ 20 ?_;refine bf 21 (fun KK ο=>?_);go_simp
   generalize wN:World.alloc wc _=wa;have yS:υ wc wa:=by rw[← wN];exact((ζ.refl _ _).alloc _)
   have jA:η wa wc.heap.size 191 (bF.row ⟨0,0,0,[],List.replicate 32 0⟩):=by rw[← wN];exact η.new _ _ _
   obtain⟨q,hq⟩:=μ wc.heap.size;rw[hq] at jA ⊢;have CC:∃es,b_ F w0 wa r aV cur κ n kb es:=by
    obtain⟨es,h⟩:=EF;exact⟨es,h.still yS⟩
   have wJ:w0.heap.size≤q:=by
    obtain⟨es,h⟩:=EF;rw[← hq];exact h.ε.size
   refine ο.out _ _ CC ?_;clear ο wN hq yS;refine bf 22 (fun KK ο=>?_);refine ud rfl 191 _ _ rfl q x.row rfl rfl 191 _ jA (by rw[HX.out.2.2.2.1];exact bF.qT jE) (bF.row_one x) J4 ?_
   intro ws sJ CA hzs;have nU:∃es,b_ F w0 ws r aV cur κ n kb es:=by
    obtain⟨es,h⟩:=CC;exact⟨es,h.abg jA CA wJ⟩
   refine ο.out _ _ nU ?_;clear ο;refine ξ 23 ?_;refine dY ?_;refine dz ?_;obtain⟨Wg,hz⟩:=nU;have HZ:=aq hz sJ wJ;clear sJ CA hzs wJ hz;go_upto_region 11 with (first
    |(refine eA _ q HZ.out.2.1 underlying191 J4 ?_)
    |(go_at_call 109
      refine(lE.out _).mono ?_;rintro e wb ⟨rfl,kY⟩;have Az:=δ (HZ.out.1.still kY);clear kY))
   have had:=abR r 3 n (oN HX.out.2.2.2.2) wb (Az.out.blk.cell 3) (Az.out.blk.frozen 3);have Wh:=δ had;clear had;go_wp2_with fail
   refine Wh.out.mono ?_;rintro e wd ⟨rfl,rfl⟩;go_wp2_with fail
   go_ret2
   refine⟨rfl,Wg,Az.out.set ((ζ.refl (· = r) _).setCell (p:=⟨r,3,none⟩) (.inl rfl) _) ?_⟩;exact Az.out.blk.bE 3 _
  ·go_simp
   generalize wN:World.alloc wk _=wa;have yS:υ wk wa:=by rw[← wN];exact((ζ.refl _ _).alloc _)
   have jA:η wa wk.heap.size 191 (bF.row ⟨0,0,0,[],List.replicate 32 0⟩):=by rw[← wN];exact η.new _ _ _
   obtain⟨q,hq⟩:=μ wk.heap.size;rw[hq] at jA ⊢;have CC:∃es,b_ F w0 wa r aV cur κ n kb es:=by
    obtain⟨es,h⟩:=uV;exact⟨es,h.still yS⟩
   have wJ:w0.heap.size≤q:=by
    obtain⟨es,h⟩:=uV;rw[← hq];exact h.ε.size
   refine ο.out _ _ CC ?_;clear ο wN hq yS;refine bf 17 (fun KK ο=>?_);go_simp
   refine(mZ.out _).mono ?_;rintro e wc ⟨rfl,nQ⟩;have EF:∃es,b_ F w0 wc r aV cur κ n kb es:=by
    obtain⟨es,h⟩:=CC;exact⟨es,h.still nQ⟩
   have mV:=jA.ε nQ id;exact zz2
 ·have hSb:∃es,b_ F w0 w2 r aV cur κ n kb es:=⟨aA,HH.out⟩
  go_simp
  generalize wN:World.drew (World.alloc w2 _)=wa;have yS:υ w2 wa:=by rw[← wN];exact((ζ.refl _ _).alloc _).drew
  have jA:η wa w2.heap.size 191 (bF.row ⟨0,0,0,[],List.replicate 32 0⟩):=by rw[← wN];exact η.new _ _ _
  obtain⟨q,hq⟩:=μ w2.heap.size;rw[hq] at jA ⊢;have CC:∃es,b_ F w0 wa r aV cur κ n kb es:=by
   obtain⟨es,h⟩:=hSb;exact⟨es,h.still yS⟩
  have wJ:w0.heap.size≤q:=by
   obtain⟨es,h⟩:=hSb;rw[← hq];exact h.ε.size
  refine ο.out _ _ CC ?_;clear ο wN hq yS;refine bf 5 (fun KK ο=>?_);go_simp
  obtain⟨Hj,dQ⟩:=CC;refine(EG.out _ _ _ _ dQ.here).mono ?_;rintro e wk ⟨rfl,Hj,hk2⟩;have jz:=jA.ε hk2.ε (dQ.xJ jA dC dC);have uV:∃es,b_ F w0 wk r aV cur κ n kb es:=⟨Hj,dQ.back hk2⟩;refine ο.out _ _ uV ?_;clear ο;refine bf 17 (fun KK ο=>?_);go_simp
  refine(mZ.out _).mono ?_;rintro e wc ⟨rfl,nQ⟩;have EF:∃es,b_ F w0 wc r aV cur κ n kb es:=by
   obtain⟨es,h⟩:=uV;exact⟨es,h.still nQ⟩
  have mV:=jz.ε nQ id;exact zz2
theorem SD {F:Nat→Prop} {w0 w:World} {r:Nat} {aV:ByteArray} {cur κ n kb:Nat} {aA:List (Int × Nat)} (h:b_ F w0 w r aV cur κ n kb aA) (hm:aV.size≤64) (hc:cur≤1048576) (key b2 n2:Nat) (hk:key≤cur) (hb:b2<4294967296) (hn:n2<18446744073709551616) (about:ByteArray) (ha:about.size≤1000) (text:List UInt8) (ht:text.length≤8192)
 (s:ByteArray) (hs:s.data.toList=r_ (kP aV.data.toList key) key b2 n2 about.data.toList text) :
 ς 123 #[.pointer (some ⟨r,0,none⟩),.string s,.string about] w fun e w'=>e=ώ (.tuple #[.string (str text),ι 0])∧∃fU,b_ F w0 w' r aV cur κ n kb fU:=by
 obtain⟨K,hK⟩:=μ (kP aV.data.toList key);have qJ:K.length=32:=J9
 rw[hK] at hs;obtain⟨D,hD⟩:=μ (pR K b2 n2 text);have hDl:D.length=text.length:=by rw[← hD,MR]
 obtain⟨T,hT⟩:=μ (td K key b2 n2 about.data.toList D);have iN:T.length=32:=by rw[← hT];exact vo _ _
 have acy:pR K b2 n2 D=text:=by rw[← hD];exact ahH _ _ _ _
 obtain⟨x,hx⟩:=μ (⟨key,b2,n2,D,T⟩:bF);have CB:vC x:=by rw[← hx];exact⟨by show key≤_;omega,hb,hn,by show D.length≤_;omega,iN⟩
 have hrd:=fun W=>alM x CB s (by rw[hs,← hx];unfold r_;rw[hD,hT]) W
 have hop:=fun W=>alL K qJ x CB about ha (by rw[← hx];exact hT.symm) W
 obtain⟨O,hO⟩:=μ (str text);rw[show pR K x.κ x.n x.data=text by rw[← hx];exact acy,hO] at hop;rw[hO];have hkey:∀(F:Nat→Prop) (w0 W:World) (es:List (Int × Nat)),b_ F w0 W r aV cur κ n kb es→ς 108 #[.pointer (some ⟨r,0,none⟩),ι (key:Int)] W fun e w'=>e=ώ (.agg (aj K))∧∃fU,b_ F w0 w' r aV cur κ n kb fU:=fun F w0 W es h=>by
  have:=ZQ h key oM hm;rw[hK] at this;exact this
 have yw:x.key=key:=by rw[← hx]
 have k1:(key:Int)≤(cur:Int):=oM;have Ct:=δ (SC h);have Lw:=δ hrd;have EG:=δ hkey;have EH:=δ hop;have HH:=δ h;have HX:=τ yw (bF.qT CB.tag);clear h hm hc hb hn ha ht hK qJ hD hDl hT iN hx CB hrd hop hO hkey yw hs acy hk;go_enter func123,ntmps123
 go_upto_region 3 with (first
  |(go_at_call 105
    refine Ct.out.mono ?_;rintro e w1 ⟨rfl,rfl⟩))
 go_wp2_with fail
 refine(Lw.out _).mono ?_;rintro e w2 ⟨rfl,σ⟩;obtain⟨q,hq⟩:=μ w2.heap.size;have HQ:=δ hq;clear hq;have H2:=δ (HH.out.still σ);clear σ;go_upto_region 6 with (first
  |(refine fG rfl 191 _ _ rfl w2.heap.size x.row rfl rfl 191 _ (η.new w2 _ _) (by rw[HX.out.2];rfl) (bF.row_one x) (by rw[HX.out.2];kernel_rfl) ?_
    intro w3 aC χ fY))
 rw[HQ.out] at aC χ ⊢;have o5:υ w2 w3:=((ζ.refl _ w2).alloc _).then χ (fun b e=>.inr (oF e HQ.out));have H3:=τ (H2.out.still o5) aC;clear χ fY aC o5;have c0:w3.cell? ⟨q,0,none⟩=some (ι (key:Int)):=(H3.out.2.cell 0).trans (by have:=HX.out.1;unfold bF.row;rw[this];rfl)
 have cr:w3.cell? ⟨r,1,none⟩=some (ι (cur:Int)):=H3.out.1.blk.cell 1;have k2:decide ((cur:Int)<(key:Int))=false:=by simpa using k1
 go_quiet (fail)
 go_upto_region 8 with (fail)
 have Eh:=τ (H3.out.1.still ((ζ.refl _ w3).drewN nq)) (H3.out.2.drewN nq);generalize Cl:World.drewN w3 nq=w4 at Eh ⊢;clear Cl c0 cr k2;refine dW ?_;refine eo (S:=fun w'=>(∃es,b_ F w0 w' r aV cur κ n kb es)∧η w' q 191 x.row) (T:=fun _=>false) kR ?_;have aE:(∃es,b_ F w0 w4.drew r aV cur κ n kb es)∧η w4.drew q 191 x.row:=⟨⟨aA,Eh.out.1.still (ζ.refl _ _).drew⟩,Eh.out.2.drew⟩;have uW:=δ (fun (w':World) (h:η w' q 191 x.row)=>(h.cell 0).trans (show x.row[0]? = some (ι (key:Int)) by have:=HX.out.1;unfold bF.row;rw[this];rfl))
 refine aX 0 (fun w' hSw=>uW.out _ hSw.2) ?_;refine aX 1 (fun w' hSw=>uW.out _ hSw.2) ?_;refine aX 2 (fun w' hSw=>uW.out _ hSw.2) ?_;refine iL 4 (.agg x.row) (lN rfl ak _ _ rfl q ak _ _ _ (fun w' hSw=>hSw.2) underlying191 rfl (by rw[HX.out.2];kernel_rfl)) ?_
 refine ξ 5 ?_;refine bf 3 (fun KK ο=>?_);go_simp
 obtain⟨⟨es,hE⟩,jA⟩:=aE;refine(EG.out _ _ _ _ hE.here).mono ?_;rintro e wk ⟨rfl,Hj,hk2⟩;have uV:(∃es,b_ F w0 wk r aV cur κ n kb es)∧η wk q 191 x.row:=⟨⟨Hj,hE.back hk2⟩,jA.ε hk2.ε (hE.xJ jA dC dC)⟩;refine ο.out _ _ uV ?_;clear ο hE hk2 jA;refine bf 6 (fun KK ο=>?_);go_simp
 refine(EH.out _).mono ?_;rintro e wo ⟨rfl,Wj⟩;have hSo:(∃es,b_ F w0 wo r aV cur κ n kb es)∧η wo q 191 x.row:=⟨by
  obtain⟨⟨es,h⟩,-⟩:=uV;exact⟨es,h.still Wj⟩,uV.2.ε Wj id⟩
 refine ο.out _ _ hSo ?_;clear ο uV Wj;refine ξ 7 ?_;refine ξ 8 ?_;refine ξ 9 ?_;refine ξ 10 ?_;refine dY ?_;refine dz ?_;obtain⟨⟨es3,hz⟩,-⟩:=hSo;have HZ:=δ hz;clear hz;go_wp2_with fail
 go_ret2
 exact⟨rfl,es3,HZ.out⟩
def dD (m:MetaM) (mv:Value):Array Value:=#[ι m.role,ι m.seen,ι m.aH,mv,.string (str m.aW)]
theorem Sg {w:World} {A:Option Addr} {cap b off:Nat} (m:MetaM) (hA:0<m.aZ.length→A=some ⟨b,off,none⟩) (hb:∀w',υ w w'→xY w' b off m.aZ) (hl:m.aZ.length≤1000000) (hcap:m.aZ.length≤cap) (hs:∀x ∈ m.aZ,x.name.length≤1000000) :
 ς 41 #[.agg (dD m (.slice A m.aZ.length cap))] w fun e w'=>e=ώ (.bool (dF m))∧υ w w':=by
 have pq:=fun W (hW:υ w W)=>akL (A:=A) (cap:=cap) (w:=W) hA (fun w' h=>hb w' (hW.then h φ)) hl hcap hs
 obtain⟨B,hB⟩:=μ (dF m);rw[hB];unfold dF at hB;have hnil:m.aZ=[]↔(m.aZ.length:Int)=0:=by
  constructor
  ·intro h;rw[h];rfl
  ·intro h;exact AU oM
 obtain⟨M,hM⟩:=μ (qq m.aZ);rw[hM] at hB pq;obtain⟨S,hS⟩:=μ (str m.aW);have nU:S.size=m.aW.length:=by rw[← hS,bR]
 have hrow:dD m (.slice A m.aZ.length cap)=#[ι m.role,ι m.seen,ι m.aH,.slice A m.aZ.length cap,.string S]:=by unfold dD;rw[hS]
 rw[hrow];obtain⟨role,seen,aH,eS,sec⟩:=m;simp only at *
 obtain⟨n,hn⟩:=μ eS.length;rw[hn] at hnil pq ⊢;rw[← nU] at hB;have CD:=δ pq;have HB:=δ hB;have aep:=δ hnil;clear pq hB hnil hM hS nU hrow hb hs hA hl hcap hn;go_enter func41,ntmps41
 go_upto_region 1 with fail
 generalize fk:World.alloc _ _=w5;obtain⟨q,hq⟩:=μ w.heap.size;rw[hq];have aK:η w5 q 50 #[ι role,ι seen,ι aH,.slice A n cap,.string S]:=Gc
 have ay:υ w w5:=DA
 have Qa:=δ aK;have dB:=δ ay;have c0:=aK.cell 0;have c1:=aK.cell 1;have c2:=aK.cell 2;have c3:=aK.cell 3;have c4:=aK.cell 4;clear fk hq aK ay;by_cases h0:(n:Int)=0
 ·have Lx:eS=[]:=aep.out.2 h0
  have hn0:n=0:=oM;subst hn0;by_cases a1:0≤role
  ·by_cases a2:role≤3
   ·by_cases a3:0≤seen
    ·by_cases a4:0≤aH
     ·by_cases a5:(S.size:Int)≤64
      ·have EI:S.size≤64:=oM
       obtain rfl:true=B:=by
        rw[← HB.out];simp[a1,a2,a3,a4,EI,Lx]
       go_wp2_with fail
       go_ret
       exact⟨by first| rfl | simp[a5],dB.out⟩
      ·have EI:¬S.size≤64:=oM
       obtain rfl:false=B:=by
        rw[← HB.out];simp[a1,a2,a3,a4,EI]
       go_wp2_with fail
       go_ret
       exact⟨by first| rfl | simp[a5],dB.out⟩
     ·obtain rfl:false=B:=by
       rw[← HB.out];simp[a1,a2,a3,a4]
      go_wp2_with fail
      go_ret
      exact⟨by first| rfl | simp[a5],dB.out⟩
    ·obtain rfl:false=B:=by
      rw[← HB.out];simp[a1,a2,a3]
     go_wp2_with fail
     go_ret
     exact⟨by first| rfl | simp[a5],dB.out⟩
   ·obtain rfl:false=B:=by
     rw[← HB.out];simp[a1,a2]
    go_wp2_with fail
    go_ret
    exact⟨by first| rfl | simp[a5],dB.out⟩
  ·obtain rfl:false=B:=by
    rw[← HB.out];simp[a1]
   go_wp2_with fail
   go_ret
   exact⟨by first| rfl | simp[a5],dB.out⟩
 ·have Lx:¬eS=[]:=fun e=>h0 (aep.out.1 e)
  have k0:((n:Int) == 0)=false:=by simpa using h0
  go_wp2_with fail
  refine(CD.out _ dB.out).mono ?_;rintro e w6 ⟨rfl,aB⟩;have gD:=δ (dB.out.then aB φ);have cY:=Qa.out.ε aB id;have c0:=cY.cell 0;have c1:=cY.cell 1;have c2:=cY.cell 2;have c3:=cY.cell 3;have c4:=cY.cell 4;clear aB cY;by_cases a1:0≤role
  ·by_cases a2:role≤3
   ·by_cases a3:0≤seen
    ·by_cases a4:0≤aH
     ·cases M
      ·obtain rfl:false=B:=by
        rw[← HB.out];simp[a1,a2,a3,a4,Lx]
       go_wp2_with fail
       go_ret
       exact⟨by first| rfl | simp[a5],gD.out⟩
      ·by_cases a5:(S.size:Int)≤64
       ·have EI:S.size≤64:=oM
        obtain rfl:true=B:=by
         rw[← HB.out];simp[a1,a2,a3,a4,Lx,EI]
        go_wp2_with fail
        go_ret
        exact⟨by first| rfl | simp[a5],gD.out⟩
       ·have EI:¬S.size≤64:=oM
        obtain rfl:false=B:=by
         rw[← HB.out];simp[a1,a2,a3,a4,Lx,EI]
        go_wp2_with fail
        go_ret
        exact⟨by first| rfl | simp[a5],gD.out⟩
     ·obtain rfl:false=B:=by
       rw[← HB.out];simp[a1,a2,a3,a4]
      go_wp2_with fail
      go_ret
      exact⟨by first| rfl | simp[a5],gD.out⟩
    ·obtain rfl:false=B:=by
      rw[← HB.out];simp[a1,a2,a3]
     go_wp2_with fail
     go_ret
     exact⟨by first| rfl | simp[a5],gD.out⟩
   ·obtain rfl:false=B:=by
     rw[← HB.out];simp[a1,a2]
    go_wp2_with fail
    go_ret
    exact⟨by first| rfl | simp[a5],gD.out⟩
  ·obtain rfl:false=B:=by
    rw[← HB.out];simp[a1]
   go_wp2_with fail
   go_ret
   exact⟨by first| rfl | simp[a5],gD.out⟩
end
end Go.Proofs.YtbhjgfibhegddaaGreat
