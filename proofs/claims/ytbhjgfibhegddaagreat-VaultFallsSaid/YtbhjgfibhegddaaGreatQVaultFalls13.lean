/-
  Parts of the proof of VaultFalls: DiskI, Free, LawW, Acts, Last, VaultM.
-/
import Derived.Test.YtbhjgfibhegddaaGreatQVaultFalls12
import Derived.ChangeAt2
import Derived.ChangeSame
import Derived.Deep.Fields
import Derived.Deep.RegionHeld3
import Derived.Deep.Slices
import Derived.Outline
import Derived.WalkSpells
set_option maxRecDepth 100000
set_option maxHeartbeats 16000000
namespace Go.Proofs.YtbhjgfibhegddaaGreat
abbrev ql:=@not_or
abbrev QU:=@Int.lt_tmod_of_pos
abbrev Yf:=@Int.tmod_lt_of_pos
abbrev QJ:=@List.map_set
open Tryz
section
open Go Go.RowKit
structure zl (w wr:World) (p bl cap bm:Nat) (d:Dk) (keep:List Int) (m:List (Int × Value)) (j:Nat):Prop where
 blk:η wr p 151 #[.slice (some ⟨bl,0,none⟩) d.ψ.length cap,.map (some bm),ι d.bP,.bool d.off]
 ψ:Own wr 9 1 (.slice (some ⟨bl,0,none⟩) d.ψ.length cap) d.ψ.length (strs (d.part keep j).ψ)
 map:cM qX wr bm (pS m d.busy j)
 waits:sY wr (pS m d.busy j) (d.part keep j).waits
 ε:ζ (fun b=>b=bl∨b=bm) w wr
theorem sY.amR {w w':World} {d:Dk} {keep:List Int} {m:List (Int × Value)} {j:Nat} (hj:j<d.busy.length) (h:sY w (pS m d.busy j) (d.part keep j).waits)
 (hb:∀k ∈ (pS m d.busy j).filterMap (·.2.ownBlock),w'.heap[k]? = w.heap[k]?):sY w' (pS m d.busy (j+1)) (d.part keep (j+1)).waits:=by
 have hsub:∀q,q ∈ pS m d.busy (j+1)→q ∈ pS m d.busy j∧q.1≠(d.busy[j]:Int):=by
  intro q hq;rw[← Rq m d.busy j hj] at hq;unfold oA at hq;rw[AR] at hq;exact⟨hq.1,by simpa using hq.2⟩
 refine⟨fun q hq=>?_,fun i hi=>?_⟩
 ·obtain⟨h1,h2⟩:=hsub q hq
  obtain⟨i,e,hi,h0,ho⟩:=h.each q h1;have hne:i≠d.busy[j]:=fun e2=>h2 (by rw[e,e2])
  have hat:(d.part keep (j+1)).at_ i=(d.part keep j).at_ i:=by
   rw[Dk.FM,Dk.FM];have:(i ∈ d.busy.take (j+1))↔(i ∈ d.busy.take j):=by
    rw[Dk.Mz d j i hj];exact⟨fun h=>h.elim id (fun h=>absurd h hne),.inl⟩
   simp only[this]
  refine⟨i,e,by simpa [Dk.part] using hi,?_,?_⟩
  ·show (d.part keep (j+1)).at_ i≠[]
   rw[hat];exact h0
  ·show Own w' _ 1 q.2 ((d.part keep (j+1)).at_ i).length (strs ((d.part keep (j+1)).at_ i))
   rw[hat];exact ho.dr fun k hk=>hb k (oU.2 ⟨q,h1,hk⟩)
 ·have hi':(d.part keep (j+1)).at_ i≠[]:=hi
  have h1:(d.part keep j).at_ i≠[]∧i≠d.busy[j]:=by
   rw[Dk.FM] at hi';split at hi'
   ·exact absurd rfl hi'
   ·rename_i hn
    rw[Dk.Mz d j i hj,ql] at hn;rw[Dk.FM,ν hn.1];exact⟨hi',hn.2⟩
  obtain⟨q,hq,e⟩:=cu.1 (h.all i h1.1);rw[← Rq m d.busy j hj];refine cu.2 ⟨q,?_,e⟩;unfold oA;rw[AR];refine⟨hq,?_⟩;have:q.1≠(d.busy[j]:Int):=fun e2=>h1.2 (oN (e.symm.trans e2))
  simpa using this
theorem ai4 {m:List (Int × Value)} {K:List Nat} {j:Nat} {k:Nat} (h:k ∈ (pS m K j).filterMap (·.2.ownBlock)):k ∈ m.filterMap (·.2.ownBlock):=by
 obtain⟨q,hq,e⟩:=oU.1 h;unfold pS at hq;exact oU.2 ⟨q,(AR.1 hq).1,e⟩
theorem zl.step {w wr w1 w4:World} {p bl cap bm j:Nat} {d:Dk} {keep:List Int} {m:List (Int × Value)} (h:zl w wr p bl cap bm d keep m j) (hj:j<d.busy.length) (hnd:(p::bl::bm::m.filterMap (·.2.ownBlock)).Nodup)
 (yM:Own w1 9 1 (.slice (some ⟨bl,0,none⟩) d.ψ.length cap) d.ψ.length (strs ((d.part keep j).ψ.set d.busy[j] (d.ox keep j d.busy[j])))) (az:ζ (· = bl) wr w1)
 (Au:cM qX w4 bm (oA (pS m d.busy j) (d.busy[j]:Int))) (au:ζ (· = bm) w1 w4):zl w w4 p bl cap bm d keep m (j+1):=by
 simp only[kn,cC,ql] at hnd;obtain⟨⟨yI,Ce,PI⟩,⟨Ai,KX⟩,GW,KY⟩:=hnd;have hU:ζ (fun b=>b=bl∨b=bm) wr w4:=az.trans au (fun b e=>.inl e) (fun b e=>.inl (.inr e));refine⟨h.blk.ε hU (fun e=>e.elim yI Ce),?_,by rw[← Rq m d.busy j hj];exact Au,h.waits.amR hj (fun k hk=>?_),h.ε.then hU (fun b e=>.inl e)⟩
 ·rw[Dk.ai2 d keep j hj]
  exact yM.ε au (fun q hq e=>Ai Oz)
 ·have hk2:=ai4 hk
  have hlt:k<wr.heap.size:=by
   obtain⟨q,hq,e⟩:=oU.1 hk;obtain⟨_,_,_,_,ho⟩:=h.waits.each q hq;exact ho.lt e
  exact hU.block k hlt (fun e=>by rcases e with rfl | rfl;exact KX hk2;exact GW hk2)
theorem zl.done {w wr:World} {p bl cap bm:Nat} {d:Dk} {keep:List Int} {m:List (Int × Value)} (h:zl w wr p bl cap bm d keep m d.busy.length) (h4:∀q ∈ m,∃i:Nat,q.1=(i:Int)∧i<d.waits.length∧d.at_ i≠[]) (hwf:d.wf)
 (hnd:(p::bl::bm::m.filterMap (·.2.ownBlock)).Nodup):Left w ((wr.setCell ⟨p,3,none⟩ (.bool false)).setCell ⟨p,2,none⟩ (ι (-1))) p (d.eT keep) (p::bl::bm::m.filterMap (·.2.ownBlock)) [p,bl,bm]:=by
 have hm0:pS m d.busy d.busy.length=[]:=by
  unfold pS;rw[List.filter_eq_nil_iff];intro q hq;obtain⟨i,e,hi,h0⟩:=h4 q hq;simp only[sW,eD,Classical.not_not];exact cu.2 ⟨i,Dk.FE.2 ⟨by rw[← hwf.len];exact hi,h0⟩,by rw[e]⟩
 have hM:=h.map;rw[hm0] at hM;simp only[kn,cC,ql] at hnd;obtain⟨⟨yI,Ce,PI⟩,⟨Ai,KX⟩,GW,KY⟩:=hnd;have hlen:(d.eT keep).ψ.length=d.ψ.length:=Dk.zj _ _ _;refine⟨⟨bl,cap,bm,[],?_,?_,?_,⟨fun q hq=>by simp at hq,fun i hi=>?_⟩,Dk.akw hwf keep,rfl,?_⟩,?_,fun k hk=>.inl ?_⟩
 ·rw[hlen]
  have:=(h.blk.bE 3 (.bool false)).bE 2 (ι (-1));simpa [Dk.eT] using this
 ·rw[hlen]
  exact(h.ψ.b9 (p:=⟨p,3,none⟩) (by simpa [Value.ownBlock] using nt yI) _).b9 (p:=⟨p,2,none⟩) (by simpa [Value.ownBlock] using nt yI) _
 ·exact(hM.b9 (p:=⟨p,3,none⟩) (nt Ce) _).b9 (p:=⟨p,2,none⟩) (nt Ce) _
 ·exact absurd (Dk.MV hwf.len keep i) hi
 ·simp only[kn,cC,vg,vh,ql,Iv,QC,qN]
  exact⟨⟨yI,Ce⟩,Ai⟩
 ·exact((h.ε.mono (G:=(· ∈ p::bl::bm::m.filterMap (·.2.ownBlock))) (fun b e=>.inl (by rcases e with rfl | rfl<;>simp))).setCell (p:=⟨p,3,none⟩) (.inl sM) _).setCell (p:=⟨p,2,none⟩) (.inl sM) _
 ·simp only[cC,vg,vh] at hk ⊢
  rcases hk with rfl | rfl | rfl<;>simp
theorem ai5 {d:Dk} {keep:List Int} {j i:Nat} (h:Dk.choice (d.at_ i) keep j=0) (hin:i<d.ψ.length) (hni:i ∉ d.busy.take j):(d.part keep j).ψ.set i (d.ox keep j i)=(d.part keep j).ψ:=by
 have hk:d.ox keep j i=d.last i:=by unfold Dk.ox;rw[ν oM]
 rw[hk];apply Fc
 intro x;rw[QL];split
 ·rename_i e
  subst e;rw[Dk.og d keep j i hin,ν hni,π (by rw[Dk.zj];exact hin)]
 ·rfl
theorem ahT (z n:Int) (hn:0<n):(z.tmod n+n).tmod n=z % n:=by
 have h1:=QU z hn;have h2:(z.tmod n+n).tmod n=(z.tmod n+n) % n:=af6 oM;rw[h2,Int.add_emod_right];have h3:=Int.tmod_add_mul_tdiv z n;have h4:z % n=(z.tmod n+n*z.tdiv n) % n:=by rw[h3]
 rw[h4,Int.add_mul_emod_self_left]
structure Jw (w:World) (F:List Nat) (v:Value) (keep:List Int):Prop where
 ex:∃A cap b off,v=.slice A keep.length cap∧keep.length≤9223372036854775807∧(0<keep.length→A=some ⟨b,off,none⟩)∧∀w',ζ (· ∈ F) w w'→∀i (_:i<keep.length),w'.cell? ⟨b,off+i,none⟩=some (ι keep[i])
 ok:∀z ∈ keep,-9223372036854775808≤z∧z≤9223372036854775807
theorem Jw.aa9 {w0 w:World} {F:List Nat} {v:Value} {keep:List Int} (hF:∀q ∈ F,w0.heap.size≤q) (hA:Bl w0 v keep) (hu:υ w0 w):Jw w F v keep:=by
 obtain⟨A,cap,b,off,h1,h2,h3,h4,h5⟩:=hA.open_;exact⟨⟨A,cap,b,off,h1,h2,h3,fun w' hU i hi=>h4 w' (hu.then hU (fun q hq=>.inr (hF q hq))) i hi⟩,h5⟩
theorem aei {P:Prop} (h:P:=by
 clear Au au hs4;go_wp2_with (refine My rfl _ _ _ _ rfl rfl rfl xV ?_;go_frame)
 have hnext:zl w2 w4 p bl cap bm d keep m (j+1):=by
  refine HC.out.step hlt HG.out.2.2.2.2.2 (w1:=wr) ?_ (ζ.refl _ _) (by rw[Hi.out.1];exact HX.out.1) HX.out.2;rw[Hi.out.1,ai5 Hch.out hin Hi.out.2.2];exact HC.out.ψ
 go_roundw
 case rel=>exact⟨j+1,oM,by go_num,hnext⟩
 case measure=>simp[intOf]<;>omega):P:=h
theorem aa_ {w:World} {p:Nat} {d:Dk} {F:List Nat} {v:Value} {keep:List Int} (hD:bG w p d F) (hA:Jw w F v keep) :
 ς 44 #[.pointer (some ⟨p,0,none⟩),v] w fun e w'=>e=ώ (.tuple #[])∧∃F',Left w w' p (d.eT keep) F F':=by
 have HN:=δ (FU hD);have HD:=δ hD;obtain⟨bl,cap,bm,m,g1,g2,g3,g4,g5,gF,g7⟩:=hD;subst gF;obtain⟨kA,api,kb,aoj,rfl,km,kA0,abL⟩:=hA.ex;have kok:=hA.ok;have Tf:=g5.most;have hroom:=g5.room;have ef:d.busy.length≤4096:=by
  have:d.busy.length≤(List.range d.ψ.length).length:=List.length_filter_le _ _;rw[vj] at this;omega
 have hks:=ahg g4 g5.len g3.nodup;have hml:m.length=d.busy.length:=by
  have h1:=aI List.length hks;rw[bz,(List.mergeSort_perm _ _).length_eq,bz] at h1;exact h1
 have aej:∀q ∈ m,(Lit.int .i64 q.1).wf=true:=by
  intro q hq;obtain⟨i,e,hi,-,-⟩:=g4.each q hq;rw[e];have:=g5.len;simp only[Lit.wf,gV,eD];have h1:IntKind.i64.min=-9223372036854775808:=rfl;have h2:IntKind.i64.max=9223372036854775807:=rfl;omega
 have jh:=akv g3 aej oM;rw[hks] at jh;have HS:=δ jh;have hc:=g1.iE;have HK:=τ abL kok;have HG:=iw g1 g2 g3 g4 g5 g7;have Hml:=δ hml;clear g1 g2 g3 g4 g5 g7 jh abL kok aej hks hA hml;go_enter func44,ntmps44
 go_wp2_with fail
 refine HN.out.mono ?_;rintro e w' ⟨rfl,rfl⟩;go_wp2_with fail
 refine(amQ (some bm) _).mono ?_;rintro e w' ⟨rfl,rfl⟩;go_wp2_with fail
 refine HS.out.mono ?_;rintro e w2 ⟨v,rfl,hrow,σ⟩;rw[Hml.out] at hrow;obtain⟨A,nH,rg,rfl,l_,hrg,jq⟩:∃A nH rg,v=.slice A d.busy.length nH∧(0<d.busy.length→A=some ⟨rg,0,none⟩)∧(0<d.busy.length→w.heap.size≤rg∧rg<w2.heap.size) ∧
  ∀W:World,W.heap[rg]? = w2.heap[rg]? → ∀j (h:j<d.busy.length),W.cell? ⟨rg,j,none⟩=some (ι (d.busy[j]:Int)):=by
  rcases hrow.2 with ⟨rfl,h0⟩ | ⟨g,c,cur,rfl,r1,r2,r3,r4,r5,r6⟩
  ·exact⟨none,0,0,by rw[h0],fun h=>by omega,fun h=>by omega,fun W _ j h=>by omega⟩
  ·refine⟨_,c,g,rfl,fun _=>rfl,fun _=>⟨oM,(nZ.1 r2).1⟩,fun W hW j h=>?_⟩
   rw[Fa W g j cur _ (0,0) (hW.trans r2)];have h2:(cur.toList.take (d.busy.length*1))[j]? = some (ι (d.busy[j]:Int)):=by rw[r6];simp[h]
   rw[List.getElem?_take_of_lt oM] at h2;simpa using h2
 have hst:zl w2 w2 p bl cap bm d keep m 0:=by
  obtain⟨g1,g2,g3,g4,g5,g7⟩:=HG.out;refine⟨g1.ε σ id,?_,?_,?_,ζ.refl _ _⟩
  ·rw[Dk.ZG];exact g2.ε σ (fun _ _ e=>e)
  ·rw[Ze];exact g3.ε σ id
  ·rw[Ze,Dk.ZG]
   exact g4.ε fun k hk=>σ.block k (HD.out.lt k (by simp only[cC];exact .inr (.inr (.inr hk)))) id
 have H2:=aF hst σ hrg jq;clear hst σ hrg jq hrow hc HS HN;go_wp2_with fail
 go_loopw [18,4,5,6,7,8] (fun i _ _ _ _ _ wr=>∃j:Nat,j≤d.busy.length∧i=ι j∧zl w2 wr p bl cap bm d keep m j) (fun i _ _ _ _ _ _=>d.busy.length - (intOf i).toNat)
 case atStart=>exact⟨0,oM,rfl,H2.out.1⟩
 case round =>
  obtain⟨j,hj,rfl,hC⟩:=hrel;by_cases hlt:j<d.busy.length
  ·obtain rfl:=l_ oM
   obtain⟨i,hi⟩:=μ (d.busy[j]);have hni:=d.agA j hlt;have hib:=Dk.FE.1 (eE hlt);rw[hi] at hib hni;have pG:∀k,k=p∨k=bl∨k=bm→k<w.heap.size:=fun k hk=>HD.out.lt k (by simp only[cC];rcases hk with h | h | h;exact .inl h;exact .inr (.inl h);exact .inr (.inr (.inl h)))
   have hrl:=H2.out.2.2.1 oM;have hrc:=H2.out.2.2.2 wr (hC.ε.block rg hrl.2 (fun e=>by rcases e with e | e<;>· have:=pG rg (by simp[e]);omega)) j hlt;rw[hi] at hrc;obtain⟨v,-,hrun,hown,-,hmem⟩:=Jn (d:=d.part keep j) hC.map hC.waits i;rw[Dk.FM,ν hni] at hown hmem;have hmem:=hmem hib.2;have V3:0<(d.at_ i).length:=Iu.2 hib.2;have yM:=Dk.at_len (d:=d) i;obtain⟨g,cap',rfl,hnc,hcm⟩:=hown.head V3;have B8:=hC.blk.iE;have HC:=δ hC;have HO:=δ hown;have HM:=δ hmem;have Hi:=aq hi hib hni;have hin:i<d.ψ.length:=hib.1;clear hC hown hmem hi hib hni hnc hcm;by_cases hk:j<keep.length
   ·have hk':(j:Int)<(keep.length:Int):=oM
    obtain rfl:=kA0 oM;obtain⟨z,hz⟩:=μ (keep[j]);have hkc:wr.cell? ⟨kb,aoj+j,none⟩=some (ι z):=by
     rw[← hz];refine HK.out.1 wr ((H2.out.2.1.mono (G:=(· ∈ p::bl::bm::m.filterMap (·.2.ownBlock))) φ).then HC.out.ε (fun b e=>.inl ?_)) j hk;rcases e with e | e<;>simp[e]
    have hzr:=HK.out.2 z (hz ▸ eE hk);have Hz:=δ hz;clear hz;have hch:Dk.choice (d.at_ i) keep j=(z % (((d.at_ i).length:Int)+1)).toNat:=by
     unfold Dk.choice;rw[π hk,bN,bu hk,Hz.out];rfl
    have B9:=X4 z (show (0:Int)<((d.at_ i).length:Int)+1 by omega);have hm2:=X3 z (show ((d.at_ i).length:Int)+1≠0 by omega);have P5:=ahT z (((d.at_ i).length:Int)+1) oM;have ht1:=QU z (show (0:Int)<((d.at_ i).length:Int)+1 by omega);have ht2:=Yf z (show (0:Int)<((d.at_ i).length:Int)+1 by omega);have hwr:IntKind.i64.wrap (z.tmod (((d.at_ i).length:Int)+1)+(((d.at_ i).length:Int)+1))=z.tmod (((d.at_ i).length:Int)+1)+(((d.at_ i).length:Int)+1):=cZ _ oM;by_cases hc:0<Dk.choice (d.at_ i) keep j
    ·obtain⟨c,V4⟩:=μ (Dk.choice (d.at_ i) keep j)
     have Lr:z % (((d.at_ i).length:Int)+1)=(c:Int):=oM;rw[Lr] at P5;have cv:c≤(d.at_ i).length:=oM;have hc0:(0:Int)<(c:Int):=oM;have hwc:IntKind.i64.wrap ((c:Int) - 1)=(c:Int) - 1:=cZ _ oM;have hnew:wr.cell? ⟨g,c - 1,none⟩=some (.string (d.ox keep j i)):=by
      rw[HO.out.cellAt _ oM,FB,Dk.ox,π hc,V4,bN,bu oM];rfl
     have hold:wr.cell? ⟨bl,i,none⟩=some (.string (d.last i)):=by
      rw[HC.out.ψ.cellAt _ oM,FB,Dk.og d keep j i hin,ν Hi.out.2.2];rfl
     have hfz:=HC.out.ψ.frozenAt i oM;have Hcc:=aq hc V4 hch;have hcL:(c:Int) - 1<((d.at_ i).length:Int):=oM;clear hc V4 hch B9 hm2 ht1 ht2 Lr;generalize (d.at_ i).length=L at V3 yM hrun P5 hwr cv hcL ⊢;go_wp2_with fail
     go_region
     have Ai:bl≠bm:=by
      have:=HG.out.2.2.2.2.2;simp only[kn,cC,ql] at this;exact this.2.1.1
     have yI:p≠bl:=by
      have:=HG.out.2.2.2.2.2;simp only[kn,cC,ql] at this;exact this.1.1
     have yM:=(HC.out.ψ.stored i (.string (d.ox keep j i))).drew;have hc1:=((HC.out.blk.b9 (p:=⟨bl,i,none⟩) yI (.string (d.ox keep j i))).drew).cell 1;have az:ζ (· = bl) wr (wr.setCell ⟨bl,i,none⟩ (.string (d.ox keep j i))).drew:=((ζ.refl (· = bl) wr).setCell (p:=⟨bl,i,none⟩) (.inl rfl) _).drew;obtain⟨w4,xV,Au,au,hs4⟩:=((HC.out.map.b9 (p:=⟨bl,i,none⟩) (nt Ai) (.string (d.ox keep j i))).drew).C7 (P:=prog) (ty:=0) zI underlying149 underlying3 (i:Int);have HX:=aF yM az Au au;clear yM az Au au hs4 B8 Ai yI hold hnew hfz hrun;go_wp2_with (refine My rfl _ _ _ _ rfl rfl rfl xV ?_;go_frame)
     have hnext:zl w2 w4 p bl cap bm d keep m (j+1):=by
      refine HC.out.step hlt HG.out.2.2.2.2.2 (w1:=(wr.setCell ⟨bl,i,none⟩ (.string (d.ox keep j i))).drew) ?_ HX.out.2.1 ?_ HX.out.2.2.2
      ·rw[Hi.out.1]
       have:=HX.out.1;simp only[strs,QJ] at this ⊢;exact this
      ·rw[Hi.out.1]
       exact HX.out.2.2.1
     go_roundw
     case rel=>exact⟨j+1,oM,by go_num,hnext⟩
     case measure=>simp[intOf]<;>omega
    ·have Lr:z % (((d.at_ i).length:Int)+1)=0:=oM
     rw[Lr] at P5;have Hcc:=τ hc hch;clear hc hch B9 hm2 ht1 ht2 Lr;generalize (d.at_ i).length=L at V3 yM hrun P5 hwr ⊢;obtain⟨w4,xV,Au,au,hs4⟩:=HC.out.map.C7 (P:=prog) (ty:=0) zI underlying149 underlying3 (i:Int);have HX:=τ Au au;have Hch:Hid (Dk.choice (d.at_ i) keep j=0):=by have:=Hcc.out.1;show _=_;omega
     exact aei
   ·have hk':¬(j:Int)<(keep.length:Int):=oM
    obtain⟨w4,xV,Au,au,hs4⟩:=HC.out.map.C7 (P:=prog) (ty:=0) zI underlying149 underlying3 (i:Int);have HX:=τ Au au;have Hch:Hid (Dk.choice (d.at_ i) keep j=0):=by show Dk.choice _ _ _=_;unfold Dk.choice;rw[ν hk]
    exact aei
  ·obtain rfl:j=d.busy.length:=oM
   have B8:=hC.blk.iE;have aY:=hC.blk.frozen 2;have fY:=hC.blk.frozen 3;have HC:=δ hC;clear hC;go_wp2_with fail
   all_goals
    go_end0
    have hx:=HC.out.done (fun q hq=>by obtain⟨i,e,hi,h0,-⟩:=HG.out.2.2.2.1.each q hq;exact⟨i,e,hi,h0⟩) HG.out.2.2.2.2.1 HG.out.2.2.2.2.2;have hl:Left w _ p (d.eT keep) (p::bl::bm::m.filterMap (·.2.ownBlock)) [p,bl,bm]:=⟨hx.bH,(H2.out.2.1.mono (G:=(· ∈ p::bl::bm::m.filterMap (·.2.ownBlock))) φ).then hx.ε (fun _ e=>.inl e),fun k hk=>(hx.sub k hk).imp id (fun e=>ic H2.out.2.1.size e)⟩;first
    | exact⟨rfl,_,hl⟩
    | exact⟨rfl,_,hl.drew⟩
theorem Dk.abM {d:Dk} (h:d.pend=0) (i:Nat):d.at_ i=[]:=AU (oN (Dk.at_len (d:=d) i))
theorem Dk.akx {d:Dk} (h:d.pend=0) (i:Nat):d.now i=d.last i:=by
 unfold Dk.now;rw[Dk.abM h];rfl
namespace Dk
theorem ai6 {l:List ByteArray} {keep:List Int} {k:Nat} (hc:0<choice l keep k):choice l keep k - 1<l.length:=by
 unfold choice at hc ⊢;split at hc
 ·rename_i hk
  rw[if_pos hk];have h1:=Int.emod_lt_of_pos (keep.getD k 0) (show (0:Int)<(l.length:Int)+1 by omega);have h2:=Int.emod_nonneg (keep.getD k 0) (show (l.length:Int)+1≠0 by omega);omega
 ·omega
theorem aky {d:Dk} (hl:d.waits.length=d.ψ.length) (keep:List Int) {i:Nat} (hi:i<d.ψ.length) :
 (d.eT keep).now i=if i ∈ d.busy then d.ox keep (d.busy.idxOf i) i else d.last i:=by
 unfold now;rw[MV hl keep i];show (d.part keep d.busy.length).ψ.getD i ByteArray.empty=_;rw[List.getD_eq_getElem?_getD,og d keep d.busy.length i hi,List.take_length];rfl
theorem akz {d:Dk} (hl:d.waits.length=d.ψ.length) (keep:List Int) {i:Nat} (hi:i<d.ψ.length):(d.eT keep).now i=d.last i∨(d.eT keep).now i ∈ d.at_ i:=by
 rw[aky hl keep hi];split
 ·unfold ox
  split
  ·rename_i hc
   have hlt:=ai6 hc;right
   rw[List.getD_eq_getElem?_getD,List.getElem?_eq_getElem hlt];exact List.getElem_mem hlt
  ·exact .inl rfl
 ·exact .inl rfl
theorem agT (d:Dk) (keep:List Int):(d.eT keep).waits.length=d.waits.length:=by
 show ((List.range d.waits.length).map _).length=_;rw[List.length_map,List.length_range]
theorem Zf (d:Dk) (keep:List Int):(d.eT keep).ψ.length=d.ψ.length:=zj _ _ _
def free (d:Dk):Dk := { d with bP:=-1,off:=false }
theorem MW (d:Dk):d.dO.1.free=d.free:=by
 unfold dO;split
 ·rfl
 ·split<;>rfl
theorem aax {d:Dk} (h:d.dO.2=true):d.dO.1.off=d.off:=by
 unfold dO at h ⊢;split
 ·rename_i h0
  rw[if_pos h0] at h;simp at h
 ·split<;>rfl
theorem aay {d:Dk} (h:d.dO.2=false):d.dO.1.off=true:=by
 unfold dO at h ⊢;split
 ·rfl
 ·rename_i h0
  rw[if_neg h0] at h;split at h<;>simp at h
theorem ai7 (d:Dk) (i:Nat) (b:ByteArray):(d.push i b).free=d.free.push i b:=rfl
theorem ahU (d:Dk):d.flush.free=d.free.flush:=rfl
theorem Sf {d:Dk} (h1:d.bP=-1) (h2:d.off=false):d.free=d:=by
 obtain⟨a,b,c,e⟩:=d;simp only at h1 h2
 subst h1 h2;rfl
theorem ai8 {d:Dk} (ho:d.off=false) {i:Nat} (hi:i<d.ψ.length) {b:ByteArray} (hb:b.size=64) :
 ((d.write (i:Int) b).2=0∧(d.write (i:Int) b).1.off=false∧(d.write (i:Int) b).1.free=d.free.push i b) ∨
 ((d.write (i:Int) b).2=14∧(d.write (i:Int) b).1.off=true∧(d.write (i:Int) b).1.free=d.free):=by
 unfold write;rw[ho,if_neg sM,if_pos (by simp only[there,Bool.and_eq_true,decide_eq_true_eq];omega)];cases h:d.dO.2
 ·right
  rw[if_neg sM];exact⟨rfl,aay h,MW d⟩
 ·left
  rw[if_pos rfl];refine⟨rfl,(aax h).trans ho,?_⟩;show (d.dO.1.push i b).free=_;rw[ai7,MW]
theorem akA {d:Dk} (ho:d.off=false) :
 (d.sync.2=0∧d.sync.1.off=false∧d.sync.1.free=d.free.flush)∨(d.sync.2=14∧d.sync.1.off=true∧d.sync.1.free=d.free):=by
 unfold sync;rw[ho,if_neg sM];cases h:d.dO.2
 ·right
  rw[if_neg sM];exact⟨rfl,aay h,MW d⟩
 ·left
  rw[if_pos rfl];refine⟨rfl,(aax h).trans ho,?_⟩;show d.dO.1.flush.free=_;rw[ahU,MW]
end Dk
theorem abN (s:ByteArray) (w:World) (hs:s.size≤9223372036854775807) :
 Calls Tryz.prog 47 #[.string s] w fun e w'=>e=.returned (.tuple #[.string (str (cK s.data.toList).1),.int .i64 (cK s.data.toList).2])∧ζ (fun _=>False) w w':=by
 refine(SL s w hs).mono ?_;rintro e w' ⟨rfl,hb⟩;exact⟨rfl,ζ.pM hb _⟩
end
section
open Go Go.RowKit Go.ChangeShapes Go.WideShapes Go.ChangeAt Go.Deep
section
variable {H:Type} {enc:TypeId × Value→H} {P:Program} {w:World} {base:Nat} {spare:Nat→Bool} {held:Bool}
end
def acs (n:Int):Prop:=-9223372036854775808≤n∧n≤9223372036854775807
theorem akB {n:Int} (h:(Lit.int .i64 n).wf=true):acs n:=by
 simp only[Lit.wf,Bool.and_eq_true,decide_eq_true_eq] at h;have h1:IntKind.i64.min=-9223372036854775808:=rfl;have h2:IntKind.i64.max=9223372036854775807:=rfl;unfold acs;omega
theorem Zg (b off i:Nat):(⟨b,off,none⟩:Addr).add i=⟨b,off+i,none⟩:=by unfold Addr.add;simp
theorem ai9 {β : Type} (Q:Nat → β → Prop) (n:Nat) (h:∀i,i<n→∃r,Q i r):∃l:List β,l.length=n∧∀i (hi:i<l.length),Q i l[i]:=by
 induction n with
 | zero=>exact⟨[],rfl,fun i hi=>absurd hi sM⟩
 | succ n ih =>
   obtain⟨l,h1,h2⟩:=ih (fun i hi=>h i oM);obtain⟨r,hr⟩:=h n oM;refine⟨l++[r],by simp[h1],fun i hi=>?_⟩;by_cases hil:i<l.length
   ·rw[List.getElem_append_left hil]
    exact h2 i hil
   ·have:i=n:=by simp at hi;omega
    subst this;rw[List.getElem_append_right oM];simpa [h1] using hr
section
variable {H:Type} {enc:TypeId × Value→H} {w:World} {base:Nat} {spare:Nat→Bool} {held:Bool}
end
end
section
open Go Go.RowKit
theorem Gq {P:Prop} (h:P:=by rw[List.length_map];omega):P:=h
theorem ai_ (n j:Nat) (hj:j<n):(Dk.fresh n).now j=pO:=by
 unfold Dk.now Dk.at_ Dk.last Dk.fresh;simp only[List.getD_eq_getElem?_getD,List.getElem?_replicate];rw[if_pos hj,if_pos hj];rfl
theorem ahV (n:Nat):(Dk.fresh n).pend=0:=by
 unfold Dk.pend Dk.fresh;simp
theorem ahW {d:Dk} (ho:d.off=false) (hw:d.waits.length=d.ψ.length) (a:Nat) (l:List ByteArray) (hs:∀q ∈ l,q.size=64) (j:Nat) (hj:j≤l.length) (ha:a+j≤d.ψ.length) :
 ((bV d a l j).2=0∧(bV d a l j).1.off=false∧(bV d a l j).1.free=(bV d.free a l j).1) ∨
 ((bV d a l j).2=14∧(bV d a l j).1.off=true∧∃k,k≤j∧(bV d a l j).1.free=(bV d.free a l k).1):=by
 induction j with
 | zero=>exact .inl ⟨rfl,ho,rfl⟩
 | succ j ih =>
   rcases ih oM oM with ⟨i1,i2,i3⟩ | ⟨i1,i2,k,i3,i4⟩
   ·have hq:(l.getD j ByteArray.empty).size=64:=by
     exact T7
    obtain⟨s1,s2,s3⟩:=ug d a l hw j;obtain⟨f1,f2,f3,f4⟩:=Fo (d:=d.free) rfl rfl hw a l hs j oM (show a+j≤d.ψ.length by omega);have hfree:(bV d.free a l (j+1)).1=(bV d.free a l j).1.push (a+j) (l.getD j ByteArray.empty):=by
     obtain⟨g1,-⟩:=ug d.free a l hw j;rw[bV,if_neg (by rw[f1];simp),Dk.Ro f2 f3 (i:=a+j) (by rw[g1];show a+j<d.ψ.length;omega) hq]
    rw[bV,if_neg (by rw[i1];simp)]
    rcases Dk.ai8 i2 (i:=a+j) (by rw[s1];omega) hq with ⟨t1,t2,t3⟩ | ⟨t1,t2,t3⟩
    ·exact .inl ⟨t1,t2,by rw[t3,i3,hfree]⟩
    ·exact .inr ⟨t1,t2,j,oM,by rw[t3,i3]⟩
   ·rw[bV,if_pos (by rw[i1];simp)]
    exact .inr ⟨i1,i2,k,oM,i4⟩
theorem ai' {d:Dk} (h:d.bP=-1) (ho:d.off=false) (hw:d.waits.length=d.ψ.length) (h0:d.pend=0) (a:Nat) (l:List ByteArray) (hs:∀q ∈ l,q.size=64) (j:Nat) (hj:j≤l.length) (ha:a+j≤d.ψ.length) (i:Nat) :
 (bV d a l j).1.at_ i=if a≤i∧i<a+j then [l.getD (i - a) ByteArray.empty] else []:=by
 induction j with
 | zero=>rw[if_neg oM];exact Dk.abM h0 i
 | succ j ih =>
   obtain⟨f1,f2,f3,f4⟩:=Fo h ho hw a l hs j oM oM;obtain⟨s1,s2,s3⟩:=ug d a l hw j;have hq:(l.getD j ByteArray.empty).size=64:=by
    exact T7
   have ih':=ih oM oM;rw[bV,if_neg (by rw[f1];simp),Dk.Ro f2 f3 (i:=a+j) (by rw[s1];omega) hq,FK _ _ (by rw[s2,hw];omega)];by_cases e:i=a+j
   ·subst e
    rw[if_pos rfl,if_pos oM,ih',if_neg oM,Nat.add_sub_cancel_left];rfl
   ·rw[if_neg e,ih']
    by_cases e2:a≤i∧i<a+j
    ·rw[if_pos e2,if_pos oM]
    ·rw[if_neg e2,if_neg oM]
theorem akC {d D:Dk} (hw:d.waits.length=d.ψ.length) (h0:d.pend=0) (a:Nat) (l:List ByteArray) (hs:∀q ∈ l,q.size=64) (k:Nat) (hk:k≤l.length) (ha:a+k≤d.ψ.length) (hD:D.free=(bV d.free a l k).1) (keep:List Int) (i:Nat) (hi:i<d.ψ.length) :
 (D.eT keep).now i=d.now i∨(a≤i∧i<a+k∧(D.eT keep).now i=l.getD (i - a) ByteArray.empty):=by
 obtain⟨s1,s2,s3⟩:=ug d.free a l hw k;have hl:D.ψ=d.ψ:=(congrArg Dk.ψ hD).trans s1;have V5:D.waits.length=d.waits.length:=(congrArg (fun x:Dk=>x.waits.length) hD).trans s2;have hat:D.at_ i=if a≤i∧i<a+k then [l.getD (i - a) ByteArray.empty] else []:=by
  rw[← ai' (d:=d.free) rfl rfl hw h0 a l hs k hk ha i,← hD];rfl
 have N0:D.last i=d.now i:=by rw[Dk.akx h0 i,Dk.last,Dk.last,hl]
 rcases Dk.akz (d:=D) (by rw[V5,hl,hw]) keep (i:=i) (by rw[hl];exact hi) with e | e
 ·exact .inl (e.trans N0)
 ·rw[hat] at e
  by_cases c:a≤i∧i<a+k
  ·rw[if_pos c,List.mem_singleton] at e
   exact .inr ⟨c.1,c.2,e⟩
  ·rw[if_neg c] at e
   simp at e
section
variable {d:Dk} {g:Lg} {n ep:Nat} {hv:List ByteArray} {cut:Bool} {T9:ByteArray} {af:Nat}
end
def T_:Option Pt→ByteArray
 | none=>pO
 | some p=>p.sec
structure tj (d:Dk) (a:Nat) (L:List (Option Pt)):Prop where
 len:L.length=10
 cell:∀i (h:i<L.length),d.now (a+i)=T_ L[i]
 ok:∀p,some p ∈ L→p.ok
def cN:List (Option Pt)→List Pt
 | some p::r=>p::cN r
 | _=>[]
def iH (L:List (Option Pt)) (s:Nat):Nat:=L.foldl (fun m o=>max m (o.elim 0 Pt.gen)) s
theorem aja (A:List (Option Pt)) (p:Pt):cN (A++[some p])=if A.all Option.isSome then cN A++[p] else cN A:=by
 induction A with
 | nil=>rfl
 | cons x A ih =>
   cases x with
   | none=>rfl
   | some q =>
     simp only[List.cons_append,cN,ih,List.all_cons,Option.isSome_some,Bool.true_and];split<;>rfl
theorem ajb (A:List (Option Pt)):cN (A++[none])=cN A:=by
 induction A with
 | nil=>rfl
 | cons x A ih =>
   cases x with
   | none=>rfl
   | some q=>simp only[List.cons_append,cN,ih]
theorem akD (l:List Pt) (R:List (Option Pt)):cN (l.map some++R)=l++cN R:=by
 induction l with
 | nil=>rfl
 | cons p l ih=>simp only[List.map_cons,List.cons_append,cN,ih]
theorem aaz {L:List (Option Pt)} {p:Pt} (h:p ∈ cN L):some p ∈ L:=by
 induction L with
 | nil=>simp[cN] at h
 | cons x L ih =>
   cases x with
   | none=>simp[cN] at h
   | some q =>
     simp only[cN,List.mem_cons] at h;rcases h with rfl | h
     ·simp
     ·exact List.mem_cons_of_mem _ (ih h)
theorem akE {L:List (Option Pt)} {i:Nat} (h:i<(cN L).length):L[i]? = some (some (cN L)[i]):=by
 induction L generalizing i with
 | nil=>simp[cN] at h
 | cons x L ih =>
   cases x with
   | none=>simp[cN] at h
   | some q =>
     cases i with
     | zero=>simp[cN]
     | succ i =>
       simp only[cN,List.length_cons] at h;have:=ih (i:=i) oM;simpa [cN] using this
theorem ahh {A B:List (Option Pt)} {n:Nat} (h:∀i,i<n→A[i]? = B[i]?) (hn:n≤(cN A).length):n≤(cN B).length∧(cN A).take n=(cN B).take n:=by
 induction n generalizing A B with
 | zero=>simp
 | succ n ih =>
   cases A with
   | nil=>simp[cN] at hn
   | cons x A =>
     cases x with
     | none=>simp[cN] at hn
     | some p =>
       have h0:=h 0 oM;cases B with
       | nil=>simp at h0
       | cons y B =>
         simp only[List.getElem?_cons_zero,Option.some.injEq] at h0;subst h0;simp only[cN,List.length_cons] at hn;have:=ih (A:=A) (B:=B) (fun i hi=>by simpa using h (i+1) oM) oM;simp only[cN,List.length_cons,List.take_succ_cons];exact⟨oM,by rw[this.2]⟩
theorem Sx (L:List (Option Pt)) (s:Nat):s≤iH L s:=by
 unfold iH;induction L generalizing s with
 | nil=>exact Nat.le_refl _
 | cons x L ih=>exact Nat.le_trans (Nat.le_max_left _ _) (ih _)
theorem Nk {L:List (Option Pt)} {p:Pt} (h:some p ∈ L) (s:Nat):p.gen≤iH L s:=by
 unfold iH;induction L generalizing s with
 | nil=>simp at h
 | cons x L ih =>
   rcases List.mem_cons.1 h with rfl | h
   ·exact Nat.le_trans (Nat.le_max_right _ _) (Sx L _)
   ·exact ih h _
theorem NA {L:List (Option Pt)} {m:Nat} (h:∀p,some p ∈ L→p.gen≤m) (s:Nat) (hs:s≤m):iH L s≤m:=by
 unfold iH;exact aef
theorem akF {d:Dk} {a:Nat} {L:List (Option Pt)} (h:tj d a L) (seen k:Nat) (hk:k≤10):fH d a seen k=⟨cN (L.take k),(L.take k).all Option.isSome,iH (L.take k) seen,false⟩:=by
 induction k with
 | zero=>rfl
 | succ k ih =>
   have hlt:k<L.length:=by rw[h.len];omega
   rw[IL,ih oM,zh,if_neg sM,h.cell k hlt,List.take_succ_eq_append_getElem hlt];have hmem:L[k] ∈ L:=List.getElem_mem hlt;cases hx:L[k] with
   | none =>
     rw[show T_ none=pO from rfl,Za,if_neg dC,if_neg dC,ajb];simp[iH]
   | some p =>
     have hok:=h.ok p (hx ▸ hmem);rw[show T_ (some p)=p.sec from rfl,ako p hok,if_neg sM,if_pos rfl,Y9 p hok.gen' hok.number hok.all hok.text,aja];simp[iH]
def two (f:Nat) (L0 L1:List (Option Pt)):Kp :=
 if (ec (cN L0)).2<(ec (cN L1)).2 then ⟨f,(ec (cN L1)).1,(ec (cN L1)).2,1,iH L1 (iH L0 0),false⟩
 else if 0<(ec (cN L0)).2 then ⟨f,(ec (cN L0)).1,(ec (cN L0)).2,0,iH L1 (iH L0 0),false⟩
 else ⟨f,[],0,1,iH L1 (iH L0 0),false⟩
theorem Rr {d:Dk} {n:Nat} {k:Kp} {L:List (Option Pt)} (h:tj d (k.from_+n*10) L) :
 FD d n k=some (if k.gen<(ec (cN L)).2 then { k with seen:=iH L k.seen,text:=(ec (cN L)).1,gen:=(ec (cN L)).2,at_:=n } else { k with seen:=iH L k.seen }):=by
 have hs:=akF h k.seen 10 oM;rw[List.take_of_length_le (by rw[h.len];omega)] at hs;rw[FD,hs,if_neg sM]
theorem amS {d:Dk} {f:Nat} {L0 L1:List (Option Pt)} (h0:tj d f L0) (h1:tj d (f+10) L1):sd d f 2=some (two f L0 L1):=by
 have e0:sd d f 1=FD d 0 ⟨f,[],0,1,0,false⟩:=rfl;rw[Rr (L:=L0) (by simpa using h0)] at e0;rw[sd,e0,Option.bind_some];unfold two;by_cases c0:0<(ec (cN L0)).2
 ·rw[if_pos c0,Rr (L:=L1) yc]
  by_cases c1:(ec (cN L0)).2<(ec (cN L1)).2
  ·rw[if_pos c1,if_pos c1]
  ·rw[if_neg c1,if_neg c1,if_pos c0]
 ·rw[if_neg c0,Rr (L:=L1) yc]
  have e:(ec (cN L0)).2=0:=oM;rw[e];by_cases c1:0<(ec (cN L1)).2
  ·rw[if_pos c1,if_pos c1]
  ·rw[if_neg c1,if_neg c1,if_neg oM]
theorem aaA {g k:Nat} {R M:List (Option Pt)} {t:List UInt8} (hR:∀p,some p ∈ R→p.gen<g) (hk:k=aM t.length)
 (hM:∀i,M[i]? = R[i]? ∨ (i<k∧M[i]? = (aU t g)[i]?.map some)) (hno:¬ ∀i,i<k→M[i]? = (aU t g)[i]?.map some):(ec (cN M)).2≤(ec (cN R)).2:=by
 by_cases h0:(ec (cN M)).2=0
 ·omega
 ·obtain⟨t',s',rest,hs0,ht',hrow,hh⟩:=ahS h0
  have hn':=ZF t'.length;have cv:=od t' s';have hlen:aM t'.length≤(cN M).length:=by rw[hrow,List.length_append,cv];omega
  have qv:∀(i:Nat) (h:i<aM t'.length),M[i]? = some (some ((aU t' s')[i]'yg)):=by
   intro i h;rw[akE oM];simp only[hrow];rw[List.getElem_append_left yg]
  have hold:∀(i:Nat) (p:Pt),M[i]? = R[i]? → M[i]? = some (some p)→p.gen<g:=by
   intro i p h1 h2;rw[h1] at h2;exact hR p (List.mem_of_getElem? h2)
  have hnew:∀(i:Nat) (p:Pt),(i<k∧M[i]? = (aU t g)[i]?.map some)→M[i]? = some (some p)→p.gen=g∧p.all=k:=by
   intro i p h1 h2;rw[h1.2,List.getElem?_eq_getElem (by rw[od];omega)] at h2;simp only[Option.map_some,Option.some.injEq] at h2;obtain⟨c1,c2,c3,c4⟩:=Db t g i (by rw[od];omega);rw[h2] at c1 c3;exact⟨c1,oM⟩
  have hcut:∀(i:Nat) (h:i<aM t'.length),((aU t' s')[i]'yg).gen=s'∧((aU t' s')[i]'yg).all=aM t'.length:=by
   intro i h;obtain⟨c1,c2,c3,c4⟩:=Db t' s' i yg;exact⟨c1,c3⟩
  by_cases hs:s'=g
  ·exfalso
   have Sv:∀i:Nat,i<aM t'.length→i<k∧M[i]? = (aU t g)[i]?.map some:=by
    intro i h;rcases hM i with e1 | e1
    ·have:=hold i _ e1 (qv i h)
     have:=(hcut i h).1;omega
    ·exact e1
   exact aeh
  ·have Sw:∀i:Nat,i<aM t'.length→M[i]? = R[i]? := by
    intro i h;rcases hM i with e1 | e1
    ·exact e1
    ·have h1:=(hnew i _ e1 (qv i h)).1
     have h2:=(hcut i h).1;omega
   obtain⟨p1,p2⟩:=ahh Sw hlen;have iP:cN R=aU t' s'++(cN R).drop (aM t'.length):=by
    have e1:(cN M).take (aM t'.length)=aU t' s':=by rw[hrow,List.take_left' cv]
    rw[← e1,p2,List.take_append_drop]
   rw[hh,iP,ZC _ _ _ hs0 ht'];exact Nat.le_refl _
theorem aaB {d d2:Dk} {a g:Nat} {L:List (Option Pt)} {t:List UInt8} (h:tj d a L) (hg:0<g) (tS:g<18446744073709551616) (ht:t.length≤400)
 (hn:∀i,i<10→d2.now (a+i)=d.now (a+i)∨(i<aM t.length∧d2.now (a+i)=((aU t g).map Pt.sec).getD i ByteArray.empty)) :
 ∃ M,tj d2 a M∧(∀i,M[i]? = L[i]? ∨ (i<aM t.length∧M[i]? = (aU t g)[i]?.map some)) ∧
  ((∀i,i<aM t.length→d2.now (a+i)=((aU t g).map Pt.sec).getD i ByteArray.empty)↔(∀i,i<aM t.length→M[i]? = (aU t g)[i]?.map some)):=by
 classical
 have e64:(2:Nat) ^ (8*8)=18446744073709551616:=dC;have hok:=Su t g hg oM ht;have cv:=od t g;have hall:aM t.length≤9:=zJ
 have rC:∀i (hi:i<aM t.length),((aU t g).map Pt.sec).getD i ByteArray.empty=((aU t g)[i]'oM).sec:=by
  intro i hi;rw[List.getD_eq_getElem?_getD,List.getElem?_map,List.getElem?_eq_getElem oM];rfl
 have hl:=h.len;have Ar:∀i,i<10→((List.range 10).map fun i=>if i<aM t.length∧d2.now (a+i)=((aU t g).map Pt.sec).getD i ByteArray.empty then (aU t g)[i]? else L.getD i none)[i]? =
  some (if i<aM t.length∧d2.now (a+i)=((aU t g).map Pt.sec).getD i ByteArray.empty then (aU t g)[i]? else L.getD i none):=by
  intro i hi;rw[List.getElem?_map,List.getElem?_range hi,Option.map_some]
 refine⟨(List.range 10).map fun i=>if i<aM t.length∧d2.now (a+i)=((aU t g).map Pt.sec).getD i ByteArray.empty then (aU t g)[i]? else L.getD i none,⟨sM,fun i hi=>?_,fun p hp=>?_⟩,fun i=>?_,⟨fun hnew i hi=>?_,fun hM i hi=>?_⟩⟩
 ·have hi2:i<10:=by simpa using hi
  rw[List.getElem_map,List.getElem_range];by_cases c:i<aM t.length∧d2.now (a+i)=((aU t g).map Pt.sec).getD i ByteArray.empty
  ·rw[if_pos c,List.getElem?_eq_getElem oM,c.2,rC i c.1]
   rfl
  ·rw[if_neg c]
   rcases hn i hi2 with e | e
   ·rw[e,h.cell i oM,List.getD_eq_getElem?_getD,List.getElem?_eq_getElem oM]
    rfl
   ·exact absurd e c
 ·obtain⟨i,hi,e⟩:=List.mem_iff_getElem.1 hp
  have hi2:i<10:=tA
  rw[List.getElem_map,List.getElem_range] at e;by_cases c:i<aM t.length∧d2.now (a+i)=((aU t g).map Pt.sec).getD i ByteArray.empty
  ·rw[if_pos c] at e
   exact hok p (List.mem_of_getElem? e)
  ·rw[if_neg c,List.getD_eq_getElem?_getD,List.getElem?_eq_getElem oM,Option.getD_some] at e
   exact h.ok p (by rw[← e];exact List.getElem_mem _)
 ·by_cases hi:i<10
  ·rw[Ar i hi]
   by_cases c:i<aM t.length∧d2.now (a+i)=((aU t g).map Pt.sec).getD i ByteArray.empty
   ·rw[if_pos c]
    refine .inr ⟨c.1,?_⟩;rw[List.getElem?_eq_getElem oM];rfl
   ·rw[if_neg c,List.getD_eq_getElem?_getD,List.getElem?_eq_getElem oM]
    exact .inl rfl
  ·rw[List.getElem?_eq_none tA,List.getElem?_eq_none oM]
   exact .inl rfl
 ·rw[Ar i oM,if_pos ⟨hi,hnew i hi⟩,List.getElem?_eq_getElem oM]
  rfl
 ·by_cases c:d2.now (a+i)=((aU t g).map Pt.sec).getD i ByteArray.empty
  ·exact c
  ·have h1:=hM i hi
   rw[Ar i oM,if_neg (fun e=>c e.2),List.getD_eq_getElem?_getD,List.getElem?_eq_getElem oM,List.getElem?_eq_getElem oM] at h1;simp only[Option.getD_some,Option.map_some,Option.some.injEq] at h1;rcases hn i oM with e | e
   ·rw[e,h.cell i oM,h1,rC i hi]
    rfl
   ·exact e.2
theorem MX {d d2:Dk} {a:Nat} {L:List (Option Pt)} (h:tj d a L) (hn:∀i,i<10→d2.now (a+i)=d.now (a+i)):tj d2 a L :=
 ⟨h.len,fun i hi=>by rw[hn i (oN h.len)];exact h.cell i hi,h.ok⟩
theorem aaC {g:Nat} {M:List (Option Pt)} {t:List UInt8} (hg:0<g) (ht:t.length≤400) (hM:∀i,i<aM t.length→M[i]? = (aU t g)[i]?.map some):ec (cN M)=(t,g):=by
 have cv:=od t g;have e:M=(aU t g).map some++M.drop (aM t.length):=by
  refine List.ext_getElem? fun i=>?_
  by_cases hi:i<aM t.length
  ·rw[hM i hi,List.getElem?_append_left Gq,List.getElem?_map]
  ·rw[List.getElem?_append_right Gq,List.getElem?_drop,List.length_map,cv]
   congr 1
   omega
 rw[e,akD,ZC t g _ oM ht]
structure ij (d:Dk) (k:Kp) (L0 L1:List (Option Pt)):Prop where
 bP:d.bP=-1
 off:d.off=false
 waits:d.waits.length=d.ψ.length
 room:k.from_+20≤d.ψ.length
 s0:tj d k.from_ L0
 s1:tj d (k.from_+10) L1
 is:two k.from_ L0 L1=k
section
variable {d d2:Dk} {k:Kp} {L0 L1:List (Option Pt)}
theorem ij.opens (h:ij d k L0 L1):sd d k.from_ 2=some k:=by rw[amS h.s0 h.s1,h.is]
theorem I3 (f:Nat) (L0 L1:List (Option Pt)):(two f L0 L1).from_=f∧(two f L0 L1).seen=iH L1 (iH L0 0)∧(two f L0 L1).at_≤1∧(two f L0 L1).broken=false:=by
 unfold two;split
 ·exact⟨rfl,rfl,sM,rfl⟩
 ·split
  ·exact⟨rfl,rfl,sM,rfl⟩
  ·exact⟨rfl,rfl,sM,rfl⟩
theorem ij.seen (h:ij d k L0 L1):k.seen=iH L1 (iH L0 0):=by
 have:=(I3 k.from_ L0 L1).2.1;rw[h.is] at this;exact this
theorem ij.at_ (h:ij d k L0 L1):k.at_≤1:=by
 have:=(I3 k.from_ L0 L1).2.2.1;rw[h.is] at this;exact this
theorem ij.broken (h:ij d k L0 L1):k.broken=false:=by
 have:=(I3 k.from_ L0 L1).2.2.2;rw[h.is] at this;exact this
theorem ij.aok (h:ij d k L0 L1):∀p,some p ∈ L0→p.gen≤k.seen:=fun p hp=>by
 rw[h.seen];exact Nat.le_trans (Nk hp 0) (Sx _ _)
theorem ij.aol (h:ij d k L0 L1):∀p,some p ∈ L1→p.gen≤k.seen:=fun p hp=>by
 rw[h.seen];exact Nk hp _
theorem ij.mix (h:ij d k L0 L1) (t:List UInt8) (ht:t.length≤400) (hs:k.seen+1<18446744073709551616)
 (hf:d2.bP=-1) (ho:d2.off=false) (hw:d2.waits.length=d2.ψ.length) (hl:d2.ψ.length=d.ψ.length)
 (hn:∀i,i<d.ψ.length→d2.now i=d.now i∨(k.from_+(1 - k.at_)*10≤i∧i<k.from_+(1 - k.at_)*10+aM t.length∧d2.now i=((aU t (k.seen+1)).map Pt.sec).getD (i - (k.from_+(1 - k.at_)*10)) ByteArray.empty)) :
 ∃ k' oJ oK,ij d2 k' oJ oK∧k'.from_=k.from_∧k'.seen≤k.seen+1∧(k'=k.put t∨(k'.text=k.text∧k'.gen=k.gen)) ∧
  ((∀i,i<aM t.length→d2.now (k.from_+(1 - k.at_)*10+i)=((aU t (k.seen+1)).map Pt.sec).getD i ByteArray.empty)→k'=k.put t):=by
 have hat:=h.at_;have hroom:=h.room;have hall:aM t.length≤9:=zJ
 have ao9:=ZF t.length;have uP:=h.aok;have K6:=h.aol;have F6:=h.seen;have hh0:(ec (cN L0)).2≤k.seen:=aau fun p hp=>uP p (aaz hp)
 have hh1:(ec (cN L1)).2≤k.seen:=aau fun p hp=>K6 p (aaz hp)
 have cv:=od t (k.seen+1)
 -- the gens of a mixed slot
 have hgm:∀ {L M:List (Option Pt)},(∀p,some p ∈ L→p.gen≤k.seen)→(∀i,M[i]? = L[i]? ∨ (i<aM t.length∧M[i]? = (aU t (k.seen+1))[i]?.map some))→∀p,some p ∈ M→p.gen≤k.seen+1:=by
  intro L M hL hM p hp;obtain⟨i,hi,e⟩:=List.mem_iff_getElem.1 hp;have e2:M[i]? = some (some p):=by rw[List.getElem?_eq_getElem hi,e]
  rcases hM i with e1 | ⟨e0,e1⟩
  ·rw[e1] at e2
   have:=hL p (List.mem_of_getElem? e2);omega
  ·rw[e1,List.getElem?_eq_getElem oM] at e2
   simp only[Option.map_some,Option.some.injEq] at e2;have:=(Db t (k.seen+1) i oM).1;rw[e2] at this;omega
 have hfull:∀ {M:List (Option Pt)},(∀i,i<aM t.length→M[i]? = (aU t (k.seen+1))[i]?.map some)→∃p,some p ∈ M∧p.gen=k.seen+1:=by
  intro M hM;have h0:=hM 0 oM;rw[List.getElem?_eq_getElem (by omega:0<(aU t (k.seen+1)).length),Option.map_some] at h0;exact⟨_,List.mem_of_getElem? h0,(Db t (k.seen+1) 0 oM).1⟩
 have Tb:k.at_=1∨k.at_=0:=oM;rcases Tb with e | e
 ·-- slot 0 is written
  have ea:k.from_+(1 - k.at_)*10=k.from_:=by rw[e];rfl
  rw[ea] at hn ⊢;obtain⟨M,m1,m2,m3⟩:=aaB (d2:=d2) h.s0 (g:=k.seen+1) (t:=t) oM hs ht (fun i hi=>by
   rcases hn (k.from_+i) oM with c | ⟨c1,c2,c3⟩
   ·exact .inl c
   ·exact .inr ⟨oM,by rw[c3];congr 1;omega⟩)
  have s1:tj d2 (k.from_+10) L1:=MX h.s1 fun i hi=>by
   rcases hn (k.from_+10+i) oM with c | ⟨c1,c2,c3⟩
   ·exact c
   ·omega
  have V6:=hgm uP m2;have hS:iH L1 (iH M 0)≤k.seen+1:=NA (fun p hp=>oN (K6 p hp)) _ (NA V6 _ (Nat.zero_le _));have tf:=I3 k.from_ M L1;have hput:(∀i,i<aM t.length→M[i]? = (aU t (k.seen+1))[i]?.map some)→two k.from_ M L1=k.put t:=by
   intro hM;have hh:=aaC oM ht hM;obtain⟨p,hp,hpg⟩:=hfull hM;have h1:=Nk hp 0;have h2:=Sx L1 (iH M 0);have bn:iH L1 (iH M 0)=k.seen+1:=oM;unfold two Kp.put;rw[hh,if_neg (by show ¬k.seen+1<_;omega),if_pos (by show 0<k.seen+1;omega),bn,e]
  refine⟨two k.from_ M L1,M,L1,⟨hf,ho,hw,by rw[hl,tf.1];exact hroom,by rw[tf.1];exact m1,by rw[tf.1];exact s1,by rw[tf.1]⟩,tf.1,by rw[tf.2.1];exact hS,?_,fun hx=>hput (m3.1 hx)⟩;by_cases hM:∀i,i<aM t.length→M[i]? = (aU t (k.seen+1))[i]?.map some
  ·exact .inl (hput hM)
  ·right
   have hle:=aaA (fun p hp=>oN (uP p hp)) rfl m2 hM;have l8:=h.is;unfold two at l8 ⊢;by_cases c1:(ec (cN L0)).2<(ec (cN L1)).2
   ·rw[if_pos c1] at l8
    rw[if_pos oM];rw[← l8];exact⟨rfl,rfl⟩
   ·rw[if_neg c1] at l8
    by_cases c2:0<(ec (cN L0)).2
    ·rw[if_pos c2] at l8
     rw[← l8] at e;simp at e
    ·rw[if_neg c2] at l8
     rw[if_neg oM,if_neg oM,← l8];exact⟨rfl,rfl⟩
 ·-- slot 1 is written
  have ea:k.from_+(1 - k.at_)*10=k.from_+10:=by rw[e]
  rw[ea] at hn ⊢;obtain⟨M,m1,m2,m3⟩:=aaB (d2:=d2) h.s1 (g:=k.seen+1) (t:=t) oM hs ht (fun i hi=>by
   rcases hn (k.from_+10+i) oM with c | ⟨c1,c2,c3⟩
   ·exact .inl c
   ·exact .inr ⟨oM,by rw[c3];congr 1;omega⟩)
  have s0:tj d2 k.from_ L0:=MX h.s0 fun i hi=>by
   rcases hn (k.from_+i) oM with c | ⟨c1,c2,c3⟩
   ·exact c
   ·omega
  have V6:=hgm K6 m2;have hS:iH M (iH L0 0)≤k.seen+1:=NA V6 _ (NA (fun p hp=>oN (uP p hp)) _ (Nat.zero_le _));have tf:=I3 k.from_ L0 M;have hput:(∀i,i<aM t.length→M[i]? = (aU t (k.seen+1))[i]?.map some)→two k.from_ L0 M=k.put t:=by
   intro hM;have hh:=aaC oM ht hM;obtain⟨p,hp,hpg⟩:=hfull hM;have h1:=Nk hp (iH L0 0);have bn:iH M (iH L0 0)=k.seen+1:=oM;unfold two Kp.put;rw[hh,if_pos (by show _<k.seen+1;omega),bn,e]
  refine⟨two k.from_ L0 M,L0,M,⟨hf,ho,hw,by rw[hl,tf.1];exact hroom,by rw[tf.1];exact s0,by rw[tf.1];exact m1,by rw[tf.1]⟩,tf.1,by rw[tf.2.1];exact hS,?_,fun hx=>hput (m3.1 hx)⟩;by_cases hM:∀i,i<aM t.length→M[i]? = (aU t (k.seen+1))[i]?.map some
  ·exact .inl (hput hM)
  ·right
   have hle:=aaA (fun p hp=>oN (K6 p hp)) rfl m2 hM;have l8:=h.is;unfold two at l8 ⊢;by_cases c1:(ec (cN L0)).2<(ec (cN L1)).2
   ·rw[if_pos c1] at l8
    rw[← l8] at e;simp at e
   ·rw[if_neg c1] at l8
    by_cases c2:0<(ec (cN L0)).2
    ·rw[if_pos c2] at l8
     rw[if_neg oM,if_pos c2,← l8];exact⟨rfl,rfl⟩
    ·rw[if_neg c2] at l8
     rw[← l8] at e;simp at e
end
theorem alU (n f:Nat) (h:f+20≤n):ij (Dk.fresh n) ⟨f,[],0,1,0,false⟩ (List.replicate 10 none) (List.replicate 10 none):=by
 have hno:∀p:Pt,some p ∉ List.replicate 10 (none:Option Pt):=fun p hp=>by have:=List.eq_of_mem_replicate hp;simp at this
 have hz:∀a,a+10≤n→tj (Dk.fresh n) a (List.replicate 10 none):=by
  intro a ha;refine⟨sM,fun i hi=>?_,fun p hp=>absurd hp (hno p)⟩;have e:(Dk.fresh n).now (a+i)=pO:=by
   have hi':i<10:=tA
   exact aeg
  rw[e,List.getElem_replicate];rfl
 exact⟨rfl,rfl,by simp[Dk.fresh],by simpa [Dk.fresh] using h,hz f oM,hz (f+10) oM,rfl⟩
theorem aaD (d:Dk) (a:Nat) (l:List Pt) (j:Nat) (hj:j≤l.length):ig d a l j=bV d a (l.map Pt.sec) j:=by
 induction j with
 | zero=>rfl
 | succ j ih =>
   rw[ig,bV,ih oM];have e:(l.getD j ⟨0,0,0,[]⟩).sec=(l.map Pt.sec).getD j ByteArray.empty:=by
    rw[List.getD_eq_getElem?_getD,List.getD_eq_getElem?_getD,List.getElem?_map,List.getElem?_eq_getElem oM];rfl
   rw[e]
section
variable {d:Dk} {k:Kp} {f:Nat} {last T9:List UInt8} {is cut:Bool} {seen:Nat}
end
section
variable {w0 w w':World} {p b:Nat} {d d':Dk} {g:Lg} {X:Nat→Prop} {n ep af:Nat} {hv:List ByteArray} {cut:Bool} {T9:ByteArray}
end
section
variable {w0 w w':World} {p b f seen:Nat} {d d':Dk} {k:Kp} {last T9:List UInt8} {is cut:Bool} {L0 L1:List (Option Pt)}
end
structure iC where
 name:List UInt8
 yh:Bool
deriving DecidableEq
structure MetaM where
 role:Int
 seen:Int
 aH:Int
 aZ:List iC
 aW:List UInt8
structure dw where
 m:MetaM
 at_:Int
 θ:Int
 slot:Nat
 log:Nat
 key:Nat
 κ:Nat
structure bQ where
 index:Int
 θ:Int
 ops:List dn
def nI:List iC→List iC→Bool
 | _,[]=>true
 | a,m::r=>oq m.name && !(a.any fun o=>decide (o.name=m.name)) && nI (a++[m]) r
def qq (l:List iC):Bool:=nI [] l && decide (1≤l.length∧l.length≤4)
def dF (m:MetaM):Bool:=(decide (m.aZ=[])|| qq m.aZ) && decide (0≤m.role∧m.role≤3∧0≤m.seen∧0≤m.aH∧m.aW.length≤64)
def kK (m:iC):List UInt8:=bJ m.name++[if m.yh then 1 else 0]
def cG (s:dw) (uk:List UInt8):List UInt8 :=
 aR 1++(aR s.m.role.toNat++(aR s.m.seen.toNat++(aR s.m.aH.toNat++(aR s.at_.toNat++(aR s.θ.toNat++(aR s.slot++(aR s.key++(aR s.log++(aR s.κ++(aR s.m.aZ.length++(s.m.aZ.flatMap kK++bJ uk)))))))))))
def ir (b:bQ):List UInt8:=zB b.index.toNat b.θ.toNat b.ops
def cH (S:List ai) (l:List dn):List ai:=l.foldl (fun S o=>if o.kind=2 then rB o.path S else jJ o.path o.value S) S
def fD (S:List ai) (l:List dn):Int:=if d_ 1 1 l≠0 then d_ 1 1 l else if 48<(cH S l).length then 6 else 0
def lI:List ai→List ai→List ai × Int
 | S,[]=>(S,0)
 | S,p::r=>if jF p.1=false∨32<p.2.length then ([],1) else if (lT p.1 S).isSome then ([],5) else lI (jJ p.1 p.2 S) r
def fM (l:List ai):List ai × Int:=if 48<l.length then ([],6) else lI [] l
def bS (t:List UInt8):Nat:=(t.length+55) / 56
def dN (slot:Nat):Nat:=340+(slot - 1)*80
def kz (t:List UInt8) (i:Nat):List UInt8:=(t.drop (56*i)).take 56
def oh (t:List UInt8) (i:Nat):List UInt8:=UInt8.ofNat i::UInt8.ofNat (bS t)::UInt8.ofNat (kz t i).length::0::(kz t i++List.replicate (56 - (kz t i).length) 0)
def jm (t:List UInt8):List ByteArray:=(List.range (bS t)).map fun i=>str (gW (oh t i))
def gw (d:Dk) (slot:Nat) (t:List UInt8):Dk × Int :=
 if 80<bS t then (d,6) else
 if (bV d (dN slot) (jm t) (bS t)).2≠0 then bV d (dN slot) (jm t) (bS t) else (bV d (dN slot) (jm t) (bS t)).1.sync
structure aQ where
 S:List ai
 at_:Int
 θ:Int
 rows:List bQ
 prev:Int
 st:dw
 down:Bool
 kp:Kp
 lg:Lg
 cur:Nat
 n:Nat
def jo:List UInt8:=[109,97,115,116,101,114]
def kD:List UInt8:=[109,97,112]
def jZ:List UInt8:=[108,111,103]
def er:List UInt8:=[115,101,99,114,101,116]
def aQ.wrap (v:aQ) (about text:List UInt8):List UInt8:=r_ (kP jo v.cur) v.cur v.st.κ v.n about text
def aQ.next (v:aQ):aQ := { v with n:=v.n+1 }
def aQ.told (v:aQ) (e:Int):aQ := { v with down:=v.down || decide (e=14) }
def dm (d:Dk) (v:aQ) (s:dw):Dk × aQ × Int :=
 if (dG d v.kp (cG s (v.wrap er s.m.aW))).2.2≠0 then
  ((dG d v.kp (cG s (v.wrap er s.m.aW))).1,({ v.next with kp:=(dG d v.kp (cG s (v.wrap er s.m.aW))).2.1 } : aQ).told (dG d v.kp (cG s (v.wrap er s.m.aW))).2.2,(dG d v.kp (cG s (v.wrap er s.m.aW))).2.2)
 else ((dG d v.kp (cG s (v.wrap er s.m.aW))).1,{ v.next with kp:=(dG d v.kp (cG s (v.wrap er s.m.aW))).2.1,st:=s },0)
def dw.whole (s:dw) (m:MetaM) (at_ θ:Int):dw := { s with m:=m,at_:=at_,θ:=θ,slot:=1+s.slot % 2,log:=s.log+1 }
def gX (d:Dk) (v:aQ) (m:MetaM) (x:List ai) (at_ θ:Int):Dk × aQ × Int :=
 let t:=v.wrap kD (gL x)
 let s:=v.st.whole m at_ θ
 let r1:=gw d s.slot t
 if r1.2≠0 then (r1.1,v.next.told r1.2,r1.2) else
 let r2:=dm r1.1 v.next s
 if r2.2.2≠0 then r2 else
 match nA r2.1 20 320 s.log with
 | none=>(r2.1,r2.2.1.told 9,9)
 | some g=>(r2.1,{ r2.2.1 with lg:=g,S:=x,at_:=at_,θ:=θ,rows:=[],prev:=θ },0)
def aQ.does (v:aQ) (b:bQ):aQ := { v with S:=cH v.S b.ops,rows:=v.rows++[b],at_:=b.index,θ:=b.θ }
def iu (d:Dk) (v:aQ) (b:bQ):Dk × aQ × Int :=
 let t:=v.wrap jZ (ir b)
 let r:=jK d v.lg (str t)
 if r.2.2≠0 then (r.1,({ v.next with lg:=r.2.1 } : aQ).told r.2.2,r.2.2) else (r.1,({ v.next with lg:=r.2.1 } : aQ).does b,0)
def iI (d:Dk) (v:aQ):Bool:=v.down || d.off
def vz (d:Dk) (v:aQ) (b:bQ):Dk × aQ × Int :=
 if iI d v then (d,{ v with down:=true },14) else
 if d_ b.index b.θ b.ops≠0 then (d,v,d_ b.index b.θ b.ops) else
 if b.index≠v.at_+1∨b.θ<v.θ then (d,v,1) else
 if fD v.S b.ops≠0 then (d,v,fD v.S b.ops) else
 if 24≤v.rows.length then
  let r:=gX d v v.st.m v.S v.at_ v.θ
  if r.2.2≠0 then r else
  -- the map is the one that was made ahead
  let r2:=iu r.1 r.2.1 b
  (r2.1,if r2.2.2=0 then { r2.2.1 with S:=cH v.S b.ops } else r2.2.1,r2.2.2)
 else iu d v b
def zQ (d:Dk) (v:aQ) (m:MetaM):Dk × aQ × Int :=
 if iI d v then (d,{ v with down:=true },14) else if dF m=false then (d,v,1) else dm d v { v.st with m:=m }
def mK (at_ θ:Int):Bool:=decide (at_=0∧θ=0)|| decide (1≤at_∧at_≤4611686018427387904∧1≤θ)
def zm (d:Dk) (v:aQ) (m:MetaM) (l:List ai) (at_ θ:Int):Dk × aQ × Int :=
 if iI d v then (d,{ v with down:=true },14) else if dF m=false∨mK at_ θ=false then (d,v,1) else
 if (fM l).2≠0 then (d,v,(fM l).2) else gX d v m (fM l).1 at_ θ
def xI (d:Dk) (v:aQ):Dk × aQ × Int :=
 if iI d v then (d,{ v with down:=true },14) else if 1048576≤v.st.key then (d,v,6) else
 let r:=dm d v { v.st with key:=v.st.key+1 }
 if r.2.2≠0 then r else (r.1,{ r.2.1 with cur:=r.2.1.cur+1 },0)
end
end Go.Proofs.YtbhjgfibhegddaaGreat
