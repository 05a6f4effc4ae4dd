/-
  Parts of the proof of VaultFalls: AesB, AesC, AesD, AesE, Seal, SealB.
-/
import Derived.Test.YtbhjgfibhegddaaGreatQVaultFalls05
set_option maxRecDepth 100000
set_option maxHeartbeats 16000000
namespace Go.Proofs.YtbhjgfibhegddaaGreat
abbrev aoY:=@List.drop_append_of_le_length
abbrev xz:=@List.set_cons_zero
abbrev y_:=@List.length_singleton
abbrev Yb:=@List.take_add
abbrev af6:=@Int.tmod_eq_emod_of_nonneg
abbrev A6:=@List.getElem?_range
abbrev ID:=@List.getElem_map
abbrev QK:=@List.getElem_range
abbrev af7:=@Go.yieldsIf_load_mid
open Tryz
section
open Go Go.RowKit
theorem TQ {P:Prop} (h:P:=by rw[aN,jE];omega):P:=h
theorem Ou {P:Prop} (h:P:=by rw[← iz];exact(ζ.refl _ w2).alloc _):P:=h
theorem JW {P:Prop} (h:P:=by rw[jC];omega):P:=h
theorem TR {P:Prop} (h:P:=by rw[← jy,← hgt];exact η.new wr _ _):P:=h
theorem aao (off:Nat):∀(vs:List Value) (n:Nat) (cells:Array Value),off+n+vs.length≤cells.size →
 (vs.zipIdx n).foldl (fun (cs:Array Value) p=>cs.setIfInBounds (off+p.2) p.1) cells=(cells.toList.take (off+n)++vs++cells.toList.drop (off+n+vs.length)).toArray
 | [],n,cells,h=>by simp
 | v::r,n,cells,h=>by
   rw[eZ] at h;rw[List.zipIdx_cons,List.foldl_cons,aao off r (n+1) _ (by rw[Array.size_setIfInBounds];omega)];have e:=list_seg_step cells.toList (off+n) v r (by rw[xo];omega);rw[XS];rw[show off+(n+1)=off+n+1 by omega];rw[show off+n+(v::r).length=off+n+(r.length+1) by rw[eZ]];rw[← e]
theorem agO (l:List UInt8) (hl:l.length=256):prog.built 361 [(1,.agg (aj l))]=some (aj (List.replicate 240 0++l)):=by
 obtain⟨it,hit⟩:∃it,prog.info? 361=some it:=Option.isSome_iff_exists.1 kR;have hz:it.zero=some (.agg (aj (List.replicate 496 0))):=by
  have h:(prog.info? 361).bind (·.zero)=some (.agg (aj (List.replicate 496 0))):=kR;rw[hit] at h;exact h
 unfold Program.built;rw[hit,underlying361];simp only[hz];rw[show List.mapM (m:=Option) _ _=some [(0,240),(240,256)] from by kernel_rfl];simp only[Instr.fill];show (if (decide ((aj l).size≠256)|| decide (240+(aj l).size > (aj (List.replicate 496 0)).size))=true then none else some (Array.foldl (fun cs x=>cs.setIfInBounds (240+x.snd) x.fst) (aj (List.replicate 496 0)) (aj l).zipIdx))=_;rw[ν (by rw[bX,bX,hl,jE];decide)]
 congr 1
 rw[← Array.foldl_toList,Array.toList_zipIdx];have h:=aao 240 (aO l) 0 (aj (List.replicate 496 0)) (by rw[uh,hl,bX,jE];omega);refine Eq.trans h ?_;unfold aj;congr 1
 rw[uh,hl,rW];show List.take 240 (aO (List.replicate 496 0))++aO l++List.drop 496 (aO (List.replicate 496 0))=_;rw[qj (by rw[uh,jE];omega),y7];unfold aO;rw[← Ff,List.take_replicate];rfl
theorem ahI {w:World} {g off n cap b o m c:Nat} {T:TypeId} {l0 l:List UInt8} (hB:η w g T (aj l0)) (hn:n≤m) (hl:l.length=n) (hc:∀i,i<n→w.cell? ⟨b,o+i,none⟩=some (ϋ ((l.getD i 0).toNat:Int))) (hf:off+n≤l0.length) :
 ∃W r,(Builtin.copy_ #[89,89] 3 #[.slice (some ⟨g,off,none⟩) n cap,.slice (some ⟨b,o,none⟩) m c]).run prog w=.ok r W∧η W g T (aj (l0.take off++l++l0.drop (off+n)))∧ζ (· = g) w W∧W.heap.size=w.heap.size:=by
 have hrun:=run_copy_row (P:=prog) w 89 89 3 5 g off n cap ⟨b,o,none⟩ m c (aj l0) T (aO l) underlying89 kR hB (by rw[uh,hl];exact(Nat.min_eq_right hn).symm) (fun j u e=>by
  have hj:j<l.length:=TK
  rw[Addr.add_mid,hc j oM,← e];simp[aO,hj]) (by rw[uh,bX];omega) (C8 _)
 refine⟨_,_,hrun,?_,ζ.Nn _ _ _,by simp[World.setRow]⟩;have e:((aj l0).toList.take off++aO l++(aj l0).toList.drop (off+(aO l).length)).toArray=aj (l0.take off++l++l0.drop (off+n)):=by
  rw[uh,hl];simp[aj,aO,List.map_take,List.map_drop]
 rw[e];exact hB.setRow _
def kU (V B:List UInt8):List UInt8:=V++List.replicate (240 - V.length) 0++B
theorem Jb (V B:List UInt8) (h:V.length≤240):(kU V B).length=240+B.length:=by
 unfold kU;rw[aN,aN,jE];omega
theorem ajX (V x B:List UInt8) (n:Nat) (hn:V.length=n) (h:n+x.length≤240):(kU V B).take n++x++(kU V B).drop (n+x.length)=kU (V++x) B:=by
 subst hn;unfold kU;simp only[eC];rw[Md,List.drop_append,qj oM,oR,rU,aoY BG,X9,aN,show 240 - V.length - x.length=240 - (V.length+x.length) by omega]
theorem ajY (V B:List UInt8) (b:UInt8) (n:Nat) (hn:V.length=n) (h:n<240):(kU V B).set n b=kU (V++[b]) B:=by
 subst hn;unfold kU;obtain⟨m,hm⟩:∃m,240 - V.length=m+1:=⟨240 - V.length - 1,oM⟩;rw[eC,Iq _ _ (bO _),Ir,hm,List.replicate_succ,pI,xz,aN,y_,show 240 - (V.length+1)=m by omega];simp
theorem aap (V B:List UInt8) (i:Nat) (h:i<V.length):(kU V B).getD i 0=V.getD i 0:=by
 unfold kU;rw[eC,bN,qi h,bN]
theorem ajZ (V B:List UInt8) (hV:V.length≤240) (i:Nat):(kU V B).getD (240+i) 0=B.getD i 0:=by
 unfold kU;have h1:(V++List.replicate (240 - V.length) (0:UInt8)).length=240:=TQ
 rw[bN,mG oM,h1,rU,bN]
theorem YY {P:Prop} (h:P:=by
 go_wp2_with fail
 go_loopw [9,77] (fun _ u w'=>∃k:Nat,k≤4∧u=ι (k:Int)∧η w' gt 82 (aj T)∧η w' c 361 (aj (kU (V++(List.range k).map (fun k=>V.getD (4*n+k) 0 ^^^ T.getD k 0)) B))∧ζ (· = c) w3 w') (fun _ u _=>4 - (intOf u).toNat)
 case atStart=>exact⟨0,oM,rfl,HT.out.1,by simpa using HT.out.2.1,HT.out.2.2.1⟩
 case round =>
  obtain⟨k,hk,rfl,jz,qa,nM⟩:=hrel;by_cases hlt:k<4
  ·obtain⟨hi,hm⟩:=HI.out
   have kV:=HB.out.2.2.1;have iN:=HT.out.2.2.2.1;have hUl:(V++(List.range k).map (fun k=>V.getD (4*n+k) 0 ^^^ T.getD k 0)).length=i*4+k:=by rw[aN,bz,vj];omega
   have hc1:=jz.lz k oM;have hc2:=qa.lz (n*4+k) (by rw[Jb _ _ oM];omega);rw[aap _ _ _ oM,show n*4+k=4*n+k by omega,bN,qi oM,← bN] at hc2;rw[show 4*n+k=n*4+k by omega] at hc2;have sH:=qa.lz (i*4+k) (by rw[Jb _ _ oM,HK.out.2.2.2];omega);have hst:=ajY (V++(List.range k).map (fun k=>V.getD (4*n+k) 0 ^^^ T.getD k 0)) B (V.getD (4*n+k) 0 ^^^ T.getD k 0) (i*4+k) hUl oM;rw[eC,show (List.range k).map (fun k=>V.getD (4*n+k) 0 ^^^ T.getD k 0)++[V.getD (4*n+k) 0 ^^^ T.getD k 0]=(List.range (k+1)).map (fun k=>V.getD (4*n+k) 0 ^^^ T.getD k 0) by rw[t_,lq];rfl,show 4*n+k=n*4+k by omega] at hst
   obtain⟨x,hx⟩:=μ (V.getD (n*4+k) 0);obtain⟨y,hy⟩:=μ (T.getD k 0);rw[hx] at hc2 hst;rw[hy] at hc1 hst;obtain⟨z,hz⟩:=μ (x ^^^ y);have hxy:=pW x y;rw[hz] at hxy hst;obtain⟨old,hold⟩:=μ ((kU (V++(List.range k).map (fun k=>V.getD (4*n+k) 0 ^^^ T.getD k 0)) B).getD (i*4+k) 0);rw[hold] at sH;have hf:=qa.frozen (i*4+k);have j7:(k:Int)<4:=oM;have j9:(n:Int)<60:=oM;have tJ:=aF jz qa nM hst;have j6:IntKind.i64.wrap ((i:Int) - 8)=(n:Int):=qx
   clear jz qa nM hst hx hy hz hold kV iN hUl hi hm;go_wp2_with fail
   go_still_tail 20,kR
   change wpList _ _ _ _ _ (World.drew _);go_wp2_with fail
   clear j6;go_roundw
   case rel =>
    refine⟨k+1,oM,by go_num,?_,?_,?_⟩
    ·exact(tJ.out.1.b9 (p:=⟨c,i*4+k,none⟩) HQ.out.2.2.2.2 _).drew
    ·rw[← tJ.out.2.2.2];exact(tJ.out.2.1.zH (i*4+k) z).drew
    ·exact(tJ.out.2.2.1.setCell (p:=⟨c,i*4+k,none⟩) (.inl rfl) _).drew
   case measure=>simp[intOf]<;>omega
  ·obtain rfl:k=4:=oM
   have e4:((4:Nat):Int)=4:=rfl;rw[e4];have cy:=HT.out.2.2.2.2;have de:(mj key (n+1)).1=V++(List.range 4).map (fun k=>V.getD (4*n+k) 0 ^^^ T.getD k 0):=by rw[cy]
   rw[← de] at qa;have Vw:=aI Prod.snd cy;have HF:=aq qa nM Vw;have HJ:=δ (show (i:Int)+1=((n+1+8:Nat):Int) by have:=HI.out.1;omega);clear jz qa nM cy de Vw e4 hlt hk;go_wp2_with fail
   go_roundw
   case rel=>exact⟨n+1,oM,by rw[← HJ.out],by rw[HF.out.2.2],HF.out.2.1,HF.out.1⟩
   case measure=>simp[intOf]<;>omega):P:=h
theorem adu {P:Prop} (h:P:=by
 rw[hx] at hc1 hst;have hxl:=x.toNat_lt;have kV:=HB.out.2.2.1;have hc2:=qa.lz (240+x.toNat) (by rw[Jb _ _ oM,HK.out.2.2.2];omega);rw[ajZ _ _ oM] at hc2;obtain⟨y,hy⟩:=μ (B.getD x.toNat 0);rw[hy] at hc2;simp only[hy] at hst;have hf:=jz.frozen k;have j7:(k:Int)<4:=oM;have j8:(x.toNat:Int)<256:=oM;have tJ:=aF jz qa nM hst;clear jz qa nM hst hx hy kV hxl j1 j5;go_wp2_with fail
 go_still_tail 10,kR
 change wpList _ _ _ _ _ (World.drew _);go_wp2_with fail
 go_roundw
 case rel =>
  refine⟨k+1,oM,by go_num,?_,?_,?_⟩
  ·rw[← tJ.out.2.2.2];exact(tJ.out.1.zH k y).drew
  ·exact(tJ.out.2.1.b9 (p:=⟨gt,k,none⟩) (fun e=>HQ.out.2.2.2.2 e.symm) _).drew
  ·exact(tJ.out.2.2.1.setCell (p:=⟨gt,k,none⟩) (.inr HQ.out.2.2.2.1) _).drew
 case measure=>simp[intOf]<;>omega):P:=h
theorem adv {P:Prop} (h:P:=by
 have HT:=cD yD GN GO iN cy;clear yD GN GO iN cy hT rI j1 j5;exact YY):P:=h
theorem ahJ (key:List UInt8) (hk:key.length=32) (w:World) :
 ς 245 #[.agg (aj key)] w fun e w'=>∃c,e=ώ (.pointer (some ⟨c,0,none⟩))∧η w' c 361 (aj (Di key++sr))∧w.heap.size≤c∧υ w w':=by
 obtain⟨S,hS⟩:=μ (Di key);obtain⟨B,hB⟩:=μ sr;have hbc:=fun W=>ano W
 rw[hB] at hbc;rw[hS,hB];have hBl:B.length=256:=by rw[← hB];exact R8
 have hbu:=agO B hBl;have HBC:=δ hbc;have HBU:=δ hbu;have HK:=aF hk hS hB hBl;obtain⟨g,hg⟩:=μ w.heap.size;have HG:=δ hg;clear hbc hbu hk hS hB hBl;go_enter func245,ntmps245
 go_wp2_with fail
 generalize hw1:World.alloc _ _=w1;have aP:η w1 g 194 (aj key):=by rw[← hw1,← hg];exact η.new w _ _
 have az:υ w w1:=ry
 have nK:=τ aP az;clear aP az hw1 hg;refine(HBC.out w1).mono ?_;rintro e w2 ⟨rfl,σ⟩;have jP:=δ σ;clear σ;go_wp2_with (first
  |(show wpList _ _ _ (⟨_,Op.build _ _,_,_,_,_⟩::_) _ _
    refine qQ rfl _ _ rfl [(1,.agg (aj B))] _ kR HBU.out ?_))
 obtain⟨c,hc⟩:=μ w2.heap.size;have HC:=δ hc;rw[hc];generalize iz:World.alloc _ _=w3;have aC:η w3 c 361 (aj (List.replicate 240 0++B)):=by rw[← iz,← hc];exact η.new w2 _ _
 have χ:υ w2 w3:=Ou
 have hkb:η w3 g 194 (aj key):=nK.out.1.ε (jP.out.then χ φ) id;have Cb:g<c:=by rw[← hc];exact nY nK.out.1.lt jP.out.size
 have iO:=aq aC ((nK.out.2.then jP.out φ).then χ φ) hkb;clear aC χ hkb iz hc;go_loopw [4,13] (fun _ u wr=>∃k:Nat,k≤8∧u=ι (k:Int)∧ζ (· = c) w3 wr∧η wr c 361 (aj (kU (key.take (4*k)) B))) (fun _ u _=>8 - (intOf u).toNat)
 case atStart=>exact⟨0,oM,rfl,ζ.refl _ _,iO.out.1⟩
 case round =>
  obtain⟨k,hk,rfl,hu,hB⟩:=hrel;by_cases hlt:k<8
  ·have HB:=τ hu hB
   have hkb:=iO.out.2.2.ε hu (fun e=>by omega);have KQ:=δ hkb;obtain⟨q,hq⟩:=μ (4*k);have HQ:=δ hq;have i1:(q:Int)≤32:=oM;have i0:(0:Int)≤(q:Int):=oM;have i2:q<32:=oM;have i3:¬32=q:=oM;have i5:(k:Int)<60:=oM;have i4:IntKind.i64.wrap (4*(k:Int))=(q:Int):=qx
   clear hu hB hkb hq;go_wp2_with fail
   go_still_tail 9,kR
   change wpList _ _ _ _ _ wr.drew;go_wp2_with fail
   clear i4;have oI:=HK.out.1;have hq:=HQ.out;have nN:((key.drop q).take 4).length=4:=by rw[iW,jC];omega
   have htl:(key.take (4*k)).length=4*k:=D7
   obtain⟨W,r,sF,aJ,au,dh⟩:=ahI (off:=k*4) (n:=4) (cap:=4) (b:=g) (o:=q) (m:=32 - q) (c:=32 - q) (l:=(key.drop q).take 4) HB.out.2.drew oM nN (fun i hi=>by
    rw[Mi,KQ.out.lz (q+i) oM];simp[List.getD_eq_getElem?_getD,hi]) (by rw[Jb _ _ oM];omega)
   have hput:=ajX (key.take (4*k)) ((key.drop q).take 4) B (k*4) oM oM;rw[nN] at hput;rw[hput] at aJ;have cU:key.take (4*k)++(key.drop q).take 4=key.take (4*(k+1)):=by
    rw[← hq,show 4*(k+1)=4*k+4 by omega,Yb]
   rw[cU] at aJ;have je:=τ aJ (HB.out.1.drew.then au (fun q hq=>.inl hq));rw[sF];clear oI hq nN htl sF aJ au dh hput cU;go_wp2_with fail
   go_roundw
   case rel=>exact⟨k+1,oM,by go_num,je.out.2,je.out.1⟩
   case measure=>simp[intOf]<;>omega
  ·obtain rfl:k=8:=oM
   have e8:((8:Nat):Int)=8:=rfl;rw[e8];have oI:=HK.out.1;rw[dV oM] at hB;have dJ:∀n,(mj key n).1.length=32+4*n:=YG oI;have pn:=δ dJ;have HB:=τ hu hB;clear hu hB oI hlt hk e8 dJ;go_wp2_with fail
   go_loopw [5,6] (fun p u wr=>∃n:Nat,n≤52∧u=ι ((n+8:Nat):Int)∧p=ϋ ((mj key n).2.toNat:Int)∧ζ (· = c) w3 wr∧η wr c 361 (aj (kU (mj key n).1 B))) (fun _ u _=>60 - (intOf u).toNat)
   case atStart=>exact⟨0,oM,rfl,rfl,HB.out.1,HB.out.2⟩
   case round =>
    clear HB;obtain⟨n,hn,rfl,rfl,hu,hB⟩:=hrel;by_cases hlt:n<52
    ·have rI:=pn.out n
     have cy:mj key (n+1)=((mj key n).1++(List.range 4).map (fun k=>(mj key n).1.getD (4*n+k) 0 ^^^ (JD (n+8) (mj key n).2 ((mj key n).1.drop (4*(n+7)))).getD k 0),if (n+8) % 8=0 then sG (mj key n).2 else (mj key n).2):=rfl;obtain⟨⟨V,pw⟩,hVp⟩:∃V,mj key n=V:=⟨_,rfl⟩;rw[hVp] at rI cy hB ⊢;simp only at rI cy hB ⊢
     have nN:(V.drop (4*(n+7))).length=4:=JW
     obtain⟨t0,t1,t2,t3,hT⟩:∃a b c d,V.drop (4*(n+7))=[a,b,c,d]:=by
      match V.drop (4*(n+7)),nN with
      | [a,b,c,d],_=>exact⟨a,b,c,d,rfl⟩
     rw[hT] at cy;have hgt:∀j,j<4→V.getD (4*(n+7)+j) 0=[t0,t1,t2,t3].getD j 0:=fun j hj=>by
      rw[← hT,bN,bN,Ml]
     have HB:=cD hu hB rI hgt cy;obtain⟨i,hi⟩:=μ (n+8);obtain⟨m,hm⟩:=μ (n+7);have HI:=τ hi hm;rw[hi];have j1:IntKind.i64.wrap ((i:Int) - 1)=(m:Int):=qx
     have j2:(m:Int)<60:=oM;have j3:(i:Int)<60:=oM;have j5:((i:Int) - 1)=(m:Int):=oM;clear hu hB rI hgt cy hVp hT nN hi hm;have hpt:∀j v,([ϋ (t0.toNat:Int),ϋ (t1.toNat:Int),ϋ (t2.toNat:Int),ϋ (t3.toNat:Int)]:List Value)[j]? = some v→(aj (kU V B))[m*4+j]? = some v:=fun j v e=>by
      obtain⟨hi,hm⟩:=HI.out;have rI:=HB.out.2.2.1;have hj:j<4:=by have:=(mF.1 e).1;simpa using this
      rw[aan _ _ (by rw[Jb _ _ oM];omega),aap _ _ _ oM,show m*4+j=4*(n+7)+j by omega,HB.out.2.2.2.1 j hj,← e];match j,hj with
      | 0,_=>rfl
      | 1,_=>rfl
      | 2,_=>rfl
      | 3,_=>rfl
     have Vx:=δ hpt;clear hpt;by_cases h8:i % 8=0
     ·
      --#a {
      have k1:((i:Int) % 8 == 0)=true:=iy
      have k2:((i:Int) % 4 == 0)=true:=iy
      go_wp2_with (first
       |(refine rV rfl _ _ rfl c (m*4) rfl _ _ [ϋ (t0.toNat:Int),ϋ (t1.toNat:Int),ϋ (t2.toNat:Int),ϋ (t3.toNat:Int)] _ HB.out.2.1 Vx.out underlying82 rfl kR ?_))
      obtain⟨gt,hgt⟩:=μ wr.heap.size;rw[hgt];generalize jy:World.alloc _ _=wq;have jA:η wq gt 82 (aj [t1,t2,t3,t0]):=TR
      have Cc:η wq c 361 (aj (kU V B)):=by rw[← jy];exact HB.out.2.1.alloc _
      have qb:ζ (· = c) w3 wq:=by rw[← jy];exact HB.out.1.alloc _
      have fX:w3.heap.size≤gt:=by rw[← hgt];exact HB.out.1.size
      have hne:gt≠c:=fun e=>by have h1:=HB.out.2.1.lt;omega
      have HQ:=cD jA Cc qb fX hne;clear jy jA Cc qb fX hne hgt;go_loopw [8,53] (fun _ u w'=>∃k:Nat,k≤4∧u=ι (k:Int)∧η w' gt 82 (aj (rj (fun b=>B.getD b.toNat 0) [t1,t2,t3,t0] k))∧η w' c 361 (aj (kU V B))∧ζ (· = c) w3 w') (fun _ u _=>4 - (intOf u).toNat)
      case atStart=>exact⟨0,oM,rfl,HQ.out.1,HQ.out.2.1,HQ.out.2.2.1⟩
      case round =>
       obtain⟨k,hk,rfl,jz,qa,nM⟩:=hrel;by_cases hlt:k<4
       ·have hc1:=jz.lz k (by rw[RH];exact hlt)
        rw[RI _ _ _ (by exact hlt)] at hc1;have hst:=Rj (fun b=>B.getD b.toNat 0) [t1,t2,t3,t0] k (by exact hlt);obtain⟨x,hx⟩:=μ ([t1,t2,t3,t0].getD k 0);exact adu
       ·obtain rfl:k=4:=oM
        have e4:((4:Nat):Int)=4:=rfl;rw[e4];rw[show rj (fun b=>B.getD b.toNat 0) [t1,t2,t3,t0] 4=[t1,t2,t3,t0].map (fun b=>B.getD b.toNat 0) from RJ _ [t1,t2,t3,t0]] at jz;clear e4 hlt hk;have hc0:=jz.lz 0 (by show 0<4;omega);have Eb:=jz.frozen 0;have hx0:=pW (B.getD t1.toNat 0) pw;have GI:=δ (fun W=>Ns pw W);obtain⟨a0,ha0⟩:∃a,B.getD t1.toNat 0=a:=⟨_,rfl⟩;rw[show ([t1,t2,t3,t0].map (fun b=>B.getD b.toNat 0)).getD 0 0=a0 from ha0] at hc0;rw[ha0] at hx0;obtain⟨z0,bU⟩:∃z,a0 ^^^ pw=z:=⟨_,rfl⟩;rw[bU] at hx0;have HS:=cD jz qa nM ha0 bU;clear jz qa nM ha0 bU;go_wp2_with fail
        refine(GI.out _).mono ?_;rintro e w9 ⟨rfl,rfl⟩;have yD:=HS.out.1.zH 0 z0;have GN:=HS.out.2.1.b9 (p:=⟨gt,0,none⟩) (fun e=>HQ.out.2.2.2.2 e.symm) (ϋ (z0.toNat:Int));have GO:=HS.out.2.2.1.setCell (p:=⟨gt,0,none⟩) (.inr HQ.out.2.2.2.1) (ϋ (z0.toNat:Int));rw[show ([t1,t2,t3,t0].map fun b=>B.getD b.toNat 0).set 0 z0=[z0,B.getD t2.toNat 0,B.getD t3.toNat 0,B.getD t0.toNat 0] from rfl] at yD;obtain⟨hax,hzx⟩:=HS.out.2.2.2;clear HS hc0 Eb hx0;have rI:=HB.out.2.2.1;obtain⟨T,hT⟩:=μ ([z0,B.getD t2.toNat 0,B.getD t3.toNat 0,B.getD t0.toNat 0]);rw[hT] at yD;have iN:T.length=4:=by rw[← hT];rfl
        have cy:mj key (n+1)=(V++(List.range 4).map (fun k=>V.getD (4*n+k) 0 ^^^ T.getD k 0),sG pw):=by
         obtain⟨hi,hm⟩:=HI.out;rw[HB.out.2.2.2.2,← hT];have tL:=HK.out.2.2.1;subst hi;unfold JD;simp only[tL];rw[π h8,π h8,π (by omega:(n+8) % 4=0),π h8,← hzx,← hax];rfl
        exact adv
      --#a }
     ·have k1:((i:Int) % 8 == 0)=false:=by simp;omega
      by_cases h4:i % 4=0
      ·
       --#b {
       have k2:((i:Int) % 4 == 0)=true:=iy
       go_wp2_with (first
        |(refine rV rfl _ _ rfl c (m*4) rfl _ _ [ϋ (t0.toNat:Int),ϋ (t1.toNat:Int),ϋ (t2.toNat:Int),ϋ (t3.toNat:Int)] _ HB.out.2.1 Vx.out underlying82 rfl kR ?_))
       obtain⟨gt,hgt⟩:=μ wr.heap.size;rw[hgt];generalize jy:World.alloc _ _=wq;have jA:η wq gt 82 (aj [t0,t1,t2,t3]):=TR
       have Cc:η wq c 361 (aj (kU V B)):=by rw[← jy];exact HB.out.2.1.alloc _
       have qb:ζ (· = c) w3 wq:=by rw[← jy];exact HB.out.1.alloc _
       have fX:w3.heap.size≤gt:=by rw[← hgt];exact HB.out.1.size
       have hne:gt≠c:=fun e=>by have h1:=HB.out.2.1.lt;omega
       have HQ:=cD jA Cc qb fX hne;clear jy jA Cc qb fX hne hgt;go_loopw [8,53] (fun _ u w'=>∃k:Nat,k≤4∧u=ι (k:Int)∧η w' gt 82 (aj (rj (fun b=>B.getD b.toNat 0) [t0,t1,t2,t3] k))∧η w' c 361 (aj (kU V B))∧ζ (· = c) w3 w') (fun _ u _=>4 - (intOf u).toNat)
       case atStart=>exact⟨0,oM,rfl,HQ.out.1,HQ.out.2.1,HQ.out.2.2.1⟩
       case round =>
        obtain⟨k,hk,rfl,jz,qa,nM⟩:=hrel;by_cases hlt:k<4
        ·have hc1:=jz.lz k (by rw[RH];exact hlt)
         rw[RI _ _ _ (by exact hlt)] at hc1;have hst:=Rj (fun b=>B.getD b.toNat 0) [t0,t1,t2,t3] k (by exact hlt);obtain⟨x,hx⟩:=μ ([t0,t1,t2,t3].getD k 0);exact adu
        ·obtain rfl:k=4:=oM
         have e4:((4:Nat):Int)=4:=rfl;rw[e4];rw[show rj (fun b=>B.getD b.toNat 0) [t0,t1,t2,t3] 4=[t0,t1,t2,t3].map (fun b=>B.getD b.toNat 0) from RJ _ [t0,t1,t2,t3]] at jz;clear e4 hlt hk;have yD:=jz;have GN:=qa;have GO:=nM;clear jz qa nM;have rI:=HB.out.2.2.1;obtain⟨T,hT⟩:=μ ([t0,t1,t2,t3].map fun b=>B.getD b.toNat 0);rw[hT] at yD;have iN:T.length=4:=by rw[← hT];rfl
         have cy:mj key (n+1)=(V++(List.range 4).map (fun k=>V.getD (4*n+k) 0 ^^^ T.getD k 0),pw):=by
          obtain⟨hi,hm⟩:=HI.out;rw[HB.out.2.2.2.2,← hT];have tL:=HK.out.2.2.1;subst hi;unfold JD;simp only[tL];rw[ν h8,ν h8,π (by omega:(n+8) % 4=0),ν h8]
         exact adv
       --#b }
      ·
       --#c {
       have k2:((i:Int) % 4 == 0)=false:=iy
       go_wp2_with (first
        |(refine rV rfl _ _ rfl c (m*4) rfl _ _ [ϋ (t0.toNat:Int),ϋ (t1.toNat:Int),ϋ (t2.toNat:Int),ϋ (t3.toNat:Int)] _ HB.out.2.1 Vx.out underlying82 rfl kR ?_))
       obtain⟨gt,hgt⟩:=μ wr.heap.size;rw[hgt];generalize jy:World.alloc _ _=wq;have jA:η wq gt 82 (aj [t0,t1,t2,t3]):=TR
       have Cc:η wq c 361 (aj (kU V B)):=by rw[← jy];exact HB.out.2.1.alloc _
       have qb:ζ (· = c) w3 wq:=by rw[← jy];exact HB.out.1.alloc _
       have fX:w3.heap.size≤gt:=by rw[← hgt];exact HB.out.1.size
       have hne:gt≠c:=fun e=>by have h1:=HB.out.2.1.lt;omega
       have HQ:=cD jA Cc qb fX hne;clear jy jA Cc qb fX hne hgt;have yD:=HQ.out.1;have GN:=HQ.out.2.1;have GO:=HQ.out.2.2.1;have rI:=HB.out.2.2.1;obtain⟨T,hT⟩:=μ ([t0,t1,t2,t3]);rw[hT] at yD;have iN:T.length=4:=by rw[← hT];rfl
       have cy:mj key (n+1)=(V++(List.range 4).map (fun k=>V.getD (4*n+k) 0 ^^^ T.getD k 0),pw):=by
        obtain⟨hi,hm⟩:=HI.out;rw[HB.out.2.2.2.2,← hT];have tL:=HK.out.2.2.1;subst hi;unfold JD;simp only[tL];rw[ν h8,ν h8,ν (by omega:¬(n+8) % 4=0),ν h8]
       have HT:=cD yD GN GO iN cy;clear yD GN GO iN cy hT rI j1 j5;exact YY
       --#c }
    ·obtain rfl:n=52:=oM
     have e60:((52+8:Nat):Int)=60:=rfl;have rI:=pn.out 52;have de:kU (mj key 52).1 B=S++B:=by
      unfold kU;rw[rI,← HK.out.2.1,show 240 - (32+4*52)=0 from rfl,List.replicate_zero,y7];rfl
     rw[de] at hB;rw[e60];clear de rI e60 hlt hn;go_wp2_with fail
     go_ret
     exact⟨c,rfl,hB,by have:=HG.out;omega,iO.out.2.1.then hu (fun q hq=>.inr (oN HG.out))⟩
theorem TS {P:Prop} (h:P:=by rw[af6 oM];omega):P:=h
theorem Ov {P:Prop} (h:P:=by rw[bX,HO.out.2.1];kernel_rfl):P:=h
theorem TT {P:Prop} (h:P:=by
 have h:=η.new (w.alloc (.cells (aj b) 339)) 339 (aj (List.replicate 16 0));rw[dx,hg] at h;rw[← bp];exact h):P:=h
theorem amG {w:World} {c:Nat} {W B:List UInt8} (hC:η w c 361 (aj (W++B))) (hW:W.length=240) (b:List UInt8) (hb:b.length=16) (r:Nat) (hr:r≤14) :
 ς 273 #[.pointer (some ⟨c,0,none⟩),.agg (aj b),ι (r:Int)] w fun e w'=>e=ώ (.agg (aj (tB W b r)))∧υ w w':=by
 obtain⟨g,hg⟩:=μ w.heap.size;have HG:=δ hg;have HL:=aF hb hW hC (show tB W b r=(List.range 16).map fun i=>b.getD i 0 ^^^ W.getD (16*r+i) 0 from rfl);obtain⟨O,hO⟩:=μ (tB W b r);have lZ:O.length=16:=by rw[← hO,R9]
 have HO:=τ hO lZ;rw[hO];clear hb hW hC hO lZ;go_enter func273,ntmps273
 go_wp2_with fail
 generalize bp:World.alloc _ _=w2;have aD:η w2 g 339 (aj b):=BH
 have ki:η w2 (g+1) 339 (aj (List.replicate 16 0)):=by
  exact TT
 have σ:υ w w2:=ya
 have fC:c≠g:=fun e=>by have:=HL.out.2.2.1.lt;omega
 have a_:=aF aD ki σ fC;clear aD ki σ bp hg fC;go_loopw [7,8] (fun _ u wr=>∃k:Nat,k≤16∧u=ι (k:Int)∧η wr g 339 (aj (ou (fun i=>b.getD i 0 ^^^ W.getD (16*r+i) 0) b k))∧ζ (· = g) w2 wr) (fun _ u _=>16 - (intOf u).toNat)
 case atStart=>exact⟨0,oM,rfl,a_.out.1,ζ.refl _ _⟩
 case round =>
  obtain⟨k,hk,rfl,hB,hu⟩:=hrel;by_cases hlt:k<16
  ·have ef:=HL.out.1
   have rI:=HL.out.2.1;have hc1:=hB.lz k (by rw[IX _ _ _ oM];omega);rw[YX] at hc1;have hCr:η wr c 361 (aj (W++B)):=(HL.out.2.2.1.ε a_.out.2.2.1 id).ε hu a_.out.2.2.2;obtain⟨i1,hi1⟩:=μ (4*r+k / 4);obtain⟨i2,hi2⟩:=μ (k % 4);have hidx:16*r+k=i1*4+i2:=oM;have hc2:=hCr.lz (i1*4+i2) B4;have hst:=IJ (fun i=>b.getD i 0 ^^^ W.getD (16*r+i) 0) b k oM;rw[bN,qi oM,← bN] at hc2;simp only[hidx] at hst;obtain⟨x,hx⟩:=μ (b.getD k 0);obtain⟨y,hy⟩:=μ (W.getD (i1*4+i2) 0);rw[hx] at hc1 hst;rw[hy] at hc2 hst;obtain⟨z,hz⟩:=μ (x ^^^ y);have hxy:=pW x y;rw[hz] at hxy hst;have hf:=hB.frozen k;have HB:=aq hB hu hst;have j1:(k:Int)<16:=oM;have j2:(i1:Int)<60:=oM;have j3:(i2:Int)<4:=oM;have j0:(0:Int)≤(i1:Int):=oM;have e1:IntKind.i64.wrap (4*(r:Int))=4*(r:Int):=cZ _ oM;obtain⟨d,hd⟩:=μ (k / 4);have e4:IntKind.i64.wrap ((k:Int) / 4)=(d:Int):=qx
   have e2:IntKind.i64.wrap (4*(r:Int)+(d:Int))=(i1:Int):=qx
   have e3:(k:Int).tmod 4=(i2:Int):=TS
   have j4:(0:Int)≤4*(r:Int):=oM;clear hB hu hst hx hy hz ef rI hCr hi1 hi2 hidx hd;go_wp2_with fail
   go_still_tail 18,kR
   change wpList _ _ _ _ _ (World.drew _);go_wp2_with fail
   clear e1 e2 e3 e4;go_roundw
   case rel =>
    refine⟨k+1,oM,by go_num,?_,?_⟩
    ·have h:=(HB.out.1.zH k z).drew
     have hs:=HB.out.2.2;rw[hs] at h;exact h
    ·exact(HB.out.2.1.setCell (p:=⟨g,k,none⟩) (.inl rfl) _).drew
   case measure=>simp[intOf]<;>omega
  ·obtain rfl:k=16:=oM
   have e16:((16:Nat):Int)=16:=rfl;rw[e16];rw[IY _ _ _ HL.out.1,← HL.out.2.2.2,HO.out.1] at hB;have HB:=τ hB (a_.out.2.1.ε hu oM);have HU:=δ (a_.out.2.2.1.then hu (fun q hq=>.inr (oN HG.out)));clear hB hu e16 hlt hk;go_wp2_with (first
    |(show wpList _ _ _ (⟨none,_,_,_,_,_⟩::_) _ _
      refine fG rfl 339 _ _ rfl (g+1) (aj O) rfl rfl 339 _ HB.out.2 (by rw[bX,bX,HO.out.2];rfl) (mI _) BB ?_
      intro w4 aJ au dh)
    |(refine eA _ g HB.out.1 underlying339 BB ?_))
   refine cJ (jU rfl _ _ (g+1) _ _ _ _ rfl aJ underlying339 rfl BB) rfl ⟨rfl,HU.out.then au (fun q hq=>.inr (oN HG.out))⟩
theorem amH {w:World} {g ga gi:Nat} {b:List UInt8} {t:TypeId} {at_ i:Nat} (hB:η w g 339 (aj b)) (hb:b.length=16) (ha:η w ga t #[ι (at_:Int)]) (hi:η w gi t #[ι (i:Int)]) (h1:at_≤12) (h2:i<16) (k:Nat) (hk:k<4) :
 ς 288 #[ι (k:Int),.pointer (some ⟨g,0,none⟩),.pointer (some ⟨ga,0,none⟩),.pointer (some ⟨gi,0,none⟩)] w fun e w'=>e=ώ (ϋ ((b.getD (at_+(i+k) % 4) 0).toNat:Int))∧w'=w:=by
 obtain⟨j,hj⟩:=μ (at_+(i+k) % 4);have hc:=hB.lz j oM;have hca:=ha.dX;have hci:=hi.dX;have hjl:(j:Int)<16:=oM;have hj0:(0:Int)≤(j:Int):=oM;have e1:IntKind.i64.wrap ((i:Int)+(k:Int))=(i:Int)+(k:Int):=cZ _ oM;have e2:(at_:Int)+((i:Int)+(k:Int)) % 4=(j:Int):=oM;have e0:(0:Int)≤(i:Int)+(k:Int):=oM;rw[hj];clear hB hb ha hi hj h1;go_enter func288,ntmps288
 go_wp2_with fail
 go_ret
 exact⟨rfl,rfl⟩
theorem anp (b:List UInt8) (hb:b.length=16) (w:World):ς 274 #[.agg (aj b)] w fun e w'=>e=ώ (.agg (aj (su b)))∧υ w w':=by
 obtain⟨g,hg⟩:=μ w.heap.size;have HG:=δ hg;obtain⟨O,hO⟩:=μ (su b);have lZ:O.length=16:=by rw[← hO];simp[su]
 have HO:=aq hO lZ hb;rw[hO];clear hb hO lZ;go_enter func274,ntmps274
 have hmf:∀(fn:Fn) (first cap:Array Value) (w:World),(Instr.makeFunc fn first cap).run prog w=.ok (.func fn first cap) w:=fun _ _ _ _=>rfl
 go_wp2_with fail
 generalize bp:World.alloc _ _=w2;have aD:η w2 g 339 (aj b):=BH
 have ki:η w2 (g+1) 339 (aj (List.replicate 16 0)):=by
  exact TT
 have σ:υ w w2:=ya
 have a_:=aq aD ki σ;clear aD ki σ bp hg;go_loopw [6] (fun u wr=>∃k:Nat,k≤16∧u=ι (k:Int)∧η wr (g+1) 339 (aj (ou (fun i=>(su b).getD i 0) (List.replicate 16 0) k))∧ζ (· = g+1) w2 wr) (fun u _=>16 - (intOf u).toNat)
 case atStart=>exact⟨0,oM,rfl,a_.out.2.1,ζ.refl _ _⟩
 case round =>
  obtain⟨k,hk,rfl,hB,hu⟩:=hrel;by_cases hlt:k<16
  ·have ef:=HO.out.2.2
   have En:=a_.out.1.ε hu oM;have HB:=aq hB hu En;have j1:(k:Int)<16:=oM;obtain⟨n,hn⟩:=μ wr.heap.size;have Vy:g+1<n:=by have:=hB.lt;omega
   have apb:g<n:=oM;have HN:=δ hn;obtain⟨a,ha⟩:=μ (k / 4*4);have HA:=δ ha;have e1:(k:Int) / 4*4=(a:Int):=oM;have e2:IntKind.i64.wrap ((k:Int) / 4*4)=(a:Int):=qx
   clear hB hu En hn ha ef;go_wp2_with fail
   clear e1 e2;rw[HN.out];generalize jy:World.alloc _ _=wq;have hi:η wq n 3 #[ι (k:Int)]:=by rw[← jy,← HN.out];exact(η.new wr _ _).alloc _
   have ha:η wq (n+1) 3 #[ι (a:Int)]:=by
    have h:=η.new (wr.alloc (.cells #[ι (k:Int)] 3)) 3 #[ι (a:Int)];rw[dx,HN.out] at h;rw[← jy];exact h
   have bM:η wq g 339 (aj b):=by rw[← jy];exact(HB.out.2.2.alloc _).alloc _
   have kf:η wq (g+1) 339 (aj (ou (fun i=>(su b).getD i 0) (List.replicate 16 0) k)):=by rw[← jy];exact(HB.out.1.alloc _).alloc _
   have rH:ζ (· = g+1) w2 wq:=by rw[← jy];exact(HB.out.2.1.alloc _).alloc _
   have HWQ:=τ rH kf;obtain⟨x0,hx0⟩:∃x,b.getD (a+(k+0) % 4) 0=x:=⟨_,rfl⟩;obtain⟨x1,hx1⟩:∃x,b.getD (a+(k+1) % 4) 0=x:=⟨_,rfl⟩;obtain⟨x2,hx2⟩:∃x,b.getD (a+(k+2) % 4) 0=x:=⟨_,rfl⟩;obtain⟨x3,Pc⟩:∃x,b.getD (a+(k+3) % 4) 0=x:=⟨_,rfl⟩;have hm:=fun (q:Nat) (hq:q<4)=>amH bM.drew HO.out.2.2 ha.drew hi.drew (oN HA.out) hlt q hq
   have m0:=hm 0 oM;have m1:=hm 1 oM;have m2:=hm 2 oM;have m3:=hm 3 oM;rw[hx0] at m0;rw[hx1] at m1;rw[hx2] at m2;rw[Pc] at m3;have M0:=δ m0;have M1:=δ m1;have M2:=δ m2;have M3:=δ m3;obtain⟨y0,hy0⟩:∃y,sG x0=y:=⟨_,rfl⟩;obtain⟨y1,hy1⟩:∃y,sG x1=y:=⟨_,rfl⟩;have T0:=δ ((Ns x0 wq.drew).mono fun _ _ ⟨p,q⟩=>And.intro p q.symm);have T1:=δ ((Ns x1 wq.drew).mono fun _ _ ⟨p,q⟩=>And.intro p q.symm);rw[hy0] at T0;rw[hy1] at T1;obtain⟨z1,bK⟩:∃z,y0 ^^^ y1=z:=⟨_,rfl⟩;obtain⟨z2,aY⟩:∃z,z1 ^^^ x1=z:=⟨_,rfl⟩;obtain⟨z3,fY⟩:∃z,z2 ^^^ x2=z:=⟨_,rfl⟩;obtain⟨z4,dh⟩:∃z,z3 ^^^ x3=z:=⟨_,rfl⟩;have q1:=pW y0 y1;have q2:=pW z1 x1;have q3:=pW z2 x2;have q4:=pW z3 x3;rw[bK] at q1;rw[aY] at q2;rw[fY] at q3;rw[dh] at q4;have hst:=IJ (fun i=>(su b).getD i 0) (List.replicate 16 0) k (by rw[jE];exact hlt);have hz:(su b).getD k 0=z4:=by
    have hA:=HA.out;unfold su;rw[bN,lf,A6 hlt];show sG (b.getD (k / 4*4+(k+0) % 4) 0) ^^^ sG (b.getD (k / 4*4+(k+1) % 4) 0) ^^^ b.getD (k / 4*4+(k+1) % 4) 0 ^^^ b.getD (k / 4*4+(k+2) % 4) 0 ^^^ b.getD (k / 4*4+(k+3) % 4) 0=z4;rw[hA,hx0,hx1,hx2,Pc,hy0,hy1,bK,aY,fY,dh]
   simp only[hz] at hst;have gl:=δ hst;have hcI:=hi.dX;have hcO:=kf.lz k (by rw[IX _ _ _ BG,jE];exact hlt);have hfO:=kf.frozen k;clear hi ha bM kf rH hx0 hx1 hx2 Pc hm m0 m1 m2 m3 hy0 hy1 bK aY fY dh hst hz jy;go_still_tail 18,kR
   still_call M0.out
   still_call T0.out
   still_step
   still_call M1.out
   still_call T1.out
   still_step
   still_step
   still_call M1.out
   still_step
   still_step
   still_call M2.out
   still_step
   still_step
   still_call M3.out
   still_step
   still_step
   refine wpStill_nil ?_;change wpList _ _ _ _ _ wq.drew;go_wp2_with fail
   go_roundw
   case rel =>
    refine⟨k+1,oM,by go_num,?_,?_⟩
    ·have h:=(HWQ.out.2.zH k z4).drew
     rw[gl.out] at h;exact h
    ·exact(HWQ.out.1.setCell (p:=⟨g+1,k,none⟩) (.inl rfl) _).drew
   case measure=>simp[intOf]<;>omega
  ·obtain rfl:k=16:=oM
   have e16:((16:Nat):Int)=16:=rfl;rw[e16];have de:(List.range 16).map (fun i=>(su b).getD i 0)=O:=by
    rw[HO.out.1];refine X_ (by rw[bz,vj,HO.out.2.1]) fun i h1 h2=>?_
    rw[ID,QK,bN,bu h2];rfl
   rw[IY _ _ _ (by rw[jE]),de] at hB;have HB:=δ hB;have HU:=δ (a_.out.2.2.then hu (fun q hq=>.inr (oN HG.out)));clear hB hu e16 hlt hk de;go_wp2_with (first
    |(show wpList _ _ _ (⟨none,_,_,_,_,_⟩::_) _ _
      refine fG rfl 339 _ _ rfl (g+1) (aj O) rfl rfl 339 _ HB.out rfl (mI _) Ov ?_
      intro w4 aJ au dh)
    |(refine eA _ (g+1) HB.out underlying339 Ov ?_))
   refine cJ (jU rfl _ _ (g+1) _ _ _ _ rfl aJ underlying339 rfl Ov) rfl ⟨rfl,HU.out.then au (fun q hq=>.inr (oN HG.out))⟩
theorem alD {w:World} {c:Nat} {W:List UInt8} (hC:η w c 361 (aj (W++sr))) (hW:W.length=240) (b:List UInt8) (hb:b.length=16) :
 ς 247 #[.pointer (some ⟨c,0,none⟩),.agg (aj b)] w fun e w'=>e=ώ (.agg (aj (ot W 14 b)))∧υ w w':=by
 obtain⟨g,hg⟩:=μ w.heap.size;have HG:=δ hg;obtain⟨B,tL⟩:=μ sr;have hBl:B.length=256:=by rw[← tL];exact R8
 rw[tL] at hC;have fC:c≠g:=fun e=>by have:=hC.lt;omega
 have HC:=cD hC hW tL hBl fC;have HA:=δ (fun (W1:World) (hu:ζ (fun q=>g≤q) w W1) (x:List UInt8) (hx:x.length=16) (r:Nat) (hr:r≤14) =>
  amG (hC.ε hu (oN hC.lt)) hW x hx r hr)
 obtain⟨b1,eO⟩:=μ (tB W b 0);have adw:b1.length=16:=by rw[← eO,R9]
 have HB:=aq hb eO adw;obtain⟨O,hO⟩:=μ (ot W 14 b);have lZ:O.length=16:=by rw[← hO];exact IW _ _ _
 rw[hO];have HO:=τ hO lZ;clear tL hBl hC hW fC eO adw hb hO lZ;go_enter func247,ntmps247
 go_upto_region 1 with (fail)
 generalize bp:World.alloc _ _=w2;have aD:η w2 g 339 (aj b):=BH
 have ki:η w2 (g+1) 339 (aj (List.replicate 16 0)):=by
  exact TT
 have σ:υ w w2:=ya
 have aY:g+1<w2.heap.size:=ki.lt;have a_:=aF aD ki σ aY;clear aD ki σ bp hg aY;go_wp2_with (first
  |(go_at_call 273
    refine(HA.out w2 (a_.out.2.2.1.mono φ) b HB.out.1 0 oM).mono ?_;rintro e w3 ⟨rfl,χ⟩;rw[HB.out.2.1];have gr:=δ χ;clear χ)
  |(show wpList _ _ _ (⟨none,_,_,_,_,_⟩::_) _ _
    refine fG rfl 339 _ _ rfl g (aj b1) rfl rfl 339 _ (a_.out.1.ε gr.out id) (by rw[bX,bX,HB.out.1,HB.out.2.2]) (mI _) (by rw[bX,HB.out.2.2];kernel_rfl) ?_
    intro w4 aJ au dh;have je:=τ aJ (gr.out.trans au (H:=(· = g)) φ (fun _ e=>.inl e));clear aJ au dh)
  |(refine eA _ g a_.out.1 underlying339 (by rw[bX,HB.out.1];kernel_rfl) ?_))
 go_loopw [5] (fun u wr=>∃r:Nat,r≤14∧u=ι ((r:Int)+1)∧η wr g 339 (aj (ot W r b))∧ζ (· = g) w2 wr) (fun u _=>16 - (intOf u).toNat)
 case atStart=>exact⟨0,oM,rfl,by show η w4 g _ (aj (tB W b 0));rw[HB.out.2.1];exact je.out.1,je.out.2⟩
 case round =>
  clear je gr;obtain⟨r,hr,rfl,yE,uM⟩:=hrel;by_cases hlt:r<14
  ·obtain⟨n,hn⟩:=μ wr.heap.size
   have Vy:g≠n:=by have:=yE.lt;omega
   have hn2:w2.heap.size≤n:=by rw[← hn];exact uM.size
   have HN:=aq Vy hn2 (fun {W1:World} (hu:ζ (· = g) w2 W1)=>((a_.out.2.2.1.trans hu (H:=fun q=>g≤q) φ (fun q e=>.inl oM)):ζ (fun q=>g≤q) w W1));have PB:=IW W b r;obtain⟨Rb,yF⟩:=μ (ot W r b);rw[yF] at yE PB;have HR:=τ yF (by rw[yF];exact PB:(ot W r b).length=16);have KR:=aq yE uM PB;have HNN:=δ hn;have j5:(r:Int)+1≤14:=oM;clear yE uM PB yF Vy hn2 hn;go_wp2_with fail
   rw[HNN.out];generalize jy:World.alloc _ _=wq;have jA:η wq n 339 (aj (List.replicate 16 0)):=by rw[← jy,← HNN.out];exact η.new wr _ _
   have hGq:η wq g 339 (aj Rb):=by rw[← jy];exact KR.out.1.alloc _
   have qb:ζ (· = g) w2 wq:=by rw[← jy];exact KR.out.2.1.alloc _
   have HQ:=aq jA hGq qb;clear jA hGq qb jy;go_loopw [7,15] (fun _ u w'=>∃k:Nat,k≤16∧u=ι (k:Int)∧η w' n 339 (aj (ou (fun i=>B.getD (Rb.getD ((i+4*(i % 4)) % 16) 0).toNat 0) (List.replicate 16 0) k))∧ζ (· = n) wq w') (fun _ u _=>16 - (intOf u).toNat)
   case atStart=>exact⟨0,oM,rfl,HQ.out.1,ζ.refl _ _⟩
   case round =>
    obtain⟨k,hk,rfl,jz,nM⟩:=hrel;by_cases pT:k<16
    ·have hgk:η wr g 339 (aj Rb):=HQ.out.2.1.ε nM HN.out.1
     have GP:η wr c 361 (aj (W++B)):=HC.out.1.ε ((HN.out.2.2 HQ.out.2.2).trans nM (H:=fun q=>g≤q) (fun _ e=>e) (fun q e=>.inl (oO HN.out.2.1 a_.out.2.2.2))) (oO HC.out.1.lt HG.out);obtain⟨m4,wA⟩:∃m,k % 4=m:=⟨_,rfl⟩;obtain⟨m16,adx⟩:∃m,4*m4=m:=⟨_,rfl⟩;obtain⟨sm,gS⟩:∃m,k+m16=m:=⟨_,rfl⟩;obtain⟨j,hj⟩:∃m,sm % 16=m:=⟨_,rfl⟩;have hjk:(k+4*(k % 4)) % 16=j:=by rw[wA,adx,gS,hj]
     have hc1:=hgk.lz j (by rw[KR.out.2.2];omega);have hst:=IJ (fun i=>B.getD (Rb.getD ((i+4*(i % 4)) % 16) 0).toNat 0) (List.replicate 16 0) k (by rw[jE];exact pT);simp only[hjk] at hst;obtain⟨x,hx⟩:=μ (Rb.getD j 0);rw[hx] at hc1 hst;have hxl:=x.toNat_lt;have hc2:=GP.lz (240+x.toNat) (by rw[aN,HC.out.2.1,HC.out.2.2.2.1];omega);rw[bN,mG (by rw[HC.out.2.1];omega),HC.out.2.1,rU,← bN] at hc2;obtain⟨y,hy⟩:=μ (B.getD x.toNat 0);rw[hy] at hc2;simp only[hy] at hst;have sH:=jz.lz k (by rw[IX _ _ _ BG,jE];exact pT);have hf:=jz.frozen k;have j7:(k:Int)<16:=oM;have j8:(x.toNat:Int)<256:=oM;have j9:(j:Int)<16:=oM;have tJ:=aq jz nM hst;have e1:(k:Int).tmod 4=(m4:Int):=TS
     have e2:IntKind.i64.wrap (4*(m4:Int))=(m16:Int):=qx
     have e3:IntKind.i64.wrap ((k:Int)+(m16:Int))=(sm:Int):=qx
     have e4:(sm:Int).tmod 16=(j:Int):=TS
     clear jz nM hst hx hy hxl hgk GP wA adx gS hj hjk;go_wp2_with fail
     go_still_tail 15,kR
     change wpList _ _ _ _ _ (World.drew _);go_wp2_with fail
     clear e1 e2 e3 e4;go_roundw
     case rel =>
      refine⟨k+1,oM,by go_num,?_,?_⟩
      ·have h:=(tJ.out.1.zH k y).drew
       have hs:=tJ.out.2.2;rw[hs] at h;exact h
      ·exact(tJ.out.2.1.setCell (p:=⟨n,k,none⟩) (.inl rfl) _).drew
     case measure=>simp[intOf]<;>omega
    ·obtain rfl:k=16:=oM
     have e16:((16:Nat):Int)=16:=rfl;rw[e16];obtain⟨T,hT⟩:=μ (BF (ot W r b));have iN:T.length=16:=by rw[← hT];simp[BF]
     have hsub:(List.range 16).map (fun i=>B.getD (Rb.getD ((i+4*(i % 4)) % 16) 0).toNat 0)=T:=by
      rw[← hT,HR.out.1,← HC.out.2.2.1];rfl
     rw[IY _ _ _ (by rw[jE]),hsub] at jz;have HT:=τ hT iN;have KT:=τ jz (HQ.out.2.2.then nM (fun q hq=>.inr (oN HN.out.2.1)));have GQ:Hid (η wr g 339 (aj (ot W r b))):=δ (by rw[HR.out.1];exact HQ.out.2.1.ε nM HN.out.1);clear hT iN hsub jz nM hk pT e16;by_cases h14:r+1<14
     ·
      --#a {
      have k1:(r:Int)+1<14:=oM;obtain⟨M,hM⟩:=μ (su T);have l5:M.length=16:=by rw[← hM];simp[su]
      have PC:=δ (fun W1=>anp T HT.out.2 W1);rw[hM] at PC;go_upto_region 13 with (first
       |(go_at_call 274
         refine(PC.out _).mono ?_;rintro e w13 ⟨rfl,sj⟩;have Gh:=δ sj;clear sj)
       |(show wpList _ _ _ (⟨none,_,_,_,_,_⟩::_) _ _
         refine fG rfl 339 _ _ rfl n (aj M) rfl rfl 339 _ (KT.out.1.ε Gh.out id) (by rw[bX,bX,l5,HT.out.2]) (mI _) (by rw[bX,l5];kernel_rfl) ?_
         intro w14 qz jY Gg)
       |(refine eA _ n KT.out.1 underlying339 (by rw[bX,HT.out.2];kernel_rfl) ?_))
      have GR:=qz;have KU:ζ (· = g) w2 w14:=(KT.out.2.then Gh.out φ).then jY (fun q hq=>.inr (oN HN.out.2.1));have KV:η w14 g 339 (aj (ot W r b)):=(GQ.out.ε Gh.out id).ε jY (oN HN.out.1);clear qz jY Gg k1;obtain⟨R2,iP⟩:=μ (ot W (r+1) b);have JX:R2.length=16:=by rw[← iP];exact IW _ _ _
      have ju:tB W M (r+1)=R2:=by
       rw[← iP];show _=tB W (if r+1<14 then su (BF (ot W r b)) else BF (ot W r b)) (r+1);rw[π (by omega:r+1<14),← hM,← HT.out.1]
      have HM:=cD hM l5 iP JX ju;have Ah:=aq GR KU KV;clear hM l5 iP JX ju GR KU KV;go_wp2_with (first
       |(go_at_call 273
         refine(HA.out _ (HN.out.2.2 Ah.out.2.1) M HM.out.2.1 (r+1) oM).mono ?_;rintro e w3 ⟨rfl,χ⟩;rw[HM.out.2.2.2.2];have gr:=δ χ;clear χ)
       |(show wpList _ _ _ (⟨none,_,_,_,_,_⟩::_) _ _
         refine fG rfl 339 _ _ rfl g (aj R2) rfl rfl 339 _ (Ah.out.2.2.ε gr.out id) (by rw[bX,bX,HM.out.2.2.2.1,HR.out.2]) (mI _) (by rw[bX,HM.out.2.2.2.1];kernel_rfl) ?_
         intro w4 aJ au dh;have je:=τ aJ ((Ah.out.2.1.then gr.out φ).then au (fun _ e=>.inl e));clear aJ au dh)
       |(refine eA _ n Ah.out.1 underlying339 (by rw[bX,HM.out.2.1];kernel_rfl) ?_))
      go_roundw
      case rel=>exact⟨r+1,oM,by go_num,by rw[HM.out.2.2.1];exact je.out.1,je.out.2⟩
      case measure=>simp[intOf]<;>omega
      --#a }
     ·
      --#c {
      have k1:¬(r:Int)+1<14:=oM;have k2:decide ((r:Int)+1<14)=false:=gI k1;obtain⟨M,hM⟩:=μ T;have l5:M.length=16:=by rw[← hM];exact HT.out.2
      have GR:=KT.out.1;rw[hM] at GR;have KU:=KT.out.2;have KV:=GQ.out;obtain⟨R2,iP⟩:=μ (ot W (r+1) b);have JX:R2.length=16:=by rw[← iP];exact IW _ _ _
      have ju:tB W M (r+1)=R2:=by
       rw[← iP];show _=tB W (if r+1<14 then su (BF (ot W r b)) else BF (ot W r b)) (r+1);rw[ν (by omega:¬r+1<14),← hM,← HT.out.1]
      have HM:=cD hM l5 iP JX ju;have Ah:=aq GR KU KV;clear hM l5 iP JX ju GR KU KV;go_wp2_with (first
       |(go_at_call 273
         refine(HA.out _ (HN.out.2.2 Ah.out.2.1) M HM.out.2.1 (r+1) oM).mono ?_;rintro e w3 ⟨rfl,χ⟩;rw[HM.out.2.2.2.2];have gr:=δ χ;clear χ)
       |(show wpList _ _ _ (⟨none,_,_,_,_,_⟩::_) _ _
         refine fG rfl 339 _ _ rfl g (aj R2) rfl rfl 339 _ (Ah.out.2.2.ε gr.out id) (by rw[bX,bX,HM.out.2.2.2.1,HR.out.2]) (mI _) (by rw[bX,HM.out.2.2.2.1];kernel_rfl) ?_
         intro w4 aJ au dh;have je:=τ aJ ((Ah.out.2.1.then gr.out φ).then au (fun _ e=>.inl e));clear aJ au dh)
       |(refine eA _ n Ah.out.1 underlying339 (by rw[bX,HM.out.2.1];kernel_rfl) ?_))
      go_roundw
      case rel=>exact⟨r+1,oM,by go_num,by rw[HM.out.2.2.1];exact je.out.1,je.out.2⟩
      case measure=>simp[intOf]<;>omega
      --#c }
  ·obtain rfl:r=14:=oM
   have e15:((14:Nat):Int)+1=15:=rfl;rw[e15];rw[HO.out.1] at yE;have Eo:=aq yE (a_.out.2.1.ε uM oM) (a_.out.2.2.1.then uM (fun q hq=>.inr (oN HG.out)));clear yE uM e15 hlt hr;go_wp2_with (first
    |(show wpList _ _ _ (⟨none,_,_,_,_,_⟩::_) _ _
      refine fG rfl 339 _ _ rfl (g+1) (aj O) rfl rfl 339 _ Eo.out.2.1 (by rw[bX,bX,HO.out.2];rfl) (mI _) BB ?_
      intro w4 aJ au dh)
    |(refine eA _ g Eo.out.1 underlying339 BB ?_))
   refine cJ (jU rfl _ _ (g+1) _ _ _ _ rfl aJ underlying339 rfl BB) rfl ⟨rfl,Eo.out.2.2.then au (fun q hq=>.inr (oN HG.out))⟩
theorem yc {P:Prop} (h:P:=by simpa using h1):P:=h
theorem YZ (l:List UInt8) (j:Nat) (b:UInt8):(aO l).set j (ϋ (b.toNat:Int))=aO (l.set j b):=by simp[aO,List.map_set]
theorem Y3 (l:List UInt8) (i:Nat) (h:i<l.length):(aO l)[i]? = some (ϋ ((l.getD i 0).toNat:Int)):=by simp[aO,h]
theorem ahK (key fA text:List UInt8):ou (fun i=>text.getD i 0 ^^^ Fz key fA i) text text.length=vw key fA text:=by
 rw[IY _ _ _ rfl];unfold vw;refine X_ sM fun i h1 h2=>?_
 have h3:i<text.length:=yc
 rw[ID,QK,List.getElem_mapIdx,bN,bu h3];rfl
def vM (key fA text:List UInt8) (k:Nat):List UInt8:=ou (fun i=>text.getD i 0 ^^^ Fz key fA i) text k
theorem aj0 (key fA:List UInt8) (text:ByteArray) (w:World) (hk:key.length=32) (hn:fA.length=12) (ht:text.size≤100000) :
 ς 210 #[.agg (aj key),.agg (aj fA),.string text] w fun e w'=>e=ώ (.string (str (vw key fA text.data.toList)))∧υ w w':=by
 obtain⟨g,hg⟩:=μ w.heap.size;have HG:=δ hg;obtain⟨O,hO⟩:=μ (vw key fA text.data.toList);rw[hO];have HO:=aq hO hk hn;clear hO hk hn;go_enter func210,ntmps210
 go_upto_region 1 with (fail)
 generalize bp:World.alloc _ _=w2;have aD:η w2 g 194 (aj key):=BH
 have ki:η w2 (g+1) 312 (aj fA):=by
  have h:=η.new (w.alloc (.cells (aj key) 194)) 312 (aj fA);rw[dx,hg] at h;rw[← bp];exact h
 have σ:υ w w2:=ya
 have a_:=aq aD ki σ;clear aD ki σ bp hg;go_wp2_with (first
  |(go_at_call 245
    refine(ahJ key HO.out.2.1 w2).mono ?_;rintro e w3 ⟨c,rfl,aC,sH,χ⟩;have yG:=aq aC sH χ;clear aC sH χ;obtain⟨v4,w4,hcv,qc,au,ady,an8⟩:=Q4 w3 text ke;obtain⟨A4,BI,rfl,tI,jx⟩:=qc.shape;have je:=aq qc au ady;clear qc au ady an8 tI jx)
  |(refine eA _ g a_.out.1 underlying194 Ov ?_))
 obtain⟨gb,Vz⟩:=μ w3.heap.size;have B8:η w4 c 361 (aj (Di key++sr)):=yG.out.1.ε je.out.2.1 id;have Cd:η w4 (g+1) 312 (aj fA):=a_.out.2.1.ε (yG.out.2.2.then je.out.2.1 φ) id;have hcb:c≠gb:=by have:=yG.out.1.lt;omega
 have hnb:g+1≠gb:=by have:=(a_.out.2.1.ε yG.out.2.2 id).lt;omega
 have Pg:(Value.slice A4 text.size BI).ownBlock=some gb:=by rw[← Vz];exact je.out.2.2
 have uL:υ w w4:=(a_.out.2.2.then yG.out.2.2 φ).then je.out.2.1 φ;have fX:w.heap.size≤gb:=by rw[← Vz];exact(a_.out.2.2.then yG.out.2.2 φ).size
 have HD:=p7 B8 Cd hcb hnb Pg uL fX;obtain⟨L,hL⟩:=μ text.size;have HL:=δ hL;have ht2:text.data.toList.length=L:=hL;have mR:=δ ht2;rw[hL] at HD ht je;rw[hL];clear B8 Cd hcb hnb Pg uL fX Vz hL ht2;go_loopw [9] (fun u wr=>∃m k:Nat,u=ι ((16*m:Nat):Int)∧k=min (16*m) L∧m≤10000∧Own wr 5 1 (.slice A4 L BI) L (aO (vM key fA text.data.toList k))∧ζ (fun q=>q=gb) w4 wr) (fun u _=>200000 - (intOf u).toNat)
 case atStart=>exact⟨0,0,rfl,sM,oM,by simpa [vM,ou] using je.out.1,ζ.refl _ _⟩
 case round =>
  obtain⟨m,k,rfl,hk,hm,ho,hu⟩:=hrel;by_cases hlt:16*m<L
  ·obtain rfl:k=16*m:=oM
   obtain rfl:A4=some ⟨gb,0,none⟩:=by
    obtain⟨gg,cc,e,-,-⟩:=ho.head oM;injection e with e1 e2 e3;subst e1;have:=dM (show some gg=some gb from HD.out.2.2.2.2.1);rw[this]
   obtain⟨at_,hat⟩:∃a,16*m=a:=⟨_,rfl⟩;rw[hat] at ho hlt ⊢;have GS:=δ hat;have lW:=τ ho hu;obtain⟨n,hn⟩:=μ wr.heap.size;have HN:=δ hn;have i1:(at_:Int)<(L:Int):=oM;clear hk ho hu hn hat;go_upto_region 7 with (fail)
   rw[HN.out];generalize jy:World.alloc _ _=wq;have jA:η wq n 339 (aj (List.replicate 16 0)):=by rw[← jy,← HN.out];exact η.new wr _ _
   have qb:ζ (fun q=>q=gb) w4 wq:=by rw[← jy];exact lW.out.2.alloc _
   have hOq:Own wq 5 1 (.slice (some ⟨gb,0,none⟩) L BI) L (aO (vM key fA text.data.toList at_)):=by rw[← jy];exact lW.out.1.alloc _
   have hnb:n≠gb:=fun e=>by have:=lW.out.1.lt HD.out.2.2.2.2.1;have:=HN.out;omega
   have qB:w4.heap.size≤n:=by rw[← HN.out];exact lW.out.2.size
   have HQ:=cD jA qb hOq hnb qB;clear jA qb hOq hnb qB jy;go_still_tail 2,kR
   change wpList _ _ _ _ _ wq.drew;go_wp2_with fail
   have VA:η wq.drew (g+1) 312 (aj fA):=(HD.out.2.1.ε HQ.out.2.1 HD.out.2.2.2.1).drew;have hnl:=HO.out.2.2;obtain⟨W7,r7,adz,dI,bI,jf⟩:=MK (off:=0) (n:=16) (cap:=16) (l:=fA) HQ.out.1.drew (v:=.slice (some ⟨g+1,0,none⟩) 12 12) ⟨_,12,by rw[hnl],oM,by unfold maxLen;omega,fun _=>⟨g+1,0,rfl,VA.lt,fun i hi=>by rw[lK];exact VA.lz i hi⟩⟩ oM BG;rw[show (List.replicate 16 (0:UInt8)).take 0++fA++(List.replicate 16 (0:UInt8)).drop (0+fA.length)=fA++List.replicate 4 0 by rw[Fg,oR,lK,hnl,X9]] at dI;have H7:=τ dI ((ζ.refl (fun q=>q=n) wq).drew.then bI (fun q e=>.inl e));rw[adz];clear VA hnl adz dI bI jf;go_wp2_with fail
   have HDV:=δ (show at_ / 16=m by have:=GS.out;omega);have e1:((at_:Int) / 16)=(m:Int):=by have:=GS.out;omega
   have e2:IntKind.i64.wrap (m:Int)=(m:Int):=cZ _ oM;have e3:IntKind.u64.wrap (m:Int)=(m:Int):=Ja m oM;refine dW ?_;refine eo (S:=fun w'=>υ W7 w') (T:=fun k=>k == 5) kR ?_;have aE:=(ζ.refl (fun _=>False) W7).drew;refine tK 0 ?_;refine gm 1 (ι (at_:Int)) ?_;refine tK 2 ?_;refine tK 3 ?_;refine bf 4 (fun K hK=>?_);go_simp
   clear e1 e2 e3;refine(ahB (.slice none 0 0) 0 [] m 4 _ (Own.nil _ _ _) dC dC).mono ?_;rintro e w12 ⟨v12,rfl,zG,iq,TM⟩;rw[lK,oR] at zG;have Ge:υ W7.drew w12:=iq.mono (fun b hb=>by simp[Value.ownBlock] at hb);have cz:=aE.then Ge φ;refine hK.out _ _ cz ?_;have hby:=gK.ku zG;have hnl:=HO.out.2.2;have hlb:=vu m 4;obtain⟨W,rv,sF,mO,sj,Gf⟩:=MK (off:=12) (n:=4) (cap:=4) (l:=jw m 4) (H7.out.1.ε cz id) hby oM TQ;rw[show (fA++List.replicate 4 (0:UInt8)).take 12++jw m 4++(fA++List.replicate 4 (0:UInt8)).drop (12+(jw m 4).length)=fA++jw m 4 by
    rw[hlb,Mg oM,dV oM,qj TQ,y7]] at mO
   obtain⟨A12,c12,rfl,-,-⟩:=zG.shape;clear hK;refine lG 5 (fun K hK=>?_);refine Q2 ak _ _ _ _ ak ak ak sF ?_;refine hK.out _ _ ?_;obtain⟨IN,PD⟩:∃I,fA++jw m 4=I:=⟨_,rfl⟩;have adA:IN.length=16:=by rw[← PD,aN,hlb];omega
   rw[PD] at mO;have hnb:=HQ.out.2.2.2.1;have qB:=HQ.out.2.2.2.2;have adB:ζ (fun q=>q=gb) w4 W:=((HQ.out.2.1.then H7.out.2 (fun q e=>.inr (oE e))).then cz φ).then sj (fun q e=>.inr (oE e));have adC:ζ (fun q=>q≠gb) wq W:=((H7.out.2.mono (G:=fun q=>q≠gb) (fun q e=>.inl (oE e))).then cz φ).then sj (fun q e=>.inl (oE e));have HE:=aF mO adB PD adA;have HV:=δ adC;clear hnb qB adC;clear hK sF mO sj Gf cz aE hby zG iq TM Ge hnl hlb PD adA adB;refine dY ?_;refine dz ?_;obtain⟨OUT,Ow⟩:∃o,SP key IN=o:=⟨_,rfl⟩;have acf:OUT.length=16:=by rw[← Ow];exact ahG _ _
   have hcW:η W c 361 (aj (Di key++sr)):=HD.out.1.ε HE.out.2.1 HD.out.2.2.1;have hbk:=alD hcW (ahF HO.out.2.1) IN HE.out.2.2.2;rw[show ot (Di key) 14 IN=OUT from Ow] at hbk;have HBK:=δ hbk;have Ox:=τ Ow acf;clear Ow acf hcW hbk;go_upto_region 10 with (first
    |(go_at_call 247
      refine HBK.out.mono ?_;rintro e w14 ⟨rfl,jY⟩;have Oy:=δ jY;clear jY)
    |(show wpList _ _ _ (⟨none,_,_,_,_,_⟩::_) _ _
      refine fG rfl 339 _ _ rfl w14.heap.size (aj OUT) rfl rfl 339 _ (η.new w14 _ _) (by rw[bX,Ox.out.2];rfl) (mI _) (by rw[bX,Ox.out.2];kernel_rfl) ?_
      intro w15 BJ oC an9)
    |(refine eA _ n HE.out.1 underlying339 (by rw[bX,HE.out.2.2.2];kernel_rfl) ?_))
   have acg:gb<w14.heap.size:=by
    have h1:=je.out.1.lt HD.out.2.2.2.2.1;have h2:=HE.out.2.1.size;have h3:=Oy.out.size;omega
   have adD:ζ (fun q=>q=gb) w4 w15:=((HE.out.2.1.then Oy.out φ).alloc _).then oC (fun q e=>.inr (oG e HE.out.2.1.size Oy.out.size));have adE:ζ (fun q=>q≠gb) wq w15:=((HV.out.then Oy.out φ).alloc _).then oC (fun q e=>.inl (oE e));have adF:Own w15 5 1 (.slice (some ⟨gb,0,none⟩) L BI) L (aO (vM key fA text.data.toList at_)):=HQ.out.2.2.1.ε adE (fun q hq e=>e (dM (hq.symm.trans HD.out.2.2.2.2.1)));obtain⟨no,hno⟩:=μ w14.heap.size;rw[hno] at BJ acg ⊢;have adG:no≠gb:=oM;clear acg adE;have HF:=aF BJ adD adG adF;clear BJ oC an9 adD adG adF hno;obtain⟨q,hq⟩:=μ (min 16 (L - at_));have hmin:min (16:Int) ((L:Int) - (at_:Int))=(q:Int):=oM;have PE:=δ hq;clear hq;go_wp2_with fail
   clear hmin;go_loopw [12,40] (fun _ u wr=>∃j:Nat,j≤q∧u=ι (j:Int)∧Own wr 5 1 (.slice (some ⟨gb,0,none⟩) L BI) L (aO (vM key fA text.data.toList (at_+j)))∧ζ (fun q=>q=gb) w4 wr∧η wr no 339 (aj OUT)) (fun _ u _=>20 - (intOf u).toNat)
   case atStart=>exact⟨0,oM,rfl,HF.out.2.2.2,HF.out.2.1,HF.out.1⟩
   case round =>
    obtain⟨j,hj,rfl,ho,hu,hB⟩:=hrel;have hq:=PE.out;by_cases pT:j<q
    ·obtain⟨si,hsi⟩:=μ (at_+j)
     have htl:=mR.out;have dJ:(vM key fA text.data.toList si).length=L:=by unfold vM;rw[IX _ _ _ oM];exact htl
     have hc1:=ho.cellAt si oM;have hf:=ho.frozenAt si oM;rw[hsi] at hc1 ho;have hgt:(vM key fA text.data.toList si).getD si 0=text.data.toList.getD si 0:=YX _ _ _;rw[Y3 _ _ oM,hgt] at hc1;have hc2:=hB.lz j (by rw[Ox.out.2];omega);have hst:=IJ (fun i=>text.data.toList.getD i 0 ^^^ Fz key fA i) text.data.toList si oM;have KW:Fz key fA si=OUT.getD j 0:=by
      have hat:=GS.out;unfold Fz;rw[show si / 16=m by omega,show si % 16=j by omega,HE.out.2.2.1,Ox.out.1]
     simp only[KW] at hst;obtain⟨x,hx⟩:=μ (text.data.toList.getD si 0);obtain⟨y,hy⟩:=μ (OUT.getD j 0);rw[hx] at hc1 hst;rw[hy] at hc2 hst;obtain⟨z,hz⟩:=μ (x ^^^ y);rw[hz] at hst;have hxy:=pW x y;rw[hz] at hxy;have cn:=ho.stored si (ϋ (z.toNat:Int));rw[YZ,show (vM key fA text.data.toList si).set si z=vM key fA text.data.toList (si+1) from hst] at cn;have HS:=aF cn hu hB hsi;have j1:(j:Int)<16:=oM;have j2:(si:Int)<(L:Int):=oM;have j3:(0:Int)≤(si:Int):=oM;have j4:(j:Int)<(q:Int):=oM;have e1:IntKind.i64.wrap ((at_:Int)+(j:Int))=(si:Int):=qx
     clear ho hu hB hq hsi htl dJ hgt hst KW hx hy hz cn;go_wp2_with fail
     go_still_tail 11,kR
     change wpList _ _ _ _ _ (World.drew _);go_wp2_with fail
     clear e1;go_roundw
     case rel =>
      refine⟨j+1,oM,by go_num,?_,?_,?_⟩
      ·rw[show at_+(j+1)=si+1 by have:=HS.out.2.2.2;omega]
       exact HS.out.1.drew
      ·exact(HS.out.2.1.setCell (p:=⟨gb,si,none⟩) (.inl rfl) _).drew
      ·exact(HS.out.2.2.1.b9 (p:=⟨gb,si,none⟩) HF.out.2.2.1 _).drew
     case measure=>simp[intOf]<;>omega
    ·obtain rfl:j=q:=oM
     have HS:=τ ho hu;have HQ3:=δ (show (at_:Int)+16=((16*(m+1):Nat):Int)∧at_+j=min (16*(m+1)) L from ⟨by have:=GS.out;omega,by have:=GS.out;omega⟩);clear ho hu hB hj hq;go_wp2_with fail
     go_roundw
     case rel=>exact⟨m+1,at_+j,by rw[← HQ3.out.1],HQ3.out.2,by have:=GS.out;omega,HS.out.1,HS.out.2⟩
     case measure=>simp[intOf]<;>omega
  ·have htl:=mR.out
   have hkL:k=text.data.toList.length:=oM;rw[hkL] at ho;rw[show vM key fA text.data.toList text.data.toList.length=O from (ahK key fA _).trans HO.out.1] at ho;have apc:=xE ho;have HU:=δ (HD.out.2.2.2.2.2.1.then hu (fun q e=>.inr (oF e HD.out.2.2.2.2.2.2)));clear ho hu hkL htl hk hm;go_wp2_with fail
   go_ret
   exact⟨rfl,HU.out⟩
theorem TU {P:Prop} (h:P:=by rw[← bp,← hg];exact((η.new w _ _).alloc _).alloc _):P:=h
theorem TV {P:Prop} (h:P:=by rw[← bp];exact(((ζ.refl _ w).alloc _).alloc _).alloc _):P:=h
theorem Gi {P:Prop} (h:P:=by intro w' hSw;obtain⟨-,hc1,hc2,-⟩:=bF.cells (a_.out.2.1.ε hSw id);rw[HX.out.1] at hc1;rw[HX.out.2.1] at hc2;go_split_ands;first|(go_simp;done)|(go_simp;rfl)| rfl):P:=h
section
variable {P:Program} {ops:Array Oper} {Q:Exit→Act→World→Prop} {S:World→Prop}
theorem lN {i:Nat} {o:Oper} {a:Act} (hi:ops[i]? = some o) (hw:Region.wanted o (yielded ops a.tmps)=true) (ty:TypeId) (x:Operand) (ho:o.op=.load ty x) (g:Nat) (hx:a.eval x=.pointer (some ⟨g,0,none⟩))
 (t:TypeId) (cs:Array Value) (d:TypeDesc) (hS:∀w,S w→η w g t cs) (hu:P.underlying ty=some d) (hd:d.isRow=true) (hz:(P.info? ty).map (·.size)=some cs.size):mN P ops Q S i o (.agg cs) a:=by
 have h:=af7 (P:=P) (ops:=ops) (S:=S) hw ty x ho g 0 hx cs.toList d (fun w h=>(hS w h).range 0 _ (fun j v e=>by rw[lK];simpa using e)) hu hd (by simpa using hz)
 exact uf hi vW
end
structure bF where
 key:Nat
 κ:Nat
 n:Nat
 data:List UInt8
 tag:List UInt8
structure vC (x:bF):Prop where
 key:x.key≤1048576
 κ:x.κ<4294967296
 n:x.n<18446744073709551616
 data:x.data.length≤8192
 tag:x.tag.length=32
def bF.row (x:bF):Array Value:=([Value.int .i64 (x.key:Int),.int .u32 (x.κ:Int),ω (x.n:Int),.string (str x.data)]++aO x.tag).toArray
theorem bF.row_one (x:bF):x.row.all (·.oneCell')=true:=by simp[bF.row,aO,Value.oneCell']
theorem bF.qT {x:bF} (h:x.tag.length=32):x.row.size=36:=by simp[bF.row,aO,h]
theorem bF.cells {w:World} {g:Nat} {t:TypeId} {x:bF} (h:η w g t x.row):w.cell? ⟨g,0,none⟩=some (ι (x.key:Int))∧w.cell? ⟨g,1,none⟩=some (.int .u32 (x.κ:Int))∧w.cell? ⟨g,2,none⟩=some (ω (x.n:Int))∧w.cell? ⟨g,3,none⟩=some (.string (str x.data)) :=
 ⟨h.cell 0,h.cell 1,h.cell 2,h.cell 3⟩
theorem bF.anq {w:World} {g:Nat} {t:TypeId} {x:bF} (h:η w g t x.row) (i:Nat) (hi:i<x.tag.length):w.cell? ⟨g,4+i,none⟩=some (ϋ ((x.tag.getD i 0).toNat:Int)):=by
 rw[h.cell];unfold bF.row;rw[IB,mG sM];rw[show 4+i - [Value.int .i64 (x.key:Int),.int .u32 (x.κ:Int),ω (x.n:Int),.string (str x.data)].length=i by simp];exact Y3 _ _ hi
theorem R_ (x:bF) (hx:vC x) (w:World):ς 162 #[.agg x.row] w fun e w'=>e=ώ (.bool true)∧υ w w':=by
 have k1:(x.key:Int)≤1048576:=by have:=hx.key;omega
 have k0:(0:Int)≤(x.key:Int):=oM;have hs:(str x.data).size=x.data.length:=bR _;have k3:(x.data.length:Int)≤8192:=by have:=hx.data;omega
 obtain⟨D,hD⟩:=μ (str x.data);rw[hD] at hs;have k4:(D.size:Int)≤8192:=oM;obtain⟨K,hK⟩:∃K:Int,(x.key:Int)=K:=⟨_,rfl⟩;rw[hK] at k1 k0;have HH:=τ hD hK;clear hD hK hx hs k3;go_enter func162,ntmps162
 go_upto_region 1 with (fail)
 generalize bp:World.alloc _ _=w2;have hB:η w2 w.heap.size 191 x.row:=by rw[← bp];exact η.new w _ _
 have hU:υ w w2:=yb
 obtain⟨c0,-,-,c3⟩:=bF.cells hB;rw[HH.out.1] at c3;rw[HH.out.2] at c0;have HU:=δ hU;clear hB hU bp;go_wp2_with fail
 go_ret
 exact⟨rfl,HU.out⟩
theorem Zx (x:bF) (hx:vC x) {F:Nat→Prop} {w0 w:World} {o:Nat} {l:List UInt8} (h:eF F w0 w o l) (hl:l.length≤1000) :
 ς 168 #[.pointer (some ⟨o,0,none⟩),.agg x.row] w fun e w'=>e=ώ (.tuple #[])∧eF F w0 w' o (l++qR x.key x.κ x.n):=by
 have hk:=hx.key;have hb:=hx.κ;have hn:=hx.n;have s1:=dA (n:=x.key) oM;have s2:=dA (n:=x.κ) oM;have HO:=δ h;obtain⟨K,hK⟩:∃K:Nat,x.key=K:=⟨_,rfl⟩;obtain⟨B,hB⟩:∃K:Nat,x.κ=K:=⟨_,rfl⟩;obtain⟨N,hN⟩:∃K:Nat,x.n=K:=⟨_,rfl⟩;rw[hK] at hk s1 ⊢;rw[hB] at hb s2 ⊢;rw[hN] at hn ⊢;have k1:(K:Int)≤1048576:=oM;have b1:(B:Int)<4294967296:=oM;have KQ:=aq hK hB hN;have HE:=δ (show l++aR K++aR B++aR N=l++qR K B N by unfold qR;simp only[eC]);have HL:=δ (show (l++aR K).length≤900000∧(l++aR K++aR B).length≤900000 by simp only[aN,iY];omega);have HN:=aq hk hb hn;clear h hx hk hb hn s1 s2 hK hB hN;go_enter func168,ntmps168
 go_upto_region 1 with (fail)
 generalize bp:World.alloc _ _=w2;obtain⟨g,hg⟩:=μ w.heap.size;rw[hg];have hB:η w2 g 191 x.row:=DG
 have hO:eF F w0 w2 o l:=HO.out.still yb;obtain⟨G,bL,hGF,hG⟩:=hO.here;have hgG:¬G g:=hG g _ _ hB dC dC;obtain⟨c0,-,-,-⟩:=bF.cells hB;rw[KQ.out.1] at c0;have HB:=cD hB hO bL hGF hgG;clear hB hO bp hg bL hGF hG hgG;go_wp2_with fail
 refine(FP HB.out.2.2.1 K (oN HN.out.1) oM).mono ?_;rintro e w3 ⟨rfl,h3⟩;obtain⟨-,c1,-,-⟩:=bF.cells (HB.out.1.ε h3.ε HB.out.2.2.2.2);rw[KQ.out.2.1] at c1;have H3:=δ h3;clear h3 c0;go_wp2_with fail
 refine(FP H3.out B (oN HN.out.2.1) HL.out.1).mono ?_;rintro e w4 ⟨rfl,h4⟩;obtain⟨-,-,c2,-⟩:=bF.cells (HB.out.1.ε h4.ε HB.out.2.2.2.2);rw[KQ.out.2.2] at c2;have H4:=δ h4;clear h4 c1;go_wp2_with fail
 refine(FP H4.out N HN.out.2.2 HL.out.2).mono ?_;rintro e w5 ⟨rfl,h5⟩;have H5:=δ (HB.out.2.1.back HB.out.2.2.2.1 h5);clear h5 c2;go_wp2_with fail
 go_end0
 rw[← HE.out];exact⟨rfl,H5.out⟩
theorem Zy (k:List UInt8) (hk:k.length=32) (x:bF) (hx:vC x) (text:ByteArray) (ht:text.size≤8192) (w:World) :
 ς 163 #[.agg (aj k),.agg x.row,.string text] w fun e w'=>e=ώ (.string (str (pR k x.κ x.n text.data.toList)))∧υ w w':=by
 obtain⟨B,hB⟩:∃K:Nat,x.κ=K:=⟨_,rfl⟩;obtain⟨N,hN⟩:∃K:Nat,x.n=K:=⟨_,rfl⟩;have hb:=hx.κ;have hn:=hx.n;obtain⟨E,hE⟩:=μ (sn k [101,110,99]);have GU:E.length=32:=by rw[← hE];exact vo _ _
 obtain⟨NO,PG⟩:∃n,jw B 4++jw N 8=n:=⟨_,rfl⟩;have p8:NO.length=12:=by rw[← PG,aN,vu,vu]
 obtain⟨O,hO⟩:=μ (vw E NO text.data.toList);have hd:pR k x.κ x.n text.data.toList=O:=by unfold pR;rw[hB,hN,hE,PG,hO]
 rw[hd];rw[hB] at hb;rw[hN] at hn;have hmk:=fun W=>abE k (str [101,110,99]) W hk (by rw[bR];simp)
 rw[cA,hE] at hmk;have VB:=δ hmk;have gl:=δ (fun W=>aj0 E NO text W GU p8 oM);rw[hO] at gl;have HX:=iw hB hN PG p8 hk GU;have b1:(B:Int)<4294967296:=oM;have b2:B<4294967296:=oM;have HN2:=δ hn;clear hB hN hb hn hE GU PG p8 hO hd hmk hx;obtain⟨g,hg⟩:=μ w.heap.size;have HG:=δ hg;go_enter func163,ntmps163
 go_upto_region 2 with (fail)
 generalize bp:World.alloc _ _=w2;have aD:η w2 g 194 (aj k):=TU
 have ki:η w2 (g+1) 191 x.row:=by
  have h:=(η.new (w.alloc (.cells (aj k) 194)) 191 x.row).alloc (.cells (aj (List.replicate 12 0)) 312);rw[dx,hg] at h;rw[← bp];exact h
 have kI:η w2 (g+1+1) 312 (aj (List.replicate 12 0)):=by
  have h:=η.new ((w.alloc (.cells (aj k) 194)).alloc (.cells x.row 191)) 312 (aj (List.replicate 12 0));rw[dx,dx,hg] at h;rw[← bp];exact h
 have σ:υ w w2:=TV
 have a_:=aF aD ki kI σ;clear aD ki kI σ bp hg;have e1:IntKind.u64.wrap (B:Int)=(B:Int):=Ja B oM;refine dW ?_;refine eo (S:=fun w'=>υ w2 w') (T:=fun k=>k == 8) kR ?_;have aE:=(ζ.refl (fun _=>False) w2).drew;refine ξ 0 ?_ rfl Gi
 refine ξ 1 ?_ rfl Gi
 refine ξ 2 ?_ rfl Gi
 refine ξ 3 ?_ rfl Gi
 refine ξ 5 ?_ rfl Gi
 refine ξ 6 ?_ rfl Gi
 refine bf 4 (fun K hK=>?_);go_simp
 clear e1;refine(YF (.slice none 0 0) 0 [] B 4 _ (Own.nil _ _ _) dC dC).mono ?_;rintro e w3 ⟨v3,rfl,lY,χ,fV⟩;rw[lK,oR] at lY;have l6:υ w2.drew w3:=χ.mono (fun b hb=>by simp[Value.ownBlock] at hb);have kg:=aE.then l6 φ;have ach:∀q,v3.ownBlock=some q→w2.heap.size≤q:=by
  intro q hq;rcases fV with e | ⟨q2,e,h2⟩
  ·rw[e] at hq;simp[Value.ownBlock] at hq
  ·rw[e] at hq;have:=dM hq;have h3:w2.drew.heap.size=w2.heap.size:=rfl;omega
 refine hK.out _ _ kg ?_;clear hK;refine bf 7 (fun K hK=>?_);go_simp
 refine(YF v3 4 _ N 8 w3 lY dC dC).mono ?_;rintro e w4 ⟨v4,rfl,qc,au,nN⟩;have dH:υ w2 w4:=kg.then au (fun q hq=>.inr (ach q hq));refine hK.out _ _ dH ?_;clear hK;rw[← rW,HX.out.2.2.1] at qc;have hby:=gK.ku qc;have hnl:=HX.out.2.2.2.1;obtain⟨W,rv,sF,aK,ay,iQ⟩:=MK (off:=0) (n:=12) (cap:=12) (l:=NO) (a_.out.2.2.1.ε dH id) hby oM BG;rw[show (List.replicate 12 (0:UInt8)).take 0++NO++(List.replicate 12 (0:UInt8)).drop (0+NO.length)=NO by rw[Fg,oR,qj BG,y7]] at aK;obtain⟨A4,c4,rfl,-,-⟩:=qc.shape;refine lG 8 (fun K hK=>?_);refine Q2 ak _ _ _ _ ak ak ak sF ?_;refine hK.out _ _ ?_;have hkW:η W g 194 (aj k):=(a_.out.1.ε dH id).ε ay oM;have uN:υ w W:=(a_.out.2.2.2.then dH φ).then ay (fun q e=>.inr (oF e HG.out));have HW:=aq hkW aK uN;clear hK sF aK ay iQ aE kg dH hby lY qc χ au fV nN l6 ach hnl hkW uN;refine dY ?_
 refine dz ?_;go_upto_region 3 with (fail)
 refine dW ?_;refine eo (S:=fun w'=>υ W w') (T:=fun _=>false) kR ?_;have aE:=(ζ.refl (fun _=>False) W).drew;refine iL 0 (.agg (aj k)) (lN rfl ak _ _ rfl g ak _ _ _ (fun w' hSw=>HW.out.1.ε hSw id) underlying194 rfl (by rw[bX,HX.out.2.2.2.2.1];kernel_rfl)) ?_
 refine iL 2 (.agg (aj NO)) (lN rfl ak _ _ rfl (g+1+1) ak _ _ _ (fun w' hSw=>HW.out.2.1.ε hSw id) underlying312 rfl (by rw[bX,HX.out.2.2.2.1];kernel_rfl)) ?_
 refine ξ 3 ?_;refine bf 1 (fun K hK=>?_);go_simp
 refine(VB.out _).mono ?_;rintro e w6 ⟨rfl,aB⟩;have cW:=aE.then aB φ;refine hK.out _ _ cW ?_;clear hK aB;refine bf 4 (fun K hK=>?_);go_simp
 refine(gl.out _).mono ?_;rintro e w7 ⟨rfl,bI⟩;have mB:=cW.then bI φ;refine hK.out _ _ mB ?_;clear hK bI;refine ξ 5 ?_;refine dY ?_;refine dz ?_;have HF:=δ (HW.out.2.2.then mB φ);clear aE cW mB;go_wp2_with fail
 go_ret
 exact⟨rfl,HF.out⟩
theorem abF (k:List UInt8) (hk:k.length=32) (x:bF) (hx:vC x) (about:ByteArray) (ha:about.size≤1000) (w:World) :
 ς 164 #[.agg (aj k),.agg x.row,.string about] w fun e w'=>e=ώ (.agg (aj (td k x.key x.κ x.n about.data.toList x.data)))∧υ w w':=by
 have hkk:=hx.key;have hb:=hx.κ;have hn:=hx.n;have hd:=hx.data;have s1:=dA (n:=x.key) oM;have s2:=dA (n:=x.κ) oM;have s3:=dA hn;have s4:=dA (n:=about.size) oM;have s5:=dA (n:=x.data.length) oM;obtain⟨D,hD⟩:=μ (str x.data);have hDl:D.data.toList=x.data:=by rw[← hD,cA]
 have sI:D.size=x.data.length:=by rw[← hD,bR]
 obtain⟨N,hN⟩:=μ (qR x.key x.κ x.n);have p8:N.length≤30:=by rw[← hN];unfold qR;simp only[aN,iY];omega
 have iN:(N++bJ about.data.toList).length≤2000:=by rw[aN,jl];show N.length+(bD about.size+about.size)≤2000;omega
 obtain⟨T,hT⟩:=μ (N++bJ about.data.toList++bJ D.data.toList);have uO:T.length≤20000:=by rw[← hT,aN,hDl,jl];omega
 obtain⟨E,hE⟩:=μ (sn k [109,97,99]);have GU:E.length=32:=by rw[← hE];exact vo _ _
 obtain⟨O,hO⟩:=μ (sn E T);have lZ:O.length=32:=by rw[← hO];exact vo _ _
 have hst:td k x.key x.κ x.n about.data.toList x.data=O:=by unfold td;rw[hE,hN,← hO,← hT,hDl,eC]
 rw[hst];have hmk:=fun W=>abE k (str [109,97,99]) W hk (by rw[bR];simp)
 rw[cA,hE] at hmk;have Ep:=fun W=>Td (str E) (str T) W DF DF
 rw[cA,cA,hO] at Ep;have VB:=δ hmk;have GQ:=δ Ep;have HX:=δ (And.intro hD (And.intro sI (And.intro hN (And.intro p8 (And.intro iN (And.intro hT (And.intro GU (And.intro lZ (And.intro hk (And.intro hd hx))))))))));have lF:=δ (bF.qT hx.tag);clear hkk hb hn hd s1 s2 s3 s4 s5 hD hDl sI hN p8 iN hT uO hE GU hO lZ hst hmk Ep hk hx;obtain⟨g,hg⟩:=μ w.heap.size;have HG:=δ hg;go_enter func164,ntmps164
 go_upto_region 1 with (fail)
 generalize bp:World.alloc _ _=w2;have aD:η w2 g 194 (aj k):=TU
 have ki:η w2 (g+1) 191 x.row:=by
  have h:=(η.new (w.alloc (.cells (aj k) 194)) 191 x.row).alloc (.cells (aj (List.replicate 32 0)) 189);rw[dx,hg] at h;rw[← bp];exact h
 have kI:η w2 (g+1+1) 189 (aj (List.replicate 32 0)):=by
  have h:=η.new ((w.alloc (.cells (aj k) 194)).alloc (.cells x.row 191)) 189 (aj (List.replicate 32 0));rw[dx,dx,hg] at h;rw[← bp];exact h
 have σ:υ w w2:=TV
 obtain⟨o,ho⟩:=μ w2.heap.size;have a_:=aF aD ki kI σ;clear aD ki kI σ bp hg;go_upto_region 2 with (fail)
 generalize iz:World.alloc _ _=w3;have gG:eF (fun _=>False) w2 w3 o []:=by rw[← iz,← ho];exact eF.start w2
 have Ei:=δ gG;clear gG iz ho;go_upto_region 6 with (first
  |(go_at_call 168
    refine(Zx x HX.out.2.2.2.2.2.2.2.2.2.2 Ei.out sM).mono ?_;rintro e w4 ⟨rfl,h4⟩;rw[oR,HX.out.2.2.1] at h4;have H4:=δ h4;clear h4)
  |(go_at_call 100
    refine(xH H4.out about oM (oN HX.out.2.2.2.1)).mono ?_;rintro e w5 ⟨rfl,h5⟩;obtain⟨-,-,-,c3⟩:=bF.cells (a_.out.2.1.ε h5.ε id);rw[HX.out.1] at c3;have H5:=δ h5;clear h5;go_wp2_with fail
    refine(xH H5.out D (by rw[HX.out.2.1];have:=HX.out.2.2.2.2.2.2.2.2.2.1;omega) (oN HX.out.2.2.2.2.1)).mono ?_;rintro e w6 ⟨rfl,h6⟩;rw[HX.out.2.2.2.2.2.1] at h6;have H6:=δ h6;clear h6 c3)
  |(refine eA _ g (a_.out.1.ε H6.out.ε id) underlying194 (by rw[bX,HX.out.2.2.2.2.2.2.2.2.1];kernel_rfl) ?_)
  |(refine eA _ (g+1) (a_.out.2.1.ε Ei.out.ε id) underlying191 (by rw[lF.out];kernel_rfl) ?_)
  |(go_at_call 211
    refine(VB.out _).mono ?_;rintro e w7 ⟨rfl,h7⟩;have H7:=δ (H6.out.still h7);clear h7)
  |(refine fG rfl 194 _ _ rfl w7.heap.size (aj E) rfl rfl 194 _ (η.new w7 _ _) (by rw[bX,HX.out.2.2.2.2.2.2.1];rfl) (mI _) (by rw[bX,HX.out.2.2.2.2.2.2.1];kernel_rfl) ?_
    intro w8 jB cT kX))
 obtain⟨q8,hq8⟩:∃q,w7.heap.size=q:=⟨_,rfl⟩;have Af:υ w7 w8:=((ζ.refl (fun _=>False) w7).alloc _).then cT (fun q hq=>.inr oM);rw[hq8] at jB ⊢;have h8:=H7.out.still Af;have iA:=aq h8 jB ((a_.out.2.2.1.ε h8.ε id));clear cT kX Af hq8 jB h8;refine dW ?_;refine eo (S:=fun w'=>υ w8 w') (T:=fun k=>k == 4) kR ?_;have aE:=(ζ.refl (fun _=>False) w8).drew;refine aX 0 (fun w' hSw=>Da (iA.out.2.1.ε hSw id) 32 32 HX.out.2.2.2.2.2.2.1) ?_;refine aX 1 (fun w' hSw=>Da (iA.out.2.1.ε hSw id) 32 32 HX.out.2.2.2.2.2.2.1) ?_;refine bf 2 (fun K hK=>?_);go_simp
 refine(I1 (iA.out.1.still aE)).mono ?_;rintro e w9 ⟨rfl,rfl⟩;refine hK.out _ _ aE ?_;clear hK;refine bf 3 (fun K hK=>?_);go_simp
 refine(GQ.out _).mono ?_;rintro e w10 ⟨rfl,fE⟩;have DH:=aE.then fE φ;refine hK.out _ _ DH ?_;clear hK fE;refine lG 4 (fun K hK=>?_);refine ud ak 189 _ _ ak (g+1+1) (aj O) ak ak _ _ (iA.out.2.2.ε DH id) (by rw[bX,bX,HX.out.2.2.2.2.2.2.2.1];rfl) (mI _) (by rw[bX,HX.out.2.2.2.2.2.2.2.1];kernel_rfl) ?_
 intro w11 gA qy JV;refine hK.out _ _ ?_;refine dY ?_;refine dz ?_;have de:υ w w11:=((a_.out.2.2.2.then iA.out.1.ε φ).then DH φ).then qy (fun q hq=>.inr (oF hq HG.out));have HF:=τ de gA;clear de gA qy JV hK aE DH;go_wp2_with fail
 refine cJ (jU rfl _ _ (g+1+1) _ _ _ _ rfl HF.out.2 underlying189 rfl (by rw[bX,HX.out.2.2.2.2.2.2.2.1];kernel_rfl)) rfl ⟨rfl,HF.out.1⟩
end
end Go.Proofs.YtbhjgfibhegddaaGreat
