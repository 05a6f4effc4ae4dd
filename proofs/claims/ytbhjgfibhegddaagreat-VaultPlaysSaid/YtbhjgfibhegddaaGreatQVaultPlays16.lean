/-
  Parts of the proof of VaultPlays: VatD, VatE, VatF, VatG, VatH, VatI, VatJ.
-/
import Derived.Test.YtbhjgfibhegddaaGreatQVaultPlays15
import Derived.Shelf.Strings.BuilderK
set_option maxRecDepth 100000
set_option maxHeartbeats 16000000
namespace Go.Proofs.YtbhjgfibhegddaaGreat
abbrev Uk:=@Go.Lib.cell_of_heap
abbrev J3:=@Nat.lt_irrefl
abbrev J4:=@List.flatten_cons
abbrev J5:=@Nat.succ_mul
abbrev pO:=@not_or
open Tryz
section
open Go Go.RowKit
def zF (l:List gW):List Value:=l.flatMap ct
theorem aek (l:List gW) (p:gW):zF (l++[p])=zF l++ct p:=by unfold zF;rw[vJ];simp
theorem OS:(prog.info? 46).map (fun i=>(i.zero,i.size,i.bytes))=some (some (.agg #[.string ByteArray.empty,.bool false]),2,24):=kR
def rowAt (n0 n1 n2 n3 n4 n5 n6:Nat) (k:Nat):Array Value:=#[ι (if 0<k then (n0:Int) else 0),ι (if 1<k then (n1:Int) else 0),ι (if 2<k then (n2:Int) else 0),.slice none 0 0,.string ⟨#[]⟩,ι (if 3<k then (n3:Int) else 0),ι (if 4<k then (n4:Int) else 0),ι (if 5<k then (n5:Int) else 0),ω 0,ι (if 6<k then (n6:Int) else 0),.int .u32 0]
theorem Lr {F:Nat→Prop} {w0 W:World} {y:Nat} (m:Nat) {z:Int} (hz:z=(m:Int)) (n:Nat) (r:List UInt8) (k:Nat) (hn:n≤m) (hm:m≤9223372036854775807) (hk:k≤10000) (h:bW F w0 W y ⟨aN n++r,k,0⟩):ς 176 #[.pointer (some ⟨y,0,none⟩),ι z] W fun e w'=>e=ώ (ι (n:Int))∧bW F w0 w' y ⟨r,k+bC n,0⟩:=by
 subst hz;have:=DU h m hm (by show k≤_;omega);rw[DA n m k oM hn r] at this;exact this
theorem Zz {F:Nat→Prop} {w0 W:World} {y:Nat} (n:Nat) (r:List UInt8) (k:Nat) (hn:n<18446744073709551616) (hk:k≤10000) (h:bW F w0 W y ⟨aN n++r,k,0⟩):ς 175 #[.pointer (some ⟨y,0,none⟩)] W fun e w'=>e=ώ (ω (n:Int))∧bW F w0 w' y ⟨r,k+bC n,0⟩:=by
 have:=Xa h (by show k≤_;omega);rw[V4 n k hn r] at this;exact this
theorem texts {F:Nat→Prop} {w0 W:World} {y:Nat} (m:Nat) {z:Int} (hz:z=(m:Int)) (t r:List UInt8) (k:Nat) (ht:t.length≤m) (hm:m≤9223372036854775807) (hk:k≤10000) (hl:t.length+r.length≤90000) (h:bW F w0 W y ⟨bF t++r,k,0⟩):ς 177 #[.pointer (some ⟨y,0,none⟩),ι z] W fun e w'=>e=ώ (.string (str t))∧bW F w0 w' y ⟨r,k+(bF t).length,0⟩:=by
 subst hz;have hsz:=dc (n:=t.length) oM;have:=Gj h m hm (by show k≤_;omega) (by show (bF t++r).length≤_;rw[aL,iT];omega);rw[F9 t m k ht oM r] at this;exact this
theorem ajr {F:Nat→Prop} {w0 W:World} {y:Nat} (b:UInt8) (r:List UInt8) (k:Nat) (hk:k≤10000) (h:bW F w0 W y ⟨b::r,k,0⟩):ς 178 #[.pointer (some ⟨y,0,none⟩)] W fun e w'=>e=ώ (ϋ (b.toNat:Int))∧bW F w0 w' y ⟨r,k+1,0⟩:=by
 have:=KU h (by show k≤_;omega);rw[Kt] at this;exact this
theorem ac2 (c:Nat):prog.built 284 [(0,.pointer (some ⟨c,0,none⟩)),(1,.pointer (some ⟨c,1,none⟩)),(2,.pointer (some ⟨c,2,none⟩)),(3,.pointer (some ⟨c,5,none⟩)),(4,.pointer (some ⟨c,6,none⟩)),(5,.pointer (some ⟨c,7,none⟩)),(6,.pointer (some ⟨c,9,none⟩))]=some #[.pointer (some ⟨c,0,none⟩),.pointer (some ⟨c,1,none⟩),.pointer (some ⟨c,2,none⟩),.pointer (some ⟨c,5,none⟩),.pointer (some ⟨c,6,none⟩),.pointer (some ⟨c,7,none⟩),.pointer (some ⟨c,9,none⟩)]:=kR
theorem J' {P:Program} {fn:Func} {p q q2:Tmp} {ty:TypeId} (h:fn.results=#[.cell p ty,.tmp q,.tmp q2]) (tmps:Array Value) (w:World) (g:Nat) (t:TypeId) (cs:Array Value) (fr:Nat × Nat) (d:TypeDesc)
 (hp:tmps.getD p undef=.pointer (some ⟨g,0,none⟩)) (hg:w.heap[g]? = some (.cells cs t fr))
 (hu:P.underlying ty=some d) (hd:(match d with | .struct _ | .array _ _=>true | _=>false)=true) (hi:(P.info? ty).map (·.size)=some cs.size) (v v2:Value) (hv:tmps.getD q undef=v) (AA:tmps.getD q2 undef=v2) :
 (results fn tmps).run P w=.ok (.tuple #[.agg cs,v,v2]) w:=by
 subst hv AA;have Cw:tmps[p]?.getD undef=.pointer (some ⟨g,0,none⟩):=by simpa using hp
 simp[results,h,Cw,asAddr,run_loadVar_row w g t ty cs fr d hg hu hd hi]
theorem zz8 {P:Prop} (h:P:=by
 generalize QV:World.setCell _ _ _=w19;have aiJ:w13.heap.size≤w17.heap.size:=sF.out.2.2.1.ε.size;have QW:=B7.bE 3 (.slice (some ⟨g2,0,none⟩) (k+1) eY);rw[QV] at QW;have QX:ζ (· = c) w18 w19:=by rw[← QV];exact(ζ.refl (· = c) w18).setCell (p:=⟨c,3,none⟩) (.inl rfl) _
 have wZ:w13.heap.size≤g2:=by
  rcases Es with e | e
  ·exact HK.out.2.1 g2 (by rw[← e];rfl)
  ·have e2:some g2=some _:=e
   have:=dw e2;rw[cM] at this;omega
 have ZA:=zG.ε QX (fun q hq e=>by have e2:some g2=some q:=hq;have:=dw e2;have e3:q=c:=e;have:=CT.out.2;omega);have Xx:ζ (fun q=>(Value.slice A k cap).ownBlock=some q∨q=c) w17 w19:=(((ζ.refl _ w17).alloc _).then zH (fun q e=>.inl (.inl e))).then QX (fun q e=>.inl (.inr e));have ZB:bW (fun q=>q=y∨q=c) w13 w19 y ⟨rest++bF t,r6+1,0⟩:=by
  refine sF.out.2.2.1.bP Xx (fun e=>?_) (fun q e=>?_)
  ·rcases e with e | e
   ·have:=HK.out.2.1 y e;have:=CT.out.1;omega
   ·exact H5.out.2.2.1.2 e.symm
  ·rcases e with e | e
   ·exact .inr (HK.out.2.1 q e)
   ·exact .inl (.inr e)
 have M4:=aD QW ZA ZB wZ;clear QV QW QX ZA ZB wZ aiJ Xx zG zH Es L2 B7 e2 ET d2 c0 c1 bx bN bG aT;go_wp2_with fail
 go_roundw
 case rel =>
  refine⟨k+1,r6+1,_,oM,?_,?_,?_,M4.out.1,?_,fun q hq=>by have e2:some g2=some q:=hq;have:=dw e2;have:=M4.out.2.2.2;omega⟩
  ·have:=HN.out.1
   congr 1
   omega
  ·have:=kM.out.2.2.2
   omega
  ·rw[HN.out.2.2.2.1];exact M4.out.2.2.1
  ·rw[HN.out.2.2.2.2.1]
   have:=M4.out.2.1;rw[← fD.out] at this;exact this
 case measure=>simp[intOf]<;>omega):P:=h
theorem ag8 {w:World} (s:cY) (hs:lT s) (t:List UInt8) (ht:t.length≤200) (txt:ByteArray) (mq:txt.data.toList=dr s t) :
 ς 121 #[.string txt] w fun e w'=>∃mv,e=ώ (.tuple #[.agg (gz { s with m := { s.m with bu:=[] } } mv),.string (str t),.bool true])∧Own w' 46 2 mv s.m.aW.length (zF s.m.aW)∧(∀q,mv.ownBlock=some q→w.heap.size≤q)∧υ w w':=by
 have hm:=xC hs.right;have hp:=hs.place;obtain⟨n0,hn0⟩:∃n:Nat,s.m.role=n:=⟨s.m.role.toNat,by have:=hm.X7;omega⟩;obtain⟨n1,sA⟩:∃n:Nat,s.m.seen=n:=⟨s.m.seen.toNat,by have:=hm.seen;omega⟩;obtain⟨n2,hn2⟩:∃n:Nat,s.m.aG=n:=⟨s.m.aG.toNat,by have:=hm.aG;omega⟩;obtain⟨n3,xm⟩:∃n:Nat,s.at_=n:=⟨s.at_.toNat,by have:=hp.Su;omega⟩;obtain⟨n4,pZ⟩:∃n:Nat,s.θ=n:=⟨s.θ.toNat,by have:=hp.ep0;omega⟩;have b0:n0≤3:=by have:=hm.X8;omega
 have b1:n1≤9223372036854775807:=by have:=hs.mn.1;omega
 have b2:n2≤9223372036854775807:=by have:=hs.mn.2;omega
 have b3:n3≤9223372036854775807:=by have:=hp.Sv;omega
 have b4:n4≤9223372036854775807:=by have:=hp.Sw;omega
 have b5:=hs.slot;have b6:=hs.key;have b7:=hs.log;have b8:=hs.μ;have hsplit:=VN s t;have GL:D2 s=[n0,n1,n2,n3,n4,s.slot,s.key]:=by unfold D2;rw[hn0,sA,hn2,xm,pZ];rfl
 rw[GL] at hsplit;have SM:=hm.eD;have hme:=hm.each;have hrow:∀A n cap,gz { s with m := { s.m with bu:=[] } } (.slice A n cap)=#[ι (n0:Int),ι (n1:Int),ι (n2:Int),.slice A n cap,.string ⟨#[]⟩,ι (n3:Int),ι (n4:Int),ι (s.slot:Int),ω (s.log:Int),ι (s.key:Int),.int .u32 (s.μ:Int)]:=by
  intro A n cap;unfold gz;simp only[hn0,sA,hn2,xm,pZ];rfl
 obtain⟨n5,tU⟩:∃n,s.slot=n:=⟨_,rfl⟩;obtain⟨n6,CR⟩:∃n,s.key=n:=⟨_,rfl⟩;obtain⟨n7,CS⟩:∃n,s.log=n:=⟨_,rfl⟩;obtain⟨n8,zT⟩:∃n,s.μ=n:=⟨_,rfl⟩;obtain⟨L,hL⟩:=κ s.m.aW;rw[tU] at b5 hsplit;rw[CR] at b6 hsplit;rw[CS] at b7 hsplit;rw[zT] at b8 hsplit;rw[hL] at SM hme hsplit ⊢;have mG:∀A n cap,gz { s with m := { s.m with bu:=[] } } (.slice A n cap)=#[ι (n0:Int),ι (n1:Int),ι (n2:Int),.slice A n cap,.string ⟨#[]⟩,ι (n3:Int),ι (n4:Int),ι (n5:Int),ω (n7:Int),ι (n6:Int),.int .u32 (n8:Int)]:=fun A n cap=>by rw[hrow A n cap,tU,CR,CS,zT]
 obtain⟨TL,SP⟩:=κ (aN n7++(aN n8++(aN L.length++(L.flatMap jX++bF t))));have hsp:txt.data.toList=aN 1++(([n0,n1,n2,n3,n4,n5,n6]:List Nat).flatMap aN++TL):=by
  rw[mq,hsplit,← SP];simp only[dQ]
 have dO:Hid (∀k,((L.drop k).flatMap jX).length≤44):=δ fun k=>by
  have:=Ws (l:=L.drop k) (fun x hx=>(hme x (Dr hx)).2);rw[gM] at this;have h2:11*(L.length - k)≤11*4:=NR _ oM;omega
 have fu:=δ mG;have MM:=δ SP;have HM:=δ hme;have lX:=fun W=>LS txt W
 rw[hsp] at lX;have Au:=δ lX;clear hm hp hs hn0 sA hn2 xm pZ GL hrow mG tU CR CS zT hL hsplit hme mq SP hsp lX;obtain⟨g,hg⟩:=κ w.heap.size;have HG:=δ hg;go_enter func121,ntmps121
 go_upto_region 1 with fail
 generalize aH:World.alloc _ _=w2;have hr2:η w2 g 115 (rowAt n0 n1 n2 n3 n4 n5 n6 0):=by rw[← aH,← hg];exact η.new w _ _
 have π:υ w w2:=by rw[← aH];exact(ζ.refl _ w).alloc _
 have aU:=τ hr2 π;clear hr2 π aH hg;go_wp2_with fail
 refine(Au.out _).mono ?_;rintro e w3 ⟨y,rfl,h3⟩;have H3:=δ h3;clear h3;go_wp2_with fail
 refine(Zz 1 _ 0 oM oM H3.out).mono ?_;rintro e w4 ⟨rfl,h4⟩;have bG:(0:Nat)+bC 1≤10:=by have:=dc (n:=1) oM;omega
 obtain⟨r0,E7⟩:∃r,0+bC 1=r:=⟨_,rfl⟩;rw[E7] at h4 bG;have H4:=δ h4;clear h4 E7;obtain⟨c,hc⟩:=κ w4.heap.size;go_upto_region 4 with fail
 generalize cF:World.alloc _ _=w5;have aF:η w5 c 115 (rowAt n0 n1 n2 n3 n4 n5 n6 0):=by rw[← cF,← hc];exact η.new w4 _ _
 have h5:bW (fun _=>False) w2 w5 y ⟨([n0,n1,n2,n3,n4,n5,n6]:List Nat).flatMap aN++TL,r0,0⟩:=by rw[← cF];exact H4.out.still ((ζ.refl _ w4).alloc _)
 have I0:w2.heap.size≤c∧c≠y:=⟨by rw[← hc];exact H4.out.ε.size,by have:=H4.out.blk.lt;omega⟩;have H5:=cx aF h5 I0 h5.blk.lt aF.lt;clear aF h5 I0 cF hc;go_wp2_with (first
  |(refine qf rfl _ _ rfl [(0,.pointer (some ⟨c,0,none⟩)),(1,.pointer (some ⟨c,1,none⟩)),(2,.pointer (some ⟨c,2,none⟩)),(3,.pointer (some ⟨c,5,none⟩)),(4,.pointer (some ⟨c,6,none⟩)),(5,.pointer (some ⟨c,7,none⟩)),(6,.pointer (some ⟨c,9,none⟩))] _ (by first| rfl | kernel_rfl) (ac2 c) ?_))
 go_loopw [9,28] (fun _ u wr=>∃k r:Nat,k≤7∧u=ι (k:Int)∧r≤10+10*k∧bW (fun q=>q=y∨q=c) w5 wr y ⟨(([n0,n1,n2,n3,n4,n5,n6]:List Nat).drop k).flatMap aN++TL,r,0⟩∧η wr c 115 (rowAt n0 n1 n2 n3 n4 n5 n6 k)) (fun _ u _=>7 - (intOf u).toNat)
 case atStart=>exact⟨0,r0,oM,rfl,oM,⟨H5.out.2.1.blk,.inl (.inl rfl),ζ.refl _ _⟩,H5.out.1⟩
 case round =>
  obtain⟨k,r,hk,rfl,hr,hI,hB⟩:=hrel;have EV:k<7∨k=7:=oM;rcases EV with h7 | rfl
  ·obtain⟨nk,j,bY,hnk,Cr,hj0,hj1⟩:∃nk j,(([n0,n1,n2,n3,n4,n5,n6]:List Nat).drop k).flatMap aN++TL=aN nk++((([n0,n1,n2,n3,n4,n5,n6]:List Nat).drop (k+1)).flatMap aN++TL)∧nk≤9223372036854775807∧(∀W,(Instr.index 284 (.agg #[.pointer (some ⟨c,0,none⟩),.pointer (some ⟨c,1,none⟩),.pointer (some ⟨c,2,none⟩),.pointer (some ⟨c,5,none⟩),.pointer (some ⟨c,6,none⟩),.pointer (some ⟨c,7,none⟩),.pointer (some ⟨c,9,none⟩)]) (ι (k:Int))).run prog W=.ok (.pointer (some ⟨c,j,none⟩)) W)∧(rowAt n0 n1 n2 n3 n4 n5 n6 k)[j]? = some (ι 0)∧(rowAt n0 n1 n2 n3 n4 n5 n6 k).setIfInBounds j (ι (nk:Int))=rowAt n0 n1 n2 n3 n4 n5 n6 (k+1):=by
    refine⟨[n0,n1,n2,n3,n4,n5,n6].getD k 0,[0,1,2,5,6,7,9].getD k 0,?_⟩;rcases (show k=0∨k=1∨k=2∨k=3∨k=4∨k=5∨k=6 by omega) with rfl | rfl | rfl | rfl | rfl | rfl | rfl
    all_goals exact⟨by simp[List.append_assoc],by simp<;>omega,fun W=>by first| rfl | kernel_rfl,rfl,rfl⟩
   rw[bY] at hI;have hz:=dc (n:=nk) oM;have HI:=gU hI hB hr hz hj0 hj1;have j1:(k:Int)<7:=oM;clear hI hB hr hz hk bY hj0 hj1;go_wp2_with fail
   refine(Lr 9223372036854775807 rfl nk _ r oM oM (oN HI.out.2.2.1) HI.out.1.here).mono ?_;rintro e w9 ⟨rfl,h9⟩;have cW:=HI.out.2.1.ε h9.ε H5.out.2.2.1.2;have H9:=τ (HI.out.1.back h9) cW;have cw:w9.cell? ⟨c,j,none⟩=some (ι 0):=(cW.cell j).trans HI.out.2.2.2.2.1;have fw:=cW.frozen j;clear h9 cW;go_wp2_with fail
   have mJ:=H9.out.2.bE j (ι (nk:Int));rw[HI.out.2.2.2.2.2] at mJ;have ZC:=H9.out.1.bP ((ζ.refl (· = c) w9).setCell (p:=⟨c,j,none⟩) (.inl rfl) (ι (nk:Int))) (fun e=>H5.out.2.2.1.2 e.symm) (fun q e=>.inl (.inr e));have iL:=τ mJ ZC;clear mJ ZC cw fw;go_roundw
   case rel =>
    refine⟨k+1,_,oM,by go_num,?_,iL.out.2,iL.out.1⟩;have:=HI.out.2.2;omega
   case measure=>simp[intOf]<;>omega
  ·have hfull:(([n0,n1,n2,n3,n4,n5,n6]:List Nat).drop 7).flatMap aN++TL=TL:=rfl
   rw[hfull] at hI;have hB':η wr c 115 #[ι (n0:Int),ι (n1:Int),ι (n2:Int),.slice none 0 0,.string ⟨#[]⟩,ι (n3:Int),ι (n4:Int),ι (n5:Int),ω 0,ι (n6:Int),.int .u32 0]:=hB;rw[← MM.out] at hI;have z7:=dc (n:=n7) oM;have z8:=dc (n:=n8) oM;have zL:=dc (n:=L.length) oM;have HI:=aj hI hB' hr;have HZ:=aj z7 z8 zL;clear hI hB hB' hr z7 z8 zL hk hfull;rw[show ((7:Nat):Int)=7 from rfl];go_wp2_with fail
   refine(Zz n7 _ r oM (oN HI.out.2.2) HI.out.1.here).mono ?_;rintro e w9 ⟨rfl,h9⟩;have cW:=HI.out.2.1.ε h9.ε H5.out.2.2.1.2;have H9:=τ (HI.out.1.back h9) cW;have cw:w9.cell? ⟨c,8,none⟩=some (ω 0):=cW.cell 8;have fw:=cW.frozen 8;clear h9 cW;have bP:∀(W:World) (j:Nat) (v:Value) (i:dW),bW (fun q=>q=y∨q=c) w5 W y i→bW (fun q=>q=y∨q=c) w5 (W.setCell ⟨c,j,none⟩ v) y i:=fun W j v i h=>h.bP ((ζ.refl (· = c) W).setCell (p:=⟨c,j,none⟩) (.inl rfl) v) (fun e=>H5.out.2.2.1.2 e.symm) (fun q e=>.inl (.inr e))
   have FAR:=δ bP;clear bP;go_upto_region 10 with fail
   have iL:=τ (FAR.out _ 8 (ω (n7:Int)) _ H9.out.1) (H9.out.2.bE 8 (ω (n7:Int)));clear cw fw;generalize ajs:World.setCell w9 _ _=w10 at iL ⊢;clear ajs;go_wp2_with fail
   refine(Lr 4294967295 rfl n8 _ _ oM oM (oO HI.out.2.2 HZ.out) iL.out.1.here).mono ?_;rintro e w11 ⟨rfl,h11⟩;have f_:η w11 c 115 #[ι (n0:Int),ι (n1:Int),ι (n2:Int),.slice none 0 0,.string ⟨#[]⟩,ι (n3:Int),ι (n4:Int),ι (n5:Int),ω (n7:Int),ι (n6:Int),.int .u32 0]:=iL.out.2.ε h11.ε H5.out.2.2.1.2;have eZ:=τ (iL.out.1.back h11) f_;have cw:w11.cell? ⟨c,10,none⟩=some (.int .u32 0):=f_.cell 10;have fw:=f_.frozen 10;have eB:IntKind.u32.wrap (n8:Int)=(n8:Int):=by simp only[IntKind.wrap,IntKind.bits,IntKind.signed];simp;omega
   clear h11 f_;go_upto_region 11 with fail
   have gf:=τ (FAR.out _ 10 (.int .u32 (n8:Int)) _ eZ.out.1) (eZ.out.2.bE 10 (.int .u32 (n8:Int)));clear cw fw eB;generalize ajt:World.setCell w11 _ _=w12 at gf ⊢;clear ajt;go_wp2_with fail
   refine(Lr 4 rfl L.length _ _ oM oM (oO HI.out.2.2 HZ.out) gf.out.1.here).mono ?_;rintro e w13 ⟨rfl,h13⟩;obtain⟨r3,uW⟩:=κ (r+bC n7+bC n8+bC L.length);rw[uW] at h13;have ZD:r3≤120:=by have:=HI.out.2.2;have:=HZ.out;omega
   have l9:η w13 c 115 #[ι (n0:Int),ι (n1:Int),ι (n2:Int),.slice none 0 0,.string ⟨#[]⟩,ι (n3:Int),ι (n4:Int),ι (n5:Int),ω (n7:Int),ι (n6:Int),.int .u32 (n8:Int)]:=gf.out.2.ε h13.ε H5.out.2.2.1.2;have iZ:=aj (gf.out.1.back h13) l9 ZD;clear h13 l9 ZD uW;have ZE:w5.heap.size≤w13.heap.size:=iZ.out.1.ε.size;have tF:=δ ZE;clear ZE;go_wp2_with fail
   go_loopw [10,11] (fun n _ wr=>∃(k r:Nat) (v:Value),k≤L.length∧n=ι ((L.length - k:Nat):Int)∧r≤120+20*k∧bW (fun q=>q=y∨q=c) w13 wr y ⟨(L.drop k).flatMap jX++bF t,r,0⟩∧η wr c 115 #[ι (n0:Int),ι (n1:Int),ι (n2:Int),v,.string ⟨#[]⟩,ι (n3:Int),ι (n4:Int),ι (n5:Int),ω (n7:Int),ι (n6:Int),.int .u32 (n8:Int)]∧Own wr 46 2 v k (zF (L.take k))∧(∀q,v.ownBlock=some q→w13.heap.size≤q)) (fun n _ _=>(intOf n).toNat)
   case atStart=>exact⟨0,r3,.slice none 0 0,oM,sM,by have:=iZ.out.2.2;omega,⟨iZ.out.1.blk,.inl (.inl rfl),ζ.refl _ _⟩,iZ.out.2.1,Own.nil _ _ _,by simp[Value.ownBlock]⟩
   case round =>
    obtain⟨k,r5,v,hk,rfl,hr,hI,hB,hO,hv⟩:=hrel;by_cases hlt:k<L.length
    ·have mc:=HM.out _ (eM hlt)
     have dn:zF (L.take (k+1))=zF (L.take k)++ct L[k]:=by rw[gX hlt,aek]
     have hdl:=dO.out (k+1);rw[ua hlt,xx] at hI;obtain⟨rest,qR⟩:∃r,(L.drop (k+1)).flatMap jX=r:=⟨_,rfl⟩;rw[qR] at hI hdl;obtain⟨p,hp⟩:=κ (L[k]);rw[hp] at mc dn hI;obtain⟨P,sh⟩:=p;simp only at mc
     have Jh:bW (fun q=>q=y∨q=c) w13 wr y ⟨bF P++((if sh then (1:UInt8) else 0)::(rest++bF t)),r5,0⟩:=by
      have e:jX ⟨P,sh⟩++rest++bF t=bF P++((if sh then (1:UInt8) else 0)::(rest++bF t)):=by unfold jX;simp[List.append_assoc]
      rw[e] at hI;exact hI
     have Ai:=kY (n:=P.length) oM;have hst:=kY (n:=t.length) oM;have htt:(bF t).length≤210:=by rw[iT];omega
     obtain⟨n,hn⟩:∃n:Nat,L.length - k=n:=⟨_,rfl⟩;have j1:(0:Int)<(n:Int):=oM;have nle:(n:Int)≤4:=oM;have HN:=zO hn hr hdl qR dn htt mc Ai;have HK:=aj hO hv hB;have Ji:=δ Jh;clear hI Jh hB hO hv qR hdl dn htt mc hp hr Ai hst;rw[hn];clear hn;go_wp2_with fail
     refine(texts 8 rfl P _ r5 HN.out.2.2.2.2.2.2.1.2 oM (oN HN.out.2.1) (by have:=HN.out.2.2.1;have:=HN.out.2.2.2.2.2.1;have:=HN.out.2.2.2.2.2.2.1;simp only[eS,aL];omega) Ji.out.here).mono ?_;rintro e w14 ⟨rfl,h14⟩;have SQ:=h14.ε;have E8:y<w13.heap.size:=iZ.out.1.blk.lt;have cu:c<w13.heap.size:=iZ.out.2.1.lt;have CT:=τ E8 cu;obtain⟨r6,xo⟩:=κ (r5+(bF P).length);rw[xo] at h14;have G8:r6≤130+20*k:=by rw[← xo,iT];have:=HN.out.2.1;have:=HN.out.2.2.2.2.2.2;omega
     have kM:=aD (HK.out.1.ε SQ (fun q hq e=>by have:=HK.out.2.1 q hq;have e2:q=y:=e;omega)) (HK.out.2.2.ε SQ H5.out.2.2.1.2) (Ji.out.back h14) G8;clear h14 SQ xo G8 E8 cu;obtain⟨S,hS⟩:=κ (str P);rw[hS];have fD:=δ hS;clear hS;obtain⟨d,hd⟩:=κ w14.heap.size;go_upto_region 15 with fail
     generalize L3:World.alloc _ _=w15;have zA:η w15 d 46 #[.string S,.bool false]:=by rw[← L3,← hd];exact η.new w14 _ _
     have Ck:υ w14 w15:=by rw[← L3];exact(ζ.refl _ w14).alloc _
     have hdb:w13.heap.size≤d:=by rw[← hd];exact kM.out.2.2.1.ε.size
     have Aj:∀q,v.ownBlock=some q→q<d:=fun q hq=>by rw[← hd];exact kM.out.1.lt hq
     have js:=aD (kM.out.1.ε Ck (fun _ _ e=>e)) (kM.out.2.1.ε Ck (fun e=>e)) (kM.out.2.2.1.still Ck) zA;have oA:=τ hdb Aj;clear L3 zA Ck hd hdb Aj;go_wp2_with fail
     refine(ajr _ _ r6 (oN kM.out.2.2.2) js.out.2.2.1.here).mono ?_;rintro e w16 ⟨rfl,h16⟩;have u9:d≠y:=by have:=oA.out.1;have:=CT.out.1;omega
     have hdc:d≠c:=by have:=oA.out.1;have:=CT.out.2;omega
     have qB:=τ u9 hdc;have CU:=aD (js.out.1.ε h16.ε (fun q hq e=>by have:=HK.out.2.1 q hq;have:=CT.out.1;have e2:q=y:=e;omega)) (js.out.2.1.ε h16.ε H5.out.2.2.1.2) (js.out.2.2.1.back h16) (js.out.2.2.2.ε h16.ε u9);have G9:=CU.out.2.2.2;have c0:w16.cell? ⟨d,0,none⟩=some (.string S):=G9.cell 0;have c1:w16.cell? ⟨d,1,none⟩=some (.bool false):=G9.cell 1;have fz:=G9.frozen 1;have ZF:=δ G9;clear h16 u9 hdc G9;cases sh
     ·go_upto_region 16 with fail
      have B8:=ZF.out.bE 1 (.bool false);have vn:ζ (· = d) w16 (w16.setCell ⟨d,1,none⟩ (.bool false)):=(ζ.refl (· = d) w16).setCell (p:=⟨d,1,none⟩) (.inl rfl) _;generalize QY:World.setCell w16 _ _=w17 at B8 vn ⊢;have GM:η w17 d 46 #[.string S,.bool false]:=B8;have sF:=aD (CU.out.1.ε vn (fun q hq e=>by have:=oA.out.2 q hq;have e2:q=d:=e;omega)) (CU.out.2.1.ε vn (fun e=>qB.out.2 e.symm)) (CU.out.2.2.1.bP vn (fun e=>qB.out.1 e.symm) (fun q e=>.inr (by have e2:q=d:=e;have:=oA.out.1;omega))) GM;clear QY B8 vn GM c0 c1 fz;obtain⟨A,cap,rfl,-,-⟩:=sF.out.1.shape;have d2:w17.cell? ⟨c,3,none⟩=some (.slice A k cap):=sF.out.2.1.cell 3;obtain⟨c0,c1⟩:=sF.out.2.2.2.uv;obtain⟨ti,bx,bN,bG,aT⟩:=je OS;have nN:k≤4:=oM;go_wp2_with (first
       |(at_builtin;refine jH rfl _ _ _ _ rfl 46 ti _ 2 24 underlying47 bx bN bG aT rfl (.slice A k cap) k _ rfl (sF.out.1.alloc _) _ 1 [_,_] rfl (Src.qN underlying47 _ rfl) (by simp[Value.oneCell']) (by unfold maxLen;omega) oM ?_;intro v2 w18 zG zH Es L2
         have B7:=η.ε (sF.out.2.1.alloc (.cells #[.string S,.bool false] 46)) zH (fun hq=>by have:=HK.out.2.1 c hq;have:=CT.out.2;omega);obtain⟨g2,eY,rfl,-,-⟩:=zG.head oM;have e2:w18.cell? ⟨c,3,none⟩=some (.slice A k cap):=B7.cell 3;have ET:=B7.frozen 3))
      exact zz8
     ·go_upto_region 16 with fail
      have B8:=ZF.out.bE 1 (.bool true);have vn:ζ (· = d) w16 (w16.setCell ⟨d,1,none⟩ (.bool true)):=(ζ.refl (· = d) w16).setCell (p:=⟨d,1,none⟩) (.inl rfl) _;generalize QY:World.setCell w16 _ _=w17 at B8 vn ⊢;have GM:η w17 d 46 #[.string S,.bool true]:=B8;have sF:=aD (CU.out.1.ε vn (fun q hq e=>by have:=oA.out.2 q hq;have e2:q=d:=e;omega)) (CU.out.2.1.ε vn (fun e=>qB.out.2 e.symm)) (CU.out.2.2.1.bP vn (fun e=>qB.out.1 e.symm) (fun q e=>.inr (by have e2:q=d:=e;have:=oA.out.1;omega))) GM;clear QY B8 vn GM c0 c1 fz;obtain⟨A,cap,rfl,-,-⟩:=sF.out.1.shape;have d2:w17.cell? ⟨c,3,none⟩=some (.slice A k cap):=sF.out.2.1.cell 3;obtain⟨c0,c1⟩:=sF.out.2.2.2.uv;obtain⟨ti,bx,bN,bG,aT⟩:=je OS;have nN:k≤4:=oM;go_wp2_with (first
       |(at_builtin;refine jH rfl _ _ _ _ rfl 46 ti _ 2 24 underlying47 bx bN bG aT rfl (.slice A k cap) k _ rfl (sF.out.1.alloc _) _ 1 [_,_] rfl (Src.qN underlying47 _ rfl) (by simp[Value.oneCell']) (by unfold maxLen;omega) oM ?_;intro v2 w18 zG zH Es L2
         have B7:=η.ε (sF.out.2.1.alloc (.cells #[.string S,.bool true] 46)) zH (fun hq=>by have:=HK.out.2.1 c hq;have:=CT.out.2;omega);obtain⟨g2,eY,rfl,-,-⟩:=zG.head oM;have e2:w18.cell? ⟨c,3,none⟩=some (.slice A k cap):=B7.cell 3;have ET:=B7.frozen 3))
      exact zz8
    ·obtain rfl:k=L.length:=oM
     have hz:L.length - L.length=0:=oM;rw[hz];have hdr:(L.drop L.length).flatMap jX++bF t=bF t++[]:=by rw[pN (bQ _)];simp
     rw[hdr] at hI;rw[dH (bQ _)] at hO;obtain⟨A,cap,rfl,-,-⟩:=hO.shape;have QJ:=aU.out.1.lt;have zV:g≠c:=by have:=H5.out.2.2.1.1;omega
     have EU:g≠y:=by
      rcases H5.out.2.1.new with e | e
      ·exact e.elim
      ·omega
     have ZG:ζ (fun q=>q=y∨q=c) w5 wr:=iZ.out.1.ε.then hI.ε (fun _ e=>.inl e);have QZ:ζ (fun q=>q=y∨q=c) w2 wr:=(H5.out.2.1.ε.mono (G:=fun q=>q=y∨q=c) φ).then ZG (fun _ e=>.inl e);have zQ:=aU.out.1.ε QZ (fun e=>e.elim EU zV);have ZH:υ w wr:=aU.out.2.then QZ (fun q e=>.inr (by
      have aH:=aU.out.2.size;rcases e with e | e
      ·rw[e]
       rcases H5.out.2.1.new with e2 | e2
       ·exact e2.elim
       ·omega
      ·rw[e];have:=H5.out.2.2.1.1;omega))
     have akj:=kY (n:=t.length) oM;have HL:=o_ zQ ZH zV EU hB hO hv;have HI:=τ hI hr;clear zQ ZH zV EU hB hO hv hI hr hz hdr QJ ZG QZ hlt hk;go_wp2_with fail
     refine(texts 300 rfl t [] r5 oM oM (oN HI.out.2) (by simp;omega) HI.out.1.here).mono ?_;rintro e wq ⟨rfl,hq⟩;have hgq:=HL.out.1.ε hq.ε HL.out.2.2.2.1;have Jj:=HL.out.2.2.2.2.1.ε hq.ε H5.out.2.2.1.2;have hoq:=HL.out.2.2.2.2.2.1.ε hq.ε (fun q Jk e=>by have:=HL.out.2.2.2.2.2.2 q Jk;have:=iZ.out.1.blk.lt;have e2:q=y:=e;omega);have pz:υ w wq:=HL.out.2.1.then hq.ε (fun q e=>.inr (by
      have e2:q=y:=e;rw[e2];rcases H3.out.new with e3 | e3
      ·exact e3.elim
      ·have:=aU.out.2.size;omega))
     have HQ:=cx hgq Jj hoq pz hq;obtain⟨ST,SR⟩:∃S,str t=S:=⟨_,rfl⟩;rw[SR];have aju:=δ SR;clear hgq Jj hoq pz hq SR;go_upto_region 18 with fail
     refine dB ?_;refine dK (S:=fun w'=>ζ (fun q=>q=g) wq w') (T:=fun _=>false) kR ?_;have aC:=(ζ.refl (fun q=>q=g) wq).drew;have vo:=δ (fun (w':World) (h:ζ (fun q=>q=g) wq w')=>HQ.out.2.1.ε h (fun e=>HL.out.2.2.1 e.symm));refine iq 0 (.agg #[ι (n0:Int),ι (n1:Int),ι (n2:Int),.slice A L.length cap,.string ⟨#[]⟩,ι (n3:Int),ι (n4:Int),ι (n5:Int),ω (n7:Int),ι (n6:Int),.int .u32 (n8:Int)]) (kX rfl (by rfl) _ _ rfl c (by rfl) _ _ _ (fun w' hSw=>vo.out w' hSw) underlying115 rfl kR) ?_;refine ξ 1 ?_;refine ξ 2 ?_;refine aY 3 (fun KK ο=>?_);go_simp
     refine(Li (HQ.out.2.2.2.2.still (ζ.refl _ _).drew)).mono ?_;rintro e w21 ⟨rfl,Q0⟩;have Q1:ζ (fun q=>q=g) wq w21:=aC.then Q0 φ;refine ο.out _ _ Q1 ?_;have ZI:=HQ.out.1.drew.ε Q0 (fun e=>e);have ox:(n5:Int)≤2:=oM;clear ο Q0;refine aQ 4 (fun w' hSw=>show w'.cell? ⟨c,7,none⟩=some (ι (n5:Int)) from (vo.out _ hSw).cell 7) ?_;refine aQ 5 (fun w' hSw=>show w'.cell? ⟨c,7,none⟩=some (ι (n5:Int)) from (vo.out _ hSw).cell 7) ?_;refine aQ 6 (fun w' hSw=>show w'.cell? ⟨c,7,none⟩=some (ι (n5:Int)) from (vo.out _ hSw).cell 7) ?_;refine aQ 7 (fun w' hSw=>show w'.cell? ⟨c,7,none⟩=some (ι (n5:Int)) from (vo.out _ hSw).cell 7) ?_;refine aQ 8 (fun w' hSw=>show w'.cell? ⟨c,7,none⟩=some (ι (n5:Int)) from (vo.out _ hSw).cell 7) ?_;refine aQ 9 (fun w' hSw=>show w'.cell? ⟨c,7,none⟩=some (ι (n5:Int)) from (vo.out _ hSw).cell 7) ?_;refine aQ 10 (fun w' hSw=>show w'.cell? ⟨c,7,none⟩=some (ι (n5:Int)) from (vo.out _ hSw).cell 7) ?_;refine aQ 11 (fun w' hSw=>show w'.cell? ⟨c,7,none⟩=some (ι (n5:Int)) from (vo.out _ hSw).cell 7) ?_
     refine aQ 12 (fun w' hSw=>show w'.cell? ⟨c,7,none⟩=some (ι (n5:Int)) from (vo.out _ hSw).cell 7) ?_;refine aQ 13 (fun w' hSw=>show w'.cell? ⟨c,7,none⟩=some (ι (n5:Int)) from (vo.out _ hSw).cell 7) ?_;refine aY 14 (fun KK ο=>?_);refine sO rfl 115 _ _ rfl g #[ι (n0:Int),ι (n1:Int),ι (n2:Int),.slice A L.length cap,.string ⟨#[]⟩,ι (n3:Int),ι (n4:Int),ι (n5:Int),ω (n7:Int),ι (n6:Int),.int .u32 (n8:Int)] rfl rfl _ _ ZI rfl (by simp[Value.oneCell']) kR ?_;intro ws rF Av hzs;have mY:ζ (fun q=>q=g) wq ws:=Q1.then Av (fun _ e=>.inl e);refine ο.out _ _ mY ?_;clear ο;refine ξ 15 ?_;refine ξ 16 ?_;refine dF ?_;refine cZ ?_;have HZ:=aj rF mY (HQ.out.2.2.1.ε mY (fun q Jk e=>by have:=HL.out.2.2.2.2.2.2 q Jk;have:=iZ.out.1.blk.lt;have:=aU.out.1.lt;have SU:=H5.out.2.1.ε.size;have e2:q=g:=e;have:=tF.out;omega));clear rF Av hzs mY Q1 aC ZI;go_wp2_with fail
     refine cy (J' rfl _ _ g _ _ _ _ rfl HZ.out.1 underlying115 rfl kR (.string ST) (.bool true) rfl sM) rfl ⟨.slice A L.length cap,?_,HZ.out.2.2,fun q Jk=>?_,?_⟩
     ·rw[fu.out,aju.out]
     ·have:=HL.out.2.2.2.2.2.2 q Jk
      have h1:=aU.out.2.size;have h2:=H5.out.2.1.ε.size;have h3:=tF.out;omega
     ·exact HQ.out.2.2.2.1.then HZ.out.2.1 (fun q e=>.inr (by have e2:q=g:=e;have:=HG.out;omega))
theorem abg {l:List ai} (h:∀p ∈ l,p.1.length≤33∧p.2.length≤32) (hl:l.length≤48) (k:Nat):((l.drop k).flatMap kH).length≤3400:=by
 have:=Ov (l:=l.drop k) (a:=33) (b:=32) oM oM (fun p hp=>h p (Dr hp));rw[gM] at this;have h2:(33+32+4)*(l.length - k)≤69*48:=NR _ oM;omega
theorem afX {w:World} (l:List ai) (hs:∀p ∈ l,p.1.length≤33∧p.2.length≤32) (hl:l.length≤48) (txt:ByteArray) (mq:txt.data.toList=ke l) :
 ς 183 #[.string txt] w fun e w'=>∃v,e=ώ (.tuple #[v,ι 0])∧Own w' 55 2 v l.length (qP l)∧(∀q,v.ownBlock=some q→w.heap.size≤q)∧υ w w':=by
 have lX:=fun W=>LS txt W
 unfold ke at mq;rw[mq] at lX;have Au:=δ lX;have HM:=τ hs (abg hs hl);have zL:=dc (n:=l.length) oM;clear lX mq hs;go_enter func183,ntmps183
 go_wp2_with fail
 refine(Au.out _).mono ?_;rintro e w3 ⟨y,rfl,h3⟩;have H3:=δ h3;clear h3;go_wp2_with fail
 refine(Lr 48 rfl l.length _ 0 hl oM oM H3.out).mono ?_;rintro e w4 ⟨rfl,h4⟩;have E7:0+bC l.length≤10:=oM;obtain⟨r0,hr⟩:∃r,0+bC l.length=r:=⟨_,rfl⟩;rw[hr] at h4 E7;have H4:=τ h4 E7;clear h4 E7 hr zL;go_wp2_with fail
 go_loopw [5,6] (fun v n wr=>∃(k r:Nat),k≤l.length∧n=ι ((l.length - k:Nat):Int)∧r≤10+80*k∧bW (fun q=>q=y) w4 wr y ⟨(l.drop k).flatMap kH,r,0⟩∧Own wr 55 2 v k (qP (l.take k))∧(∀q,v.ownBlock=some q→w4.heap.size≤q)) (fun _ n _=>(intOf n).toNat)
 case atStart=>exact⟨0,r0,oM,sM,by have:=H4.out.2;omega,⟨H4.out.1.blk,.inl rfl,ζ.refl _ _⟩,Own.nil _ _ _,by simp[Value.ownBlock]⟩
 case round =>
  obtain⟨k,r5,hk,rfl,hr,hI,hO,hv⟩:=hrel;have E8:y<w4.heap.size:=H4.out.1.blk.lt;by_cases hlt:k<l.length
  ·have mc:=HM.out.1 _ (eM hlt)
   have dn:qP (l.take (k+1))=qP (l.take k)++bz l[k]:=by rw[gX hlt,UO]
   have hdl:=HM.out.2 (k+1);rw[ua hlt,xx] at hI;obtain⟨rest,qR⟩:∃r,(l.drop (k+1)).flatMap kH=r:=⟨_,rfl⟩;rw[qR] at hI hdl;obtain⟨p,hp⟩:=κ (l[k]);rw[hp] at mc dn hI;obtain⟨P,V⟩:=p;simp only at mc
   have Jh:bW (fun q=>q=y) w4 wr y ⟨bF P++(bF V++rest),r5,0⟩:=by
    have e:kH (P,V)++rest=bF P++(bF V++rest):=by unfold kH;simp[List.append_assoc]
    rw[e] at hI;exact hI
   have Ai:=kY (n:=P.length) oM;have I1:=kY (n:=V.length) oM;obtain⟨n,hn⟩:∃n:Nat,l.length - k=n:=⟨_,rfl⟩;have j1:(0:Int)<(n:Int):=oM;have nle:(n:Int)≤48:=oM;have Za:k<48:=oM;obtain⟨A,cap,rfl,-,-⟩:=hO.shape;have HN:=δ (And.intro hn (And.intro hr (And.intro hdl (And.intro qR (And.intro dn (And.intro mc (And.intro Ai (And.intro I1 E8))))))));have HK:=τ hO hv;have Ji:=δ Jh;clear hI Jh hO hv qR hdl dn mc hp hr Ai I1 E8;rw[hn];clear hn;go_wp2_with fail
   refine(texts 9223372036854775807 rfl P _ r5 (oN HN.out.2.2.2.2.2.1) oM (oN HN.out.2.1) (by have:=HN.out;rw[aL,iT];omega) Ji.out.here).mono ?_;rintro e w14 ⟨rfl,h14⟩;obtain⟨S,hS⟩:=κ (str P);rw[hS];have kM:=δ h14;clear h14;go_wp2_with fail
   refine(texts 9223372036854775807 rfl V _ _ (oN HN.out.2.2.2.2.2.1) oM (by have:=HN.out;rw[iT];omega) (oN HN.out) kM.out).mono ?_;rintro e w15 ⟨rfl,h15⟩;obtain⟨T,hT⟩:∃S,str V=S:=⟨_,rfl⟩;rw[hT];have fT:=τ hS hT;obtain⟨r6,xo⟩:=κ (r5+(bF P).length+(bF V).length);rw[xo] at h15;have G8:r6≤10+80*(k+1):=by rw[← xo,iT,iT];have:=HN.out;omega
   have ZJ:∀q,(Value.slice A k cap).ownBlock=some q→¬q=y:=fun q hq e=>by have:=HK.out.2 q hq;have:=HN.out.2.2.2.2.2.2.2.2;omega
   have tJ:ζ (fun q=>q=y) wr w15:=h15.ε;have js:=aj (Ji.out.back h15) (HK.out.1.ε tJ ZJ) G8;clear h15 hS hT xo G8 ZJ tJ;obtain⟨ti,bx,bN,bG,aT⟩:=je KP;go_wp2_with (first
    |(at_builtin;refine jH rfl _ _ _ _ rfl 55 ti _ 2 32 underlying56 bx bN bG aT rfl (.slice A k cap) k _ rfl (js.out.2.1.alloc _) _ 1 [_,_] rfl (Src.qN underlying56 _ rfl) (by simp[Value.oneCell']) (by unfold maxLen;omega) oM ?_;intro v2 w18 zG zH Es L2
      have SV:=aj zG zH Es;clear zG zH Es L2))
   clear bx bN bG aT;have L3:w4.heap.size≤w15.heap.size:=js.out.1.ε.size;have ah_:ζ (fun q=>(Value.slice A k cap).ownBlock=some q) w15 w18:=((ζ.refl _ w15).alloc _).then SV.out.2.1 (fun q e=>.inl e);go_roundw
   case rel =>
    refine⟨k+1,r6,oM,?_,js.out.2.2,?_,?_,fun q hq=>?_⟩
    ·have:=HN.out.1
     congr 1
     omega
    ·rw[HN.out.2.2.2.1]
     exact js.out.1.bP ah_ (fun e=>by have:=HK.out.2 y e;have:=HN.out.2.2.2.2.2.2.2.2;omega) (fun q e=>.inr (HK.out.2 q e))
    ·rw[HN.out.2.2.2.2.1]
     have:=SV.out.1;rw[← fT.out.1,← fT.out.2] at this;exact this
    ·rcases SV.out.2.2 with e | e
     ·exact HK.out.2 q (by rw[← e];exact hq)
     ·rw[hq] at e
      have:=dw e;rw[cM] at this;omega
   case measure=>simp[intOf]<;>omega
  ·obtain rfl:k=l.length:=oM
   have hz:l.length - l.length=0:=oM;rw[hz];rw[pN (bQ _)] at hI;rw[dH (bQ _)] at hO;have wU:=Li hI;have IZ:=δ wU;have HL:=aj hO hv hI.ε;have hfz:(if (⟨([]:List ai).flatMap kH,r5,0⟩:dW).fail≠0 then (⟨([]:List ai).flatMap kH,r5,0⟩:dW).fail else if (⟨([]:List ai).flatMap kH,r5,0⟩:dW).rest≠[] then 8 else 0)=0:=rfl;obtain⟨A,cap,rfl,-,-⟩:=hO.shape;clear wU hO hv hI hz hr hlt hk E8;go_wp2_with fail
   refine IZ.out.mono ?_;rintro e wz ⟨rfl,M5⟩;have HZ:=δ M5;clear M5;go_wp2_with fail
   go_ret2
   refine⟨.slice A l.length cap,rfl,HL.out.1.ε HZ.out (fun _ _ e=>e),fun q hq=>?_,?_⟩
   ·have:=HL.out.2.1 q hq
    have:=H4.out.1.ε.size;omega
   ·exact(H4.out.1.ε.then HL.out.2.2 (fun q e=>.inr (by
     have e2:q=y:=e;rw[e2];rcases H3.out.new with e3 | e3
     ·exact e3.elim
     ·exact e3))).then HZ.out φ
def td (d:Dk) (k:Nat):Bool:=(List.range k).any fun i=>decide ((cz (d.now (340+i)).data.toList).2=2)
theorem VO (d:Dk) (k:Nat):td d (k+1)=(td d k || decide ((cz (d.now (340+k)).data.toList).2=2)):=by
 unfold td;rw[sK,aa6];simp
theorem ael {d:Dk} {k n:Nat} (h:td d k=true) (hn:k≤n):td d n=true:=by
 unfold td at *;rw[aa7] at *;obtain⟨i,hi,h2⟩:=h;exact⟨i,FA.2 (oN (FA.1 hi)),h2⟩
theorem afY {w:World} {p:Nat} {d:Dk} {F:List Nat} (hD:bI w p d F) (ho:d.off=false) (hl:500≤d.af.length) (hs:∀i,i<500→(d.now i).size=64) :
 ς 62 #[.pointer (some ⟨p,0,none⟩)] w fun e w'=>e=ώ (.tuple #[.bool (td d 160),ι 0])∧υ w w':=by
 obtain⟨B,hB⟩:=κ (td d 160);rw[hB];have hrd:∀(W:World),υ w W→∀k:Nat,k<160→ς 46 #[.pointer (some ⟨p,0,none⟩),ι (340+(k:Int))] W fun e w'=>e=ώ (.tuple #[.string (d.now (340+k)),ι 0])∧W=w':=fun W hW k hk=>by
  have:=K8 (hD.ε hW (fun _ _ e=>e)) (340+(k:Int));have e:d.read (340+(k:Int))=(d.now (340+k),0):=by
   unfold Dk.read Dk.there;rw[ho,ν sM,σ (by simp;omega)];congr 1
  rw[e] at this;refine this.mono ?_;rintro e w' ⟨rfl,rfl⟩;exact⟨rfl,rfl⟩
 have HR:=δ hrd;have HS:=τ hs hB;clear hrd hs hB hD;go_enter func62,ntmps62
 go_wp2_with fail
 go_loopw [4,5,6,7,8,9] (fun _ _ _ _ _ u wr=>∃k:Nat,k≤160∧u=ι (k:Int)∧υ w wr∧td d k=false) (fun _ _ _ _ _ u _=>160 - (intOf u).toNat)
 case atStart=>exact⟨0,oM,rfl,ζ.refl _ _,rfl⟩
 case round =>
  obtain⟨k,hk,rfl,hU,hE⟩:=hrel;by_cases hlt:k<160
  ·have hsz:=HS.out.1 (340+k) oM
   have hst:=VO d k;rw[hE,Bool.false_or] at hst;have hmo:=fun h:td d (k+1)=true=>ael h (show k+1≤160 by omega)
   have hlk:=fun W=>Xq (d.now (340+k)) W oM
   obtain⟨N,hN⟩:=κ (d.now (340+k));have hr:=HR.out wr hU k hlt;rw[hN] at hst hlk hr;obtain⟨a,ha⟩:=κ (str (cz N.data.toList).1);obtain⟨z,hz⟩:∃a,(cz N.data.toList).2=a:=⟨_,rfl⟩;rw[ha,hz] at hlk;rw[hz] at hst;have j1:(k:Int)<160:=oM;have Je:=δ hr;have Jb:=δ hlk;have HX:=aj hst hmo hU;clear hsz hst hmo hlk hr hU hE hN ha hz;go_wp2_with fail
   refine Je.out.mono ?_;rintro e w1 ⟨rfl,rfl⟩;go_wp2_with fail
   refine(Jb.out _).mono ?_;rintro e w2 ⟨rfl,π⟩;have HU:=δ (HX.out.2.2.then π φ);clear π;by_cases h2:z=2
   ·subst h2
    obtain rfl:true=B:=by
     rw[← HS.out.2];exact(HX.out.2.1 (by rw[HX.out.1];rfl)).symm
    go_wp2_with fail
    go_ret2
    exact⟨rfl,HU.out⟩
   ·have h2b:(z == 2)=false:=by simpa using h2
    go_wp2_with fail
    go_roundw
    case rel=>exact⟨k+1,oM,by go_num,HU.out,by rw[HX.out.1];simpa using h2⟩
    case measure=>simp[intOf]<;>omega
  ·obtain rfl:k=160:=oM
   obtain rfl:false=B:=by rw[← HS.out.2,hE]
   have HU:=δ hU;clear hU hE hlt hk;rw[show ((160:Nat):Int)=160 from rfl];go_wp2_with fail
   go_ret2
   exact⟨rfl,HU.out⟩
theorem bsize:∃j,prog.info? 139=some j∧j.size=2:=by
 obtain⟨j,hj,SW⟩:=Option.map_eq_some_iff.1 (show (prog.info? 139).map (·.size)=some 2 by kernel_rfl);exact⟨j,hj,SW⟩
theorem aiK:liesAt prog prog.depth 139 (2 / prog.cellsOf 139) 0 139 1=true:=kR
theorem infoByte:(prog.info? 5).map (fun i=>(i.zero,i.size,i.bytes))=some (some (ϋ 0),1,1):=kR
theorem acj (b:Nat) (w:World) (h0:w.cell? ⟨b,0,none⟩=some (.pointer (some ⟨b,0,none⟩))) :
 ς 132 #[.pointer (some ⟨b,0,none⟩)] w fun e w'=>e=ώ (.tuple #[])∧w'=w:=by
 obtain⟨j,hj,-⟩:=bsize;go_enter func132,ntmps132
 go_wp2
 rw[Lib.run_neq_ptr_same w _ underlying137 hj];go_wp2
 go_end0
 exact⟨rfl,rfl⟩
theorem abQ (b:Nat) (w:World) (h0:w.cell? ⟨b,0,none⟩=some (.pointer none)) (hsh:w.shape? b=some (139,2)) (hfz:w.frozen? ⟨b,0,none⟩=false) :
 ς 132 #[.pointer (some ⟨b,0,none⟩)] w fun e w'=>e=ώ (.tuple #[])∧w'=w.setCell ⟨b,0,none⟩ (.pointer (some ⟨b,0,none⟩)):=by
 obtain⟨j,hj,SW⟩:=bsize;go_enter func132,ntmps132
 go_wp2
 rw[Lib.run_to_unsafe w ⟨b,0,none⟩ underlying137 underlying296 hj (by rw[SW];decide) hsh (Nat.zero_lt_succ 1)]
 simp only[Result.andThen];rw[Oper.upon_value];go_wp2
 rw[run_callFunc_extern func187 kR kR kR (e:=Extern.AbiNoEscape.same) kR];rw[Lib.run_noEscape];simp only[Result.andThen];rw[Oper.upon_value];go_wp2
 rw[Lib.run_from_unsafe w ⟨b,0,none⟩ underlying296 underlying137 hj hsh aiK];simp only[Result.andThen];rw[Oper.upon_value];go_wp2
 go_end0
 exact⟨rfl,rfl⟩
theorem afZ (B b:Nat) (bs:List Value) (w:World) (h:Lib.IsBuilder 139 5 B b bs w) :
 ς 132 #[.pointer (some ⟨b,0,none⟩)] w fun e w'=>e=ώ (.tuple #[])∧(Lib.BuilderAt 139 5 B b (.pointer (some ⟨b,0,none⟩)) bs w'∧Below B w w'):=by
 rcases h with h | h
 ·refine(abQ b w h.cell0 h.shape h.frozen0).mono ?_
  rintro e w' ⟨rfl,rfl⟩;exact⟨rfl,h.used _,(nX B w).setCell (p:=⟨b,0,none⟩) h.1 _⟩
 ·refine(acj b w h.cell0).mono ?_
  rintro e w' ⟨rfl,rfl⟩;exact⟨rfl,h,nX B _⟩
theorem af0 (B b:Nat) (bs:List Value) (s:ByteArray) (w:World) (h:Lib.IsBuilder 139 5 B b bs w) (hlen:bs.length+s.size≤140737488355328) (hBw:B≤w.heap.size) :
 ς 72 #[.pointer (some ⟨b,0,none⟩),.string s] w fun e w'=>e=ώ (.tuple #[ι s.size,.nilIface])∧(Lib.BuilderAt 139 5 B b (.pointer (some ⟨b,0,none⟩)) (bs++Lib.strCells s) w'∧Below B w w'):=by
 obtain⟨i0,hi,bN,bG,aT⟩:=je infoByte;have HC:=δ (afZ B b bs w h);clear h;go_enter func72,ntmps72
 go_wp2_with fail
 refine HC.out.mono ?_;rintro e w1 ⟨rfl,h1,ec⟩;obtain⟨hB,v,hbk,hown,hne⟩:=h1;have c0:w1.cell? ⟨b,0,none⟩=some (.pointer (some ⟨b,0,none⟩)):=by rw[Uk hbk];rfl
 have c1:w1.cell? ⟨b,1,none⟩=some v:=by rw[Uk hbk];rfl
 go_wp2_with (at_builtin;refine Lib.wpList_append_own_string _ rfl _ _ 89 9 rfl B 5 i0 underlying89 underlying9 hi bN bG aT _ _ _ rfl hown s rfl ?c3 ?c4 ?c5 ?_)
 case c3=>unfold maxLen;omega
 case c4=>omega
 case c5=>have:=ec.size;omega
 intro v' w2 X9 hgrow _;have hlt:b<w1.heap.size:=by
  rcases Fp b w1.heap.size with h' | h'
  ·exact h'
  ·simp[Array.getElem?_eq_none h'] at hbk
 have bn:w2.heap[b]? = some (.cells #[.pointer (some ⟨b,0,none⟩),v] 139 (0,0)):=by
  rw[hgrow.block b hlt (fun e=>hne e.symm)];exact hbk
 have d0:w2.cell? ⟨b,0,none⟩=some (.pointer (some ⟨b,0,none⟩)):=by rw[Uk bn];rfl
 have d1:w2.cell? ⟨b,1,none⟩=some v:=by rw[Uk bn];rfl
 have f1:w2.frozen? ⟨b,1,none⟩=false:=Lib.frozen_of_heap bn 1;obtain⟨ao,n',cap,rfl⟩:∃ao n' cap,v'=.slice ao n' cap:=by
  rcases X9.2 with ⟨hv,_⟩ | ⟨g,cap,cur,hv,_⟩
  ·exact⟨_,_,_,hv⟩
  ·exact⟨_,_,_,hv⟩
 go_wp2
 go_ret2
 refine⟨rfl,?_,?_⟩
 ·exact Lib.BuilderAt.put (T:=139) (e:=5) hB bn (bs':=bs++Lib.strCells s) (by simpa [Lib.strCells_length] using X9) dC
 ·exact(ec.grown hgrow (oN ec.size) (fun k hk=>(hown.lt k hk).1)).setCell (p:=⟨b,1,none⟩) hB _
theorem ack (s:ByteArray):Lib.strCells s=Lib.byteCells s.data.toList:=rfl
theorem acm (t:List UInt8) (k:Nat):(t.take (56*k))++jL t k=t.take (56*(k+1)):=by
 unfold jL;rw[Nat.mul_succ,Ug]
theorem BuilderAt.ε {T e:TypeId} {B b:Nat} {p:Value} {bs:List Value} {w w':World} (h:Lib.BuilderAt T e B b p bs w) (hu:υ w w'):Lib.BuilderAt T e B b p bs w':=by
 obtain⟨h1,v,h2,h3,h4⟩:=h;have dO:b<w.heap.size:=(ng.1 h2).1;refine⟨h1,v,(hu.block b dO (fun e=>e)).trans h2,⟨h3.1,?_⟩,h4⟩;rcases h3.2 with ⟨e1,e2⟩ | ⟨g,cap,cur,e1,e2,e3,e4⟩
 ·exact .inl ⟨e1,e2⟩
 ·exact .inr ⟨g,cap,cur,e1,e2,(hu.block g (ng.1 e3).1 (fun e=>e)).trans e3,e4⟩
theorem IsBuilder.ε {T e:TypeId} {B b:Nat} {bs:List Value} {w w':World} (h:Lib.IsBuilder T e B b bs w) (hu:υ w w'):Lib.IsBuilder T e B b bs w' :=
 h.elim (fun x=>.inl (BuilderAt.ε x hu)) (fun x=>.inr (BuilderAt.ε x hu))
theorem ag9 {w:World} {p:Nat} {d:Dk} {F:List Nat} (hD:bI w p d F) (ho:d.off=false) (hl:d.af.length=500) (slot:Nat) (h1:1≤slot) (h2:slot≤2) (t:List UInt8) (ht:xI d slot t) (n1:1≤bR t) (n2:bR t≤80) :
 ς 182 #[.pointer (some ⟨p,0,none⟩),ι (slot:Int)] w fun e w'=>e=ώ (.tuple #[.string (str t),.bool true])∧υ w w':=by
 have hpl:cE slot+80≤500:=by unfold cE;omega
 have hrd:∀(W:World),υ w W→∀k:Nat,k<bR t→ς 46 #[.pointer (some ⟨p,0,none⟩),ι ((cE slot+k:Nat):Int)] W fun e w'=>e=ώ (.tuple #[.string (str (gH (nv t k))),ι 0])∧W=w':=fun W hW k hk=>by
  have:=K8 (hD.ε hW (fun _ _ e=>e)) ((cE slot+k:Nat):Int);have e:d.read ((cE slot+k:Nat):Int)=(d.now (cE slot+k),0):=by
   unfold Dk.read Dk.there;rw[ho,ν sM,σ (by simp;omega)];congr 1
  rw[e,ht k hk] at this;refine this.mono ?_;rintro e w' ⟨rfl,rfl⟩;exact⟨rfl,rfl⟩
 have hlk:∀W k,ς 47 #[.string (str (gH (nv t k)))] W fun e w'=>e=ώ (.tuple #[.string (str (nv t k)),ι 1])∧υ W w':=fun W k=>by
  have:=Xq (str (gH (nv t k))) W (by rw[bf,gH,aL,FJ,oK];omega);rw[VF t k n1 n2] at this;exact this
 have hpc:=fun (W:World) (k:Nat) (hk:k≤1000)=>Wr slot k h1 oM hk W
 have HR:=δ hrd;have HL:=δ hlk;have HP:=δ hpc;have HN:=τ n1 n2;clear hrd hlk hpc hD ht ho hl hpl;obtain⟨c,hc⟩:=κ w.heap.size;go_enter func182,ntmps182
 go_upto_region 2 with fail
 generalize aH:World.alloc _ _=w2;have aB:Lib.IsBuilder 139 5 c c (Lib.byteCells []) w2:=by
  refine .inl ⟨bQ _,.slice none 0 0,?_,⟨rfl,.inl ⟨rfl,rfl⟩⟩,by simp[Value.ownBlock]⟩;rw[← aH,← hc];exact η.new w _ _
 have π:Below c w w2:=by rw[← aH,← hc];exact(nX _ w).alloc (bQ _) _
 have H2:=τ aB π;have HC:=δ hc;clear aB π aH hc;go_wp2_with fail
 go_loopw [7,8,9,10,11,12] (fun i n _ _ _ _ wr=>∃k:Nat,k≤bR t∧i=ι (k:Int)∧n=ι ((if k=0 then 1 else bR t:Nat):Int)∧Lib.IsBuilder 139 5 c c (Lib.byteCells (t.take (56*k))) wr∧Below c w wr) (fun i _ _ _ _ _ _=>200 - (intOf i).toNat)
 case atStart=>exact⟨0,oM,rfl,rfl,by simpa using H2.out.1,H2.out.2⟩
 case round =>
  obtain⟨k,hk,rfl,rfl,hB,hU⟩:=hrel;by_cases hlt:k<bR t
  ·have j1:(k:Int)<((if k=0 then 1 else bR t:Nat):Int):=by split<;>omega
   obtain⟨M,hM⟩:∃M:Int,((if k=0 then 1 else bR t:Nat):Int)=M:=⟨_,rfl⟩;rw[hM] at j1 ⊢;have kE:υ w wr:=ζ.oI (by rw[HC.out];exact hU) _;have hbody:nv t k=UInt8.ofNat k::UInt8.ofNat (bR t)::UInt8.ofNat (jL t k).length::0::(jL t k++List.replicate (56 - (jL t k).length) 0):=rfl;have hpl:=Oo t k;have dO:=FJ t k;obtain⟨b,hb⟩:=κ (str (nv t k));have ajv:=HL.out;have hsz:b.size=60:=by rw[← hb,bf];exact dO
   have g0:(b[0]'oM).toNat=k:=by
    have h:=pV b 0 oM;rw[← h,← hb,bS,hbody];simp
    omega
   have g1:(b[1]'oM).toNat=bR t:=by
    have h:=pV b 1 oM;rw[← h,← hb,bS,hbody];have:=HN.out;simp
    omega
   have g2:(b[2]'oM).toNat=(jL t k).length:=by
    have h:=pV b 2 oM;rw[← h,← hb,bS,hbody];simp
    omega
   have hex:(b.extract 4 (4+(jL t k).length)).data.toList=jL t k:=by
    rw[sN,bS,← hb,bS,hbody,ug];show List.take _ (jL t k++_)=_;rw[JQ]
   obtain⟨PL,tW⟩:=κ (jL t k).length;obtain⟨SN,AB⟩:=κ (bR t);rw[tW] at g2 hex hpl;obtain⟨X,hX⟩:=κ (b.extract 4 (4+PL));rw[hX] at hex;have Jl:X.size=PL:=by
    have:=aJ List.length hex;rw[tW] at this;simpa using this
   have hM0:(Lib.byteCells (t.take (56*k))).length+X.size≤140737488355328:=by
    rw[Lib.byteCells_length,fF];have:=HN.out;omega
   have hcs:c≤wr.heap.size:=by rw[← HC.out];exact kE.size
   have Q2:=HR.out wr kE k hlt;obtain⟨s64,ZK⟩:∃x,str (gH (nv t k))=x:=⟨_,rfl⟩;have L4:=fun W=>HL.out W k
   rw[ZK] at Q2 L4;rw[hb] at L4;have hpp:=HP.out wr k (oN HN.out.2);have bY:Lib.byteCells (t.take (56*k))++Lib.strCells X=Lib.byteCells (t.take (56*(k+1))):=by
    rw[ack,hex,← acm];unfold Lib.byteCells;rw[kG]
   have M6:=δ hX;have pI:=δ hlt;have Je:=δ Q2;have Jb:=δ L4;have Mr:=δ hpp;have HX:=o_ hB hU kE bY hM0 hcs AB;have k0:(0:Int)<(b.size:Int):=oM;have k60:(b.size:Int)=60:=oM;have i0:0<b.size:=oM;have i1:1<b.size:=oM;have i2:2<b.size:=oM;have hne:((k:Int) != (k:Int))=false:=by simp
   rw[AB] at g1;have M7:SN≤80:=by rw[← AB];exact HN.out.2
   clear hB hU kE bY hM0 hcs Q2 L4 hpp ZK hb hbody dO ajv hX Jl hex tW AB hlt;go_wp2_with fail
   refine Mr.out.mono ?_;rintro e w3 ⟨rfl,rfl⟩;go_wp2_with fail
   refine Je.out.mono ?_;rintro e w3 ⟨rfl,rfl⟩;go_wp2_with fail
   refine(Jb.out _).mono ?_;rintro e w4 ⟨rfl,ag⟩;have H4:=δ ag;clear ag;go_wp2_with fail
   rw[M6.out];refine(af0 c c _ X w4 (IsBuilder.ε HX.out.1 H4.out) HX.out.2.2.2.2.1 (oO HX.out.2.2.2.2.2.1 H4.out.size)).mono ?_;rintro e w5 ⟨rfl,aF,av⟩;have ZL:Below c w w5:=(HX.out.2.1.trans (((H4.out.below φ).mono HX.out.2.2.2.2.2.1))).trans av;rw[HX.out.2.2.2.1] at aF;have H5:=τ aF ZL;clear aF ZL;go_wp2_with fail
   go_roundw
   case rel =>
    refine⟨k+1,pI.out,by go_num,?_,.inr H5.out.1,H5.out.2⟩;rw[ν (Nat.succ_ne_zero k),HX.out.2.2.2.2.2.2,show min (SN:Int) 80=(SN:Int) by omega]
   case measure=>simp[intOf]<;>omega
  ·obtain rfl:k=bR t:=oM
   have hM:((if bR t=0 then 1 else bR t:Nat):Int)=(bR t:Int):=by rw[ν (oN HN.out.1)]
   rw[hM];have ht:t.take (56*bR t)=t:=dH (by unfold bR;omega);rw[ht] at hB;have hst:=Tryz.Builder_String_any c c t wr hB (oO hU.size (show c≤w.heap.size by rw[HC.out];exact bQ _));have fT:=δ hst;have HU:=δ hU;clear hst hU hB hM ht hlt hk;go_wp2_with fail
   refine fT.out.mono ?_;rintro e w6 ⟨rfl,az⟩;have H6:=δ (HU.out.trans az);clear az;go_wp2_with fail
   go_ret2
   exact⟨rfl,ζ.oI (by rw[HC.out];exact H6.out) _⟩
theorem VP (c:UInt8) (n:Nat):(zE c n).data.toList=List.replicate n c:=by
 unfold zE;show Lib.repeatL [c] n=_;induction n with
 | zero=>rfl
 | succ n ih=>rw[List.replicate_succ,← ih];rfl
theorem ac3 (t:List UInt8) (k:Nat):str [UInt8.ofNat k,UInt8.ofNat (bR t),UInt8.ofNat (jL t k).length,0]++str (jL t k)++zE 0 (56 - (jL t k).length)=str (nv t k):=by
 have:zE 0 (56 - (jL t k).length)=str (List.replicate (56 - (jL t k).length) 0):=by rw[← VP,DN]
 rw[this,ze,ze];rfl
theorem ag_ {w:World} {p:Nat} {d:Dk} {F:List Nat} (hD:bI w p d F) (hp:d.pend+200<1000000) (slot:Nat) (h1:1≤slot) (h2:slot≤2) (s:ByteArray) (hs:s.size≤4400) :
 ς 103 #[.pointer (some ⟨p,0,none⟩),ι (slot:Int),.string s] w fun e w'=>e=ώ (ι (gP d slot s.data.toList).2)∧∃F',Left w w' p (gP d slot s.data.toList).1 F F':=by
 have hlen:s.data.toList.length=s.size:=by simp
 have hwf:=hD.wf;obtain⟨t,ht⟩:=κ s.data.toList;rw[ht] at hlen ⊢;have n80:bR t≤80:=zc oM;have M7:bR t=(s.size+55) / 56:=by unfold bR;rw[hlen]
 have hdiv:((s.size:Int)+56 - 1) / 56=(bR t:Int):=by rw[M7];omega
 have hcell:Hid (∀k,s.extract (k*56) (min (((k:Int)+1)*56) (s.size:Int)).toNat=str (jL t k)):=fun k=>by
  rw[sN,ht];unfold jL;rw[JO k 56];congr 1
  by_cases hin:56*k+56≤s.size
  ·rw[show (min (((k:Int)+1)*56) (s.size:Int)).toNat - 56*k=56 by omega]
  ·rw[show (min (((k:Int)+1)*56) (s.size:Int)).toNat - 56*k=s.size - 56*k by omega,dH (by rw[gM];omega),dH (by rw[gM];omega)]
 have hWD:Hid (gP d slot t=if (dM d (cE slot) (jf t) (bR t)).2≠0 then dM d (cE slot) (jf t) (bR t) else (dM d (cE slot) (jf t) (bR t)).1.sync):=by
  show gP _ _ _=_;unfold gP;rw[ν oM]
 have hsame:=δ (fun k=>Bd d (cE slot) (jf t) hwf.len k);have tF:=aj M7 n80 hlen;have HD:=δ hD;have k80:(bR t:Int)≤80:=oM;clear hwf hD hlen M7 ht;go_enter func103,ntmps103
 go_wp2_with fail
 rw[hdiv];go_loopw [8,9,10,11,12,21] (fun _ _ _ _ _ u wr=>∃(k:Nat) (Fk:List Nat),k≤bR t∧u=ι (k:Int)∧(dM d (cE slot) (jf t) k).2=0∧Left w wr p (dM d (cE slot) (jf t) k).1 F Fk) (fun _ _ _ _ _ u _=>bR t - (intOf u).toNat)
 case atStart=>exact⟨0,F,oM,rfl,rfl,Left.refl HD.out⟩
 case round =>
  obtain⟨k,Fk,hk,rfl,hE,hL⟩:=hrel;by_cases hlt:k<bR t
  ·have hps:=tF.out.1
   have akk:56*k≤s.size:=oM;have hpl:=Oo t k;have ajw:(str (jL t k)).size=(jL t k).length:=bf _;have hsp:=ac3 t k;have cu:=hcell k;obtain⟨P,hP⟩:=κ (str (jL t k));obtain⟨PL,tW⟩:∃n,(jL t k).length=n:=⟨_,rfl⟩;rw[hP,tW] at ajw;rw[hP] at cu;rw[hP,tW] at hsp;rw[tW] at hpl;obtain⟨SN,AB⟩:∃n,bR t=n:=⟨_,rfl⟩;rw[AB] at hsp hk hlt k80 ⊢;obtain⟨Z,hZ⟩:=κ (zE 0 (56 - PL));obtain⟨H4,M8⟩:∃H,str [UInt8.ofNat k,UInt8.ofNat SN,UInt8.ofNat PL,0]=H:=⟨_,rfl⟩;rw[hZ,M8] at hsp;have hZs:Z.size=56 - PL:=by
    rw[← hZ,show (zE 0 (56 - PL)).size=(zE 0 (56 - PL)).data.toList.length by simp,VP,fG]
   have hHs:H4.size=4:=by rw[← M8,bf];rfl
   obtain⟨BD,Jm⟩:∃b,str (nv t k)=b:=⟨_,rfl⟩;rw[Jm] at hsp;have rF:BD.size=60:=by rw[← Jm,bf,FJ]
   have Lb:=fun W=>Ph BD W rF
   rw[← Jm,bS,Jm] at Lb;obtain⟨X,hX⟩:∃x,str (gH (nv t k))=x:=⟨_,rfl⟩;rw[hX] at Lb;have rf:=fun W=>aiD 0 (56 - PL) W oM
   rw[hZ] at rf;have s9:(jf t).getD k ByteArray.empty=X:=by rw[Kg t k oM,hX]
   have hpc:=fun (W:World)=>Wr slot k h1 oM oM W
   have pE:=vP (Vq wr [UInt8.ofNat k,UInt8.ofNat SN,UInt8.ofNat PL,0] sM);rw[M8] at pE;have hcv:(convert 89 9 (.slice (some ⟨wr.heap.size,0,none⟩) 4 4)).run prog (wr.alloc (.cells #[ϋ (k:Int),ϋ (SN:Int),ϋ (PL:Int),ϋ 0] 5))=.ok (.string H4) (wr.alloc (.cells #[ϋ (k:Int),ϋ (SN:Int),ϋ (PL:Int),ϋ 0] 5)):=by
    have e:(aK [UInt8.ofNat k,UInt8.ofNat SN,UInt8.ofNat PL,0]).toArray=#[ϋ (k:Int),ϋ (SN:Int),ϋ (PL:Int),ϋ 0]:=by
     unfold aK;simp
     omega
    rw[e] at pE;exact pE
   have cs1:(9223372036854775807<H4.size+P.size)=False:=eq_false oM;obtain⟨Q,hQ⟩:=κ (H4++P);have AD:Q.size=4+PL:=by rw[← hQ,FE];omega
   have cs2:(9223372036854775807<Q.size+Z.size)=False:=eq_false oM;have e60:(60:Int) - (Q.size:Int)=((56 - PL:Nat):Int):=oM;rw[← e60] at rf;rw[hQ] at hsp;have mu:=aj cu hsp s9;have ajx:=δ Lb;have ajy:=δ rf;have M_:=δ hpc;have HQ:=δ hQ;have HQs:=δ AD;have HK:=cx hk hlt AB hE hL;have j1:(k:Int)<(SN:Int):=oM;have j2:(PL:Int)≤56:=oM;clear hQ AD e60 cu hsp s9 Lb rf hpc hP tW hZ M8 Jm hX hZs pE hE hL AB hps;go_upto_region 8 with fail
   rw[mu.out.1];go_upto_region 9 with fail
   rw[HQ.out];have q60:(Q.size:Int)≤60:=by have:=HQs.out;omega
   go_wp2_with fail
   refine(ajy.out _).mono ?_;rintro e w2 ⟨rfl,π⟩;have H2:=δ π;clear π;go_wp2_with fail
   rw[mu.out.2.1];refine(ajx.out _).mono ?_;rintro e w3 ⟨rfl,aA⟩;have hL3:=((HK.out.2.2.2.2.alloc (.cells #[ϋ (k:Int),ϋ (SN:Int),ϋ (PL:Int),ϋ 0] 5)).below (ζ.below H2.out φ)).below aA;have H3:=δ hL3;clear hL3 aA;go_wp2_with fail
   refine(M_.out _).mono ?_;rintro e w4 ⟨rfl,rfl⟩;have uV:=(hsame k).2.2;have hw:=Pn H3.out.bO ((cE slot+k:Nat):Int) X (oN tF.out.2.1);have bY:dM d (cE slot) (jf t) (k+1)=(dM d (cE slot) (jf t) k).1.write ((cE slot+k:Nat):Int) X:=by
    conv=>lhs;unfold dM
    rw[ν (by rw[HK.out.2.2.2.1];simp),mu.out.2.2]
   rw[← bY] at hw;have HW:=δ hw;clear hw bY uV;obtain⟨e',he'⟩:∃e',(dM d (cE slot) (jf t) (k+1)).2=e':=⟨_,rfl⟩;rw[he'] at HW;go_wp2_with fail
   refine HW.out.mono ?_;rintro e w5 ⟨rfl,F5,tO⟩;have H5:=τ (H3.out.trans tO) he';clear tO he';by_cases hz:e'=0
   ·subst hz
    go_wp2_with fail
    go_roundw
    case rel=>exact⟨k+1,F5,by have:=HK.out.2.1;omega,by go_num,H5.out.2,H5.out.1⟩
    case measure=>have:=HK.out.2.1;simp[intOf]<;>omega
   ·have Na:(e' != 0)=true:=by simpa using hz
    have HZ:=δ hz;clear hz;go_wp2_with fail
    go_ret
    have hstop:=UM (d:=d) (a:=cE slot) (l:=jf t) (j:=k+1) (m:=SN) (by rw[H5.out.2];exact HZ.out) (oN HK.out.2.1);have cN:gP d slot t=dM d (cE slot) (jf t) (k+1):=by
     have h:=hWD;rw[HK.out.2.2.1] at h;have h2:gP d slot t=_:=h;rw[h2,hstop,σ (by rw[H5.out.2];exact HZ.out)]
    rw[cN,H5.out.2];exact⟨rfl,F5,H5.out.1⟩
  ·obtain rfl:k=bR t:=oM
   have hsy:=PK hL.bO;have HSY:=δ hsy;have HK:=τ hL hE;clear hsy hL hE hlt hk;go_wp2_with fail
   refine HSY.out.mono ?_;rintro e w5 ⟨rfl,F5,tO⟩;have H5:=δ (HK.out.1.trans tO);clear tO;go_wp2_with fail
   go_ret
   have h2:gP d slot t=_:=hWD;rw[h2,ν (by rw[HK.out.2];simp)]
   exact⟨rfl,F5,H5.out⟩
def Ty (w:World) (t:TypeId) (b:Nat):Prop:=∃cur fr,w.heap[b]? = some (.cells cur t fr)
def Mp (w:World) (b:Nat):Prop:=∃es c,w.heap[b]? = some (.map es c)
theorem Ty.inj {w:World} {t t':TypeId} {b:Nat} (h:Ty w t b) (h':Ty w t' b):t=t':=by
 obtain⟨a,f,e⟩:=h;obtain⟨a',f',e'⟩:=h';rw[e] at e';injection e' with e';injection e' with _ e'
theorem Ty.ji {w:World} {t:TypeId} {b:Nat} (h:Ty w t b) (h':Mp w b):False:=by
 obtain⟨a,f,e⟩:=h;obtain⟨a',f',e'⟩:=h';rw[e] at e';injection e' with e';cases e'
theorem η.ty {w:World} {t:TypeId} {b:Nat} {cs:Array Value} (h:η w b t cs):Ty w t b:=⟨cs,(0,0),h⟩
theorem cA.mp {α : Type} {inj : α → Value} {w:World} {b:Nat} {m:List (α × Value)} (h:cA inj w b m):Mp w b:=by
 obtain⟨es,c,h1,-⟩:=h;exact⟨es,c,h1⟩
theorem Own.ty {w:World} {e:TypeId} {size n:Nat} {v:Value} {xs:List Value} (h:Own w e size v n xs) {q:Nat} (hq:v.ownBlock=some q):Ty w e q:=by
 rcases h.2 with ⟨rfl,_⟩ | ⟨g,cap,cur,fr,rfl,hg,_⟩
 ·simp[Value.ownBlock] at hq
 ·have:g=q:=by simpa [Value.ownBlock] using hq
  subst this;exact⟨cur,fr,hg⟩
theorem bI.kind {w:World} {p:Nat} {d:Dk} {F:List Nat} (h:bI w p d F) {q:Nat} (hq:q ∈ F):Ty w 151 q∨Ty w 9 q∨Mp w q:=by
 obtain⟨bl,cap,bm,m,g1,g2,g3,g4,g5,rfl,g7⟩:=h;simp only[cn,nY] at hq;rcases hq with rfl | rfl | rfl | ⟨x,hx,hk⟩
 ·exact .inl g1.ty
 ·exact .inr (.inl (g2.ty (by simp[Value.ownBlock])))
 ·exact .inr (.inr g3.mp)
 ·obtain⟨i,_,_,_,h8⟩:=g4.each x hx
  exact .inr (.inl (h8.ty hk))
theorem bT.kind {F:Nat→Prop} {w0 w:World} {r:Nat} {aP:ByteArray} {cur μ n kb:Nat} {ay:List (Int × Nat)} (h:bT F w0 w r aP cur μ n kb ay) {q:Nat} (hq:fo r kb ay q):Ty w 186 q∨Ty w 269 q∨q=kb:=by
 rcases hq with rfl | rfl | ⟨e,he,rfl⟩
 ·exact .inl h.blk.ty
 ·exact .inr (.inr rfl)
 ·exact .inr (.inl (h.slots e he).ty)
def gd:TypeId:=99999999
def au (w:World) (t:TypeId) (k:Nat) (v:Value) (cs:List (List Value)):Prop :=
 ∃A cap,v=.slice A cs.length cap∧cs.length≤cap∧cs.length≤1000000∧(0<cs.length→∃b off cur t' fr,A=some ⟨b,off,none⟩∧w.heap[b]? = some (.cells cur t' fr)∧(t≠gd→t'=t)∧∀i c,cs[i]? = some c→∀j u,c[j]? = some u→cur[off+i*k+j]? = some u)
theorem au.tg {w w':World} {t:TypeId} {k:Nat} {v:Value} {cs:List (List Value)} {Z:Nat→Prop} (h:au w t k v cs) (hu:ζ Z w w') (hz:∀b,v.ownBlock=some b→(t≠gd→Ty w t b)→¬Z b):au w' t k v cs:=by
 obtain⟨A,cap,h1,h2,h3,h4⟩:=h;refine⟨A,cap,h1,h2,h3,fun h0=>?_⟩;obtain⟨b,off,cur,t',fr,e1,e2,e4,e3⟩:=h4 h0;refine⟨b,off,cur,t',fr,e1,(hu.block b (ng.1 e2).1 (hz b (by rw[h1,e1];rfl) (fun hn=>⟨cur,fr,?_⟩))).trans e2,e4,e3⟩
 rw[← e4 hn];exact e2
theorem au.ε {w w':World} {t:TypeId} {k:Nat} {v:Value} {cs:List (List Value)} {Z:Nat→Prop} (h:au w t k v cs) (hu:ζ Z w w') (hz:∀b,Ty w t b→¬Z b) (ht:t≠gd:=by decide):au w' t k v cs :=
 h.tg hu fun b _ hb=>hz b (hb ht)
theorem au.still {w w':World} {t:TypeId} {k:Nat} {v:Value} {cs:List (List Value)} (h:au w t k v cs) (hu:υ w w'):au w' t k v cs:=h.tg hu (fun _ _ _ e=>e)
theorem au.low {w w':World} {t:TypeId} {k N:Nat} {v:Value} {cs:List (List Value)} {Z:Nat→Prop} (h:au w t k v cs) (hN:∀b,v.ownBlock=some b→b<N) (hu:ζ Z w w') (hz:∀q,Z q→N≤q):au w' t k v cs :=
 h.tg hu fun b hb _ e=>J3 b (nT (hN b hb) (hz b e))
theorem au.any {w:World} {t:TypeId} {k:Nat} {v:Value} {cs:List (List Value)} (h:au w t k v cs):au w gd k v cs:=by
 obtain⟨A,cap,h1,h2,h3,h4⟩:=h;refine⟨A,cap,h1,h2,h3,fun h0=>?_⟩;obtain⟨b,off,cur,t',fr,e1,e2,e4,e3⟩:=h4 h0;exact⟨b,off,cur,t',fr,e1,e2,fun e=>absurd rfl e,e3⟩
theorem au.open_ {w:World} {t:TypeId} {k:Nat} {v:Value} {cs:List (List Value)} (h:au w t k v cs):∃A cap b off,v=.slice A cs.length cap∧cs.length≤cap∧cs.length≤1000000∧(0<cs.length→A=some ⟨b,off,none⟩) ∧
 ∀w' Z,ζ Z w w'→(∀b,(t≠gd→Ty w t b)→¬Z b)→∀i c,cs[i]? = some c→w'.rangeAt b (off+i*k) c:=by
 have hh:=h;obtain⟨A,cap,h1,h2,h3,h4⟩:=h;by_cases h0:0<cs.length
 ·obtain⟨b,off,cur,t',fr,e1,e2,e4,e3⟩:=h4 h0
  refine⟨A,cap,b,off,h1,h2,h3,fun _=>e1,fun w' Z hu hz i c hc j u hj=>?_⟩;have e5:=(hu.block b (ng.1 e2).1 (hz b (fun hn=>⟨cur,fr,by rw[← e4 hn];exact e2⟩))).trans e2;rw[Di w' b _ cur t' fr e5];exact e3 i c hc j u hj
 ·refine⟨A,cap,0,0,h1,h2,h3,fun h=>absurd h h0,fun w' Z hu hz i c hc=>?_⟩
  have:=(kT.1 hc).1;omega
theorem au.jK {w:World} {t:TypeId} {k n:Nat} {v:Value} {cs:List (List Value)} (h:Own w t k v n cs.flatten) (hn:cs.length=n) (hm:n≤1000000) (hk:∀c ∈ cs,c.length=k):au w t k v cs:=by
 rcases h.2 with ⟨rfl,h0⟩ | ⟨g,cap,cur,fr,rfl,hg,hfr,hnc,hcm,hcs,BH⟩
 ·subst h0
  exact⟨none,0,by rw[hn],oM,oM,fun h=>by omega⟩
 ·refine⟨_,cap,by rw[hn],oM,oM,fun h0=>⟨g,0,cur,t,fr,rfl,hg,fun _=>rfl,fun i c hc j u hj=>?_⟩⟩
  have hfl:∀(l:List (List Value)),(∀c ∈ l,c.length=k)→∀i c,l[i]? = some c→∀j u,c[j]? = some u→l.flatten[i*k+j]? = some u:=by
   intro l;induction l with
   | nil=>intro _ i c hc;simp at hc
   | cons x r ih =>
     intro hl i c hc j u hj;have hx:=hl x sM;rw[J4];cases i with
     | zero =>
       have:x=c:=by simpa using hc
       subst this;have hjl:=(kT.1 hj).1;rw[pL oM];simpa using hj
     | succ i =>
       rw[lM (by rw[hx,J5];omega)];have e:(i+1)*k+j - x.length=i*k+j:=by rw[hx,J5];omega
       rw[e];exact ih (fun c hc=>hl c (by simp[hc])) i c (by simpa using hc) j u hj
  have h1:=hfl cs hk i c hc j u hj;rw[← BH,JP] at h1;split at h1
  ·rw[kU]
   simpa using h1
  ·cases h1
theorem au.eD {w:World} {t:TypeId} {v:Value} {l:List gW} (h:au w t 2 v (l.map ct)):∃A cap b off,v=.slice A l.length cap∧l.length≤cap∧l.length≤1000000∧(0<l.length→A=some ⟨b,off,none⟩) ∧
 ∀w' Z,ζ Z w w'→(∀b,(t≠gd→Ty w t b)→¬Z b)→wm w' b off l:=by
 obtain⟨A,cap,b,off,h1,h2,h3,h4,h5⟩:=h.open_;rw[bp] at h1 h2 h3 h4;refine⟨A,cap,b,off,h1,h2,h3,h4,fun w' Z hu hz i hi=>?_⟩;exact h5 w' Z hu hz i (ct l[i]) (by simp[hi])
theorem au.ops {w:World} {t:TypeId} {v:Value} {l:List cT} (h:au w t 3 v (l.map bU)):∃A cap b off,v=.slice A l.length cap∧l.length≤cap∧l.length≤1000000∧(0<l.length→A=some ⟨b,off,none⟩) ∧
 ∀w' Z,ζ Z w w'→(∀b,(t≠gd→Ty w t b)→¬Z b)→uw w' b off l:=by
 obtain⟨A,cap,b,off,h1,h2,h3,h4,h5⟩:=h.open_;rw[bp] at h1 h2 h3 h4;refine⟨A,cap,b,off,h1,h2,h3,h4,fun w' Z hu hz i hi=>?_⟩;exact h5 w' Z hu hz i (bU l[i]) (by simp[hi])
structure cR where
 F:List Nat
 kb:Nat
 lb:Nat
 lv:Value
 rb:Nat
 rk:Nat
 ay:List (Int × Nat)
 m:Nat
 mb:Nat
 rv:Value
 aI:List Value
 mv:Value
def eX (V:aV) (p:Nat) (o:cR):Array Value :=
 #[.pointer (some ⟨o.m,0,none⟩),ι V.at_,ι V.θ,o.rv,ι V.prev,.pointer (some ⟨p,0,none⟩),.pointer (some ⟨o.kb,0,none⟩),.pointer (some ⟨o.lb,0,none⟩),.pointer (some ⟨o.rb,0,none⟩),
  ι V.st.m.role,ι V.st.m.seen,ι V.st.m.aG,o.mv,.string (str V.st.m.bu),ι V.st.at_,ι V.st.θ,ι (V.st.slot:Int),ω (V.st.log:Int),ι (V.st.key:Int),.int .u32 (V.st.μ:Int),.bool V.down]
def s6:List bL→List Value→List Value
 | b::r,o::s=>ι b.index::ι b.θ::o::s6 r s
 | _,_=>[]
def cR.mut (o:cR) (v q:Nat):Prop:=q=v∨q ∈ o.F∨q=o.kb∨q=o.lb∨o.lv.ownBlock=some q∨fo o.rb o.rk o.ay q∨o.rv.ownBlock=some q
structure aR (w:World) (p v:Nat) (d:Dk) (V:aV) (o:cR):Prop where
 bO:bI w p d o.F
 blk:η w v 117 (eX V p o)
 kept:η w o.kb 209 (V.kp.cells p)
 log:η w o.lb 199 (V.lg.cells p o.lv)
 recs:Own w 9 1 o.lv V.lg.l.length (strs V.lg.l)
 sep:∀q,o.lv.ownBlock=some q→q ∉ o.F
 ring:bT (fo o.rb o.rk o.ay) w w o.rb (str jI) V.cur V.st.μ V.n o.rk o.ay
 xp:o.rk ∉ o.F
 map:fY w o.m o.mb V.S
 qb:o.mb ∉ o.F
 tX:o.mb≠o.rk
 rows:Own w 35 3 o.rv V.rows.length (s6 V.rows o.aI)
 qD:o.aI.length=V.rows.length
 each:∀(i:Nat) (b:bL) (ov:Value),V.rows[i]? = some b→o.aI[i]? = some ov→au w 32 3 ov (b.ops.map bU)
 eD:au w 46 2 o.mv (V.st.m.aW.map ct)
structure di (w w':World) (v:Nat) (o o':cR):Prop where
 ε:ζ (o.mut v) w w'
 sub:∀q,o'.mut v q→o.mut v q∨w.heap.size≤q
 CV:o'.mb=o.mb∨w.heap.size≤o'.mb:=by first| exact .inl rfl | assumption
theorem di.refl (w:World) (v:Nat) (o:cR):di w w v o o:=⟨ζ.refl _ _,fun _ h=>.inl h,.inl rfl⟩
theorem di.trans {w w1 w2:World} {v:Nat} {o o1 o2:cR} (h:di w w1 v o o1) (k:di w1 w2 v o1 o2):di w w2 v o o2 :=
 ⟨h.ε.then k.ε h.sub,fun q hq=>(k.sub q hq).elim (h.sub q) (fun e=>.inr (iE h.ε.size e)),k.CV.elim (fun e=>h.CV.imp (e.trans ·) (fun e2=>e ▸ e2)) (fun e=>.inr (iE h.ε.size e))⟩
theorem di.still {w w1 w2:World} {v:Nat} {o o1:cR} (h:di w w1 v o o1) (hu:υ w1 w2):di w w2 v o o1:=⟨h.ε.then hu φ,h.sub,h.CV⟩
theorem di.re {w w':World} {v:Nat} {o o':cR} (h:di w w' v o o') {m mb:Nat} (hmb:mb=o.mb∨w.heap.size≤mb):di w w' v o { o' with m:=m,mb:=mb } := ⟨h.ε,h.sub,hmb⟩
section
variable {w w':World} {p v:Nat} {d d':Dk} {V:aV} {o:cR}
theorem aR.kind (h:aR w p v d V o) {q:Nat} (hq:o.mut v q):Ty w 117 q∨Ty w 151 q∨Ty w 9 q∨Ty w 209 q∨Ty w 199 q∨Ty w 186 q∨Ty w 269 q∨Ty w 35 q∨Mp w q∧(q ∈ o.F∨q=o.rk):=by
 rcases hq with rfl | hq | rfl | rfl | hq | hq | hq
 ·exact .inl h.blk.ty
 ·rcases h.bO.kind hq with e | e | e
  ·exact .inr (.inl e)
  ·exact .inr (.inr (.inl e))
  ·exact .inr (.inr (.inr (.inr (.inr (.inr (.inr (.inr ⟨e,.inl hq⟩)))))))
 ·exact .inr (.inr (.inr (.inl h.kept.ty)))
 ·exact .inr (.inr (.inr (.inr (.inl h.log.ty))))
 ·exact .inr (.inr (.inl (h.recs.ty hq)))
 ·rcases h.ring.kind hq with e | e | e
  ·exact .inr (.inr (.inr (.inr (.inr (.inl e)))))
  ·exact .inr (.inr (.inr (.inr (.inr (.inr (.inl e))))))
  ·exact .inr (.inr (.inr (.inr (.inr (.inr (.inr (.inr ⟨by rw[e];exact h.ring.map.mp,.inr e⟩)))))))
 ·exact .inr (.inr (.inr (.inr (.inr (.inr (.inr (.inl (h.rows.ty hq))))))))
theorem aR.sU (h:aR w p v d V o) {t:TypeId} {q:Nat} (ht:Ty w t q) (hn:t ∉ [117,151,9,209,199,186,269,35]):¬o.mut v q:=by
 intro hq;simp only[cn,ue,uf,pO] at hn;obtain⟨n1,n2,n3,n4,n5,n6,n7,n8⟩:=hn;rcases h.kind hq with e | e | e | e | e | e | e | e | e
 ·exact n1 (ht.inj e)
 ·exact n2 (ht.inj e)
 ·exact n3 (ht.inj e)
 ·exact n4 (ht.inj e)
 ·exact n5 (ht.inj e)
 ·exact n6 (ht.inj e)
 ·exact n7 (ht.inj e)
 ·exact n8 (ht.inj e)
 ·exact ht.ji e.1
theorem aR.ah' (h:aR w p v d V o):¬o.mut v o.mb:=by
 intro hq;obtain⟨ay,e1,-⟩:=h.map.map;have hm:=e1.mp;rcases h.kind hq with e | e | e | e | e | e | e | e | e
 ·exact e.ji hm
 ·exact e.ji hm
 ·exact e.ji hm
 ·exact e.ji hm
 ·exact e.ji hm
 ·exact e.ji hm
 ·exact e.ji hm
 ·exact e.ji hm
 ·rcases e.2 with e | e
  ·exact h.qb e
  ·exact h.tX e
theorem aR.DK {Z:Nat→Prop} (h:aR w p v d V o) (hu:ζ Z w w') (hz:∀q,Z q→o.mut v q):fY w' o.m o.mb V.S :=
 h.map.ε hu (fun e=>h.sU h.map.blk.ty dC (hz _ e)) (fun e=>h.ah' (hz _ e))
theorem aR.Bi {Z:Nat→Prop} (h:aR w p v d V o) (hu:ζ Z w w') (hz:∀q,Z q→o.mut v q):∀(i:Nat) (b:bL) (ov:Value),V.rows[i]? = some b→o.aI[i]? = some ov→au w' 32 3 ov (b.ops.map bU) :=
 fun i b ov h1 h2=>(h.each i b ov h1 h2).ε hu (fun _ ht e=>h.sU ht dC (hz _ e))
theorem aR.Bn {Z:Nat→Prop} (h:aR w p v d V o) (hu:ζ Z w w') (hz:∀q,Z q→o.mut v q):au w' 46 2 o.mv (V.st.m.aW.map ct) :=
 h.eD.ε hu (fun _ ht e=>h.sU ht dC (hz _ e))
theorem bT.move {F:Nat→Prop} {w0 w w':World} {r:Nat} {aP:ByteArray} {cur μ n kb:Nat} {ay:List (Int × Nat)} {Z:Nat→Prop} (h:bT F w0 w r aP cur μ n kb ay) (hu:ζ Z w w') (hz:∀q,fo r kb ay q→¬Z q):bT (fo r kb ay) w' w' r aP cur μ n kb ay:=by
 refine⟨h.blk.ε hu (hz _ (.inl rfl)),h.map.ε hu (hz _ (.inr (.inl rfl))),fun e he=>(h.slots e he).ε hu (hz _ (.inr (.inr ⟨e,he,rfl⟩))),.inl (.inl rfl),.inl (.inr (.inl rfl)),fun e he=>.inl (.inr (.inr ⟨e,he,rfl⟩)),ζ.refl _ _⟩
theorem aR.still (h:aR w p v d V o) (hu:υ w w'):aR w' p v d V o :=
 ⟨h.bO.ε hu (fun _ _ e=>e),h.blk.ε hu (fun e=>e),h.kept.ε hu (fun e=>e),h.log.ε hu (fun e=>e),h.recs.ε hu (fun _ _ e=>e),h.sep,h.ring.move hu (fun _ _ e=>e),h.xp,h.map.still hu,h.qb,h.tX,h.rows.ε hu (fun _ _ e=>e),h.qD,fun i b ov h1 h2=>(h.each i b ov h1 h2).still hu,h.eD.still hu⟩
end
end
end Go.Proofs.YtbhjgfibhegddaaGreat
