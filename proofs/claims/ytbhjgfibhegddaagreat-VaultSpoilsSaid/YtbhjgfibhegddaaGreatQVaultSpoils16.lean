/-
  Parts of the proof of VaultSpoils: VatD, VatE, VatF, VatG, VatH, VatI, VatJ.
-/
import Derived.Test.YtbhjgfibhegddaaGreatQVaultSpoils15
import Derived.Shelf.Strings.BuilderK
set_option maxRecDepth 100000
set_option maxHeartbeats 16000000
namespace Go.Proofs.YtbhjgfibhegddaaGreat
section
open Go Go.RowKit
def mtsV (l:List MtM):List Value:=l.flatMap mtRow
theorem mtsV_snoc (l:List MtM) (p:MtM):mtsV (l++[p])=mtsV l++mtRow p:=by unfold mtsV;rw [List.flatMap_append];simp
theorem infoMount:(Tryz.prog.info? 46).map (fun i=>(i.zero,i.size,i.bytes))=some (some (.agg #[.string ByteArray.empty,.bool false]),2,24):=kR
def rowAt (n0 n1 n2 n3 n4 n5 n6:Nat) (k:Nat):Array Value:=#[.int .i64 (if 0<k then (n0:Int) else 0),.int .i64 (if 1<k then (n1:Int) else 0),.int .i64 (if 2<k then (n2:Int) else 0),.slice none 0 0,.string ⟨#[]⟩,.int .i64 (if 3<k then (n3:Int) else 0),.int .i64 (if 4<k then (n4:Int) else 0),.int .i64 (if 5<k then (n5:Int) else 0),.int .u64 0,.int .i64 (if 6<k then (n6:Int) else 0),.int .u32 0]
theorem mosts {F:Nat→Prop} {w0 W:World} {y:Nat} (m:Nat) {z:Int} (hz:z=(m:Int)) (n:Nat) (r:List UInt8) (k:Nat) (hn:n≤m) (hm:m≤9223372036854775807) (hk:k≤10000) (h:InQ F w0 W y ⟨putN n++r,k,0⟩):Calls Tryz.prog 176 #[.pointer (some ⟨y,0,none⟩),.int .i64 z] W fun e w'=>e=.returned (.int .i64 (n:Int))∧InQ F w0 w' y ⟨r,k+sizeN n,0⟩:=by
 subst hz;have:=most_q h m hm (by show k≤_;omega);rw [most_put n m k oM hn r] at this;exact this
theorem nums {F:Nat→Prop} {w0 W:World} {y:Nat} (n:Nat) (r:List UInt8) (k:Nat) (hn:n<18446744073709551616) (hk:k≤10000) (h:InQ F w0 W y ⟨putN n++r,k,0⟩):Calls Tryz.prog 175 #[.pointer (some ⟨y,0,none⟩)] W fun e w'=>e=.returned (.int .u64 (n:Int))∧InQ F w0 w' y ⟨r,k+sizeN n,0⟩:=by
 have:=inum_q h (by show k≤_;omega);rw [numI_put n k hn r] at this;exact this
theorem texts {F:Nat→Prop} {w0 W:World} {y:Nat} (m:Nat) {z:Int} (hz:z=(m:Int)) (t r:List UInt8) (k:Nat) (ht:t.length≤m) (hm:m≤9223372036854775807) (hk:k≤10000) (hl:t.length+r.length≤90000) (h:InQ F w0 W y ⟨textN t++r,k,0⟩):Calls Tryz.prog 177 #[.pointer (some ⟨y,0,none⟩),.int .i64 z] W fun e w'=>e=.returned (.string (str t))∧InQ F w0 w' y ⟨r,k+(textN t).length,0⟩:=by
 subst hz;have hsz:=size_u64 (n:=t.length) oM;have:=itext_q h m hm (by show k≤_;omega) (by show (textN t++r).length≤_;rw [List.length_append,textN_len];omega);rw [text_put t m k ht oM r] at this;exact this
theorem byts {F:Nat→Prop} {w0 W:World} {y:Nat} (b:UInt8) (r:List UInt8) (k:Nat) (hk:k≤10000) (h:InQ F w0 W y ⟨b::r,k,0⟩):Calls Tryz.prog 178 #[.pointer (some ⟨y,0,none⟩)] W fun e w'=>e=.returned (.int .u8 (b.toNat:Int))∧InQ F w0 w' y ⟨r,k+1,0⟩:=by
 have:=ibyte_q h (by show k≤_;omega);rw [byte_cons] at this;exact this
theorem built_ptrs (c:Nat):Tryz.prog.built 284 [(0,.pointer (some ⟨c,0,none⟩)),(1,.pointer (some ⟨c,1,none⟩)),(2,.pointer (some ⟨c,2,none⟩)),(3,.pointer (some ⟨c,5,none⟩)),(4,.pointer (some ⟨c,6,none⟩)),(5,.pointer (some ⟨c,7,none⟩)),(6,.pointer (some ⟨c,9,none⟩))]=some #[.pointer (some ⟨c,0,none⟩),.pointer (some ⟨c,1,none⟩),.pointer (some ⟨c,2,none⟩),.pointer (some ⟨c,5,none⟩),.pointer (some ⟨c,6,none⟩),.pointer (some ⟨c,7,none⟩),.pointer (some ⟨c,9,none⟩)]:=kR
theorem results_cell_slots2 {P:Program} {fn:Func} {p q q2:Tmp} {ty:TypeId} (h:fn.results=#[.cell p ty,.tmp q,.tmp q2]) (tmps:Array Value) (w:World) (g:Nat) (t:TypeId) (cs:Array Value) (fr:Nat × Nat) (d:TypeDesc)
 (hp:tmps.getD p undef=.pointer (some ⟨g,0,none⟩)) (hg:w.heap[g]? = some (.cells cs t fr))
 (hu:P.underlying ty=some d) (hd:(match d with | .struct _ | .array _ _=>true | _=>false)=true) (hi:(P.info? ty).map (·.size)=some cs.size) (v v2:Value) (hv:tmps.getD q undef=v) (hv2:tmps.getD q2 undef=v2) :
 (results fn tmps).run P w=.ok (.tuple #[.agg cs,v,v2]) w:=by
 subst hv hv2;have hp':tmps[p]?.getD undef=.pointer (some ⟨g,0,none⟩):=by simpa using hp
 simp [results,h,hp',asAddr,run_loadVar_row w g t ty cs fr d hg hu hd hi]
theorem zz2 {P:Prop} (h:P:=by
 generalize hw19:World.setCell _ _ _=w19;have hw17b:w13.heap.size≤w17.heap.size:=H17.out.2.2.1.upd.size;have hB19:=hc18.set_ 3 (.slice (some ⟨g2,0,none⟩) (k+1) cap2);rw [hw19] at hB19;have hU19:Upd (· = c) w18 w19:=by rw [← hw19];exact (Upd.refl (· = c) w18).setCell (p:=⟨c,3,none⟩) (.inl rfl) _
 have hg2:w13.heap.size≤g2:=by
  rcases hl18 with e | e
  ·exact HK.out.2.1 g2 (by rw [← e];rfl)
  ·have e2:some g2=some _:=e
   have:=Option.some.inj e2;rw [World.size_alloc] at this;omega
 have hO19:=hO18.upd hU19 (fun q hq e=>by have e2:some g2=some q:=hq;have:=Option.some.inj e2;have e3:q=c:=e;have:=HYC.out.2;omega);have hU1719:Upd (fun q=>(Value.slice A k cap).ownBlock=some q∨q=c) w17 w19:=(((Upd.refl _ w17).alloc _).then hU18 (fun q e=>.inl (.inl e))).then hU19 (fun q e=>.inl (.inr e));have hI19:InQ (fun q=>q=y∨q=c) w13 w19 y ⟨rest++textN t,r6+1,0⟩:=by
  refine H17.out.2.2.1.far hU1719 (fun e=>?_) (fun q e=>?_)
  ·rcases e with e | e
   ·have:=HK.out.2.1 y e;have:=HYC.out.1;omega
   ·exact H5.out.2.2.1.2 e.symm
  ·rcases e with e | e
   ·exact .inr (HK.out.2.1 q e)
   ·exact .inl (.inr e)
 have H19:=h4k hB19 hO19 hI19 hg2;clear hw19 hB19 hU19 hO19 hI19 hg2 hw17b hU1719 hO18 hU18 hl18 hs18 hc18 e2 fz2 d2 c0 c1 hi0 hz0 hz1 hz2;go_wp2_with fail
 go_roundw
 case rel =>
  refine ⟨k+1,r6+1,_,oM,?_,?_,?_,H19.out.1,?_,fun q hq=>by have e2:some g2=some q:=hq;have:=Option.some.inj e2;have:=H19.out.2.2.2;omega⟩
  ·have:=HN.out.1
   congr 1
   omega
  ·have:=H14.out.2.2.2
   omega
  ·rw [HN.out.2.2.2.1];exact H19.out.2.2.1
  ·rw [HN.out.2.2.2.2.1]
   have:=H19.out.2.1;rw [← HSS.out] at this;exact this
 case measure=>simp [intOf]<;>omega):P:=h
theorem vread_c {w:World} (s:StM) (hs:StOk s) (t:List UInt8) (ht:t.length≤200) (txt:ByteArray) (htx:txt.data.toList=stB s t) :
 Calls Tryz.prog 121 #[.string txt] w fun e w'=>∃mv,e=.returned (.tuple #[.agg (stRow { s with m := { s.m with secret:=[] } } mv),.string (str t),.bool true])∧Own w' 46 2 mv s.m.mounts.length (mtsV s.m.mounts)∧(∀q,mv.ownBlock=some q→w.heap.size≤q)∧Upd (fun _=>False) w w':=by
 have hm:=rightM_ok hs.right;have hp:=hs.place;obtain ⟨n0,hn0⟩:∃n:Nat,s.m.role=n:=⟨s.m.role.toNat,by have:=hm.role0;omega⟩;obtain ⟨n1,hn1⟩:∃n:Nat,s.m.seen=n:=⟨s.m.seen.toNat,by have:=hm.seen;omega⟩;obtain ⟨n2,hn2⟩:∃n:Nat,s.m.grant=n:=⟨s.m.grant.toNat,by have:=hm.grant;omega⟩;obtain ⟨n3,hn3⟩:∃n:Nat,s.at_=n:=⟨s.at_.toNat,by have:=hp.at0;omega⟩;obtain ⟨n4,hn4⟩:∃n:Nat,s.epoch=n:=⟨s.epoch.toNat,by have:=hp.ep0;omega⟩;have b0:n0≤3:=by have:=hm.role3;omega
 have b1:n1≤9223372036854775807:=by have:=hs.mn.1;omega
 have b2:n2≤9223372036854775807:=by have:=hs.mn.2;omega
 have b3:n3≤9223372036854775807:=by have:=hp.at1;omega
 have b4:n4≤9223372036854775807:=by have:=hp.ep1;omega
 have b5:=hs.slot;have b6:=hs.key;have b7:=hs.log;have b8:=hs.boot;have hsplit:=stB_split s t;have hnums:stNums s=[n0,n1,n2,n3,n4,s.slot,s.key]:=by unfold stNums;rw [hn0,hn1,hn2,hn3,hn4];rfl
 rw [hnums] at hsplit;have hmt:=hm.mts;have hme:=hm.each;have hrow:∀A n cap,stRow { s with m := { s.m with secret:=[] } } (.slice A n cap)=#[.int .i64 (n0:Int),.int .i64 (n1:Int),.int .i64 (n2:Int),.slice A n cap,.string ⟨#[]⟩,.int .i64 (n3:Int),.int .i64 (n4:Int),.int .i64 (s.slot:Int),.int .u64 (s.log:Int),.int .i64 (s.key:Int),.int .u32 (s.boot:Int)]:=by
  intro A n cap;unfold stRow;simp only [hn0,hn1,hn2,hn3,hn4];rfl
 obtain ⟨n5,hn5⟩:∃n,s.slot=n:=⟨_,rfl⟩;obtain ⟨n6,hn6⟩:∃n,s.key=n:=⟨_,rfl⟩;obtain ⟨n7,hn7⟩:∃n,s.log=n:=⟨_,rfl⟩;obtain ⟨n8,hn8⟩:∃n,s.boot=n:=⟨_,rfl⟩;obtain ⟨L,hL⟩:=eqx s.m.mounts;rw [hn5] at b5 hsplit;rw [hn6] at b6 hsplit;rw [hn7] at b7 hsplit;rw [hn8] at b8 hsplit;rw [hL] at hmt hme hsplit ⊢;have hrow2:∀A n cap,stRow { s with m := { s.m with secret:=[] } } (.slice A n cap)=#[.int .i64 (n0:Int),.int .i64 (n1:Int),.int .i64 (n2:Int),.slice A n cap,.string ⟨#[]⟩,.int .i64 (n3:Int),.int .i64 (n4:Int),.int .i64 (n5:Int),.int .u64 (n7:Int),.int .i64 (n6:Int),.int .u32 (n8:Int)]:=fun A n cap=>by rw [hrow A n cap,hn5,hn6,hn7,hn8]
 obtain ⟨TL,hTL⟩:=eqx (putN n7++(putN n8++(putN L.length++(L.flatMap mtB++textN t))));have hsp:txt.data.toList=putN 1++(([n0,n1,n2,n3,n4,n5,n6]:List Nat).flatMap putN++TL):=by
  rw [htx,hsplit,← hTL];simp only [List.append_assoc]
 have hbl:Hid (∀k,((L.drop k).flatMap mtB).length≤44):=Lib.hid fun k=>by
  have:=mtsB_len (l:=L.drop k) (fun x hx=>(hme x (List.mem_of_mem_drop hx)).2);rw [List.length_drop] at this;have h2:11*(L.length - k)≤11*4:=Nat.mul_le_mul_left _ oM;omega
 have HROW:=Lib.hid hrow2;have HTL:=Lib.hid hTL;have HM:=Lib.hid hme;have hof:=fun W=>of_q txt W
 rw [hsp] at hof;have HOF:=Lib.hid hof;clear hm hp hs hn0 hn1 hn2 hn3 hn4 hnums hrow hrow2 hn5 hn6 hn7 hn8 hL hsplit hme htx hTL hsp hof;obtain ⟨g,hg⟩:=eqx w.heap.size;have HG:=Lib.hid hg;go_enter Tryz.func121,Tryz.ntmps121
 go_upto_region 1 with fail
 generalize hw2:World.alloc _ _=w2;have hr2:Blk w2 g 115 (rowAt n0 n1 n2 n3 n4 n5 n6 0):=by rw [← hw2,← hg];exact Blk.new w _ _
 have hU2:Upd (fun _=>False) w w2:=by rw [← hw2];exact (Upd.refl _ w).alloc _
 have HW2:=h2k hr2 hU2;clear hr2 hU2 hw2 hg;go_wp2_with fail
 refine (HOF.out _).mono ?_;rintro e w3 ⟨y,rfl,h3⟩;have H3:=Lib.hid h3;clear h3;go_wp2_with fail
 refine (nums 1 _ 0 oM oM H3.out).mono ?_;rintro e w4 ⟨rfl,h4⟩;have hz1:(0:Nat)+sizeN 1≤10:=by have:=size_u64 (n:=1) oM;omega
 obtain ⟨r0,hr0⟩:∃r,0+sizeN 1=r:=⟨_,rfl⟩;rw [hr0] at h4 hz1;have H4:=Lib.hid h4;clear h4 hr0;obtain ⟨c,hc⟩:=eqx w4.heap.size;go_upto_region 4 with fail
 generalize hw5:World.alloc _ _=w5;have hB5:Blk w5 c 115 (rowAt n0 n1 n2 n3 n4 n5 n6 0):=by rw [← hw5,← hc];exact Blk.new w4 _ _
 have h5:InQ (fun _=>False) w2 w5 y ⟨([n0,n1,n2,n3,n4,n5,n6]:List Nat).flatMap putN++TL,r0,0⟩:=by rw [← hw5];exact H4.out.still ((Upd.refl _ w4).alloc _)
 have hcy:w2.heap.size≤c∧c≠y:=⟨by rw [← hc];exact H4.out.upd.size,by have:=H4.out.blk.lt;omega⟩;have H5:=h5k hB5 h5 hcy h5.blk.lt hB5.lt;clear hB5 h5 hcy hw5 hc;go_wp2_with (first
  | (refine wpList_build_is rfl _ _ rfl [(0,.pointer (some ⟨c,0,none⟩)),(1,.pointer (some ⟨c,1,none⟩)),(2,.pointer (some ⟨c,2,none⟩)),(3,.pointer (some ⟨c,5,none⟩)),(4,.pointer (some ⟨c,6,none⟩)),(5,.pointer (some ⟨c,7,none⟩)),(6,.pointer (some ⟨c,9,none⟩))] _ (by first | rfl | kernel_rfl) (built_ptrs c) ?_))
 go_loopw [9,28] (fun _ u wr=>∃k r:Nat,k≤7∧u=.int .i64 (k:Int)∧r≤10+10*k∧InQ (fun q=>q=y∨q=c) w5 wr y ⟨(([n0,n1,n2,n3,n4,n5,n6]:List Nat).drop k).flatMap putN++TL,r,0⟩∧Blk wr c 115 (rowAt n0 n1 n2 n3 n4 n5 n6 k)) (fun _ u _=>7 - (intOf u).toNat)
 case atStart=>exact ⟨0,r0,oM,rfl,oM,⟨H5.out.2.1.blk,.inl (.inl rfl),Upd.refl _ _⟩,H5.out.1⟩
 case round =>
  obtain ⟨k,r,hk,rfl,hr,hI,hB⟩:=hrel;have hk7:k<7∨k=7:=oM;rcases hk7 with h7 | rfl
  ·obtain ⟨nk,j,hnx,hnk,hix,hj0,hj1⟩:∃nk j,(([n0,n1,n2,n3,n4,n5,n6]:List Nat).drop k).flatMap putN++TL=putN nk++((([n0,n1,n2,n3,n4,n5,n6]:List Nat).drop (k+1)).flatMap putN++TL)∧nk≤9223372036854775807∧(∀W,(Instr.index 284 (.agg #[.pointer (some ⟨c,0,none⟩),.pointer (some ⟨c,1,none⟩),.pointer (some ⟨c,2,none⟩),.pointer (some ⟨c,5,none⟩),.pointer (some ⟨c,6,none⟩),.pointer (some ⟨c,7,none⟩),.pointer (some ⟨c,9,none⟩)]) (.int .i64 (k:Int))).run Tryz.prog W=.ok (.pointer (some ⟨c,j,none⟩)) W)∧(rowAt n0 n1 n2 n3 n4 n5 n6 k)[j]? = some (.int .i64 0)∧(rowAt n0 n1 n2 n3 n4 n5 n6 k).setIfInBounds j (.int .i64 (nk:Int))=rowAt n0 n1 n2 n3 n4 n5 n6 (k+1):=by
    refine ⟨[n0,n1,n2,n3,n4,n5,n6].getD k 0,[0,1,2,5,6,7,9].getD k 0,?_⟩;rcases (show k=0∨k=1∨k=2∨k=3∨k=4∨k=5∨k=6 by omega) with rfl | rfl | rfl | rfl | rfl | rfl | rfl
    all_goals exact ⟨by simp [List.append_assoc],by simp<;>omega,fun W=>by first | rfl | kernel_rfl,rfl,rfl⟩
   rw [hnx] at hI;have hz:=size_u64 (n:=nk) oM;have HI:=h6k hI hB hr hz hj0 hj1;have j1:(k:Int)<7:=oM;clear hI hB hr hz hk hnx hj0 hj1;go_wp2_with fail
   refine (mosts 9223372036854775807 rfl nk _ r oM oM (oN HI.out.2.2.1) HI.out.1.here).mono ?_;rintro e w9 ⟨rfl,h9⟩;have hB9:=HI.out.2.1.upd h9.upd H5.out.2.2.1.2;have H9:=h2k (HI.out.1.back h9) hB9;have cw:w9.cell? ⟨c,j,none⟩=some (.int .i64 0):=(hB9.cell j).trans HI.out.2.2.2.2.1;have fw:=hB9.frozen j;clear h9 hB9;go_wp2_with fail
   have hB10:=H9.out.2.set_ j (.int .i64 (nk:Int));rw [HI.out.2.2.2.2.2] at hB10;have hI10:=H9.out.1.far ((Upd.refl (· = c) w9).setCell (p:=⟨c,j,none⟩) (.inl rfl) (.int .i64 (nk:Int))) (fun e=>H5.out.2.2.1.2 e.symm) (fun q e=>.inl (.inr e));have H10:=h2k hB10 hI10;clear hB10 hI10 cw fw;go_roundw
   case rel =>
    refine ⟨k+1,_,oM,by go_num,?_,H10.out.2,H10.out.1⟩;have:=HI.out.2.2;omega
   case measure=>simp [intOf]<;>omega
  ·have hfull:(([n0,n1,n2,n3,n4,n5,n6]:List Nat).drop 7).flatMap putN++TL=TL:=rfl
   rw [hfull] at hI;have hB':Blk wr c 115 #[.int .i64 (n0:Int),.int .i64 (n1:Int),.int .i64 (n2:Int),.slice none 0 0,.string ⟨#[]⟩,.int .i64 (n3:Int),.int .i64 (n4:Int),.int .i64 (n5:Int),.int .u64 0,.int .i64 (n6:Int),.int .u32 0]:=hB;rw [← HTL.out] at hI;have z7:=size_u64 (n:=n7) oM;have z8:=size_u64 (n:=n8) oM;have zL:=size_u64 (n:=L.length) oM;have HI:=h3k hI hB' hr;have HZ:=h3k z7 z8 zL;clear hI hB hB' hr z7 z8 zL hk hfull;rw [show ((7:Nat):Int)=7 from rfl];go_wp2_with fail
   refine (nums n7 _ r oM (oN HI.out.2.2) HI.out.1.here).mono ?_;rintro e w9 ⟨rfl,h9⟩;have hB9:=HI.out.2.1.upd h9.upd H5.out.2.2.1.2;have H9:=h2k (HI.out.1.back h9) hB9;have cw:w9.cell? ⟨c,8,none⟩=some (.int .u64 0):=hB9.cell 8;have fw:=hB9.frozen 8;clear h9 hB9;have far:∀(W:World) (j:Nat) (v:Value) (i:InS),InQ (fun q=>q=y∨q=c) w5 W y i→InQ (fun q=>q=y∨q=c) w5 (W.setCell ⟨c,j,none⟩ v) y i:=fun W j v i h=>h.far ((Upd.refl (· = c) W).setCell (p:=⟨c,j,none⟩) (.inl rfl) v) (fun e=>H5.out.2.2.1.2 e.symm) (fun q e=>.inl (.inr e))
   have FAR:=Lib.hid far;clear far;go_upto_region 10 with fail
   have H10:=h2k (FAR.out _ 8 (.int .u64 (n7:Int)) _ H9.out.1) (H9.out.2.set_ 8 (.int .u64 (n7:Int)));clear cw fw;generalize hw10:World.setCell w9 _ _=w10 at H10 ⊢;clear hw10;go_wp2_with fail
   refine (mosts 4294967295 rfl n8 _ _ oM oM (oO HI.out.2.2 HZ.out) H10.out.1.here).mono ?_;rintro e w11 ⟨rfl,h11⟩;have hB11:Blk w11 c 115 #[.int .i64 (n0:Int),.int .i64 (n1:Int),.int .i64 (n2:Int),.slice none 0 0,.string ⟨#[]⟩,.int .i64 (n3:Int),.int .i64 (n4:Int),.int .i64 (n5:Int),.int .u64 (n7:Int),.int .i64 (n6:Int),.int .u32 0]:=H10.out.2.upd h11.upd H5.out.2.2.1.2;have H11:=h2k (H10.out.1.back h11) hB11;have cw:w11.cell? ⟨c,10,none⟩=some (.int .u32 0):=hB11.cell 10;have fw:=hB11.frozen 10;have eB:IntKind.u32.wrap (n8:Int)=(n8:Int):=by simp only [IntKind.wrap,IntKind.bits,IntKind.signed];simp;omega
   clear h11 hB11;go_upto_region 11 with fail
   have H12:=h2k (FAR.out _ 10 (.int .u32 (n8:Int)) _ H11.out.1) (H11.out.2.set_ 10 (.int .u32 (n8:Int)));clear cw fw eB;generalize hw12:World.setCell w11 _ _=w12 at H12 ⊢;clear hw12;go_wp2_with fail
   refine (mosts 4 rfl L.length _ _ oM oM (oO HI.out.2.2 HZ.out) H12.out.1.here).mono ?_;rintro e w13 ⟨rfl,h13⟩;obtain ⟨r3,hr3⟩:=eqx (r+sizeN n7+sizeN n8+sizeN L.length);rw [hr3] at h13;have hr3b:r3≤120:=by have:=HI.out.2.2;have:=HZ.out;omega
   have hB13:Blk w13 c 115 #[.int .i64 (n0:Int),.int .i64 (n1:Int),.int .i64 (n2:Int),.slice none 0 0,.string ⟨#[]⟩,.int .i64 (n3:Int),.int .i64 (n4:Int),.int .i64 (n5:Int),.int .u64 (n7:Int),.int .i64 (n6:Int),.int .u32 (n8:Int)]:=H12.out.2.upd h13.upd H5.out.2.2.1.2;have H13:=h3k (H12.out.1.back h13) hB13 hr3b;clear h13 hB13 hr3b hr3;have hsz5:w5.heap.size≤w13.heap.size:=H13.out.1.upd.size;have HSZ:=Lib.hid hsz5;clear hsz5;go_wp2_with fail
   go_loopw [10,11] (fun n _ wr=>∃(k r:Nat) (v:Value),k≤L.length∧n=.int .i64 ((L.length - k:Nat):Int)∧r≤120+20*k∧InQ (fun q=>q=y∨q=c) w13 wr y ⟨(L.drop k).flatMap mtB++textN t,r,0⟩∧Blk wr c 115 #[.int .i64 (n0:Int),.int .i64 (n1:Int),.int .i64 (n2:Int),v,.string ⟨#[]⟩,.int .i64 (n3:Int),.int .i64 (n4:Int),.int .i64 (n5:Int),.int .u64 (n7:Int),.int .i64 (n6:Int),.int .u32 (n8:Int)]∧Own wr 46 2 v k (mtsV (L.take k))∧(∀q,v.ownBlock=some q→w13.heap.size≤q)) (fun n _ _=>(intOf n).toNat)
   case atStart=>exact ⟨0,r3,.slice none 0 0,oM,sM,by have:=H13.out.2.2;omega,⟨H13.out.1.blk,.inl (.inl rfl),Upd.refl _ _⟩,H13.out.2.1,Own.nil _ _ _,by simp [Value.ownBlock]⟩
   case round =>
    obtain ⟨k,r5,v,hk,rfl,hr,hI,hB,hO,hv⟩:=hrel;by_cases hlt:k<L.length
    ·have hoe:=HM.out _ (List.getElem_mem hlt)
     have htk:mtsV (L.take (k+1))=mtsV (L.take k)++mtRow L[k]:=by rw [List.take_succ_eq_append_getElem hlt,mtsV_snoc]
     have hdl:=hbl.out (k+1);rw [List.drop_eq_getElem_cons hlt,List.flatMap_cons] at hI;obtain ⟨rest,hrest⟩:∃r,(L.drop (k+1)).flatMap mtB=r:=⟨_,rfl⟩;rw [hrest] at hI hdl;obtain ⟨p,hp⟩:=eqx (L[k]);rw [hp] at hoe htk hI;obtain ⟨P,sh⟩:=p;simp only at hoe
     have hI2:InQ (fun q=>q=y∨q=c) w13 wr y ⟨textN P++((if sh then (1:UInt8) else 0)::(rest++textN t)),r5,0⟩:=by
      have e:mtB ⟨P,sh⟩++rest++textN t=textN P++((if sh then (1:UInt8) else 0)::(rest++textN t)):=by unfold mtB;simp [List.append_assoc]
      rw [e] at hI;exact hI
     have hsP:=sizeN_small (n:=P.length) oM;have hst:=sizeN_small (n:=t.length) oM;have htt:(textN t).length≤210:=by rw [textN_len];omega
     obtain ⟨n,hn⟩:∃n:Nat,L.length - k=n:=⟨_,rfl⟩;have j1:(0:Int)<(n:Int):=oM;have nle:(n:Int)≤4:=oM;have HN:=h8k hn hr hdl hrest htk htt hoe hsP;have HK:=h3k hO hv hB;have HI2:=Lib.hid hI2;clear hI hI2 hB hO hv hrest hdl htk htt hoe hp hr hsP hst;rw [hn];clear hn;go_wp2_with fail
     refine (texts 8 rfl P _ r5 HN.out.2.2.2.2.2.2.1.2 oM (oN HN.out.2.1) (by have:=HN.out.2.2.1;have:=HN.out.2.2.2.2.2.1;have:=HN.out.2.2.2.2.2.2.1;simp only [List.length_cons,List.length_append];omega) HI2.out.here).mono ?_;rintro e w14 ⟨rfl,h14⟩;have U14:=h14.upd;have hyl:y<w13.heap.size:=H13.out.1.blk.lt;have hcl:c<w13.heap.size:=H13.out.2.1.lt;have HYC:=h2k hyl hcl;obtain ⟨r6,hr6⟩:=eqx (r5+(textN P).length);rw [hr6] at h14;have hr6b:r6≤130+20*k:=by rw [← hr6,textN_len];have:=HN.out.2.1;have:=HN.out.2.2.2.2.2.2;omega
     have H14:=h4k (HK.out.1.upd U14 (fun q hq e=>by have:=HK.out.2.1 q hq;have e2:q=y:=e;omega)) (HK.out.2.2.upd U14 H5.out.2.2.1.2) (HI2.out.back h14) hr6b;clear h14 U14 hr6 hr6b hyl hcl;obtain ⟨S,hS⟩:=eqx (str P);rw [hS];have HSS:=Lib.hid hS;clear hS;obtain ⟨d,hd⟩:=eqx w14.heap.size;go_upto_region 15 with fail
     generalize hw15:World.alloc _ _=w15;have hB15:Blk w15 d 46 #[.string S,.bool false]:=by rw [← hw15,← hd];exact Blk.new w14 _ _
     have U15:Upd (fun _=>False) w14 w15:=by rw [← hw15];exact (Upd.refl _ w14).alloc _
     have hdb:w13.heap.size≤d:=by rw [← hd];exact H14.out.2.2.1.upd.size
     have hvd:∀q,v.ownBlock=some q→q<d:=fun q hq=>by rw [← hd];exact H14.out.1.lt hq
     have H15:=h4k (H14.out.1.upd U15 (fun _ _ e=>e)) (H14.out.2.1.upd U15 (fun e=>e)) (H14.out.2.2.1.still U15) hB15;have HDB:=h2k hdb hvd;clear hw15 hB15 U15 hd hdb hvd;go_wp2_with fail
     refine (byts _ _ r6 (oN H14.out.2.2.2) H15.out.2.2.1.here).mono ?_;rintro e w16 ⟨rfl,h16⟩;have hdy:d≠y:=by have:=HDB.out.1;have:=HYC.out.1;omega
     have hdc:d≠c:=by have:=HDB.out.1;have:=HYC.out.2;omega
     have HDN:=h2k hdy hdc;have H16:=h4k (H15.out.1.upd h16.upd (fun q hq e=>by have:=HK.out.2.1 q hq;have:=HYC.out.1;have e2:q=y:=e;omega)) (H15.out.2.1.upd h16.upd H5.out.2.2.1.2) (H15.out.2.2.1.back h16) (H15.out.2.2.2.upd h16.upd hdy);have hd16:=H16.out.2.2.2;have c0:w16.cell? ⟨d,0,none⟩=some (.string S):=hd16.cell 0;have c1:w16.cell? ⟨d,1,none⟩=some (.bool false):=hd16.cell 1;have fz:=hd16.frozen 1;have HD16:=Lib.hid hd16;clear h16 hdy hdc hd16;cases sh
     ·go_upto_region 16 with fail
      have hd17:=HD16.out.set_ 1 (.bool false);have U17:Upd (· = d) w16 (w16.setCell ⟨d,1,none⟩ (.bool false)):=(Upd.refl (· = d) w16).setCell (p:=⟨d,1,none⟩) (.inl rfl) _;generalize hw17:World.setCell w16 _ _=w17 at hd17 U17 ⊢;have hd17':Blk w17 d 46 #[.string S,.bool false]:=hd17;have H17:=h4k (H16.out.1.upd U17 (fun q hq e=>by have:=HDB.out.2 q hq;have e2:q=d:=e;omega)) (H16.out.2.1.upd U17 (fun e=>HDN.out.2 e.symm)) (H16.out.2.2.1.far U17 (fun e=>HDN.out.1 e.symm) (fun q e=>.inr (by have e2:q=d:=e;have:=HDB.out.1;omega))) hd17';clear hw17 hd17 U17 hd17' c0 c1 fz;obtain ⟨A,cap,rfl,-,-⟩:=H17.out.1.shape;have d2:w17.cell? ⟨c,3,none⟩=some (.slice A k cap):=H17.out.2.1.cell 3;obtain ⟨c0,c1⟩:=H17.out.2.2.2.cells2;obtain ⟨ti,hi0,hz0,hz1,hz2⟩:=info_parts infoMount;have hkl:k≤4:=oM;go_wp2_with (first
       | (at_builtin;refine wpList_append_src rfl _ _ _ _ rfl 46 ti _ 2 24 Tryz.underlying47 hi0 hz0 hz1 hz2 rfl (.slice A k cap) k _ rfl (H17.out.1.alloc _) _ 1 [_,_] rfl (Src.of_news Tryz.underlying47 _ rfl) (by simp [Value.oneCell']) (by unfold maxLen;omega) oM ?_;intro v2 w18 hO18 hU18 hl18 hs18
          have hc18:=Blk.upd (H17.out.2.1.alloc (.cells #[.string S,.bool false] 46)) hU18 (fun hq=>by have:=HK.out.2.1 c hq;have:=HYC.out.2;omega);obtain ⟨g2,cap2,rfl,-,-⟩:=hO18.head oM;have e2:w18.cell? ⟨c,3,none⟩=some (.slice A k cap):=hc18.cell 3;have fz2:=hc18.frozen 3))
      exact zz2
     ·go_upto_region 16 with fail
      have hd17:=HD16.out.set_ 1 (.bool true);have U17:Upd (· = d) w16 (w16.setCell ⟨d,1,none⟩ (.bool true)):=(Upd.refl (· = d) w16).setCell (p:=⟨d,1,none⟩) (.inl rfl) _;generalize hw17:World.setCell w16 _ _=w17 at hd17 U17 ⊢;have hd17':Blk w17 d 46 #[.string S,.bool true]:=hd17;have H17:=h4k (H16.out.1.upd U17 (fun q hq e=>by have:=HDB.out.2 q hq;have e2:q=d:=e;omega)) (H16.out.2.1.upd U17 (fun e=>HDN.out.2 e.symm)) (H16.out.2.2.1.far U17 (fun e=>HDN.out.1 e.symm) (fun q e=>.inr (by have e2:q=d:=e;have:=HDB.out.1;omega))) hd17';clear hw17 hd17 U17 hd17' c0 c1 fz;obtain ⟨A,cap,rfl,-,-⟩:=H17.out.1.shape;have d2:w17.cell? ⟨c,3,none⟩=some (.slice A k cap):=H17.out.2.1.cell 3;obtain ⟨c0,c1⟩:=H17.out.2.2.2.cells2;obtain ⟨ti,hi0,hz0,hz1,hz2⟩:=info_parts infoMount;have hkl:k≤4:=oM;go_wp2_with (first
       | (at_builtin;refine wpList_append_src rfl _ _ _ _ rfl 46 ti _ 2 24 Tryz.underlying47 hi0 hz0 hz1 hz2 rfl (.slice A k cap) k _ rfl (H17.out.1.alloc _) _ 1 [_,_] rfl (Src.of_news Tryz.underlying47 _ rfl) (by simp [Value.oneCell']) (by unfold maxLen;omega) oM ?_;intro v2 w18 hO18 hU18 hl18 hs18
          have hc18:=Blk.upd (H17.out.2.1.alloc (.cells #[.string S,.bool true] 46)) hU18 (fun hq=>by have:=HK.out.2.1 c hq;have:=HYC.out.2;omega);obtain ⟨g2,cap2,rfl,-,-⟩:=hO18.head oM;have e2:w18.cell? ⟨c,3,none⟩=some (.slice A k cap):=hc18.cell 3;have fz2:=hc18.frozen 3))
      exact zz2
    ·obtain rfl:k=L.length:=oM
     have hz:L.length - L.length=0:=oM;rw [hz];have hdr:(L.drop L.length).flatMap mtB++textN t=textN t++[]:=by rw [List.drop_of_length_le (Nat.le_refl _)];simp
     rw [hdr] at hI;rw [List.take_of_length_le (Nat.le_refl _)] at hO;obtain ⟨A,cap,rfl,-,-⟩:=hO.shape;have hgw2:=HW2.out.1.lt;have hgc:g≠c:=by have:=H5.out.2.2.1.1;omega
     have hgy:g≠y:=by
      rcases H5.out.2.1.new with e | e
      ·exact e.elim
      ·omega
     have hU5r:Upd (fun q=>q=y∨q=c) w5 wr:=H13.out.1.upd.then hI.upd (fun _ e=>.inl e);have hU2r:Upd (fun q=>q=y∨q=c) w2 wr:=(H5.out.2.1.upd.mono (G:=fun q=>q=y∨q=c) wz0).then hU5r (fun _ e=>.inl e);have hgr:=HW2.out.1.upd hU2r (fun e=>e.elim hgy hgc);have hUwr:Upd (fun _=>False) w wr:=HW2.out.2.then hU2r (fun q e=>.inr (by
      have hw2:=HW2.out.2.size;rcases e with e | e
      ·rw [e]
       rcases H5.out.2.1.new with e2 | e2
       ·exact e2.elim
       ·omega
      ·rw [e];have:=H5.out.2.2.1.1;omega))
     have hstt:=sizeN_small (n:=t.length) oM;have HL:=h7k hgr hUwr hgc hgy hB hO hv;have HI:=h2k hI hr;clear hgr hUwr hgc hgy hB hO hv hI hr hz hdr hgw2 hU5r hU2r hlt hk;go_wp2_with fail
     refine (texts 300 rfl t [] r5 oM oM (oN HI.out.2) (by simp;omega) HI.out.1.here).mono ?_;rintro e wq ⟨rfl,hq⟩;have hgq:=HL.out.1.upd hq.upd HL.out.2.2.2.1;have hcq:=HL.out.2.2.2.2.1.upd hq.upd H5.out.2.2.1.2;have hoq:=HL.out.2.2.2.2.2.1.upd hq.upd (fun q hqq e=>by have:=HL.out.2.2.2.2.2.2 q hqq;have:=H13.out.1.blk.lt;have e2:q=y:=e;omega);have hUq:Upd (fun _=>False) w wq:=HL.out.2.1.then hq.upd (fun q e=>.inr (by
      have e2:q=y:=e;rw [e2];rcases H3.out.new with e3 | e3
      ·exact e3.elim
      ·have:=HW2.out.2.size;omega))
     have HQ:=h5k hgq hcq hoq hUq hq;obtain ⟨ST,hST⟩:∃S,str t=S:=⟨_,rfl⟩;rw [hST];have HSTQ:=Lib.hid hST;clear hgq hcq hoq hUq hq hST;go_upto_region 18 with fail
     refine wp_region_noPanic ?_;refine wp_region_T (S:=fun w'=>Upd (fun q=>q=g) wq w') (T:=fun _=>false) kR ?_;have hS0:=(Upd.refl (fun q=>q=g) wq).drew;have HCQ:=Lib.hid (fun (w':World) (h:Upd (fun q=>q=g) wq w')=>HQ.out.2.1.upd h (fun e=>HL.out.2.2.1 e.symm));refine tT8 0 (.agg #[.int .i64 (n0:Int),.int .i64 (n1:Int),.int .i64 (n2:Int),.slice A L.length cap,.string ⟨#[]⟩,.int .i64 (n3:Int),.int .i64 (n4:Int),.int .i64 (n5:Int),.int .u64 (n7:Int),.int .i64 (n6:Int),.int .u32 (n8:Int)]) (takes_load_all rfl (by rfl) _ _ rfl c (by rfl) _ _ _ (fun w' hSw=>HCQ.out w' hSw) Tryz.underlying115 rfl kR) ?_;refine tK8 1 ?_;refine tK8 2 ?_;refine wo1 3 (fun KK hKK=>?_);go_simp
     refine (end_q (HQ.out.2.2.2.2.still (Upd.refl _ _).drew)).mono ?_;rintro e w21 ⟨rfl,hU21⟩;have hS21:Upd (fun q=>q=g) wq w21:=hS0.then hU21 wz0;refine hKK.out _ _ hS21 ?_;have hg21:=HQ.out.1.drew.upd hU21 (fun e=>e);have hb5:(n5:Int)≤2:=oM;clear hKK hU21;refine tQ8 4 (fun w' hSw=>show w'.cell? ⟨c,7,none⟩=some (.int .i64 (n5:Int)) from (HCQ.out _ hSw).cell 7) ?_;refine tQ8 5 (fun w' hSw=>show w'.cell? ⟨c,7,none⟩=some (.int .i64 (n5:Int)) from (HCQ.out _ hSw).cell 7) ?_;refine tQ8 6 (fun w' hSw=>show w'.cell? ⟨c,7,none⟩=some (.int .i64 (n5:Int)) from (HCQ.out _ hSw).cell 7) ?_;refine tQ8 7 (fun w' hSw=>show w'.cell? ⟨c,7,none⟩=some (.int .i64 (n5:Int)) from (HCQ.out _ hSw).cell 7) ?_;refine tQ8 8 (fun w' hSw=>show w'.cell? ⟨c,7,none⟩=some (.int .i64 (n5:Int)) from (HCQ.out _ hSw).cell 7) ?_;refine tQ8 9 (fun w' hSw=>show w'.cell? ⟨c,7,none⟩=some (.int .i64 (n5:Int)) from (HCQ.out _ hSw).cell 7) ?_;refine tQ8 10 (fun w' hSw=>show w'.cell? ⟨c,7,none⟩=some (.int .i64 (n5:Int)) from (HCQ.out _ hSw).cell 7) ?_;refine tQ8 11 (fun w' hSw=>show w'.cell? ⟨c,7,none⟩=some (.int .i64 (n5:Int)) from (HCQ.out _ hSw).cell 7) ?_
     refine tQ8 12 (fun w' hSw=>show w'.cell? ⟨c,7,none⟩=some (.int .i64 (n5:Int)) from (HCQ.out _ hSw).cell 7) ?_;refine tQ8 13 (fun w' hSw=>show w'.cell? ⟨c,7,none⟩=some (.int .i64 (n5:Int)) from (HCQ.out _ hSw).cell 7) ?_;refine wo1 14 (fun KK hKK=>?_);refine step_store_all rfl 115 _ _ rfl g #[.int .i64 (n0:Int),.int .i64 (n1:Int),.int .i64 (n2:Int),.slice A L.length cap,.string ⟨#[]⟩,.int .i64 (n3:Int),.int .i64 (n4:Int),.int .i64 (n5:Int),.int .u64 (n7:Int),.int .i64 (n6:Int),.int .u32 (n8:Int)] rfl rfl _ _ hg21 rfl (by simp [Value.oneCell']) kR ?_;intro ws hBs hUs hzs;have hSs:Upd (fun q=>q=g) wq ws:=hS21.then hUs (fun _ e=>.inl e);refine hKK.out _ _ hSs ?_;clear hKK;refine tK8 15 ?_;refine tK8 16 ?_;refine wdn ?_;refine NoPanic.normal ?_;have HZ:=h3k hBs hSs (HQ.out.2.2.1.upd hSs (fun q hqq e=>by have:=HL.out.2.2.2.2.2.2 q hqq;have:=H13.out.1.blk.lt;have:=HW2.out.1.lt;have h5z:=H5.out.2.1.upd.size;have e2:q=g:=e;have:=HSZ.out;omega));clear hBs hUs hzs hSs hS21 hS0 hg21;go_wp2_with fail
     refine bodyPost_ret (results_cell_slots2 rfl _ _ g _ _ _ _ rfl HZ.out.1 Tryz.underlying115 rfl kR (.string ST) (.bool true) rfl sM) rfl ⟨.slice A L.length cap,?_,HZ.out.2.2,fun q hqq=>?_,?_⟩
     ·rw [HROW.out,HSTQ.out]
     ·have:=HL.out.2.2.2.2.2.2 q hqq
      have h1:=HW2.out.2.size;have h2:=H5.out.2.1.upd.size;have h3:=HSZ.out;omega
     ·exact HQ.out.2.2.2.1.then HZ.out.2.1 (fun q e=>.inr (by have e2:q=g:=e;have:=HG.out;omega))
theorem pairsB_drop_len {l:List PairM} (h:∀p ∈ l,p.1.length≤33∧p.2.length≤32) (hl:l.length≤48) (k:Nat):((l.drop k).flatMap pairB).length≤3400:=by
 have:=pairs_len (l:=l.drop k) (a:=33) (b:=32) oM oM (fun p hp=>h p (List.mem_of_mem_drop hp));rw [List.length_drop] at this;have h2:(33+32+4)*(l.length - k)≤69*48:=Nat.mul_le_mul_left _ oM;omega
theorem tpairs_c {w:World} (l:List PairM) (hs:∀p ∈ l,p.1.length≤33∧p.2.length≤32) (hl:l.length≤48) (txt:ByteArray) (htx:txt.data.toList=pairsB l) :
 Calls Tryz.prog 183 #[.string txt] w fun e w'=>∃v,e=.returned (.tuple #[v,.int .i64 0])∧Own w' 55 2 v l.length (pairsV l)∧(∀q,v.ownBlock=some q→w.heap.size≤q)∧Upd (fun _=>False) w w':=by
 have hof:=fun W=>of_q txt W
 unfold pairsB at htx;rw [htx] at hof;have HOF:=Lib.hid hof;have HM:=h2k hs (pairsB_drop_len hs hl);have zL:=size_u64 (n:=l.length) oM;clear hof htx hs;go_enter Tryz.func183,Tryz.ntmps183
 go_wp2_with fail
 refine (HOF.out _).mono ?_;rintro e w3 ⟨y,rfl,h3⟩;have H3:=Lib.hid h3;clear h3;go_wp2_with fail
 refine (mosts 48 rfl l.length _ 0 hl oM oM H3.out).mono ?_;rintro e w4 ⟨rfl,h4⟩;have hr0:0+sizeN l.length≤10:=oM;obtain ⟨r0,hr⟩:∃r,0+sizeN l.length=r:=⟨_,rfl⟩;rw [hr] at h4 hr0;have H4:=h2k h4 hr0;clear h4 hr0 hr zL;go_wp2_with fail
 go_loopw [5,6] (fun v n wr=>∃(k r:Nat),k≤l.length∧n=.int .i64 ((l.length - k:Nat):Int)∧r≤10+80*k∧InQ (fun q=>q=y) w4 wr y ⟨(l.drop k).flatMap pairB,r,0⟩∧Own wr 55 2 v k (pairsV (l.take k))∧(∀q,v.ownBlock=some q→w4.heap.size≤q)) (fun _ n _=>(intOf n).toNat)
 case atStart=>exact ⟨0,r0,oM,sM,by have:=H4.out.2;omega,⟨H4.out.1.blk,.inl rfl,Upd.refl _ _⟩,Own.nil _ _ _,by simp [Value.ownBlock]⟩
 case round =>
  obtain ⟨k,r5,hk,rfl,hr,hI,hO,hv⟩:=hrel;have hyl:y<w4.heap.size:=H4.out.1.blk.lt;by_cases hlt:k<l.length
  ·have hoe:=HM.out.1 _ (List.getElem_mem hlt)
   have htk:pairsV (l.take (k+1))=pairsV (l.take k)++pairRow l[k]:=by rw [List.take_succ_eq_append_getElem hlt,pairsV_snoc]
   have hdl:=HM.out.2 (k+1);rw [List.drop_eq_getElem_cons hlt,List.flatMap_cons] at hI;obtain ⟨rest,hrest⟩:∃r,(l.drop (k+1)).flatMap pairB=r:=⟨_,rfl⟩;rw [hrest] at hI hdl;obtain ⟨p,hp⟩:=eqx (l[k]);rw [hp] at hoe htk hI;obtain ⟨P,V⟩:=p;simp only at hoe
   have hI2:InQ (fun q=>q=y) w4 wr y ⟨textN P++(textN V++rest),r5,0⟩:=by
    have e:pairB (P,V)++rest=textN P++(textN V++rest):=by unfold pairB;simp [List.append_assoc]
    rw [e] at hI;exact hI
   have hsP:=sizeN_small (n:=P.length) oM;have hsV:=sizeN_small (n:=V.length) oM;obtain ⟨n,hn⟩:∃n:Nat,l.length - k=n:=⟨_,rfl⟩;have j1:(0:Int)<(n:Int):=oM;have nle:(n:Int)≤48:=oM;have hk48:k<48:=oM;obtain ⟨A,cap,rfl,-,-⟩:=hO.shape;have HN:=Lib.hid (And.intro hn (And.intro hr (And.intro hdl (And.intro hrest (And.intro htk (And.intro hoe (And.intro hsP (And.intro hsV hyl))))))));have HK:=h2k hO hv;have HI2:=Lib.hid hI2;clear hI hI2 hO hv hrest hdl htk hoe hp hr hsP hsV hyl;rw [hn];clear hn;go_wp2_with fail
   refine (texts 9223372036854775807 rfl P _ r5 (oN HN.out.2.2.2.2.2.1) oM (oN HN.out.2.1) (by have:=HN.out;rw [List.length_append,textN_len];omega) HI2.out.here).mono ?_;rintro e w14 ⟨rfl,h14⟩;obtain ⟨S,hS⟩:=eqx (str P);rw [hS];have H14:=Lib.hid h14;clear h14;go_wp2_with fail
   refine (texts 9223372036854775807 rfl V _ _ (oN HN.out.2.2.2.2.2.1) oM (by have:=HN.out;rw [textN_len];omega) (oN HN.out) H14.out).mono ?_;rintro e w15 ⟨rfl,h15⟩;obtain ⟨T,hT⟩:∃S,str V=S:=⟨_,rfl⟩;rw [hT];have HST:=h2k hS hT;obtain ⟨r6,hr6⟩:=eqx (r5+(textN P).length+(textN V).length);rw [hr6] at h15;have hr6b:r6≤10+80*(k+1):=by rw [← hr6,textN_len,textN_len];have:=HN.out;omega
   have hyne:∀q,(Value.slice A k cap).ownBlock=some q→¬q=y:=fun q hq e=>by have:=HK.out.2 q hq;have:=HN.out.2.2.2.2.2.2.2.2;omega
   have hUr:Upd (fun q=>q=y) wr w15:=h15.upd;have H15:=h3k (HI2.out.back h15) (HK.out.1.upd hUr hyne) hr6b;clear h15 hS hT hr6 hr6b hyne hUr;obtain ⟨ti,hi0,hz0,hz1,hz2⟩:=info_parts infoPair;go_wp2_with (first
    | (at_builtin;refine wpList_append_src rfl _ _ _ _ rfl 55 ti _ 2 32 Tryz.underlying56 hi0 hz0 hz1 hz2 rfl (.slice A k cap) k _ rfl (H15.out.2.1.alloc _) _ 1 [_,_] rfl (Src.of_news Tryz.underlying56 _ rfl) (by simp [Value.oneCell']) (by unfold maxLen;omega) oM ?_;intro v2 w18 hO18 hU18 hl18 hs18
       have H18:=h3k hO18 hU18 hl18;clear hO18 hU18 hl18 hs18))
   clear hi0 hz0 hz1 hz2;have hw15:w4.heap.size≤w15.heap.size:=H15.out.1.upd.size;have hU1518:Upd (fun q=>(Value.slice A k cap).ownBlock=some q) w15 w18:=((Upd.refl _ w15).alloc _).then H18.out.2.1 (fun q e=>.inl e);go_roundw
   case rel =>
    refine ⟨k+1,r6,oM,?_,H15.out.2.2,?_,?_,fun q hq=>?_⟩
    ·have:=HN.out.1
     congr 1
     omega
    ·rw [HN.out.2.2.2.1]
     exact H15.out.1.far hU1518 (fun e=>by have:=HK.out.2 y e;have:=HN.out.2.2.2.2.2.2.2.2;omega) (fun q e=>.inr (HK.out.2 q e))
    ·rw [HN.out.2.2.2.2.1]
     have:=H18.out.1;rw [← HST.out.1,← HST.out.2] at this;exact this
    ·rcases H18.out.2.2 with e | e
     ·exact HK.out.2 q (by rw [← e];exact hq)
     ·rw [hq] at e
      have:=Option.some.inj e;rw [World.size_alloc] at this;omega
   case measure=>simp [intOf]<;>omega
  ·obtain rfl:k=l.length:=oM
   have hz:l.length - l.length=0:=oM;rw [hz];rw [List.drop_of_length_le (Nat.le_refl _)] at hI;rw [List.take_of_length_le (Nat.le_refl _)] at hO;have hen:=end_q hI;have HEN:=Lib.hid hen;have HL:=h3k hO hv hI.upd;have hfz:(if (⟨([]:List PairM).flatMap pairB,r5,0⟩:InS).fail≠0 then (⟨([]:List PairM).flatMap pairB,r5,0⟩:InS).fail else if (⟨([]:List PairM).flatMap pairB,r5,0⟩:InS).rest≠[] then 8 else 0)=0:=rfl;obtain ⟨A,cap,rfl,-,-⟩:=hO.shape;clear hen hO hv hI hz hr hlt hk hyl;go_wp2_with fail
   refine HEN.out.mono ?_;rintro e wz ⟨rfl,hUz⟩;have HZ:=Lib.hid hUz;clear hUz;go_wp2_with fail
   go_ret2
   refine ⟨.slice A l.length cap,rfl,HL.out.1.upd HZ.out (fun _ _ e=>e),fun q hq=>?_,?_⟩
   ·have:=HL.out.2.1 q hq
    have:=H4.out.1.upd.size;omega
   ·exact (H4.out.1.upd.then HL.out.2.2 (fun q e=>.inr (by
     have e2:q=y:=e;rw [e2];rcases H3.out.new with e3 | e3
     ·exact e3.elim
     ·exact e3))).then HZ.out wz0
def badS (d:Dk) (k:Nat):Bool:=(List.range k).any fun i=>decide ((lookL (d.now (340+i)).data.toList).2=2)
theorem badS_succ (d:Dk) (k:Nat):badS d (k+1)=(badS d k || decide ((lookL (d.now (340+k)).data.toList).2=2)):=by
 unfold badS;rw [List.range_succ,List.any_append];simp
theorem badS_mono {d:Dk} {k n:Nat} (h:badS d k=true) (hn:k≤n):badS d n=true:=by
 unfold badS at *;rw [List.any_eq_true] at *;obtain ⟨i,hi,h2⟩:=h;exact ⟨i,List.mem_range.2 (oN (List.mem_range.1 hi)),h2⟩
theorem spoilt_c {w:World} {p:Nat} {d:Dk} {F:List Nat} (hD:DiskAt w p d F) (ho:d.off=false) (hl:500≤d.lasts.length) (hs:∀i,i<500→(d.now i).size=64) :
 Calls Tryz.prog 62 #[.pointer (some ⟨p,0,none⟩)] w fun e w'=>e=.returned (.tuple #[.bool (badS d 160),.int .i64 0])∧Upd (fun _=>False) w w':=by
 obtain ⟨B,hB⟩:=eqx (badS d 160);rw [hB];have hrd:∀(W:World),Upd (fun _=>False) w W→∀k:Nat,k<160→Calls Tryz.prog 46 #[.pointer (some ⟨p,0,none⟩),.int .i64 (340+(k:Int))] W fun e w'=>e=.returned (.tuple #[.string (d.now (340+k)),.int .i64 0])∧W=w':=fun W hW k hk=>by
  have:=read_c (hD.upd hW (fun _ _ e=>e)) (340+(k:Int));have e:d.read (340+(k:Int))=(d.now (340+k),0):=by
   unfold Dk.read Dk.there;rw [ho,if_neg sM,if_pos (by simp;omega)];congr 1
  rw [e] at this;refine this.mono ?_;rintro e w' ⟨rfl,rfl⟩;exact ⟨rfl,rfl⟩
 have HR:=Lib.hid hrd;have HS:=h2k hs hB;clear hrd hs hB hD;go_enter Tryz.func62,Tryz.ntmps62
 go_wp2_with fail
 go_loopw [4,5,6,7,8,9] (fun _ _ _ _ _ u wr=>∃k:Nat,k≤160∧u=.int .i64 (k:Int)∧Upd (fun _=>False) w wr∧badS d k=false) (fun _ _ _ _ _ u _=>160 - (intOf u).toNat)
 case atStart=>exact ⟨0,oM,rfl,Upd.refl _ _,rfl⟩
 case round =>
  obtain ⟨k,hk,rfl,hU,hE⟩:=hrel;by_cases hlt:k<160
  ·have hsz:=HS.out.1 (340+k) oM
   have hst:=badS_succ d k;rw [hE,Bool.false_or] at hst;have hmo:=fun h:badS d (k+1)=true=>badS_mono h (show k+1≤160 by omega)
   have hlk:=fun W=>look_s (d.now (340+k)) W oM
   obtain ⟨N,hN⟩:=eqx (d.now (340+k));have hr:=HR.out wr hU k hlt;rw [hN] at hst hlk hr;obtain ⟨a,ha⟩:=eqx (str (lookL N.data.toList).1);obtain ⟨z,hz⟩:∃a,(lookL N.data.toList).2=a:=⟨_,rfl⟩;rw [ha,hz] at hlk;rw [hz] at hst;have j1:(k:Int)<160:=oM;have HRD:=Lib.hid hr;have HLK:=Lib.hid hlk;have HX:=h3k hst hmo hU;clear hsz hst hmo hlk hr hU hE hN ha hz;go_wp2_with fail
   refine HRD.out.mono ?_;rintro e w1 ⟨rfl,rfl⟩;go_wp2_with fail
   refine (HLK.out _).mono ?_;rintro e w2 ⟨rfl,hU2⟩;have HU:=Lib.hid (HX.out.2.2.then hU2 wz0);clear hU2;by_cases h2:z=2
   ·subst h2
    obtain rfl:true=B:=by
     rw [← HS.out.2];exact (HX.out.2.1 (by rw [HX.out.1];rfl)).symm
    go_wp2_with fail
    go_ret2
    exact ⟨rfl,HU.out⟩
   ·have h2b:(z == 2)=false:=by simpa using h2
    go_wp2_with fail
    go_roundw
    case rel=>exact ⟨k+1,oM,by go_num,HU.out,by rw [HX.out.1];simpa using h2⟩
    case measure=>simp [intOf]<;>omega
  ·obtain rfl:k=160:=oM
   obtain rfl:false=B:=by rw [← HS.out.2,hE]
   have HU:=Lib.hid hU;clear hU hE hlt hk;rw [show ((160:Nat):Int)=160 from rfl];go_wp2_with fail
   go_ret2
   exact ⟨rfl,HU.out⟩
theorem bsize:∃j,Tryz.prog.info? 139=some j∧j.size=2:=by
 obtain ⟨j,hj,hjs⟩:=Option.map_eq_some_iff.1 (show (Tryz.prog.info? 139).map (·.size)=some 2 by kernel_rfl);exact ⟨j,hj,hjs⟩
theorem blies:liesAt Tryz.prog Tryz.prog.depth 139 (2 / Tryz.prog.cellsOf 139) 0 139 1=true:=kR
theorem infoByte:(Tryz.prog.info? 5).map (fun i=>(i.zero,i.size,i.bytes))=some (some (.int .u8 0),1,1):=kR
theorem bcheck_used (b:Nat) (w:World) (h0:w.cell? ⟨b,0,none⟩=some (.pointer (some ⟨b,0,none⟩))) :
 Calls Tryz.prog 132 #[.pointer (some ⟨b,0,none⟩)] w fun e w'=>e=.returned (.tuple #[])∧w'=w:=by
 obtain ⟨j,hj,-⟩:=bsize;go_enter Tryz.func132,Tryz.ntmps132
 go_wp2
 rw [Lib.run_neq_ptr_same w _ Tryz.underlying137 hj];go_wp2
 go_end0
 exact ⟨rfl,rfl⟩
theorem bcheck_fresh (b:Nat) (w:World) (h0:w.cell? ⟨b,0,none⟩=some (.pointer none)) (hsh:w.shape? b=some (139,2)) (hfz:w.frozen? ⟨b,0,none⟩=false) :
 Calls Tryz.prog 132 #[.pointer (some ⟨b,0,none⟩)] w fun e w'=>e=.returned (.tuple #[])∧w'=w.setCell ⟨b,0,none⟩ (.pointer (some ⟨b,0,none⟩)):=by
 obtain ⟨j,hj,hjs⟩:=bsize;go_enter Tryz.func132,Tryz.ntmps132
 go_wp2
 rw [Lib.run_to_unsafe w ⟨b,0,none⟩ Tryz.underlying137 Tryz.underlying296 hj (by rw [hjs];decide) hsh (Nat.zero_lt_succ 1)]
 simp only [Result.andThen];rw [Oper.upon_value];go_wp2
 rw [run_callFunc_extern Tryz.func187 kR kR kR (e:=Extern.AbiNoEscape.same) kR];rw [Lib.run_noEscape];simp only [Result.andThen];rw [Oper.upon_value];go_wp2
 rw [Lib.run_from_unsafe w ⟨b,0,none⟩ Tryz.underlying296 Tryz.underlying137 hj hsh blies];simp only [Result.andThen];rw [Oper.upon_value];go_wp2
 go_end0
 exact ⟨rfl,rfl⟩
theorem bcheck_c (B b:Nat) (bs:List Value) (w:World) (h:Lib.IsBuilder 139 5 B b bs w) :
 Calls Tryz.prog 132 #[.pointer (some ⟨b,0,none⟩)] w fun e w'=>e=.returned (.tuple #[])∧(Lib.BuilderAt 139 5 B b (.pointer (some ⟨b,0,none⟩)) bs w'∧Below B w w'):=by
 rcases h with h | h
 ·refine (bcheck_fresh b w h.cell0 h.shape h.frozen0).mono ?_
  rintro e w' ⟨rfl,rfl⟩;exact ⟨rfl,h.used _,(Below.refl B w).setCell (p:=⟨b,0,none⟩) h.1 _⟩
 ·refine (bcheck_used b w h.cell0).mono ?_
  rintro e w' ⟨rfl,rfl⟩;exact ⟨rfl,h,Below.refl B _⟩
theorem bwrite_c (B b:Nat) (bs:List Value) (s:ByteArray) (w:World) (h:Lib.IsBuilder 139 5 B b bs w) (hlen:bs.length+s.size≤140737488355328) (hBw:B≤w.heap.size) :
 Calls Tryz.prog 72 #[.pointer (some ⟨b,0,none⟩),.string s] w fun e w'=>e=.returned (.tuple #[.int .i64 s.size,.nilIface])∧(Lib.BuilderAt 139 5 B b (.pointer (some ⟨b,0,none⟩)) (bs++Lib.strCells s) w'∧Below B w w'):=by
 obtain ⟨i0,hi,hz0,hz1,hz2⟩:=info_parts infoByte;have HC:=Lib.hid (bcheck_c B b bs w h);clear h;go_enter Tryz.func72,Tryz.ntmps72
 go_wp2_with fail
 refine HC.out.mono ?_;rintro e w1 ⟨rfl,h1,hb1⟩;obtain ⟨hB,v,hbk,hown,hne⟩:=h1;have c0:w1.cell? ⟨b,0,none⟩=some (.pointer (some ⟨b,0,none⟩)):=by rw [Lib.cell_of_heap hbk];rfl
 have c1:w1.cell? ⟨b,1,none⟩=some v:=by rw [Lib.cell_of_heap hbk];rfl
 go_wp2_with (at_builtin;refine Lib.wpList_append_own_string _ rfl _ _ 89 9 rfl B 5 i0 Tryz.underlying89 Tryz.underlying9 hi hz0 hz1 hz2 _ _ _ rfl hown s rfl ?c3 ?c4 ?c5 ?_)
 case c3=>unfold maxLen;omega
 case c4=>omega
 case c5=>have:=hb1.size;omega
 intro v' w2 hown' hgrow _;have hlt:b<w1.heap.size:=by
  rcases Nat.lt_or_ge b w1.heap.size with h' | h'
  ·exact h'
  ·simp [Array.getElem?_eq_none h'] at hbk
 have hb2:w2.heap[b]? = some (.cells #[.pointer (some ⟨b,0,none⟩),v] 139 (0,0)):=by
  rw [hgrow.block b hlt (fun e=>hne e.symm)];exact hbk
 have d0:w2.cell? ⟨b,0,none⟩=some (.pointer (some ⟨b,0,none⟩)):=by rw [Lib.cell_of_heap hb2];rfl
 have d1:w2.cell? ⟨b,1,none⟩=some v:=by rw [Lib.cell_of_heap hb2];rfl
 have f1:w2.frozen? ⟨b,1,none⟩=false:=Lib.frozen_of_heap hb2 1;obtain ⟨ao,n',cap,rfl⟩:∃ao n' cap,v'=.slice ao n' cap:=by
  rcases hown'.2 with ⟨hv,_⟩ | ⟨g,cap,cur,hv,_⟩
  ·exact ⟨_,_,_,hv⟩
  ·exact ⟨_,_,_,hv⟩
 go_wp2
 go_ret2
 refine ⟨rfl,?_,?_⟩
 ·exact Lib.BuilderAt.put (T:=139) (e:=5) hB hb2 (bs':=bs++Lib.strCells s) (by simpa [Lib.strCells_length] using hown') dC
 ·exact (hb1.grown hgrow (oN hb1.size) (fun k hk=>(hown.lt k hk).1)).setCell (p:=⟨b,1,none⟩) hB _
theorem strCells_is (s:ByteArray):Lib.strCells s=Lib.byteCells s.data.toList:=rfl
theorem pieces_take (t:List UInt8) (k:Nat):(t.take (56*k))++pieceN t k=t.take (56*(k+1)):=by
 unfold pieceN;rw [Nat.mul_succ,List.take_add]
theorem BuilderAt.upd {T e:TypeId} {B b:Nat} {p:Value} {bs:List Value} {w w':World} (h:Lib.BuilderAt T e B b p bs w) (hu:Upd (fun _=>False) w w'):Lib.BuilderAt T e B b p bs w':=by
 obtain ⟨h1,v,h2,h3,h4⟩:=h;have hbl:b<w.heap.size:=(Array.getElem?_eq_some_iff.1 h2).1;refine ⟨h1,v,(hu.block b hbl (fun e=>e)).trans h2,⟨h3.1,?_⟩,h4⟩;rcases h3.2 with ⟨e1,e2⟩ | ⟨g,cap,cur,e1,e2,e3,e4⟩
 ·exact .inl ⟨e1,e2⟩
 ·exact .inr ⟨g,cap,cur,e1,e2,(hu.block g (Array.getElem?_eq_some_iff.1 e3).1 (fun e=>e)).trans e3,e4⟩
theorem IsBuilder.upd {T e:TypeId} {B b:Nat} {bs:List Value} {w w':World} (h:Lib.IsBuilder T e B b bs w) (hu:Upd (fun _=>False) w w'):Lib.IsBuilder T e B b bs w' :=
 h.elim (fun x=>.inl (BuilderAt.upd x hu)) (fun x=>.inr (BuilderAt.upd x hu))
theorem rslot_c {w:World} {p:Nat} {d:Dk} {F:List Nat} (hD:DiskAt w p d F) (ho:d.off=false) (hl:d.lasts.length=500) (slot:Nat) (h1:1≤slot) (h2:slot≤2) (t:List UInt8) (ht:slotHas d slot t) (n1:1≤slotN t) (n2:slotN t≤80) :
 Calls Tryz.prog 182 #[.pointer (some ⟨p,0,none⟩),.int .i64 (slot:Int)] w fun e w'=>e=.returned (.tuple #[.string (str t),.bool true])∧Upd (fun _=>False) w w':=by
 have hpl:placeN slot+80≤500:=by unfold placeN;omega
 have hrd:∀(W:World),Upd (fun _=>False) w W→∀k:Nat,k<slotN t→Calls Tryz.prog 46 #[.pointer (some ⟨p,0,none⟩),.int .i64 ((placeN slot+k:Nat):Int)] W fun e w'=>e=.returned (.tuple #[.string (str (closeL (slotBody t k))),.int .i64 0])∧W=w':=fun W hW k hk=>by
  have:=read_c (hD.upd hW (fun _ _ e=>e)) ((placeN slot+k:Nat):Int);have e:d.read ((placeN slot+k:Nat):Int)=(d.now (placeN slot+k),0):=by
   unfold Dk.read Dk.there;rw [ho,if_neg sM,if_pos (by simp;omega)];congr 1
  rw [e,ht k hk] at this;refine this.mono ?_;rintro e w' ⟨rfl,rfl⟩;exact ⟨rfl,rfl⟩
 have hlk:∀W k,Calls Tryz.prog 47 #[.string (str (closeL (slotBody t k)))] W fun e w'=>e=.returned (.tuple #[.string (str (slotBody t k)),.int .i64 1])∧Upd (fun _=>False) W w':=fun W k=>by
  have:=look_s (str (closeL (slotBody t k))) W (by rw [str_size,closeL,List.length_append,slotBody_len,leB_len];omega);rw [look_slot t k n1 n2] at this;exact this
 have hpc:=fun (W:World) (k:Nat) (hk:k≤1000)=>vplace_c slot k h1 oM hk W
 have HR:=Lib.hid hrd;have HL:=Lib.hid hlk;have HP:=Lib.hid hpc;have HN:=h2k n1 n2;clear hrd hlk hpc hD ht ho hl hpl;obtain ⟨c,hc⟩:=eqx w.heap.size;go_enter Tryz.func182,Tryz.ntmps182
 go_upto_region 2 with fail
 generalize hw2:World.alloc _ _=w2;have hB2:Lib.IsBuilder 139 5 c c (Lib.byteCells []) w2:=by
  refine .inl ⟨Nat.le_refl _,.slice none 0 0,?_,⟨rfl,.inl ⟨rfl,rfl⟩⟩,by simp [Value.ownBlock]⟩;rw [← hw2,← hc];exact Blk.new w _ _
 have hU2:Below c w w2:=by rw [← hw2,← hc];exact (Below.refl _ w).alloc (Nat.le_refl _) _
 have H2:=h2k hB2 hU2;have HC:=Lib.hid hc;clear hB2 hU2 hw2 hc;go_wp2_with fail
 go_loopw [7,8,9,10,11,12] (fun i n _ _ _ _ wr=>∃k:Nat,k≤slotN t∧i=.int .i64 (k:Int)∧n=.int .i64 ((if k=0 then 1 else slotN t:Nat):Int)∧Lib.IsBuilder 139 5 c c (Lib.byteCells (t.take (56*k))) wr∧Below c w wr) (fun i _ _ _ _ _ _=>200 - (intOf i).toNat)
 case atStart=>exact ⟨0,oM,rfl,rfl,by simpa using H2.out.1,H2.out.2⟩
 case round =>
  obtain ⟨k,hk,rfl,rfl,hB,hU⟩:=hrel;by_cases hlt:k<slotN t
  ·have j1:(k:Int)<((if k=0 then 1 else slotN t:Nat):Int):=by split<;>omega
   obtain ⟨M,hM⟩:∃M:Int,((if k=0 then 1 else slotN t:Nat):Int)=M:=⟨_,rfl⟩;rw [hM] at j1 ⊢;have hUw:Upd (fun _=>False) w wr:=Upd.of_below (by rw [HC.out];exact hU) _;have hbody:slotBody t k=UInt8.ofNat k::UInt8.ofNat (slotN t)::UInt8.ofNat (pieceN t k).length::0::(pieceN t k++List.replicate (56 - (pieceN t k).length) 0):=rfl;have hpl:=pieceN_len t k;have hbl:=slotBody_len t k;obtain ⟨b,hb⟩:=eqx (str (slotBody t k));have hlk2:=HL.out;have hsz:b.size=60:=by rw [← hb,str_size];exact hbl
   have g0:(b[0]'oM).toNat=k:=by
    have h:=sget b 0 oM;rw [← h,← hb,str_list,hbody];simp
    omega
   have g1:(b[1]'oM).toNat=slotN t:=by
    have h:=sget b 1 oM;rw [← h,← hb,str_list,hbody];have:=HN.out;simp
    omega
   have g2:(b[2]'oM).toNat=(pieceN t k).length:=by
    have h:=sget b 2 oM;rw [← h,← hb,str_list,hbody];simp
    omega
   have hex:(b.extract 4 (4+(pieceN t k).length)).data.toList=pieceN t k:=by
    rw [extract_str_from,str_list,← hb,str_list,hbody,Nat.add_sub_cancel_left];show List.take _ (pieceN t k++_)=_;rw [List.take_left]
   obtain ⟨PL,hPL⟩:=eqx (pieceN t k).length;obtain ⟨SN,hSN⟩:=eqx (slotN t);rw [hPL] at g2 hex hpl;obtain ⟨X,hX⟩:=eqx (b.extract 4 (4+PL));rw [hX] at hex;have hXs:X.size=PL:=by
    have:=congrArg List.length hex;rw [hPL] at this;simpa using this
   have hM0:(Lib.byteCells (t.take (56*k))).length+X.size≤140737488355328:=by
    rw [Lib.byteCells_length,List.length_take];have:=HN.out;omega
   have hcs:c≤wr.heap.size:=by rw [← HC.out];exact hUw.size
   have hrd2:=HR.out wr hUw k hlt;obtain ⟨s64,hs64⟩:∃x,str (closeL (slotBody t k))=x:=⟨_,rfl⟩;have hlk3:=fun W=>HL.out W k
   rw [hs64] at hrd2 hlk3;rw [hb] at hlk3;have hpp:=HP.out wr k (oN HN.out.2);have hnx:Lib.byteCells (t.take (56*k))++Lib.strCells X=Lib.byteCells (t.take (56*(k+1))):=by
    rw [strCells_is,hex,← pieces_take];unfold Lib.byteCells;rw [List.map_append]
   have HXX:=Lib.hid hX;have HLT:=Lib.hid hlt;have HRD:=Lib.hid hrd2;have HLK:=Lib.hid hlk3;have HPP:=Lib.hid hpp;have HX:=h7k hB hU hUw hnx hM0 hcs hSN;have k0:(0:Int)<(b.size:Int):=oM;have k60:(b.size:Int)=60:=oM;have i0:0<b.size:=oM;have i1:1<b.size:=oM;have i2:2<b.size:=oM;have hne:((k:Int) != (k:Int))=false:=by simp
   rw [hSN] at g1;have hsn:SN≤80:=by rw [← hSN];exact HN.out.2
   clear hB hU hUw hnx hM0 hcs hrd2 hlk3 hpp hs64 hb hbody hbl hlk2 hX hXs hex hPL hSN hlt;go_wp2_with fail
   refine HPP.out.mono ?_;rintro e w3 ⟨rfl,rfl⟩;go_wp2_with fail
   refine HRD.out.mono ?_;rintro e w3 ⟨rfl,rfl⟩;go_wp2_with fail
   refine (HLK.out _).mono ?_;rintro e w4 ⟨rfl,hU4⟩;have H4:=Lib.hid hU4;clear hU4;go_wp2_with fail
   rw [HXX.out];refine (bwrite_c c c _ X w4 (IsBuilder.upd HX.out.1 H4.out) HX.out.2.2.2.2.1 (oO HX.out.2.2.2.2.2.1 H4.out.size)).mono ?_;rintro e w5 ⟨rfl,hB5,hU5⟩;have hU5':Below c w w5:=(HX.out.2.1.trans (((H4.out.below wz0).mono HX.out.2.2.2.2.2.1))).trans hU5;rw [HX.out.2.2.2.1] at hB5;have H5:=h2k hB5 hU5';clear hB5 hU5';go_wp2_with fail
   go_roundw
   case rel =>
    refine ⟨k+1,HLT.out,by go_num,?_,.inr H5.out.1,H5.out.2⟩;rw [if_neg (Nat.succ_ne_zero k),HX.out.2.2.2.2.2.2,show min (SN:Int) 80=(SN:Int) by omega]
   case measure=>simp [intOf]<;>omega
  ·obtain rfl:k=slotN t:=oM
   have hM:((if slotN t=0 then 1 else slotN t:Nat):Int)=(slotN t:Int):=by rw [if_neg (oN HN.out.1)]
   rw [hM];have ht:t.take (56*slotN t)=t:=List.take_of_length_le (by unfold slotN;omega);rw [ht] at hB;have hst:=Tryz.Builder_String_any c c t wr hB (oO hU.size (show c≤w.heap.size by rw [HC.out];exact Nat.le_refl _));have HST:=Lib.hid hst;have HU:=Lib.hid hU;clear hst hU hB hM ht hlt hk;go_wp2_with fail
   refine HST.out.mono ?_;rintro e w6 ⟨rfl,hU6⟩;have H6:=Lib.hid (HU.out.trans hU6);clear hU6;go_wp2_with fail
   go_ret2
   exact ⟨rfl,Upd.of_below (by rw [HC.out];exact H6.out) _⟩
theorem repB_list (c:UInt8) (n:Nat):(repB c n).data.toList=List.replicate n c:=by
 unfold repB;show Lib.repeatL [c] n=_;induction n with
 | zero=>rfl
 | succ n ih=>rw [List.replicate_succ,← ih];rfl
theorem slot_parts (t:List UInt8) (k:Nat):str [UInt8.ofNat k,UInt8.ofNat (slotN t),UInt8.ofNat (pieceN t k).length,0]++str (pieceN t k)++repB 0 (56 - (pieceN t k).length)=str (slotBody t k):=by
 have:repB 0 (56 - (pieceN t k).length)=str (List.replicate (56 - (pieceN t k).length) 0):=by rw [← repB_list,str_eta]
 rw [this,str_app,str_app];rfl
theorem wslot_c {w:World} {p:Nat} {d:Dk} {F:List Nat} (hD:DiskAt w p d F) (hp:d.pend+200<1000000) (slot:Nat) (h1:1≤slot) (h2:slot≤2) (s:ByteArray) (hs:s.size≤4400) :
 Calls Tryz.prog 103 #[.pointer (some ⟨p,0,none⟩),.int .i64 (slot:Int),.string s] w fun e w'=>e=.returned (.int .i64 (writeSlotD d slot s.data.toList).2)∧∃F',Left w w' p (writeSlotD d slot s.data.toList).1 F F':=by
 have hlen:s.data.toList.length=s.size:=by simp
 have hwf:=hD.wf;obtain ⟨t,ht⟩:=eqx s.data.toList;rw [ht] at hlen ⊢;have n80:slotN t≤80:=slotN_le oM;have hsn:slotN t=(s.size+55) / 56:=by unfold slotN;rw [hlen]
 have hdiv:((s.size:Int)+56 - 1) / 56=(slotN t:Int):=by rw [hsn];omega
 have hcell:Hid (∀k,s.extract (k*56) (min (((k:Int)+1)*56) (s.size:Int)).toNat=str (pieceN t k)):=fun k=>by
  rw [extract_str_from,ht];unfold pieceN;rw [Nat.mul_comm k 56];congr 1
  by_cases hin:56*k+56≤s.size
  ·rw [show (min (((k:Int)+1)*56) (s.size:Int)).toNat - 56*k=56 by omega]
  ·rw [show (min (((k:Int)+1)*56) (s.size:Int)).toNat - 56*k=s.size - 56*k by omega,List.take_of_length_le (by rw [List.length_drop];omega),List.take_of_length_le (by rw [List.length_drop];omega)]
 have hWD:Hid (writeSlotD d slot t=if (writeB d (placeN slot) (slotSecs t) (slotN t)).2≠0 then writeB d (placeN slot) (slotSecs t) (slotN t) else (writeB d (placeN slot) (slotSecs t) (slotN t)).1.sync):=by
  show writeSlotD _ _ _=_;unfold writeSlotD;rw [if_neg oM]
 have hsame:=Lib.hid (fun k=>writeB_same d (placeN slot) (slotSecs t) hwf.len k);have HSZ:=h3k hsn n80 hlen;have HD:=Lib.hid hD;have k80:(slotN t:Int)≤80:=oM;clear hwf hD hlen hsn ht;go_enter Tryz.func103,Tryz.ntmps103
 go_wp2_with fail
 rw [hdiv];go_loopw [8,9,10,11,12,21] (fun _ _ _ _ _ u wr=>∃(k:Nat) (Fk:List Nat),k≤slotN t∧u=.int .i64 (k:Int)∧(writeB d (placeN slot) (slotSecs t) k).2=0∧Left w wr p (writeB d (placeN slot) (slotSecs t) k).1 F Fk) (fun _ _ _ _ _ u _=>slotN t - (intOf u).toNat)
 case atStart=>exact ⟨0,F,oM,rfl,rfl,Left.refl HD.out⟩
 case round =>
  obtain ⟨k,Fk,hk,rfl,hE,hL⟩:=hrel;by_cases hlt:k<slotN t
  ·have hps:=HSZ.out.1
   have hk56:56*k≤s.size:=oM;have hpl:=pieceN_len t k;have hps2:(str (pieceN t k)).size=(pieceN t k).length:=str_size _;have hsp:=slot_parts t k;have hcl:=hcell k;obtain ⟨P,hP⟩:=eqx (str (pieceN t k));obtain ⟨PL,hPL⟩:∃n,(pieceN t k).length=n:=⟨_,rfl⟩;rw [hP,hPL] at hps2;rw [hP] at hcl;rw [hP,hPL] at hsp;rw [hPL] at hpl;obtain ⟨SN,hSN⟩:∃n,slotN t=n:=⟨_,rfl⟩;rw [hSN] at hsp hk hlt k80 ⊢;obtain ⟨Z,hZ⟩:=eqx (repB 0 (56 - PL));obtain ⟨H4,hH4⟩:∃H,str [UInt8.ofNat k,UInt8.ofNat SN,UInt8.ofNat PL,0]=H:=⟨_,rfl⟩;rw [hZ,hH4] at hsp;have hZs:Z.size=56 - PL:=by
    rw [← hZ,show (repB 0 (56 - PL)).size=(repB 0 (56 - PL)).data.toList.length by simp,repB_list,List.length_replicate]
   have hHs:H4.size=4:=by rw [← hH4,str_size];rfl
   obtain ⟨BD,hBD⟩:∃b,str (slotBody t k)=b:=⟨_,rfl⟩;rw [hBD] at hsp;have hBs:BD.size=60:=by rw [← hBD,str_size,slotBody_len]
   have hclose:=fun W=>Close_c BD W hBs
   rw [← hBD,str_list,hBD] at hclose;obtain ⟨X,hX⟩:∃x,str (closeL (slotBody t k))=x:=⟨_,rfl⟩;rw [hX] at hclose;have hrep:=fun W=>rep_c 0 (56 - PL) W oM
   rw [hZ] at hrep;have hsec:(slotSecs t).getD k ByteArray.empty=X:=by rw [slotSecs_get t k oM,hX]
   have hpc:=fun (W:World)=>vplace_c slot k h1 oM oM W
   have ho4:=run_to_string (own_bytes wr [UInt8.ofNat k,UInt8.ofNat SN,UInt8.ofNat PL,0] sM);rw [hH4] at ho4;have hcv:(convert 89 9 (.slice (some ⟨wr.heap.size,0,none⟩) 4 4)).run Tryz.prog (wr.alloc (.cells #[.int .u8 (k:Int),.int .u8 (SN:Int),.int .u8 (PL:Int),.int .u8 0] 5))=.ok (.string H4) (wr.alloc (.cells #[.int .u8 (k:Int),.int .u8 (SN:Int),.int .u8 (PL:Int),.int .u8 0] 5)):=by
    have e:(bytesV [UInt8.ofNat k,UInt8.ofNat SN,UInt8.ofNat PL,0]).toArray=#[.int .u8 (k:Int),.int .u8 (SN:Int),.int .u8 (PL:Int),.int .u8 0]:=by
     unfold bytesV;simp
     omega
    rw [e] at ho4;exact ho4
   have cs1:(9223372036854775807<H4.size+P.size)=False:=eq_false oM;obtain ⟨Q,hQ⟩:=eqx (H4++P);have hQs:Q.size=4+PL:=by rw [← hQ,ByteArray.size_append];omega
   have cs2:(9223372036854775807<Q.size+Z.size)=False:=eq_false oM;have e60:(60:Int) - (Q.size:Int)=((56 - PL:Nat):Int):=oM;rw [← e60] at hrep;rw [hQ] at hsp;have HCL:=h3k hcl hsp hsec;have HCLO:=Lib.hid hclose;have HREP:=Lib.hid hrep;have HPC:=Lib.hid hpc;have HQ:=Lib.hid hQ;have HQs:=Lib.hid hQs;have HK:=h5k hk hlt hSN hE hL;have j1:(k:Int)<(SN:Int):=oM;have j2:(PL:Int)≤56:=oM;clear hQ hQs e60 hcl hsp hsec hclose hrep hpc hP hPL hZ hH4 hBD hX hZs ho4 hE hL hSN hps;go_upto_region 8 with fail
   rw [HCL.out.1];go_upto_region 9 with fail
   rw [HQ.out];have q60:(Q.size:Int)≤60:=by have:=HQs.out;omega
   go_wp2_with fail
   refine (HREP.out _).mono ?_;rintro e w2 ⟨rfl,hU2⟩;have H2:=Lib.hid hU2;clear hU2;go_wp2_with fail
   rw [HCL.out.2.1];refine (HCLO.out _).mono ?_;rintro e w3 ⟨rfl,hB3⟩;have hL3:=((HK.out.2.2.2.2.alloc (.cells #[.int .u8 (k:Int),.int .u8 (SN:Int),.int .u8 (PL:Int),.int .u8 0] 5)).below (Upd.below H2.out wz0)).below hB3;have H3:=Lib.hid hL3;clear hL3 hB3;go_wp2_with fail
   refine (HPC.out _).mono ?_;rintro e w4 ⟨rfl,rfl⟩;have hpd:=(hsame k).2.2;have hw:=write_c H3.out.disk ((placeN slot+k:Nat):Int) X (oN HSZ.out.2.1);have hnx:writeB d (placeN slot) (slotSecs t) (k+1)=(writeB d (placeN slot) (slotSecs t) k).1.write ((placeN slot+k:Nat):Int) X:=by
    conv=>lhs;unfold writeB
    rw [if_neg (by rw [HK.out.2.2.2.1];simp),HCL.out.2.2]
   rw [← hnx] at hw;have HW:=Lib.hid hw;clear hw hnx hpd;obtain ⟨e',he'⟩:∃e',(writeB d (placeN slot) (slotSecs t) (k+1)).2=e':=⟨_,rfl⟩;rw [he'] at HW;go_wp2_with fail
   refine HW.out.mono ?_;rintro e w5 ⟨rfl,F5,hL5⟩;have H5:=h2k (H3.out.trans hL5) he';clear hL5 he';by_cases hz:e'=0
   ·subst hz
    go_wp2_with fail
    go_roundw
    case rel=>exact ⟨k+1,F5,by have:=HK.out.2.1;omega,by go_num,H5.out.2,H5.out.1⟩
    case measure=>have:=HK.out.2.1;simp [intOf]<;>omega
   ·have hzb:(e' != 0)=true:=by simpa using hz
    have HZ:=Lib.hid hz;clear hz;go_wp2_with fail
    go_ret
    have hstop:=writeB_stop (d:=d) (a:=placeN slot) (l:=slotSecs t) (j:=k+1) (m:=SN) (by rw [H5.out.2];exact HZ.out) (oN HK.out.2.1);have hfin:writeSlotD d slot t=writeB d (placeN slot) (slotSecs t) (k+1):=by
     have h:=hWD;rw [HK.out.2.2.1] at h;have h2:writeSlotD d slot t=_:=h;rw [h2,hstop,if_pos (by rw [H5.out.2];exact HZ.out)]
    rw [hfin,H5.out.2];exact ⟨rfl,F5,H5.out.1⟩
  ·obtain rfl:k=slotN t:=oM
   have hsy:=sync_c hL.disk;have HSY:=Lib.hid hsy;have HK:=h2k hL hE;clear hsy hL hE hlt hk;go_wp2_with fail
   refine HSY.out.mono ?_;rintro e w5 ⟨rfl,F5,hL5⟩;have H5:=Lib.hid (HK.out.1.trans hL5);clear hL5;go_wp2_with fail
   go_ret
   have h2:writeSlotD d slot t=_:=hWD;rw [h2,if_neg (by rw [HK.out.2];simp)]
   exact ⟨rfl,F5,H5.out⟩
def Ty (w:World) (t:TypeId) (b:Nat):Prop:=∃cur fr,w.heap[b]? = some (.cells cur t fr)
def Mp (w:World) (b:Nat):Prop:=∃es c,w.heap[b]? = some (.map es c)
theorem Ty.inj {w:World} {t t':TypeId} {b:Nat} (h:Ty w t b) (h':Ty w t' b):t=t':=by
 obtain ⟨a,f,e⟩:=h;obtain ⟨a',f',e'⟩:=h';rw [e] at e';injection e' with e';injection e' with _ e'
theorem Ty.no_map {w:World} {t:TypeId} {b:Nat} (h:Ty w t b) (h':Mp w b):False:=by
 obtain ⟨a,f,e⟩:=h;obtain ⟨a',f',e'⟩:=h';rw [e] at e';injection e' with e';cases e'
theorem Blk.ty {w:World} {t:TypeId} {b:Nat} {cs:Array Value} (h:Blk w b t cs):Ty w t b:=⟨cs,(0,0),h⟩
theorem MapB.mp {α : Type} {inj : α → Value} {w:World} {b:Nat} {m:List (α × Value)} (h:MapB inj w b m):Mp w b:=by
 obtain ⟨es,c,h1,-⟩:=h;exact ⟨es,c,h1⟩
theorem Own.ty {w:World} {e:TypeId} {size n:Nat} {v:Value} {xs:List Value} (h:Own w e size v n xs) {q:Nat} (hq:v.ownBlock=some q):Ty w e q:=by
 rcases h.2 with ⟨rfl,_⟩ | ⟨g,cap,cur,fr,rfl,hg,_⟩
 ·simp [Value.ownBlock] at hq
 ·have:g=q:=by simpa [Value.ownBlock] using hq
  subst this;exact ⟨cur,fr,hg⟩
theorem DiskAt.kind {w:World} {p:Nat} {d:Dk} {F:List Nat} (h:DiskAt w p d F) {q:Nat} (hq:q ∈ F):Ty w 151 q∨Ty w 9 q∨Mp w q:=by
 obtain ⟨bl,cap,bm,m,g1,g2,g3,g4,g5,rfl,g7⟩:=h;simp only [List.mem_cons,List.mem_filterMap] at hq;rcases hq with rfl | rfl | rfl | ⟨x,hx,hk⟩
 ·exact .inl g1.ty
 ·exact .inr (.inl (g2.ty (by simp [Value.ownBlock])))
 ·exact .inr (.inr g3.mp)
 ·obtain ⟨i,_,_,_,h8⟩:=g4.each x hx
  exact .inr (.inl (h8.ty hk))
theorem RgE.kind {F:Nat→Prop} {w0 w:World} {r:Nat} {master:ByteArray} {cur boot n kb:Nat} {ents:List (Int × Nat)} (h:RgE F w0 w r master cur boot n kb ents) {q:Nat} (hq:ringOwn r kb ents q):Ty w 186 q∨Ty w 269 q∨q=kb:=by
 rcases hq with rfl | rfl | ⟨e,he,rfl⟩
 ·exact .inl h.blk.ty
 ·exact .inr (.inr rfl)
 ·exact .inr (.inl (h.slots e he).ty)
def anyT:TypeId:=99999999
def TRow (w:World) (t:TypeId) (k:Nat) (v:Value) (cs:List (List Value)):Prop :=
 ∃A cap,v=.slice A cs.length cap∧cs.length≤cap∧cs.length≤1000000∧(0<cs.length→∃b off cur t' fr,A=some ⟨b,off,none⟩∧w.heap[b]? = some (.cells cur t' fr)∧(t≠anyT→t'=t)∧∀i c,cs[i]? = some c→∀j u,c[j]? = some u→cur[off+i*k+j]? = some u)
theorem TRow.upd_ {w w':World} {t:TypeId} {k:Nat} {v:Value} {cs:List (List Value)} {Z:Nat→Prop} (h:TRow w t k v cs) (hu:Upd Z w w') (hz:∀b,v.ownBlock=some b→(t≠anyT→Ty w t b)→¬Z b):TRow w' t k v cs:=by
 obtain ⟨A,cap,h1,h2,h3,h4⟩:=h;refine ⟨A,cap,h1,h2,h3,fun h0=>?_⟩;obtain ⟨b,off,cur,t',fr,e1,e2,e4,e3⟩:=h4 h0;refine ⟨b,off,cur,t',fr,e1,(hu.block b (Array.getElem?_eq_some_iff.1 e2).1 (hz b (by rw [h1,e1];rfl) (fun hn=>⟨cur,fr,?_⟩))).trans e2,e4,e3⟩
 rw [← e4 hn];exact e2
theorem TRow.upd {w w':World} {t:TypeId} {k:Nat} {v:Value} {cs:List (List Value)} {Z:Nat→Prop} (h:TRow w t k v cs) (hu:Upd Z w w') (hz:∀b,Ty w t b→¬Z b) (ht:t≠anyT:=by decide):TRow w' t k v cs :=
 h.upd_ hu fun b _ hb=>hz b (hb ht)
theorem TRow.still {w w':World} {t:TypeId} {k:Nat} {v:Value} {cs:List (List Value)} (h:TRow w t k v cs) (hu:Upd (fun _=>False) w w'):TRow w' t k v cs:=h.upd_ hu (fun _ _ _ e=>e)
theorem TRow.low {w w':World} {t:TypeId} {k N:Nat} {v:Value} {cs:List (List Value)} {Z:Nat→Prop} (h:TRow w t k v cs) (hN:∀b,v.ownBlock=some b→b<N) (hu:Upd Z w w') (hz:∀q,Z q→N≤q):TRow w' t k v cs :=
 h.upd_ hu fun b hb _ e=>Nat.lt_irrefl b (Nat.lt_of_lt_of_le (hN b hb) (hz b e))
theorem TRow.open_ {w:World} {t:TypeId} {k:Nat} {v:Value} {cs:List (List Value)} (h:TRow w t k v cs):∃A cap b off,v=.slice A cs.length cap∧cs.length≤cap∧cs.length≤1000000∧(0<cs.length→A=some ⟨b,off,none⟩) ∧
 ∀w' Z,Upd Z w w'→(∀b,(t≠anyT→Ty w t b)→¬Z b)→∀i c,cs[i]? = some c→w'.rangeAt b (off+i*k) c:=by
 have hh:=h;obtain ⟨A,cap,h1,h2,h3,h4⟩:=h;by_cases h0:0<cs.length
 ·obtain ⟨b,off,cur,t',fr,e1,e2,e4,e3⟩:=h4 h0
  refine ⟨A,cap,b,off,h1,h2,h3,fun _=>e1,fun w' Z hu hz i c hc j u hj=>?_⟩;have e5:=(hu.block b (Array.getElem?_eq_some_iff.1 e2).1 (hz b (fun hn=>⟨cur,fr,by rw [← e4 hn];exact e2⟩))).trans e2;rw [cell_of_row w' b _ cur t' fr e5];exact e3 i c hc j u hj
 ·refine ⟨A,cap,0,0,h1,h2,h3,fun h=>absurd h h0,fun w' Z hu hz i c hc=>?_⟩
  have:=(List.getElem?_eq_some_iff.1 hc).1;omega
theorem TRow.of_own {w:World} {t:TypeId} {k n:Nat} {v:Value} {cs:List (List Value)} (h:Own w t k v n cs.flatten) (hn:cs.length=n) (hm:n≤1000000) (hk:∀c ∈ cs,c.length=k):TRow w t k v cs:=by
 rcases h.2 with ⟨rfl,h0⟩ | ⟨g,cap,cur,fr,rfl,hg,hfr,hnc,hcm,hcs,htake⟩
 ·subst h0
  exact ⟨none,0,by rw [hn],oM,oM,fun h=>by omega⟩
 ·refine ⟨_,cap,by rw [hn],oM,oM,fun h0=>⟨g,0,cur,t,fr,rfl,hg,fun _=>rfl,fun i c hc j u hj=>?_⟩⟩
  have hfl:∀(l:List (List Value)),(∀c ∈ l,c.length=k)→∀i c,l[i]? = some c→∀j u,c[j]? = some u→l.flatten[i*k+j]? = some u:=by
   intro l;induction l with
   | nil=>intro _ i c hc;simp at hc
   | cons x r ih =>
     intro hl i c hc j u hj;have hx:=hl x sM;rw [List.flatten_cons];cases i with
     | zero =>
       have:x=c:=by simpa using hc
       subst this;have hjl:=(List.getElem?_eq_some_iff.1 hj).1;rw [List.getElem?_append_left oM];simpa using hj
     | succ i =>
       rw [List.getElem?_append_right (by rw [hx,Nat.succ_mul];omega)];have e:(i+1)*k+j - x.length=i*k+j:=by rw [hx,Nat.succ_mul];omega
       rw [e];exact ih (fun c hc=>hl c (by simp [hc])) i c (by simpa using hc) j u hj
  have h1:=hfl cs hk i c hc j u hj;rw [← htake,List.getElem?_take] at h1;split at h1
  ·rw [Nat.zero_add]
   simpa using h1
  ·cases h1
theorem TRow.mts {w:World} {t:TypeId} {v:Value} {l:List MtM} (h:TRow w t 2 v (l.map mtRow)):∃A cap b off,v=.slice A l.length cap∧l.length≤cap∧l.length≤1000000∧(0<l.length→A=some ⟨b,off,none⟩) ∧
 ∀w' Z,Upd Z w w'→(∀b,(t≠anyT→Ty w t b)→¬Z b)→MtsAt w' b off l:=by
 obtain ⟨A,cap,b,off,h1,h2,h3,h4,h5⟩:=h.open_;rw [List.length_map] at h1 h2 h3 h4;refine ⟨A,cap,b,off,h1,h2,h3,h4,fun w' Z hu hz i hi=>?_⟩;exact h5 w' Z hu hz i (mtRow l[i]) (by simp [hi])
theorem TRow.ops {w:World} {t:TypeId} {v:Value} {l:List OpM} (h:TRow w t 3 v (l.map opRow)):∃A cap b off,v=.slice A l.length cap∧l.length≤cap∧l.length≤1000000∧(0<l.length→A=some ⟨b,off,none⟩) ∧
 ∀w' Z,Upd Z w w'→(∀b,(t≠anyT→Ty w t b)→¬Z b)→OpsAt w' b off l:=by
 obtain ⟨A,cap,b,off,h1,h2,h3,h4,h5⟩:=h.open_;rw [List.length_map] at h1 h2 h3 h4;refine ⟨A,cap,b,off,h1,h2,h3,h4,fun w' Z hu hz i hi=>?_⟩;exact h5 w' Z hu hz i (opRow l[i]) (by simp [hi])
structure VtO where
 F:List Nat
 kb:Nat
 lb:Nat
 lv:Value
 rb:Nat
 rk:Nat
 ents:List (Int × Nat)
 m:Nat
 mb:Nat
 rv:Value
 ovs:List Value
 mv:Value
def vtRow (V:VtM) (p:Nat) (o:VtO):Array Value :=
 #[.pointer (some ⟨o.m,0,none⟩),.int .i64 V.at_,.int .i64 V.epoch,o.rv,.int .i64 V.prev,.pointer (some ⟨p,0,none⟩),.pointer (some ⟨o.kb,0,none⟩),.pointer (some ⟨o.lb,0,none⟩),.pointer (some ⟨o.rb,0,none⟩),
  .int .i64 V.st.m.role,.int .i64 V.st.m.seen,.int .i64 V.st.m.grant,o.mv,.string (str V.st.m.secret),.int .i64 V.st.at_,.int .i64 V.st.epoch,.int .i64 (V.st.slot:Int),.int .u64 (V.st.log:Int),.int .i64 (V.st.key:Int),.int .u32 (V.st.boot:Int),.bool V.down]
def rowsV:List BatM→List Value→List Value
 | b::r,o::s=>.int .i64 b.index::.int .i64 b.epoch::o::rowsV r s
 | _,_=>[]
def VtO.mut (o:VtO) (v q:Nat):Prop:=q=v∨q ∈ o.F∨q=o.kb∨q=o.lb∨o.lv.ownBlock=some q∨ringOwn o.rb o.rk o.ents q∨o.rv.ownBlock=some q
structure VtAt (w:World) (p v:Nat) (d:Dk) (V:VtM) (o:VtO):Prop where
 disk:DiskAt w p d o.F
 blk:Blk w v 117 (vtRow V p o)
 kept:Blk w o.kb 209 (V.kp.cells p)
 log:Blk w o.lb 199 (V.lg.cells p o.lv)
 recs:Own w 9 1 o.lv V.lg.l.length (strs V.lg.l)
 sep:∀q,o.lv.ownBlock=some q→q ∉ o.F
 ring:RgE (ringOwn o.rb o.rk o.ents) w w o.rb (str masterL) V.cur V.st.boot V.n o.rk o.ents
 rkF:o.rk ∉ o.F
 map:MapAt w o.m o.mb V.S
 mbF:o.mb ∉ o.F
 mbk:o.mb≠o.rk
 rows:Own w 35 3 o.rv V.rows.length (rowsV V.rows o.ovs)
 ovl:o.ovs.length=V.rows.length
 each:∀(i:Nat) (b:BatM) (ov:Value),V.rows[i]? = some b→o.ovs[i]? = some ov→TRow w 32 3 ov (b.ops.map opRow)
 mts:TRow w 46 2 o.mv (V.st.m.mounts.map mtRow)
structure VtStep (w w':World) (v:Nat) (o o':VtO):Prop where
 upd:Upd (o.mut v) w w'
 sub:∀q,o'.mut v q→o.mut v q∨w.heap.size≤q
 mbs:o'.mb=o.mb∨w.heap.size≤o'.mb:=by first | exact .inl rfl | assumption
theorem VtStep.refl (w:World) (v:Nat) (o:VtO):VtStep w w v o o:=⟨Upd.refl _ _,fun _ h=>.inl h,.inl rfl⟩
theorem VtStep.trans {w w1 w2:World} {v:Nat} {o o1 o2:VtO} (h:VtStep w w1 v o o1) (k:VtStep w1 w2 v o1 o2):VtStep w w2 v o o2 :=
 ⟨h.upd.then k.upd h.sub,fun q hq=>(k.sub q hq).elim (h.sub q) (fun e=>.inr (Nat.le_trans h.upd.size e)),k.mbs.elim (fun e=>h.mbs.imp (e.trans ·) (fun e2=>e ▸ e2)) (fun e=>.inr (Nat.le_trans h.upd.size e))⟩
theorem VtStep.still {w w1 w2:World} {v:Nat} {o o1:VtO} (h:VtStep w w1 v o o1) (hu:Upd (fun _=>False) w1 w2):VtStep w w2 v o o1:=⟨h.upd.then hu wz0,h.sub,h.mbs⟩
theorem VtStep.re {w w':World} {v:Nat} {o o':VtO} (h:VtStep w w' v o o') {m mb:Nat} (hmb:mb=o.mb∨w.heap.size≤mb):VtStep w w' v o { o' with m:=m,mb:=mb } := ⟨h.upd,h.sub,hmb⟩
section
variable {w w':World} {p v:Nat} {d d':Dk} {V:VtM} {o:VtO}
theorem VtAt.kind (h:VtAt w p v d V o) {q:Nat} (hq:o.mut v q):Ty w 117 q∨Ty w 151 q∨Ty w 9 q∨Ty w 209 q∨Ty w 199 q∨Ty w 186 q∨Ty w 269 q∨Ty w 35 q∨Mp w q∧(q ∈ o.F∨q=o.rk):=by
 rcases hq with rfl | hq | rfl | rfl | hq | hq | hq
 ·exact .inl h.blk.ty
 ·rcases h.disk.kind hq with e | e | e
  ·exact .inr (.inl e)
  ·exact .inr (.inr (.inl e))
  ·exact .inr (.inr (.inr (.inr (.inr (.inr (.inr (.inr ⟨e,.inl hq⟩)))))))
 ·exact .inr (.inr (.inr (.inl h.kept.ty)))
 ·exact .inr (.inr (.inr (.inr (.inl h.log.ty))))
 ·exact .inr (.inr (.inl (h.recs.ty hq)))
 ·rcases h.ring.kind hq with e | e | e
  ·exact .inr (.inr (.inr (.inr (.inr (.inl e)))))
  ·exact .inr (.inr (.inr (.inr (.inr (.inr (.inl e))))))
  ·exact .inr (.inr (.inr (.inr (.inr (.inr (.inr (.inr ⟨by rw [e];exact h.ring.map.mp,.inr e⟩)))))))
 ·exact .inr (.inr (.inr (.inr (.inr (.inr (.inr (.inl (h.rows.ty hq))))))))
theorem VtAt.not_mut (h:VtAt w p v d V o) {t:TypeId} {q:Nat} (ht:Ty w t q) (hn:t ∉ [117,151,9,209,199,186,269,35]):¬o.mut v q:=by
 intro hq;simp only [List.mem_cons,List.not_mem_nil,or_false,not_or] at hn;obtain ⟨n1,n2,n3,n4,n5,n6,n7,n8⟩:=hn;rcases h.kind hq with e | e | e | e | e | e | e | e | e
 ·exact n1 (ht.inj e)
 ·exact n2 (ht.inj e)
 ·exact n3 (ht.inj e)
 ·exact n4 (ht.inj e)
 ·exact n5 (ht.inj e)
 ·exact n6 (ht.inj e)
 ·exact n7 (ht.inj e)
 ·exact n8 (ht.inj e)
 ·exact ht.no_map e.1
theorem VtAt.mb_not (h:VtAt w p v d V o):¬o.mut v o.mb:=by
 intro hq;obtain ⟨ents,e1,-⟩:=h.map.map;have hm:=e1.mp;rcases h.kind hq with e | e | e | e | e | e | e | e | e
 ·exact e.no_map hm
 ·exact e.no_map hm
 ·exact e.no_map hm
 ·exact e.no_map hm
 ·exact e.no_map hm
 ·exact e.no_map hm
 ·exact e.no_map hm
 ·exact e.no_map hm
 ·rcases e.2 with e | e
  ·exact h.mbF e
  ·exact h.mbk e
theorem VtAt.keep_map {Z:Nat→Prop} (h:VtAt w p v d V o) (hu:Upd Z w w') (hz:∀q,Z q→o.mut v q):MapAt w' o.m o.mb V.S :=
 h.map.upd hu (fun e=>h.not_mut h.map.blk.ty dC (hz _ e)) (fun e=>h.mb_not (hz _ e))
theorem VtAt.keep_each {Z:Nat→Prop} (h:VtAt w p v d V o) (hu:Upd Z w w') (hz:∀q,Z q→o.mut v q):∀(i:Nat) (b:BatM) (ov:Value),V.rows[i]? = some b→o.ovs[i]? = some ov→TRow w' 32 3 ov (b.ops.map opRow) :=
 fun i b ov h1 h2=>(h.each i b ov h1 h2).upd hu (fun _ ht e=>h.not_mut ht dC (hz _ e))
theorem VtAt.keep_mts {Z:Nat→Prop} (h:VtAt w p v d V o) (hu:Upd Z w w') (hz:∀q,Z q→o.mut v q):TRow w' 46 2 o.mv (V.st.m.mounts.map mtRow) :=
 h.mts.upd hu (fun _ ht e=>h.not_mut ht dC (hz _ e))
theorem RgE.move {F:Nat→Prop} {w0 w w':World} {r:Nat} {master:ByteArray} {cur boot n kb:Nat} {ents:List (Int × Nat)} {Z:Nat→Prop} (h:RgE F w0 w r master cur boot n kb ents) (hu:Upd Z w w') (hz:∀q,ringOwn r kb ents q→¬Z q):RgE (ringOwn r kb ents) w' w' r master cur boot n kb ents:=by
 refine ⟨h.blk.upd hu (hz _ (.inl rfl)),h.map.upd hu (hz _ (.inr (.inl rfl))),fun e he=>(h.slots e he).upd hu (hz _ (.inr (.inr ⟨e,he,rfl⟩))),.inl (.inl rfl),.inl (.inr (.inl rfl)),fun e he=>.inl (.inr (.inr ⟨e,he,rfl⟩)),Upd.refl _ _⟩
theorem VtAt.still (h:VtAt w p v d V o) (hu:Upd (fun _=>False) w w'):VtAt w' p v d V o :=
 ⟨h.disk.upd hu (fun _ _ e=>e),h.blk.upd hu (fun e=>e),h.kept.upd hu (fun e=>e),h.log.upd hu (fun e=>e),h.recs.upd hu (fun _ _ e=>e),h.sep,h.ring.move hu (fun _ _ e=>e),h.rkF,h.map.still hu,h.mbF,h.mbk,h.rows.upd hu (fun _ _ e=>e),h.ovl,fun i b ov h1 h2=>(h.each i b ov h1 h2).still hu,h.mts.still hu⟩
end
end
end Go.Proofs.YtbhjgfibhegddaaGreat
