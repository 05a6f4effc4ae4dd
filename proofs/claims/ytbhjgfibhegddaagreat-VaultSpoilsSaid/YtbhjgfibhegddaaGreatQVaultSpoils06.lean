/-
  Parts of the proof of VaultSpoils: AesA, AesB, AesC, AesD, AesE.
-/
import Derived.Test.YtbhjgfibhegddaaGreatQVaultSpoils05
set_option maxRecDepth 100000
set_option maxHeartbeats 16000000
namespace Go.Proofs.YtbhjgfibhegddaaGreat
section
open Go Go.RowKit
def fillAt (f:Nat→UInt8) (l:List UInt8) (k:Nat):List UInt8:=(List.range k).map f++l.drop k
theorem fillAt_len (f:Nat→UInt8) (l:List UInt8) (k:Nat) (hk:k≤l.length):(fillAt f l k).length=l.length:=by
 unfold fillAt;rw [List.length_append,List.length_map,List.length_range,List.length_drop];omega
theorem fillAt_get (f:Nat→UInt8) (l:List UInt8) (k:Nat):(fillAt f l k).getD k 0=l.getD k 0:=by
 unfold fillAt;have h1:((List.range k).map f).length=k:=by rw [List.length_map,List.length_range]
 rw [List.getD_eq_getElem?_getD,List.getElem?_append_right oM,h1,Nat.sub_self,List.getElem?_drop,List.getD_eq_getElem?_getD];rfl
theorem fillAt_step (f:Nat→UInt8) (l:List UInt8) (k:Nat) (hk:k<l.length):(fillAt f l k).set k (f k)=fillAt f l (k+1):=by
 unfold fillAt;have h1:((List.range k).map f).length=k:=by rw [List.length_map,List.length_range]
 rw [List.set_append_right _ _ oM,h1,Nat.sub_self,List.range_succ,List.map_append,List.append_assoc,List.drop_eq_getElem_cons hk];rfl
theorem fillAt_all (f:Nat→UInt8) (l:List UInt8) (k:Nat) (hk:l.length=k):fillAt f l k=(List.range k).map f:=by
 unfold fillAt;rw [List.drop_of_length_le oM,List.append_nil]
theorem twB (b:UInt8):bits .xor .u8 ((b.toNat:Int)*2 % 256) ((b.toNat:Int) / 128*27)=((twU b).toNat:Int):=by
 have h:∀x:Fin 256,bits .xor .u8 ((x.val:Int)*2 % 256) ((x.val:Int) / 128*27)=((twU (UInt8.ofNat x.val)).toNat:Int):=by decide +kernel
 have:=h ⟨b.toNat,b.toNat_lt⟩;rw [UInt8.ofNat_toNat] at this;exact this
theorem twice_c (b:UInt8) (w:World):Calls Tryz.prog 272 #[.int .u8 (b.toNat:Int)] w fun e w'=>e=.returned (.int .u8 ((twU b).toNat:Int))∧w=w':=by
 have hb:=b.toNat_lt;have h:=twB b;go_enter Tryz.func272,Tryz.ntmps272
 go_wp2_with fail
 go_ret
 exact ⟨rfl,rfl⟩
theorem rolB (b:UInt8) (r:Nat) (hr:r=1∨r=2∨r=3∨r=4):bits .or .u8 ((b.toNat:Int)*2 ^ r % 256) ((b.toNat:Int) / 2 ^ (8 - r))=((rolU b r).toNat:Int):=by
 have h:∀x:Fin 256,∀r:Fin 4,bits .or .u8 ((x.val:Int)*2 ^ (r.val+1) % 256) ((x.val:Int) / 2 ^ (8 - (r.val+1)))=((rolU (UInt8.ofNat x.val) (r.val+1)).toNat:Int):=by decide +kernel
 have h1:=h ⟨b.toNat,b.toNat_lt⟩;rw [UInt8.ofNat_toNat] at h1;rcases hr with rfl | rfl | rfl | rfl
 ·exact h1 0
 ·exact h1 1
 ·exact h1 2
 ·exact h1 3
theorem rot8_c (b:UInt8) (r:Nat) (hr:r=1∨r=2∨r=3∨r=4) (w:World):Calls Tryz.prog 287 #[.int .u8 (b.toNat:Int),.int .i64 (r:Int)] w fun e w'=>e=.returned (.int .u8 ((rolU b r).toNat:Int))∧w=w':=by
 have hb:=b.toNat_lt;have HR:=Lib.hid (rolB b r hr);have hk:bits .and .u64 (r:Int) 7=(r:Int):=by rcases hr with rfl | rfl | rfl | rfl<;>decide +kernel
 have hk2:IntKind.u64.wrap (8 - (r:Int))=((8 - r:Nat):Int):=by rcases hr with rfl | rfl | rfl | rfl<;>decide +kernel
 have hr8:r<8:=oM;clear hr;go_enter Tryz.func287,Tryz.ntmps287
 go_wp2_with fail
 go_ret
 exact ⟨by rw [← HR.out];rfl,rfl⟩
theorem shlB (q:UInt8) (k:Nat) (hk:k=1∨k=2∨k=4):(q.toNat:Int)*2 ^ k % 256=((q <<< (UInt8.ofNat k)).toNat:Int):=by
 have h:∀x:Fin 256,(x.val:Int)*2 ^ 1 % 256=((UInt8.ofNat x.val <<< (1:UInt8)).toNat:Int)∧(x.val:Int)*2 ^ 2 % 256=((UInt8.ofNat x.val <<< (2:UInt8)).toNat:Int)∧(x.val:Int)*2 ^ 4 % 256=((UInt8.ofNat x.val <<< (4:UInt8)).toNat:Int):=by decide +kernel
 have h1:=h ⟨q.toNat,q.toNat_lt⟩;rw [UInt8.ofNat_toNat] at h1;rcases hk with rfl | rfl | rfl
 ·exact h1.1
 ·exact h1.2.1
 ·exact h1.2.2
theorem mul9B (q:UInt8):(q.toNat:Int) / 128*9=(((q >>> 7)*9).toNat:Int):=by
 have h:∀x:Fin 256,(x.val:Int) / 128*9=(((UInt8.ofNat x.val >>> 7)*9).toNat:Int):=by decide +kernel
 have h1:=h ⟨q.toNat,q.toNat_lt⟩;rw [UInt8.ofNat_toNat] at h1;exact h1
theorem xorZ (a:UInt8) (z:Int) (b:UInt8) (h:z=(b.toNat:Int)):bits .xor .u8 (a.toNat:Int) z=((a ^^^ b).toNat:Int):=by rw [h];exact xorB a b
theorem box_c (w:World):Calls Tryz.prog 271 #[] w fun e w'=>e=.returned (.agg (arrB boxL))∧Upd (fun _=>False) w w':=by
 obtain ⟨g,hg⟩:=eqx w.heap.size;have HG:=Lib.hid hg;go_enter Tryz.func271,Tryz.ntmps271
 go_wp2_with fail
 generalize hw2:World.alloc _ _=w2;have hB2:Blk w2 g 357 (arrB (List.replicate 256 0)):=by rw [← hw2,← hg];exact Blk.new w _ _
 have hU2:Upd (fun _=>False) w w2:=by rw [← hw2];exact (Upd.refl _ w).alloc _
 have HW2:=h2k hB2 hU2;clear hB2 hU2 hw2 hg;go_loopw [1,2,3] (fun a b u wr=>∃(k:Nat),k≤255∧u=.int .i64 (k:Int)∧a=.int .u8 ((boxAt k).p.toNat:Int)∧b=.int .u8 ((boxAt k).q.toNat:Int)∧Blk wr g 357 (arrB (boxAt k).s)∧Upd (fun q=>q=g) w2 wr) (fun _ _ u _=>255 - (intOf u).toNat)
 case atStart=>exact ⟨0,oM,rfl,rfl,rfl,HW2.out.1,Upd.refl _ _⟩
 case round =>
  obtain ⟨k,hk,rfl,rfl,rfl,hB,hu⟩:=hrel;by_cases hlt:k<255
  ·have hsl:=boxAt_len k
   have hnx:boxAt (k+1)=(boxAt k).next:=rfl;obtain ⟨⟨p,q,s⟩,hbk⟩:∃b,boxAt k=b:=⟨_,rfl⟩;rw [hbk] at hB hsl hnx ⊢;simp only at hB hsl ⊢
   have HNX:=Lib.hid hnx;have HB:=h2k hB hu;have hf:=hB.frozen p.toNat;have hcell:∃v,w2.cell? ⟨g,p.toNat,none⟩=some v:=⟨_,HW2.out.1.cellB p.toNat (by rw [List.length_replicate];exact p.toNat_lt)⟩;have hc:=hB.cellB p.toNat (by rw [hsl];exact p.toNat_lt);have hp:(p.toNat:Int)<256:=by have:=p.toNat_lt;omega
   -- the letters
   obtain ⟨r1,hr1⟩:∃r,rolU q 1=r:=⟨_,rfl⟩;obtain ⟨r2,hr2⟩:∃r,rolU q 2=r:=⟨_,rfl⟩;obtain ⟨r3,hr3⟩:∃r,rolU q 3=r:=⟨_,rfl⟩;obtain ⟨r4,hr4⟩:∃r,rolU q 4=r:=⟨_,rfl⟩;obtain ⟨tw,htw⟩:∃r,twU p=r:=⟨_,rfl⟩;have c1:=rot8_c q 1 sM;have c2:=rot8_c q 2 sM;have c3:=rot8_c q 3 sM;have c4:=rot8_c q 4 sM;have c5:=twice_c p;rw [hr1] at c1;rw [hr2] at c2;rw [hr3] at c3;rw [hr4] at c4;rw [htw] at c5;have C1:=Lib.hid c1;have C2:=Lib.hid c2;have C3:=Lib.hid c3;have C4:=Lib.hid c4;have C5:=Lib.hid c5;have HR:=h5k hr1 hr2 hr3 hr4 htw;clear c1 c2 c3 c4 c5 hr1 hr2 hr3 hr4 htw hbk hnx hB hu hsl hcell;obtain ⟨y1,hy1⟩:∃y,q ^^^ r1=y:=⟨_,rfl⟩;obtain ⟨y2,hy2⟩:∃y,y1 ^^^ r2=y:=⟨_,rfl⟩;obtain ⟨y3,hy3⟩:∃y,y2 ^^^ r3=y:=⟨_,rfl⟩;obtain ⟨y4,hy4⟩:∃y,y3 ^^^ r4=y:=⟨_,rfl⟩;obtain ⟨y5,hy5⟩:∃y,y4 ^^^ 99=y:=⟨_,rfl⟩;obtain ⟨p1,hp1⟩:∃y,p ^^^ tw=y:=⟨_,rfl⟩;obtain ⟨q1,hq1⟩:∃y,q ^^^ (q <<< 1)=y:=⟨_,rfl⟩;obtain ⟨q2,hq2⟩:∃y,q1 ^^^ (q1 <<< 2)=y:=⟨_,rfl⟩;obtain ⟨q3,hq3⟩:∃y,q2 ^^^ (q2 <<< 4)=y:=⟨_,rfl⟩;obtain ⟨q4,hq4⟩:∃y,q3 ^^^ ((q3 >>> 7)*9)=y:=⟨_,rfl⟩
   have e1:=xorB q r1;have e2:=xorB y1 r2;have e3:=xorB y2 r3;have e4:=xorB y3 r4;have e5:bits .xor .u8 (y4.toNat:Int) 99=((y4 ^^^ 99).toNat:Int):=xorB y4 99;have e6:=xorB p tw;have e7:bits .xor .u8 (q.toNat:Int) ((q.toNat:Int)*2 % 256)=((q ^^^ (q <<< 1)).toNat:Int):=xorZ q _ _ (shlB q 1 sM);have e8:bits .xor .u8 (q1.toNat:Int) ((q1.toNat:Int)*4 % 256)=((q1 ^^^ (q1 <<< 2)).toNat:Int):=xorZ q1 _ _ (shlB q1 2 sM);have e9:bits .xor .u8 (q2.toNat:Int) ((q2.toNat:Int)*16 % 256)=((q2 ^^^ (q2 <<< 4)).toNat:Int):=xorZ q2 _ _ (shlB q2 4 sM);have e10:bits .xor .u8 (q3.toNat:Int) ((q3.toNat:Int) / 128*9)=((q3 ^^^ ((q3 >>> 7)*9)).toNat:Int):=xorZ q3 _ _ (mul9B q3);rw [hy1] at e1;rw [hy2] at e2;rw [hy3] at e3;rw [hy4] at e4;rw [hy5] at e5;rw [hp1] at e6;rw [hq1] at e7;rw [hq2] at e8;rw [hq3] at e9;rw [hq4] at e10;have b1:=q.toNat_lt;have b2:=q1.toNat_lt;have b3:=q2.toNat_lt;have b4:=q3.toNat_lt;have HY:=Lib.hid (show (⟨p,q,s⟩:BoxM).next=⟨p1,q4,s.set p.toNat y5⟩ by
    obtain ⟨hr1,hr2,hr3,hr4,htw⟩:=HR.out;unfold BoxM.next BoxM.q3 BoxM.q2 BoxM.q1;simp only [hr1,hr2,hr3,hr4,htw,hy1,hy2,hy3,hy4,hy5,hp1,hq1,hq2,hq3,hq4])
   clear hy1 hy2 hy3 hy4 hy5 hp1 hq1 hq2 hq3 hq4;go_wp2_with fail
   refine (C1.out _).mono ?_;rintro e w' ⟨rfl,rfl⟩;go_wp2_with fail
   refine (C2.out _).mono ?_;rintro e w' ⟨rfl,rfl⟩;go_wp2_with fail
   refine (C3.out _).mono ?_;rintro e w' ⟨rfl,rfl⟩;go_wp2_with fail
   refine (C4.out _).mono ?_;rintro e w' ⟨rfl,rfl⟩;go_wp2_with fail
   refine (C5.out _).mono ?_;rintro e w' ⟨rfl,rfl⟩;go_wp2_with fail
   go_roundw
   case rel =>
    refine ⟨k+1,oM,by go_num,?_,?_,?_,HB.out.2.setCell (.inl rfl) _⟩
    ·rw [HNX.out,HY.out]
    ·rw [HNX.out,HY.out]
    ·rw [HNX.out,HY.out]
     exact HB.out.1.setB _ _
   case measure=>simp [intOf]<;>omega
  ·obtain rfl:k=255:=oM
   have e255:((255:Nat):Int)=255:=rfl;rw [e255];have hB2:=hB.setB 0 0x63;rw [show (boxAt 255).s.set 0 0x63=boxL from rfl] at hB2;have hl:=boxL_len;have hf:=hB.frozen 0;have hc:=hB.cellB 0 (by rw [boxAt_len];omega);have hb99:Blk (wr.setCell ⟨g,0,none⟩ (.int .u8 99)) g 357 (arrB boxL):=hB2;have HU:=Lib.hid (hu.setCell (p:=⟨g,0,none⟩) (.inl rfl) (.int .u8 99));have HB2:=h2k hb99 hl;clear hB2 hb99 hl hB hu e255 hlt hk;go_wp2_with (first
    | (show wpList _ _ _ (⟨none,Op.store _ _ (.tmp _),_,_,_,_⟩::_) _ _
       refine wpList_store_all rfl 357 _ _ rfl g (arrB boxL) rfl rfl 357 _ HB2.out.1 rfl (arrB_one _) (by rw [arrB_size,HB2.out.2];kernel_rfl) ?_
       intro w14 hB14 hU14 hz14)
    | (refine wlx _ g HB2.out.1 Tryz.underlying357 (by rw [arrB_size,HB2.out.2];kernel_rfl) ?_))
   refine bodyPost_ret (results_cell_row rfl _ _ g _ _ _ _ rfl hB14 Tryz.underlying357 rfl (by rw [arrB_size,HB2.out.2];kernel_rfl)) rfl ⟨rfl,(HW2.out.2.then HU.out (fun q hq=>.inr (oN HG.out))).then hU14 (fun q hq=>.inr (oN HG.out))⟩
theorem fold_set (off:Nat):∀(vs:List Value) (n:Nat) (cells:Array Value),off+n+vs.length≤cells.size →
 (vs.zipIdx n).foldl (fun (cs:Array Value) p=>cs.setIfInBounds (off+p.2) p.1) cells=(cells.toList.take (off+n)++vs++cells.toList.drop (off+n+vs.length)).toArray
 | [],n,cells,h=>by simp
 | v::r,n,cells,h=>by
   rw [List.length_cons] at h;rw [List.zipIdx_cons,List.foldl_cons,fold_set off r (n+1) _ (by rw [Array.size_setIfInBounds];omega)];have e:=list_seg_step cells.toList (off+n) v r (by rw [Array.length_toList];omega);rw [Array.toList_setIfInBounds];rw [show off+(n+1)=off+n+1 by omega];rw [show off+n+(v::r).length=off+n+(r.length+1) by rw [List.length_cons]];rw [← e]
theorem built_cipher (l:List UInt8) (hl:l.length=256):Tryz.prog.built 361 [(1,.agg (arrB l))]=some (arrB (List.replicate 240 0++l)):=by
 obtain ⟨it,hit⟩:∃it,Tryz.prog.info? 361=some it:=Option.isSome_iff_exists.1 kR;have hz:it.zero=some (.agg (arrB (List.replicate 496 0))):=by
  have h:(Tryz.prog.info? 361).bind (·.zero)=some (.agg (arrB (List.replicate 496 0))):=kR;rw [hit] at h;exact h
 unfold Program.built;rw [hit,Tryz.underlying361];simp only [hz];rw [show List.mapM (m:=Option) _ _=some [(0,240),(240,256)] from by kernel_rfl];simp only [Instr.fill];show (if (decide ((arrB l).size≠256) || decide (240+(arrB l).size > (arrB (List.replicate 496 0)).size))=true then none else some (Array.foldl (fun cs x=>cs.setIfInBounds (240+x.snd) x.fst) (arrB (List.replicate 496 0)) (arrB l).zipIdx))=_;rw [if_neg (by rw [arrB_size,arrB_size,hl,List.length_replicate];decide)]
 congr 1
 rw [← Array.foldl_toList,Array.toList_zipIdx];have h:=fold_set 240 (bytesV l) 0 (arrB (List.replicate 496 0)) (by rw [bytesV_len,hl,arrB_size,List.length_replicate];omega);refine Eq.trans h ?_;unfold arrB;congr 1
 rw [bytesV_len,hl,bytesV_app];show List.take 240 (bytesV (List.replicate 496 0))++bytesV l++List.drop 496 (bytesV (List.replicate 496 0))=_;rw [List.drop_of_length_le (by rw [bytesV_len,List.length_replicate];omega),List.append_nil];unfold bytesV;rw [← List.map_take,List.take_replicate];rfl
theorem copy_first {w:World} {g off n cap b o m c:Nat} {T:TypeId} {l0 l:List UInt8} (hB:Blk w g T (arrB l0)) (hn:n≤m) (hl:l.length=n) (hc:∀i,i<n→w.cell? ⟨b,o+i,none⟩=some (.int .u8 ((l.getD i 0).toNat:Int))) (hf:off+n≤l0.length) :
 ∃W r,(Builtin.copy_ #[89,89] 3 #[.slice (some ⟨g,off,none⟩) n cap,.slice (some ⟨b,o,none⟩) m c]).run Tryz.prog w=.ok r W∧Blk W g T (arrB (l0.take off++l++l0.drop (off+n)))∧Upd (· = g) w W∧W.heap.size=w.heap.size:=by
 have hrun:=run_copy_row (P:=Tryz.prog) w 89 89 3 5 g off n cap ⟨b,o,none⟩ m c (arrB l0) T (bytesV l) Tryz.underlying89 kR hB (by rw [bytesV_len,hl];exact (Nat.min_eq_right hn).symm) (fun j u e=>by
  have hj:j<l.length:=by have:=(List.getElem?_eq_some_iff.1 e).1;simpa [bytesV] using this
  rw [Addr.add_mid,hc j oM,← e];simp [bytesV,hj]) (by rw [bytesV_len,arrB_size];omega) (bytesV_one _)
 refine ⟨_,_,hrun,?_,Upd.setRow_ _ _ _,by simp [World.setRow]⟩;have e:((arrB l0).toList.take off++bytesV l++(arrB l0).toList.drop (off+(bytesV l).length)).toArray=arrB (l0.take off++l++l0.drop (off+n)):=by
  rw [bytesV_len,hl];simp [arrB,bytesV,List.map_take,List.map_drop]
 rw [e];exact hB.setRow _
def layB (V B:List UInt8):List UInt8:=V++List.replicate (240 - V.length) 0++B
theorem layB_len (V B:List UInt8) (h:V.length≤240):(layB V B).length=240+B.length:=by
 unfold layB;rw [List.length_append,List.length_append,List.length_replicate];omega
theorem layB_put (V x B:List UInt8) (n:Nat) (hn:V.length=n) (h:n+x.length≤240):(layB V B).take n++x++(layB V B).drop (n+x.length)=layB (V++x) B:=by
 subst hn;unfold layB;simp only [List.append_assoc];rw [List.take_left,List.drop_append,List.drop_of_length_le oM,List.nil_append,Nat.add_sub_cancel_left,List.drop_append_of_le_length (by rw [List.length_replicate];omega),List.drop_replicate,List.length_append,show 240 - V.length - x.length=240 - (V.length+x.length) by omega]
theorem layB_set (V B:List UInt8) (b:UInt8) (n:Nat) (hn:V.length=n) (h:n<240):(layB V B).set n b=layB (V++[b]) B:=by
 subst hn;unfold layB;obtain ⟨m,hm⟩:∃m,240 - V.length=m+1:=⟨240 - V.length - 1,oM⟩;rw [List.append_assoc,List.set_append_right _ _ (Nat.le_refl _),Nat.sub_self,hm,List.replicate_succ,List.cons_append,List.set_cons_zero,List.length_append,List.length_singleton,show 240 - (V.length+1)=m by omega];simp
theorem layB_get (V B:List UInt8) (i:Nat) (h:i<V.length):(layB V B).getD i 0=V.getD i 0:=by
 unfold layB;rw [List.append_assoc,List.getD_eq_getElem?_getD,List.getElem?_append_left h,List.getD_eq_getElem?_getD]
theorem layB_box (V B:List UInt8) (hV:V.length≤240) (i:Nat):(layB V B).getD (240+i) 0=B.getD i 0:=by
 unfold layB;have h1:(V++List.replicate (240 - V.length) (0:UInt8)).length=240:=by rw [List.length_append,List.length_replicate];omega
 rw [List.getD_eq_getElem?_getD,List.getElem?_append_right oM,h1,Nat.add_sub_cancel_left,List.getD_eq_getElem?_getD]
theorem sched_tail {P:Prop} (h:P:=by
 go_wp2_with fail
 go_loopw [9,77] (fun _ u w'=>∃k:Nat,k≤4∧u=.int .i64 (k:Int)∧Blk w' gt 82 (arrB T)∧Blk w' c 361 (arrB (layB (V++(List.range k).map (fun k=>V.getD (4*n+k) 0 ^^^ T.getD k 0)) B))∧Upd (· = c) w3 w') (fun _ u _=>4 - (intOf u).toNat)
 case atStart=>exact ⟨0,oM,rfl,HT.out.1,by simpa using HT.out.2.1,HT.out.2.2.1⟩
 case round =>
  obtain ⟨k,hk,rfl,hBk,hCk,hUk⟩:=hrel;by_cases hlt:k<4
  ·obtain ⟨hi,hm⟩:=HI.out
   have hVl:=HB.out.2.2.1;have hTl:=HT.out.2.2.2.1;have hUl:(V++(List.range k).map (fun k=>V.getD (4*n+k) 0 ^^^ T.getD k 0)).length=i*4+k:=by rw [List.length_append,List.length_map,List.length_range];omega
   have hc1:=hBk.cellB k oM;have hc2:=hCk.cellB (n*4+k) (by rw [layB_len _ _ oM];omega);rw [layB_get _ _ _ oM,show n*4+k=4*n+k by omega,List.getD_eq_getElem?_getD,List.getElem?_append_left oM,← List.getD_eq_getElem?_getD] at hc2;rw [show 4*n+k=n*4+k by omega] at hc2;have hc3:=hCk.cellB (i*4+k) (by rw [layB_len _ _ oM,HK.out.2.2.2];omega);have hst:=layB_set (V++(List.range k).map (fun k=>V.getD (4*n+k) 0 ^^^ T.getD k 0)) B (V.getD (4*n+k) 0 ^^^ T.getD k 0) (i*4+k) hUl oM;rw [List.append_assoc,show (List.range k).map (fun k=>V.getD (4*n+k) 0 ^^^ T.getD k 0)++[V.getD (4*n+k) 0 ^^^ T.getD k 0]=(List.range (k+1)).map (fun k=>V.getD (4*n+k) 0 ^^^ T.getD k 0) by rw [List.range_succ,List.map_append];rfl,show 4*n+k=n*4+k by omega] at hst
   obtain ⟨x,hx⟩:=eqx (V.getD (n*4+k) 0);obtain ⟨y,hy⟩:=eqx (T.getD k 0);rw [hx] at hc2 hst;rw [hy] at hc1 hst;obtain ⟨z,hz⟩:=eqx (x ^^^ y);have hxy:=xorB x y;rw [hz] at hxy hst;obtain ⟨old,hold⟩:=eqx ((layB (V++(List.range k).map (fun k=>V.getD (4*n+k) 0 ^^^ T.getD k 0)) B).getD (i*4+k) 0);rw [hold] at hc3;have hf:=hCk.frozen (i*4+k);have j7:(k:Int)<4:=oM;have j9:(n:Int)<60:=oM;have HBk:=h4k hBk hCk hUk hst;have j6:IntKind.i64.wrap ((i:Int) - 8)=(n:Int):=by rw [IntWalk.i64_in _ oM];omega
   clear hBk hCk hUk hst hx hy hz hold hVl hTl hUl hi hm;go_wp2_with fail
   go_still_tail 20,kR
   change wpList _ _ _ _ _ (World.drew _);go_wp2_with fail
   clear j6;go_roundw
   case rel =>
    refine ⟨k+1,oM,by go_num,?_,?_,?_⟩
    ·exact (HBk.out.1.far (p:=⟨c,i*4+k,none⟩) HQ.out.2.2.2.2 _).drew
    ·rw [← HBk.out.2.2.2];exact (HBk.out.2.1.setB (i*4+k) z).drew
    ·exact (HBk.out.2.2.1.setCell (p:=⟨c,i*4+k,none⟩) (.inl rfl) _).drew
   case measure=>simp [intOf]<;>omega
  ·obtain rfl:k=4:=oM
   have e4:((4:Nat):Int)=4:=rfl;rw [e4];have hnx:=HT.out.2.2.2.2;have hfin:(schedAt key (n+1)).1=V++(List.range 4).map (fun k=>V.getD (4*n+k) 0 ^^^ T.getD k 0):=by rw [hnx]
   rw [← hfin] at hCk;have hpw:=congrArg Prod.snd hnx;have HF:=h3k hCk hUk hpw;have HJ:=Lib.hid (show (i:Int)+1=((n+1+8:Nat):Int) by have:=HI.out.1;omega);clear hBk hCk hUk hnx hfin hpw e4 hlt hk;go_wp2_with fail
   go_roundw
   case rel=>exact ⟨n+1,oM,by rw [← HJ.out],by rw [HF.out.2.2],HF.out.2.1,HF.out.1⟩
   case measure=>simp [intOf]<;>omega):P:=h
theorem zz4 {P:Prop} (h:P:=by
 rw [hx] at hc1 hst;have hxl:=x.toNat_lt;have hVl:=HB.out.2.2.1;have hc2:=hCk.cellB (240+x.toNat) (by rw [layB_len _ _ oM,HK.out.2.2.2];omega);rw [layB_box _ _ oM] at hc2;obtain ⟨y,hy⟩:=eqx (B.getD x.toNat 0);rw [hy] at hc2;simp only [hy] at hst;have hf:=hBk.frozen k;have j7:(k:Int)<4:=oM;have j8:(x.toNat:Int)<256:=oM;have HBk:=h4k hBk hCk hUk hst;clear hBk hCk hUk hst hx hy hVl hxl j1 j5;go_wp2_with fail
 go_still_tail 10,kR
 change wpList _ _ _ _ _ (World.drew _);go_wp2_with fail
 go_roundw
 case rel =>
  refine ⟨k+1,oM,by go_num,?_,?_,?_⟩
  ·rw [← HBk.out.2.2.2];exact (HBk.out.1.setB k y).drew
  ·exact (HBk.out.2.1.far (p:=⟨gt,k,none⟩) (fun e=>HQ.out.2.2.2.2 e.symm) _).drew
  ·exact (HBk.out.2.2.1.setCell (p:=⟨gt,k,none⟩) (.inr HQ.out.2.2.2.1) _).drew
 case measure=>simp [intOf]<;>omega):P:=h
theorem schedule_c (key:List UInt8) (hk:key.length=32) (w:World) :
 Calls Tryz.prog 245 #[.agg (arrB key)] w fun e w'=>∃c,e=.returned (.pointer (some ⟨c,0,none⟩))∧Blk w' c 361 (arrB (schedL key++boxL))∧w.heap.size≤c∧Upd (fun _=>False) w w':=by
 obtain ⟨S,hS⟩:=eqx (schedL key);obtain ⟨B,hB⟩:=eqx boxL;have hbc:=fun W=>box_c W
 rw [hB] at hbc;rw [hS,hB];have hBl:B.length=256:=by rw [← hB];exact boxL_len
 have hbu:=built_cipher B hBl;have HBC:=Lib.hid hbc;have HBU:=Lib.hid hbu;have HK:=h4k hk hS hB hBl;obtain ⟨g,hg⟩:=eqx w.heap.size;have HG:=Lib.hid hg;clear hbc hbu hk hS hB hBl;go_enter Tryz.func245,Tryz.ntmps245
 go_wp2_with fail
 generalize hw1:World.alloc _ _=w1;have hB1:Blk w1 g 194 (arrB key):=by rw [← hw1,← hg];exact Blk.new w _ _
 have hU1:Upd (fun _=>False) w w1:=by rw [← hw1];exact (Upd.refl _ w).alloc _
 have HW1:=h2k hB1 hU1;clear hB1 hU1 hw1 hg;refine (HBC.out w1).mono ?_;rintro e w2 ⟨rfl,hU2⟩;have HU2:=Lib.hid hU2;clear hU2;go_wp2_with (first
  | (show wpList _ _ _ (⟨_,Op.build _ _,_,_,_,_⟩::_) _ _
     refine wpList_build_is rfl _ _ rfl [(1,.agg (arrB B))] _ kR HBU.out ?_))
 obtain ⟨c,hc⟩:=eqx w2.heap.size;have HC:=Lib.hid hc;rw [hc];generalize hw3:World.alloc _ _=w3;have hB3:Blk w3 c 361 (arrB (List.replicate 240 0++B)):=by rw [← hw3,← hc];exact Blk.new w2 _ _
 have hU3:Upd (fun _=>False) w2 w3:=by rw [← hw3];exact (Upd.refl _ w2).alloc _
 have hkb:Blk w3 g 194 (arrB key):=HW1.out.1.upd (HU2.out.then hU3 wz0) (fun e=>e);have hgc:g<c:=by rw [← hc];exact Nat.lt_of_lt_of_le HW1.out.1.lt HU2.out.size
 have HW3:=h3k hB3 ((HW1.out.2.then HU2.out wz0).then hU3 wz0) hkb;clear hB3 hU3 hkb hw3 hc;go_loopw [4,13] (fun _ u wr=>∃k:Nat,k≤8∧u=.int .i64 (k:Int)∧Upd (· = c) w3 wr∧Blk wr c 361 (arrB (layB (key.take (4*k)) B))) (fun _ u _=>8 - (intOf u).toNat)
 case atStart=>exact ⟨0,oM,rfl,Upd.refl _ _,HW3.out.1⟩
 case round =>
  obtain ⟨k,hk,rfl,hu,hB⟩:=hrel;by_cases hlt:k<8
  ·have HB:=h2k hu hB
   have hkb:=HW3.out.2.2.upd hu (fun e=>by omega);have HKB:=Lib.hid hkb;obtain ⟨q,hq⟩:=eqx (4*k);have HQ:=Lib.hid hq;have i1:(q:Int)≤32:=oM;have i0:(0:Int)≤(q:Int):=oM;have i2:q<32:=oM;have i3:¬32=q:=oM;have i5:(k:Int)<60:=oM;have i4:IntKind.i64.wrap (4*(k:Int))=(q:Int):=by rw [IntWalk.i64_in _ oM];omega
   clear hu hB hkb hq;go_wp2_with fail
   go_still_tail 9,kR
   change wpList _ _ _ _ _ wr.drew;go_wp2_with fail
   clear i4;have hkl:=HK.out.1;have hq:=HQ.out;have hl4:((key.drop q).take 4).length=4:=by rw [List.length_take,List.length_drop];omega
   have htl:(key.take (4*k)).length=4*k:=by rw [List.length_take];omega
   obtain ⟨W,r,hcp,hB4,hU4,hz4⟩:=copy_first (off:=k*4) (n:=4) (cap:=4) (b:=g) (o:=q) (m:=32 - q) (c:=32 - q) (l:=(key.drop q).take 4) HB.out.2.drew oM hl4 (fun i hi=>by
    rw [World.cell?_drew,HKB.out.cellB (q+i) oM];simp [List.getD_eq_getElem?_getD,hi]) (by rw [layB_len _ _ oM];omega)
   have hput:=layB_put (key.take (4*k)) ((key.drop q).take 4) B (k*4) oM oM;rw [hl4] at hput;rw [hput] at hB4;have htk:key.take (4*k)++(key.drop q).take 4=key.take (4*(k+1)):=by
    rw [← hq,show 4*(k+1)=4*k+4 by omega,List.take_add]
   rw [htk] at hB4;have HB4:=h2k hB4 (HB.out.1.drew.then hU4 (fun q hq=>.inl hq));rw [hcp];clear hkl hq hl4 htl hcp hB4 hU4 hz4 hput htk;go_wp2_with fail
   go_roundw
   case rel=>exact ⟨k+1,oM,by go_num,HB4.out.2,HB4.out.1⟩
   case measure=>simp [intOf]<;>omega
  ·obtain rfl:k=8:=oM
   have e8:((8:Nat):Int)=8:=rfl;rw [e8];have hkl:=HK.out.1;rw [List.take_of_length_le oM] at hB;have hsl:∀n,(schedAt key n).1.length=32+4*n:=schedAt_len hkl;have HSL:=Lib.hid hsl;have HB:=h2k hu hB;clear hu hB hkl hlt hk e8 hsl;go_wp2_with fail
   go_loopw [5,6] (fun p u wr=>∃n:Nat,n≤52∧u=.int .i64 ((n+8:Nat):Int)∧p=.int .u8 ((schedAt key n).2.toNat:Int)∧Upd (· = c) w3 wr∧Blk wr c 361 (arrB (layB (schedAt key n).1 B))) (fun _ u _=>60 - (intOf u).toNat)
   case atStart=>exact ⟨0,oM,rfl,rfl,HB.out.1,HB.out.2⟩
   case round =>
    clear HB;obtain ⟨n,hn,rfl,rfl,hu,hB⟩:=hrel;by_cases hlt:n<52
    ·have hWl:=HSL.out n
     have hnx:schedAt key (n+1)=((schedAt key n).1++(List.range 4).map (fun k=>(schedAt key n).1.getD (4*n+k) 0 ^^^ (wordK (n+8) (schedAt key n).2 ((schedAt key n).1.drop (4*(n+7)))).getD k 0),if (n+8) % 8=0 then twU (schedAt key n).2 else (schedAt key n).2):=rfl;obtain ⟨⟨V,pw⟩,hVp⟩:∃V,schedAt key n=V:=⟨_,rfl⟩;rw [hVp] at hWl hnx hB ⊢;simp only at hWl hnx hB ⊢
     have hl4:(V.drop (4*(n+7))).length=4:=by rw [List.length_drop];omega
     obtain ⟨t0,t1,t2,t3,hT⟩:∃a b c d,V.drop (4*(n+7))=[a,b,c,d]:=by
      match V.drop (4*(n+7)),hl4 with
      | [a,b,c,d],_=>exact ⟨a,b,c,d,rfl⟩
     rw [hT] at hnx;have hgt:∀j,j<4→V.getD (4*(n+7)+j) 0=[t0,t1,t2,t3].getD j 0:=fun j hj=>by
      rw [← hT,List.getD_eq_getElem?_getD,List.getD_eq_getElem?_getD,List.getElem?_drop]
     have HB:=h5k hu hB hWl hgt hnx;obtain ⟨i,hi⟩:=eqx (n+8);obtain ⟨m,hm⟩:=eqx (n+7);have HI:=h2k hi hm;rw [hi];have j1:IntKind.i64.wrap ((i:Int) - 1)=(m:Int):=by rw [IntWalk.i64_in _ oM];omega
     have j2:(m:Int)<60:=oM;have j3:(i:Int)<60:=oM;have j5:((i:Int) - 1)=(m:Int):=oM;clear hu hB hWl hgt hnx hVp hT hl4 hi hm;have hpt:∀j v,([.int .u8 (t0.toNat:Int),.int .u8 (t1.toNat:Int),.int .u8 (t2.toNat:Int),.int .u8 (t3.toNat:Int)]:List Value)[j]? = some v→(arrB (layB V B))[m*4+j]? = some v:=fun j v e=>by
      obtain ⟨hi,hm⟩:=HI.out;have hWl:=HB.out.2.2.1;have hj:j<4:=by have:=(List.getElem?_eq_some_iff.1 e).1;simpa using this
      rw [arrB_get _ _ (by rw [layB_len _ _ oM];omega),layB_get _ _ _ oM,show m*4+j=4*(n+7)+j by omega,HB.out.2.2.2.1 j hj,← e];match j,hj with
      | 0,_=>rfl
      | 1,_=>rfl
      | 2,_=>rfl
      | 3,_=>rfl
     have HPT:=Lib.hid hpt;clear hpt;by_cases h8:i % 8=0
     ·
      --#a {
      have k1:((i:Int) % 8 == 0)=true:=by simp;omega
      have k2:((i:Int) % 4 == 0)=true:=by simp;omega
      go_wp2_with (first
       | (refine wpList_load_part rfl _ _ rfl c (m*4) rfl _ _ [.int .u8 (t0.toNat:Int),.int .u8 (t1.toNat:Int),.int .u8 (t2.toNat:Int),.int .u8 (t3.toNat:Int)] _ HB.out.2.1 HPT.out Tryz.underlying82 rfl kR ?_))
      obtain ⟨gt,hgt⟩:=eqx wr.heap.size;rw [hgt];generalize hwq:World.alloc _ _=wq;have hBq:Blk wq gt 82 (arrB [t1,t2,t3,t0]):=by rw [← hwq,← hgt];exact Blk.new wr _ _
      have hCq:Blk wq c 361 (arrB (layB V B)):=by rw [← hwq];exact HB.out.2.1.alloc _
      have hUq:Upd (· = c) w3 wq:=by rw [← hwq];exact HB.out.1.alloc _
      have hgl:w3.heap.size≤gt:=by rw [← hgt];exact HB.out.1.size
      have hne:gt≠c:=fun e=>by have h1:=HB.out.2.1.lt;omega
      have HQ:=h5k hBq hCq hUq hgl hne;clear hwq hBq hCq hUq hgl hne hgt;go_loopw [8,53] (fun _ u w'=>∃k:Nat,k≤4∧u=.int .i64 (k:Int)∧Blk w' gt 82 (arrB (mapAt (fun b=>B.getD b.toNat 0) [t1,t2,t3,t0] k))∧Blk w' c 361 (arrB (layB V B))∧Upd (· = c) w3 w') (fun _ u _=>4 - (intOf u).toNat)
      case atStart=>exact ⟨0,oM,rfl,HQ.out.1,HQ.out.2.1,HQ.out.2.2.1⟩
      case round =>
       obtain ⟨k,hk,rfl,hBk,hCk,hUk⟩:=hrel;by_cases hlt:k<4
       ·have hc1:=hBk.cellB k (by rw [mapAt_len];exact hlt)
        rw [mapAt_get _ _ _ (by exact hlt)] at hc1;have hst:=mapAt_step (fun b=>B.getD b.toNat 0) [t1,t2,t3,t0] k (by exact hlt);obtain ⟨x,hx⟩:=eqx ([t1,t2,t3,t0].getD k 0);exact zz4
       ·obtain rfl:k=4:=oM
        have e4:((4:Nat):Int)=4:=rfl;rw [e4];rw [show mapAt (fun b=>B.getD b.toNat 0) [t1,t2,t3,t0] 4=[t1,t2,t3,t0].map (fun b=>B.getD b.toNat 0) from mapAt_all _ [t1,t2,t3,t0]] at hBk;clear e4 hlt hk;have hc0:=hBk.cellB 0 (by show 0<4;omega);have hf0:=hBk.frozen 0;have hx0:=xorB (B.getD t1.toNat 0) pw;have HTW:=Lib.hid (fun W=>twice_c pw W);obtain ⟨a0,ha0⟩:∃a,B.getD t1.toNat 0=a:=⟨_,rfl⟩;rw [show ([t1,t2,t3,t0].map (fun b=>B.getD b.toNat 0)).getD 0 0=a0 from ha0] at hc0;rw [ha0] at hx0;obtain ⟨z0,hz0⟩:∃z,a0 ^^^ pw=z:=⟨_,rfl⟩;rw [hz0] at hx0;have HS:=h5k hBk hCk hUk ha0 hz0;clear hBk hCk hUk ha0 hz0;go_wp2_with fail
        refine (HTW.out _).mono ?_;rintro e w9 ⟨rfl,rfl⟩;have hBT:=HS.out.1.setB 0 z0;have hCT:=HS.out.2.1.far (p:=⟨gt,0,none⟩) (fun e=>HQ.out.2.2.2.2 e.symm) (.int .u8 (z0.toNat:Int));have hUT:=HS.out.2.2.1.setCell (p:=⟨gt,0,none⟩) (.inr HQ.out.2.2.2.1) (.int .u8 (z0.toNat:Int));rw [show ([t1,t2,t3,t0].map fun b=>B.getD b.toNat 0).set 0 z0=[z0,B.getD t2.toNat 0,B.getD t3.toNat 0,B.getD t0.toNat 0] from rfl] at hBT;obtain ⟨hax,hzx⟩:=HS.out.2.2.2;clear HS hc0 hf0 hx0;have hWl:=HB.out.2.2.1;obtain ⟨T,hT⟩:=eqx ([z0,B.getD t2.toNat 0,B.getD t3.toNat 0,B.getD t0.toNat 0]);rw [hT] at hBT;have hTl:T.length=4:=by rw [← hT];rfl
        have hnx:schedAt key (n+1)=(V++(List.range 4).map (fun k=>V.getD (4*n+k) 0 ^^^ T.getD k 0),twU pw):=by
         obtain ⟨hi,hm⟩:=HI.out;rw [HB.out.2.2.2.2,← hT];have hBx:=HK.out.2.2.1;subst hi;unfold wordK;simp only [hBx];rw [if_pos h8,if_pos h8,if_pos (by omega:(n+8) % 4=0),if_pos h8,← hzx,← hax];rfl
        have HT:=h5k hBT hCT hUT hTl hnx;clear hBT hCT hUT hTl hnx hT hWl j1 j5;exact sched_tail
      --#a }
     ·have k1:((i:Int) % 8 == 0)=false:=by simp;omega
      by_cases h4:i % 4=0
      ·
       --#b {
       have k2:((i:Int) % 4 == 0)=true:=by simp;omega
       go_wp2_with (first
        | (refine wpList_load_part rfl _ _ rfl c (m*4) rfl _ _ [.int .u8 (t0.toNat:Int),.int .u8 (t1.toNat:Int),.int .u8 (t2.toNat:Int),.int .u8 (t3.toNat:Int)] _ HB.out.2.1 HPT.out Tryz.underlying82 rfl kR ?_))
       obtain ⟨gt,hgt⟩:=eqx wr.heap.size;rw [hgt];generalize hwq:World.alloc _ _=wq;have hBq:Blk wq gt 82 (arrB [t0,t1,t2,t3]):=by rw [← hwq,← hgt];exact Blk.new wr _ _
       have hCq:Blk wq c 361 (arrB (layB V B)):=by rw [← hwq];exact HB.out.2.1.alloc _
       have hUq:Upd (· = c) w3 wq:=by rw [← hwq];exact HB.out.1.alloc _
       have hgl:w3.heap.size≤gt:=by rw [← hgt];exact HB.out.1.size
       have hne:gt≠c:=fun e=>by have h1:=HB.out.2.1.lt;omega
       have HQ:=h5k hBq hCq hUq hgl hne;clear hwq hBq hCq hUq hgl hne hgt;go_loopw [8,53] (fun _ u w'=>∃k:Nat,k≤4∧u=.int .i64 (k:Int)∧Blk w' gt 82 (arrB (mapAt (fun b=>B.getD b.toNat 0) [t0,t1,t2,t3] k))∧Blk w' c 361 (arrB (layB V B))∧Upd (· = c) w3 w') (fun _ u _=>4 - (intOf u).toNat)
       case atStart=>exact ⟨0,oM,rfl,HQ.out.1,HQ.out.2.1,HQ.out.2.2.1⟩
       case round =>
        obtain ⟨k,hk,rfl,hBk,hCk,hUk⟩:=hrel;by_cases hlt:k<4
        ·have hc1:=hBk.cellB k (by rw [mapAt_len];exact hlt)
         rw [mapAt_get _ _ _ (by exact hlt)] at hc1;have hst:=mapAt_step (fun b=>B.getD b.toNat 0) [t0,t1,t2,t3] k (by exact hlt);obtain ⟨x,hx⟩:=eqx ([t0,t1,t2,t3].getD k 0);exact zz4
        ·obtain rfl:k=4:=oM
         have e4:((4:Nat):Int)=4:=rfl;rw [e4];rw [show mapAt (fun b=>B.getD b.toNat 0) [t0,t1,t2,t3] 4=[t0,t1,t2,t3].map (fun b=>B.getD b.toNat 0) from mapAt_all _ [t0,t1,t2,t3]] at hBk;clear e4 hlt hk;have hBT:=hBk;have hCT:=hCk;have hUT:=hUk;clear hBk hCk hUk;have hWl:=HB.out.2.2.1;obtain ⟨T,hT⟩:=eqx ([t0,t1,t2,t3].map fun b=>B.getD b.toNat 0);rw [hT] at hBT;have hTl:T.length=4:=by rw [← hT];rfl
         have hnx:schedAt key (n+1)=(V++(List.range 4).map (fun k=>V.getD (4*n+k) 0 ^^^ T.getD k 0),pw):=by
          obtain ⟨hi,hm⟩:=HI.out;rw [HB.out.2.2.2.2,← hT];have hBx:=HK.out.2.2.1;subst hi;unfold wordK;simp only [hBx];rw [if_neg h8,if_neg h8,if_pos (by omega:(n+8) % 4=0),if_neg h8]
         have HT:=h5k hBT hCT hUT hTl hnx;clear hBT hCT hUT hTl hnx hT hWl j1 j5;exact sched_tail
       --#b }
      ·
       --#c {
       have k2:((i:Int) % 4 == 0)=false:=by simp;omega
       go_wp2_with (first
        | (refine wpList_load_part rfl _ _ rfl c (m*4) rfl _ _ [.int .u8 (t0.toNat:Int),.int .u8 (t1.toNat:Int),.int .u8 (t2.toNat:Int),.int .u8 (t3.toNat:Int)] _ HB.out.2.1 HPT.out Tryz.underlying82 rfl kR ?_))
       obtain ⟨gt,hgt⟩:=eqx wr.heap.size;rw [hgt];generalize hwq:World.alloc _ _=wq;have hBq:Blk wq gt 82 (arrB [t0,t1,t2,t3]):=by rw [← hwq,← hgt];exact Blk.new wr _ _
       have hCq:Blk wq c 361 (arrB (layB V B)):=by rw [← hwq];exact HB.out.2.1.alloc _
       have hUq:Upd (· = c) w3 wq:=by rw [← hwq];exact HB.out.1.alloc _
       have hgl:w3.heap.size≤gt:=by rw [← hgt];exact HB.out.1.size
       have hne:gt≠c:=fun e=>by have h1:=HB.out.2.1.lt;omega
       have HQ:=h5k hBq hCq hUq hgl hne;clear hwq hBq hCq hUq hgl hne hgt;have hBT:=HQ.out.1;have hCT:=HQ.out.2.1;have hUT:=HQ.out.2.2.1;have hWl:=HB.out.2.2.1;obtain ⟨T,hT⟩:=eqx ([t0,t1,t2,t3]);rw [hT] at hBT;have hTl:T.length=4:=by rw [← hT];rfl
       have hnx:schedAt key (n+1)=(V++(List.range 4).map (fun k=>V.getD (4*n+k) 0 ^^^ T.getD k 0),pw):=by
        obtain ⟨hi,hm⟩:=HI.out;rw [HB.out.2.2.2.2,← hT];have hBx:=HK.out.2.2.1;subst hi;unfold wordK;simp only [hBx];rw [if_neg h8,if_neg h8,if_neg (by omega:¬(n+8) % 4=0),if_neg h8]
       have HT:=h5k hBT hCT hUT hTl hnx;clear hBT hCT hUT hTl hnx hT hWl j1 j5;exact sched_tail
       --#c }
    ·obtain rfl:n=52:=oM
     have e60:((52+8:Nat):Int)=60:=rfl;have hWl:=HSL.out 52;have hfin:layB (schedAt key 52).1 B=S++B:=by
      unfold layB;rw [hWl,← HK.out.2.1,show 240 - (32+4*52)=0 from rfl,List.replicate_zero,List.append_nil];rfl
     rw [hfin] at hB;rw [e60];clear hfin hWl e60 hlt hn;go_wp2_with fail
     go_ret
     exact ⟨c,rfl,hB,by have:=HG.out;omega,HW3.out.2.1.then hu (fun q hq=>.inr (oN HG.out))⟩
theorem zz23 {P:Prop} (h:P:=by
 have h:=Blk.new (w.alloc (.cells (arrB b) 339)) 339 (arrB (List.replicate 16 0));rw [World.size_alloc,hg] at h;rw [← hw2];exact h):P:=h
theorem addk_c {w:World} {c:Nat} {W B:List UInt8} (hC:Blk w c 361 (arrB (W++B))) (hW:W.length=240) (b:List UInt8) (hb:b.length=16) (r:Nat) (hr:r≤14) :
 Calls Tryz.prog 273 #[.pointer (some ⟨c,0,none⟩),.agg (arrB b),.int .i64 (r:Int)] w fun e w'=>e=.returned (.agg (arrB (addK W b r)))∧Upd (fun _=>False) w w':=by
 obtain ⟨g,hg⟩:=eqx w.heap.size;have HG:=Lib.hid hg;have HL:=h4k hb hW hC (show addK W b r=(List.range 16).map fun i=>b.getD i 0 ^^^ W.getD (16*r+i) 0 from rfl);obtain ⟨O,hO⟩:=eqx (addK W b r);have hOl:O.length=16:=by rw [← hO,addK_len]
 have HO:=h2k hO hOl;rw [hO];clear hb hW hC hO hOl;go_enter Tryz.func273,Tryz.ntmps273
 go_wp2_with fail
 generalize hw2:World.alloc _ _=w2;have hB2:Blk w2 g 339 (arrB b):=by rw [← hw2,← hg];exact (Blk.new w _ _).alloc _
 have hC2:Blk w2 (g+1) 339 (arrB (List.replicate 16 0)):=by
  exact zz23
 have hU2:Upd (fun _=>False) w w2:=by rw [← hw2];exact ((Upd.refl _ w).alloc _).alloc _
 have hcg:c≠g:=fun e=>by have:=HL.out.2.2.1.lt;omega
 have HW2:=h4k hB2 hC2 hU2 hcg;clear hB2 hC2 hU2 hw2 hg hcg;go_loopw [7,8] (fun _ u wr=>∃k:Nat,k≤16∧u=.int .i64 (k:Int)∧Blk wr g 339 (arrB (fillAt (fun i=>b.getD i 0 ^^^ W.getD (16*r+i) 0) b k))∧Upd (· = g) w2 wr) (fun _ u _=>16 - (intOf u).toNat)
 case atStart=>exact ⟨0,oM,rfl,HW2.out.1,Upd.refl _ _⟩
 case round =>
  obtain ⟨k,hk,rfl,hB,hu⟩:=hrel;by_cases hlt:k<16
  ·have hbl:=HL.out.1
   have hWl:=HL.out.2.1;have hc1:=hB.cellB k (by rw [fillAt_len _ _ _ oM];omega);rw [fillAt_get] at hc1;have hCr:Blk wr c 361 (arrB (W++B)):=(HL.out.2.2.1.upd HW2.out.2.2.1 (fun e=>e)).upd hu HW2.out.2.2.2;obtain ⟨i1,hi1⟩:=eqx (4*r+k / 4);obtain ⟨i2,hi2⟩:=eqx (k % 4);have hidx:16*r+k=i1*4+i2:=oM;have hc2:=hCr.cellB (i1*4+i2) (by rw [List.length_append];omega);have hst:=fillAt_step (fun i=>b.getD i 0 ^^^ W.getD (16*r+i) 0) b k oM;rw [List.getD_eq_getElem?_getD,List.getElem?_append_left oM,← List.getD_eq_getElem?_getD] at hc2;simp only [hidx] at hst;obtain ⟨x,hx⟩:=eqx (b.getD k 0);obtain ⟨y,hy⟩:=eqx (W.getD (i1*4+i2) 0);rw [hx] at hc1 hst;rw [hy] at hc2 hst;obtain ⟨z,hz⟩:=eqx (x ^^^ y);have hxy:=xorB x y;rw [hz] at hxy hst;have hf:=hB.frozen k;have HB:=h3k hB hu hst;have j1:(k:Int)<16:=oM;have j2:(i1:Int)<60:=oM;have j3:(i2:Int)<4:=oM;have j0:(0:Int)≤(i1:Int):=oM;have e1:IntKind.i64.wrap (4*(r:Int))=4*(r:Int):=IntWalk.i64_in _ oM;obtain ⟨d,hd⟩:=eqx (k / 4)
   have e4:IntKind.i64.wrap ((k:Int) / 4)=(d:Int):=by rw [IntWalk.i64_in _ oM];omega
   have e2:IntKind.i64.wrap (4*(r:Int)+(d:Int))=(i1:Int):=by rw [IntWalk.i64_in _ oM];omega
   have e3:(k:Int).tmod 4=(i2:Int):=by rw [Int.tmod_eq_emod_of_nonneg oM];omega
   have j4:(0:Int)≤4*(r:Int):=oM;clear hB hu hst hx hy hz hbl hWl hCr hi1 hi2 hidx hd;go_wp2_with fail
   go_still_tail 18,kR
   change wpList _ _ _ _ _ (World.drew _);go_wp2_with fail
   clear e1 e2 e3 e4;go_roundw
   case rel =>
    refine ⟨k+1,oM,by go_num,?_,?_⟩
    ·have h:=(HB.out.1.setB k z).drew
     have hs:=HB.out.2.2;rw [hs] at h;exact h
    ·exact (HB.out.2.1.setCell (p:=⟨g,k,none⟩) (.inl rfl) _).drew
   case measure=>simp [intOf]<;>omega
  ·obtain rfl:k=16:=oM
   have e16:((16:Nat):Int)=16:=rfl;rw [e16];rw [fillAt_all _ _ _ HL.out.1,← HL.out.2.2.2,HO.out.1] at hB;have HB:=h2k hB (HW2.out.2.1.upd hu oM);have HU:=Lib.hid (HW2.out.2.2.1.then hu (fun q hq=>.inr (oN HG.out)));clear hB hu e16 hlt hk;go_wp2_with (first
    | (show wpList _ _ _ (⟨none,_,_,_,_,_⟩::_) _ _
       refine wpList_store_all rfl 339 _ _ rfl (g+1) (arrB O) rfl rfl 339 _ HB.out.2 (by rw [arrB_size,arrB_size,HO.out.2];rfl) (arrB_one _) (by rw [arrB_size,HO.out.2];kernel_rfl) ?_
       intro w4 hB4 hU4 hz4)
    | (refine wlx _ g HB.out.1 Tryz.underlying339 (by rw [arrB_size,HO.out.2];kernel_rfl) ?_))
   refine bodyPost_ret (results_cell_row rfl _ _ (g+1) _ _ _ _ rfl hB4 Tryz.underlying339 rfl (by rw [arrB_size,HO.out.2];kernel_rfl)) rfl ⟨rfl,HU.out.then hU4 (fun q hq=>.inr (oN HG.out))⟩
theorem mixn_c {w:World} {g ga gi:Nat} {b:List UInt8} {t:TypeId} {at_ i:Nat} (hB:Blk w g 339 (arrB b)) (hb:b.length=16) (ha:Blk w ga t #[.int .i64 (at_:Int)]) (hi:Blk w gi t #[.int .i64 (i:Int)]) (h1:at_≤12) (h2:i<16) (k:Nat) (hk:k<4) :
 Calls Tryz.prog 288 #[.int .i64 (k:Int),.pointer (some ⟨g,0,none⟩),.pointer (some ⟨ga,0,none⟩),.pointer (some ⟨gi,0,none⟩)] w fun e w'=>e=.returned (.int .u8 ((b.getD (at_+(i+k) % 4) 0).toNat:Int))∧w'=w:=by
 obtain ⟨j,hj⟩:=eqx (at_+(i+k) % 4);have hc:=hB.cellB j oM;have hca:=ha.cells1;have hci:=hi.cells1;have hjl:(j:Int)<16:=oM;have hj0:(0:Int)≤(j:Int):=oM;have e1:IntKind.i64.wrap ((i:Int)+(k:Int))=(i:Int)+(k:Int):=IntWalk.i64_in _ oM;have e2:(at_:Int)+((i:Int)+(k:Int)) % 4=(j:Int):=oM;have e0:(0:Int)≤(i:Int)+(k:Int):=oM;rw [hj];clear hB hb ha hi hj h1;go_enter Tryz.func288,Tryz.ntmps288
 go_wp2_with fail
 go_ret
 exact ⟨rfl,rfl⟩
theorem mix_c (b:List UInt8) (hb:b.length=16) (w:World):Calls Tryz.prog 274 #[.agg (arrB b)] w fun e w'=>e=.returned (.agg (arrB (mixK b)))∧Upd (fun _=>False) w w':=by
 obtain ⟨g,hg⟩:=eqx w.heap.size;have HG:=Lib.hid hg;obtain ⟨O,hO⟩:=eqx (mixK b);have hOl:O.length=16:=by rw [← hO];simp [mixK]
 have HO:=h3k hO hOl hb;rw [hO];clear hb hO hOl;go_enter Tryz.func274,Tryz.ntmps274
 have hmf:∀(fn:Fn) (first cap:Array Value) (w:World),(Instr.makeFunc fn first cap).run Tryz.prog w=.ok (.func fn first cap) w:=fun _ _ _ _=>rfl
 go_wp2_with fail
 generalize hw2:World.alloc _ _=w2;have hB2:Blk w2 g 339 (arrB b):=by rw [← hw2,← hg];exact (Blk.new w _ _).alloc _
 have hC2:Blk w2 (g+1) 339 (arrB (List.replicate 16 0)):=by
  exact zz23
 have hU2:Upd (fun _=>False) w w2:=by rw [← hw2];exact ((Upd.refl _ w).alloc _).alloc _
 have HW2:=h3k hB2 hC2 hU2;clear hB2 hC2 hU2 hw2 hg;go_loopw [6] (fun u wr=>∃k:Nat,k≤16∧u=.int .i64 (k:Int)∧Blk wr (g+1) 339 (arrB (fillAt (fun i=>(mixK b).getD i 0) (List.replicate 16 0) k))∧Upd (· = g+1) w2 wr) (fun u _=>16 - (intOf u).toNat)
 case atStart=>exact ⟨0,oM,rfl,HW2.out.2.1,Upd.refl _ _⟩
 case round =>
  obtain ⟨k,hk,rfl,hB,hu⟩:=hrel;by_cases hlt:k<16
  ·have hbl:=HO.out.2.2
   have hbb:=HW2.out.1.upd hu oM;have HB:=h3k hB hu hbb;have j1:(k:Int)<16:=oM;obtain ⟨n,hn⟩:=eqx wr.heap.size;have hgn:g+1<n:=by have:=hB.lt;omega
   have hgn0:g<n:=oM;have HN:=Lib.hid hn;obtain ⟨a,ha⟩:=eqx (k / 4*4);have HA:=Lib.hid ha;have e1:(k:Int) / 4*4=(a:Int):=oM;have e2:IntKind.i64.wrap ((k:Int) / 4*4)=(a:Int):=by rw [IntWalk.i64_in _ oM];omega
   clear hB hu hbb hn ha hbl;go_wp2_with fail
   clear e1 e2;rw [HN.out];generalize hwq:World.alloc _ _=wq;have hi:Blk wq n 3 #[.int .i64 (k:Int)]:=by rw [← hwq,← HN.out];exact (Blk.new wr _ _).alloc _
   have ha:Blk wq (n+1) 3 #[.int .i64 (a:Int)]:=by
    have h:=Blk.new (wr.alloc (.cells #[.int .i64 (k:Int)] 3)) 3 #[.int .i64 (a:Int)];rw [World.size_alloc,HN.out] at h;rw [← hwq];exact h
   have hb2:Blk wq g 339 (arrB b):=by rw [← hwq];exact (HB.out.2.2.alloc _).alloc _
   have ho2:Blk wq (g+1) 339 (arrB (fillAt (fun i=>(mixK b).getD i 0) (List.replicate 16 0) k)):=by rw [← hwq];exact (HB.out.1.alloc _).alloc _
   have hu2:Upd (· = g+1) w2 wq:=by rw [← hwq];exact (HB.out.2.1.alloc _).alloc _
   have HWQ:=h2k hu2 ho2;obtain ⟨x0,hx0⟩:∃x,b.getD (a+(k+0) % 4) 0=x:=⟨_,rfl⟩;obtain ⟨x1,hx1⟩:∃x,b.getD (a+(k+1) % 4) 0=x:=⟨_,rfl⟩;obtain ⟨x2,hx2⟩:∃x,b.getD (a+(k+2) % 4) 0=x:=⟨_,rfl⟩;obtain ⟨x3,hx3⟩:∃x,b.getD (a+(k+3) % 4) 0=x:=⟨_,rfl⟩;have hm:=fun (q:Nat) (hq:q<4)=>mixn_c hb2.drew HO.out.2.2 ha.drew hi.drew (oN HA.out) hlt q hq
   have m0:=hm 0 oM;have m1:=hm 1 oM;have m2:=hm 2 oM;have m3:=hm 3 oM;rw [hx0] at m0;rw [hx1] at m1;rw [hx2] at m2;rw [hx3] at m3;have M0:=Lib.hid m0;have M1:=Lib.hid m1;have M2:=Lib.hid m2;have M3:=Lib.hid m3;obtain ⟨y0,hy0⟩:∃y,twU x0=y:=⟨_,rfl⟩;obtain ⟨y1,hy1⟩:∃y,twU x1=y:=⟨_,rfl⟩;have T0:=Lib.hid ((twice_c x0 wq.drew).mono fun _ _ ⟨p,q⟩=>And.intro p q.symm);have T1:=Lib.hid ((twice_c x1 wq.drew).mono fun _ _ ⟨p,q⟩=>And.intro p q.symm);rw [hy0] at T0;rw [hy1] at T1;obtain ⟨z1,hz1⟩:∃z,y0 ^^^ y1=z:=⟨_,rfl⟩;obtain ⟨z2,hz2⟩:∃z,z1 ^^^ x1=z:=⟨_,rfl⟩;obtain ⟨z3,hz3⟩:∃z,z2 ^^^ x2=z:=⟨_,rfl⟩;obtain ⟨z4,hz4⟩:∃z,z3 ^^^ x3=z:=⟨_,rfl⟩;have q1:=xorB y0 y1;have q2:=xorB z1 x1;have q3:=xorB z2 x2;have q4:=xorB z3 x3;rw [hz1] at q1;rw [hz2] at q2;rw [hz3] at q3;rw [hz4] at q4;have hst:=fillAt_step (fun i=>(mixK b).getD i 0) (List.replicate 16 0) k (by rw [List.length_replicate];exact hlt);have hz:(mixK b).getD k 0=z4:=by
    have hA:=HA.out;unfold mixK;rw [List.getD_eq_getElem?_getD,List.getElem?_map,List.getElem?_range hlt];show twU (b.getD (k / 4*4+(k+0) % 4) 0) ^^^ twU (b.getD (k / 4*4+(k+1) % 4) 0) ^^^ b.getD (k / 4*4+(k+1) % 4) 0 ^^^ b.getD (k / 4*4+(k+2) % 4) 0 ^^^ b.getD (k / 4*4+(k+3) % 4) 0=z4;rw [hA,hx0,hx1,hx2,hx3,hy0,hy1,hz1,hz2,hz3,hz4]
   simp only [hz] at hst;have HST:=Lib.hid hst;have hcI:=hi.cells1;have hcO:=ho2.cellB k (by rw [fillAt_len _ _ _ (by rw [List.length_replicate];omega),List.length_replicate];exact hlt);have hfO:=ho2.frozen k;clear hi ha hb2 ho2 hu2 hx0 hx1 hx2 hx3 hm m0 m1 m2 m3 hy0 hy1 hz1 hz2 hz3 hz4 hst hz hwq;go_still_tail 18,kR
   still_call M0.out
   still_call T0.out
   still_step
   still_call M1.out
   still_call T1.out
   still_step
   still_step
   still_call M1.out
   still_step
   still_step
   still_call M2.out
   still_step
   still_step
   still_call M3.out
   still_step
   still_step
   refine wpStill_nil ?_;change wpList _ _ _ _ _ wq.drew;go_wp2_with fail
   go_roundw
   case rel =>
    refine ⟨k+1,oM,by go_num,?_,?_⟩
    ·have h:=(HWQ.out.2.setB k z4).drew
     rw [HST.out] at h;exact h
    ·exact (HWQ.out.1.setCell (p:=⟨g+1,k,none⟩) (.inl rfl) _).drew
   case measure=>simp [intOf]<;>omega
  ·obtain rfl:k=16:=oM
   have e16:((16:Nat):Int)=16:=rfl;rw [e16];have hfin:(List.range 16).map (fun i=>(mixK b).getD i 0)=O:=by
    rw [HO.out.1];refine List.ext_getElem (by rw [List.length_map,List.length_range,HO.out.2.1]) fun i h1 h2=>?_
    rw [List.getElem_map,List.getElem_range,List.getD_eq_getElem?_getD,List.getElem?_eq_getElem h2];rfl
   rw [fillAt_all _ _ _ (by rw [List.length_replicate]),hfin] at hB;have HB:=Lib.hid hB;have HU:=Lib.hid (HW2.out.2.2.then hu (fun q hq=>.inr (oN HG.out)));clear hB hu e16 hlt hk hfin;go_wp2_with (first
    | (show wpList _ _ _ (⟨none,_,_,_,_,_⟩::_) _ _
       refine wpList_store_all rfl 339 _ _ rfl (g+1) (arrB O) rfl rfl 339 _ HB.out rfl (arrB_one _) (by rw [arrB_size,HO.out.2.1];kernel_rfl) ?_
       intro w4 hB4 hU4 hz4)
    | (refine wlx _ (g+1) HB.out Tryz.underlying339 (by rw [arrB_size,HO.out.2.1];kernel_rfl) ?_))
   refine bodyPost_ret (results_cell_row rfl _ _ (g+1) _ _ _ _ rfl hB4 Tryz.underlying339 rfl (by rw [arrB_size,HO.out.2.1];kernel_rfl)) rfl ⟨rfl,HU.out.then hU4 (fun q hq=>.inr (oN HG.out))⟩
theorem block_c {w:World} {c:Nat} {W:List UInt8} (hC:Blk w c 361 (arrB (W++boxL))) (hW:W.length=240) (b:List UInt8) (hb:b.length=16) :
 Calls Tryz.prog 247 #[.pointer (some ⟨c,0,none⟩),.agg (arrB b)] w fun e w'=>e=.returned (.agg (arrB (roundK W 14 b)))∧Upd (fun _=>False) w w':=by
 obtain ⟨g,hg⟩:=eqx w.heap.size;have HG:=Lib.hid hg;obtain ⟨B,hBx⟩:=eqx boxL;have hBl:B.length=256:=by rw [← hBx];exact boxL_len
 rw [hBx] at hC;have hcg:c≠g:=fun e=>by have:=hC.lt;omega
 have HC:=h5k hC hW hBx hBl hcg;have HA:=Lib.hid (fun (W1:World) (hu:Upd (fun q=>g≤q) w W1) (x:List UInt8) (hx:x.length=16) (r:Nat) (hr:r≤14) =>
  addk_c (hC.upd hu (oN hC.lt)) hW x hx r hr)
 obtain ⟨b1,hb1⟩:=eqx (addK W b 0);have hb1l:b1.length=16:=by rw [← hb1,addK_len]
 have HB:=h3k hb hb1 hb1l;obtain ⟨O,hO⟩:=eqx (roundK W 14 b);have hOl:O.length=16:=by rw [← hO];exact roundK_len _ _ _
 rw [hO];have HO:=h2k hO hOl;clear hBx hBl hC hW hcg hb1 hb1l hb hO hOl;go_enter Tryz.func247,Tryz.ntmps247
 go_upto_region 1 with (fail)
 generalize hw2:World.alloc _ _=w2;have hB2:Blk w2 g 339 (arrB b):=by rw [← hw2,← hg];exact (Blk.new w _ _).alloc _
 have hC2:Blk w2 (g+1) 339 (arrB (List.replicate 16 0)):=by
  exact zz23
 have hU2:Upd (fun _=>False) w w2:=by rw [← hw2];exact ((Upd.refl _ w).alloc _).alloc _
 have hz2:g+1<w2.heap.size:=hC2.lt;have HW2:=h4k hB2 hC2 hU2 hz2;clear hB2 hC2 hU2 hw2 hg hz2;go_wp2_with (first
  | (go_at_call 273
     refine (HA.out w2 (HW2.out.2.2.1.mono wz0) b HB.out.1 0 oM).mono ?_;rintro e w3 ⟨rfl,hU3⟩;rw [HB.out.2.1];have HU3:=Lib.hid hU3;clear hU3)
  | (show wpList _ _ _ (⟨none,_,_,_,_,_⟩::_) _ _
     refine wpList_store_all rfl 339 _ _ rfl g (arrB b1) rfl rfl 339 _ (HW2.out.1.upd HU3.out (fun e=>e)) (by rw [arrB_size,arrB_size,HB.out.1,HB.out.2.2]) (arrB_one _) (by rw [arrB_size,HB.out.2.2];kernel_rfl) ?_
     intro w4 hB4 hU4 hz4;have HB4:=h2k hB4 (HU3.out.trans hU4 (H:=(· = g)) wz0 (fun _ e=>.inl e));clear hB4 hU4 hz4)
  | (refine wlx _ g HW2.out.1 Tryz.underlying339 (by rw [arrB_size,HB.out.1];kernel_rfl) ?_))
 go_loopw [5] (fun u wr=>∃r:Nat,r≤14∧u=.int .i64 ((r:Int)+1)∧Blk wr g 339 (arrB (roundK W r b))∧Upd (· = g) w2 wr) (fun u _=>16 - (intOf u).toNat)
 case atStart=>exact ⟨0,oM,rfl,by show Blk w4 g _ (arrB (addK W b 0));rw [HB.out.2.1];exact HB4.out.1,HB4.out.2⟩
 case round =>
  clear HB4 HU3;obtain ⟨r,hr,rfl,hBr,hUr⟩:=hrel;by_cases hlt:r<14
  ·obtain ⟨n,hn⟩:=eqx wr.heap.size
   have hgn:g≠n:=by have:=hBr.lt;omega
   have hn2:w2.heap.size≤n:=by rw [← hn];exact hUr.size
   have HN:=h3k hgn hn2 (fun {W1:World} (hu:Upd (· = g) w2 W1)=>((HW2.out.2.2.1.trans hu (H:=fun q=>g≤q) wz0 (fun q e=>.inl oM)):Upd (fun q=>g≤q) w W1));have hRl:=roundK_len W b r;obtain ⟨Rb,hRb⟩:=eqx (roundK W r b);rw [hRb] at hBr hRl;have HR:=h2k hRb (by rw [hRb];exact hRl:(roundK W r b).length=16);have HBR:=h3k hBr hUr hRl;have HNN:=Lib.hid hn;have j5:(r:Int)+1≤14:=oM;clear hBr hUr hRl hRb hgn hn2 hn;go_wp2_with fail
   rw [HNN.out];generalize hwq:World.alloc _ _=wq;have hBq:Blk wq n 339 (arrB (List.replicate 16 0)):=by rw [← hwq,← HNN.out];exact Blk.new wr _ _
   have hGq:Blk wq g 339 (arrB Rb):=by rw [← hwq];exact HBR.out.1.alloc _
   have hUq:Upd (· = g) w2 wq:=by rw [← hwq];exact HBR.out.2.1.alloc _
   have HQ:=h3k hBq hGq hUq;clear hBq hGq hUq hwq;go_loopw [7,15] (fun _ u w'=>∃k:Nat,k≤16∧u=.int .i64 (k:Int)∧Blk w' n 339 (arrB (fillAt (fun i=>B.getD (Rb.getD ((i+4*(i % 4)) % 16) 0).toNat 0) (List.replicate 16 0) k))∧Upd (· = n) wq w') (fun _ u _=>16 - (intOf u).toNat)
   case atStart=>exact ⟨0,oM,rfl,HQ.out.1,Upd.refl _ _⟩
   case round =>
    obtain ⟨k,hk,rfl,hBk,hUk⟩:=hrel;by_cases hlt2:k<16
    ·have hgk:Blk wr g 339 (arrB Rb):=HQ.out.2.1.upd hUk HN.out.1
     have hck:Blk wr c 361 (arrB (W++B)):=HC.out.1.upd ((HN.out.2.2 HQ.out.2.2).trans hUk (H:=fun q=>g≤q) (fun _ e=>e) (fun q e=>.inl (oO HN.out.2.1 HW2.out.2.2.2))) (oO HC.out.1.lt HG.out);obtain ⟨m4,hm4⟩:∃m,k % 4=m:=⟨_,rfl⟩;obtain ⟨m16,hm16⟩:∃m,4*m4=m:=⟨_,rfl⟩;obtain ⟨sm,hsm⟩:∃m,k+m16=m:=⟨_,rfl⟩;obtain ⟨j,hj⟩:∃m,sm % 16=m:=⟨_,rfl⟩;have hjk:(k+4*(k % 4)) % 16=j:=by rw [hm4,hm16,hsm,hj]
     have hc1:=hgk.cellB j (by rw [HBR.out.2.2];omega);have hst:=fillAt_step (fun i=>B.getD (Rb.getD ((i+4*(i % 4)) % 16) 0).toNat 0) (List.replicate 16 0) k (by rw [List.length_replicate];exact hlt2);simp only [hjk] at hst;obtain ⟨x,hx⟩:=eqx (Rb.getD j 0);rw [hx] at hc1 hst;have hxl:=x.toNat_lt;have hc2:=hck.cellB (240+x.toNat) (by rw [List.length_append,HC.out.2.1,HC.out.2.2.2.1];omega);rw [List.getD_eq_getElem?_getD,List.getElem?_append_right (by rw [HC.out.2.1];omega),HC.out.2.1,Nat.add_sub_cancel_left,← List.getD_eq_getElem?_getD] at hc2;obtain ⟨y,hy⟩:=eqx (B.getD x.toNat 0);rw [hy] at hc2;simp only [hy] at hst;have hc3:=hBk.cellB k (by rw [fillAt_len _ _ _ (by rw [List.length_replicate];omega),List.length_replicate];exact hlt2);have hf:=hBk.frozen k;have j7:(k:Int)<16:=oM;have j8:(x.toNat:Int)<256:=oM;have j9:(j:Int)<16:=oM;have HBk:=h3k hBk hUk hst;have e1:(k:Int).tmod 4=(m4:Int):=by rw [Int.tmod_eq_emod_of_nonneg oM];omega
     have e2:IntKind.i64.wrap (4*(m4:Int))=(m16:Int):=by rw [IntWalk.i64_in _ oM];omega
     have e3:IntKind.i64.wrap ((k:Int)+(m16:Int))=(sm:Int):=by rw [IntWalk.i64_in _ oM];omega
     have e4:(sm:Int).tmod 16=(j:Int):=by rw [Int.tmod_eq_emod_of_nonneg oM];omega
     clear hBk hUk hst hx hy hxl hgk hck hm4 hm16 hsm hj hjk;go_wp2_with fail
     go_still_tail 15,kR
     change wpList _ _ _ _ _ (World.drew _);go_wp2_with fail
     clear e1 e2 e3 e4;go_roundw
     case rel =>
      refine ⟨k+1,oM,by go_num,?_,?_⟩
      ·have h:=(HBk.out.1.setB k y).drew
       have hs:=HBk.out.2.2;rw [hs] at h;exact h
      ·exact (HBk.out.2.1.setCell (p:=⟨n,k,none⟩) (.inl rfl) _).drew
     case measure=>simp [intOf]<;>omega
    ·obtain rfl:k=16:=oM
     have e16:((16:Nat):Int)=16:=rfl;rw [e16];obtain ⟨T,hT⟩:=eqx (subK (roundK W r b));have hTl:T.length=16:=by rw [← hT];simp [subK]
     have hsub:(List.range 16).map (fun i=>B.getD (Rb.getD ((i+4*(i % 4)) % 16) 0).toNat 0)=T:=by
      rw [← hT,HR.out.1,← HC.out.2.2.1];rfl
     rw [fillAt_all _ _ _ (by rw [List.length_replicate]),hsub] at hBk;have HT:=h2k hT hTl;have HTB:=h2k hBk (HQ.out.2.2.then hUk (fun q hq=>.inr (oN HN.out.2.1)));have HTG:Hid (Blk wr g 339 (arrB (roundK W r b))):=Lib.hid (by rw [HR.out.1];exact HQ.out.2.1.upd hUk HN.out.1);clear hT hTl hsub hBk hUk hk hlt2 e16;by_cases h14:r+1<14
     ·
      --#a {
      have k1:(r:Int)+1<14:=oM;obtain ⟨M,hM⟩:=eqx (mixK T);have hMl:M.length=16:=by rw [← hM];simp [mixK]
      have HMX:=Lib.hid (fun W1=>mix_c T HT.out.2 W1);rw [hM] at HMX;go_upto_region 13 with (first
       | (go_at_call 274
          refine (HMX.out _).mono ?_;rintro e w13 ⟨rfl,hU13⟩;have HU13:=Lib.hid hU13;clear hU13)
       | (show wpList _ _ _ (⟨none,_,_,_,_,_⟩::_) _ _
          refine wpList_store_all rfl 339 _ _ rfl n (arrB M) rfl rfl 339 _ (HTB.out.1.upd HU13.out (fun e=>e)) (by rw [arrB_size,arrB_size,hMl,HT.out.2]) (arrB_one _) (by rw [arrB_size,hMl];kernel_rfl) ?_
          intro w14 hB14 hU14 hz14)
       | (refine wlx _ n HTB.out.1 Tryz.underlying339 (by rw [arrB_size,HT.out.2];kernel_rfl) ?_))
      have hBM:=hB14;have hUM:Upd (· = g) w2 w14:=(HTB.out.2.then HU13.out wz0).then hU14 (fun q hq=>.inr (oN HN.out.2.1));have hrM:Blk w14 g 339 (arrB (roundK W r b)):=(HTG.out.upd HU13.out (fun e=>e)).upd hU14 (oN HN.out.1);clear hB14 hU14 hz14 k1;obtain ⟨R2,hR2⟩:=eqx (roundK W (r+1) b);have hR2l:R2.length=16:=by rw [← hR2];exact roundK_len _ _ _
      have hadd:addK W M (r+1)=R2:=by
       rw [← hR2];show _=addK W (if r+1<14 then mixK (subK (roundK W r b)) else subK (roundK W r b)) (r+1);rw [if_pos (by omega:r+1<14),← hM,← HT.out.1]
      have HM:=h5k hM hMl hR2 hR2l hadd;have HBM:=h3k hBM hUM hrM;clear hM hMl hR2 hR2l hadd hBM hUM hrM;go_wp2_with (first
       | (go_at_call 273
          refine (HA.out _ (HN.out.2.2 HBM.out.2.1) M HM.out.2.1 (r+1) oM).mono ?_;rintro e w3 ⟨rfl,hU3⟩;rw [HM.out.2.2.2.2];have HU3:=Lib.hid hU3;clear hU3)
       | (show wpList _ _ _ (⟨none,_,_,_,_,_⟩::_) _ _
          refine wpList_store_all rfl 339 _ _ rfl g (arrB R2) rfl rfl 339 _ (HBM.out.2.2.upd HU3.out (fun e=>e)) (by rw [arrB_size,arrB_size,HM.out.2.2.2.1,HR.out.2]) (arrB_one _) (by rw [arrB_size,HM.out.2.2.2.1];kernel_rfl) ?_
          intro w4 hB4 hU4 hz4;have HB4:=h2k hB4 ((HBM.out.2.1.then HU3.out wz0).then hU4 (fun _ e=>.inl e));clear hB4 hU4 hz4)
       | (refine wlx _ n HBM.out.1 Tryz.underlying339 (by rw [arrB_size,HM.out.2.1];kernel_rfl) ?_))
      go_roundw
      case rel=>exact ⟨r+1,oM,by go_num,by rw [HM.out.2.2.1];exact HB4.out.1,HB4.out.2⟩
      case measure=>simp [intOf]<;>omega
      --#a }
     ·
      --#c {
      have k1:¬(r:Int)+1<14:=oM;have k2:decide ((r:Int)+1<14)=false:=decide_eq_false k1;obtain ⟨M,hM⟩:=eqx T;have hMl:M.length=16:=by rw [← hM];exact HT.out.2
      have hBM:=HTB.out.1;rw [hM] at hBM;have hUM:=HTB.out.2;have hrM:=HTG.out;obtain ⟨R2,hR2⟩:=eqx (roundK W (r+1) b);have hR2l:R2.length=16:=by rw [← hR2];exact roundK_len _ _ _
      have hadd:addK W M (r+1)=R2:=by
       rw [← hR2];show _=addK W (if r+1<14 then mixK (subK (roundK W r b)) else subK (roundK W r b)) (r+1);rw [if_neg (by omega:¬r+1<14),← hM,← HT.out.1]
      have HM:=h5k hM hMl hR2 hR2l hadd;have HBM:=h3k hBM hUM hrM;clear hM hMl hR2 hR2l hadd hBM hUM hrM;go_wp2_with (first
       | (go_at_call 273
          refine (HA.out _ (HN.out.2.2 HBM.out.2.1) M HM.out.2.1 (r+1) oM).mono ?_;rintro e w3 ⟨rfl,hU3⟩;rw [HM.out.2.2.2.2];have HU3:=Lib.hid hU3;clear hU3)
       | (show wpList _ _ _ (⟨none,_,_,_,_,_⟩::_) _ _
          refine wpList_store_all rfl 339 _ _ rfl g (arrB R2) rfl rfl 339 _ (HBM.out.2.2.upd HU3.out (fun e=>e)) (by rw [arrB_size,arrB_size,HM.out.2.2.2.1,HR.out.2]) (arrB_one _) (by rw [arrB_size,HM.out.2.2.2.1];kernel_rfl) ?_
          intro w4 hB4 hU4 hz4;have HB4:=h2k hB4 ((HBM.out.2.1.then HU3.out wz0).then hU4 (fun _ e=>.inl e));clear hB4 hU4 hz4)
       | (refine wlx _ n HBM.out.1 Tryz.underlying339 (by rw [arrB_size,HM.out.2.1];kernel_rfl) ?_))
      go_roundw
      case rel=>exact ⟨r+1,oM,by go_num,by rw [HM.out.2.2.1];exact HB4.out.1,HB4.out.2⟩
      case measure=>simp [intOf]<;>omega
      --#c }
  ·obtain rfl:r=14:=oM
   have e15:((14:Nat):Int)+1=15:=rfl;rw [e15];rw [HO.out.1] at hBr;have HBr:=h3k hBr (HW2.out.2.1.upd hUr oM) (HW2.out.2.2.1.then hUr (fun q hq=>.inr (oN HG.out)));clear hBr hUr e15 hlt hr;go_wp2_with (first
    | (show wpList _ _ _ (⟨none,_,_,_,_,_⟩::_) _ _
       refine wpList_store_all rfl 339 _ _ rfl (g+1) (arrB O) rfl rfl 339 _ HBr.out.2.1 (by rw [arrB_size,arrB_size,HO.out.2];rfl) (arrB_one _) (by rw [arrB_size,HO.out.2];kernel_rfl) ?_
       intro w4 hB4 hU4 hz4)
    | (refine wlx _ g HBr.out.1 Tryz.underlying339 (by rw [arrB_size,HO.out.2];kernel_rfl) ?_))
   refine bodyPost_ret (results_cell_row rfl _ _ (g+1) _ _ _ _ rfl hB4 Tryz.underlying339 rfl (by rw [arrB_size,HO.out.2];kernel_rfl)) rfl ⟨rfl,HBr.out.2.2.then hU4 (fun q hq=>.inr (oN HG.out))⟩
theorem bytesV_put (l:List UInt8) (j:Nat) (b:UInt8):(bytesV l).set j (.int .u8 (b.toNat:Int))=bytesV (l.set j b):=by simp [bytesV,List.map_set]
theorem bytesV_get (l:List UInt8) (i:Nat) (h:i<l.length):(bytesV l)[i]? = some (.int .u8 ((l.getD i 0).toNat:Int)):=by simp [bytesV,h]
theorem stream_all (key nonce text:List UInt8):fillAt (fun i=>text.getD i 0 ^^^ streamAt key nonce i) text text.length=streamL key nonce text:=by
 rw [fillAt_all _ _ _ rfl];unfold streamL;refine List.ext_getElem sM fun i h1 h2=>?_
 have h3:i<text.length:=by simpa using h1
 rw [List.getElem_map,List.getElem_range,List.getElem_mapIdx,List.getD_eq_getElem?_getD,List.getElem?_eq_getElem h3];rfl
def strN (key nonce text:List UInt8) (k:Nat):List UInt8:=fillAt (fun i=>text.getD i 0 ^^^ streamAt key nonce i) text k
theorem stream_c (key nonce:List UInt8) (text:ByteArray) (w:World) (hk:key.length=32) (hn:nonce.length=12) (ht:text.size≤100000) :
 Calls Tryz.prog 210 #[.agg (arrB key),.agg (arrB nonce),.string text] w fun e w'=>e=.returned (.string (str (streamL key nonce text.data.toList)))∧Upd (fun _=>False) w w':=by
 obtain ⟨g,hg⟩:=eqx w.heap.size;have HG:=Lib.hid hg;obtain ⟨O,hO⟩:=eqx (streamL key nonce text.data.toList);rw [hO];have HO:=h3k hO hk hn;clear hO hk hn;go_enter Tryz.func210,Tryz.ntmps210
 go_upto_region 1 with (fail)
 generalize hw2:World.alloc _ _=w2;have hB2:Blk w2 g 194 (arrB key):=by rw [← hw2,← hg];exact (Blk.new w _ _).alloc _
 have hC2:Blk w2 (g+1) 312 (arrB nonce):=by
  have h:=Blk.new (w.alloc (.cells (arrB key) 194)) 312 (arrB nonce);rw [World.size_alloc,hg] at h;rw [← hw2];exact h
 have hU2:Upd (fun _=>False) w w2:=by rw [← hw2];exact ((Upd.refl _ w).alloc _).alloc _
 have HW2:=h3k hB2 hC2 hU2;clear hB2 hC2 hU2 hw2 hg;go_wp2_with (first
  | (go_at_call 245
     refine (schedule_c key HO.out.2.1 w2).mono ?_;rintro e w3 ⟨c,rfl,hB3,hc3,hU3⟩;have HB3:=h3k hB3 hc3 hU3;clear hB3 hc3 hU3;obtain ⟨v4,w4,hcv,ho4,hU4,hob4,hsz4⟩:=run_to_bytes w3 text (by unfold maxLen;omega);obtain ⟨A4,cap4,rfl,hA4,hA5⟩:=ho4.shape;have HB4:=h3k ho4 hU4 hob4;clear ho4 hU4 hob4 hsz4 hA4 hA5)
  | (refine wlx _ g HW2.out.1 Tryz.underlying194 (by rw [arrB_size,HO.out.2.1];kernel_rfl) ?_))
 obtain ⟨gb,hgb⟩:=eqx w3.heap.size;have hcw:Blk w4 c 361 (arrB (schedL key++boxL)):=HB3.out.1.upd HB4.out.2.1 (fun e=>e);have hnw:Blk w4 (g+1) 312 (arrB nonce):=HW2.out.2.1.upd (HB3.out.2.2.then HB4.out.2.1 wz0) (fun e=>e);have hcb:c≠gb:=by have:=HB3.out.1.lt;omega
 have hnb:g+1≠gb:=by have:=(HW2.out.2.1.upd HB3.out.2.2 (fun e=>e)).lt;omega
 have hob:(Value.slice A4 text.size cap4).ownBlock=some gb:=by rw [← hgb];exact HB4.out.2.2
 have hu4:Upd (fun _=>False) w w4:=(HW2.out.2.2.then HB3.out.2.2 wz0).then HB4.out.2.1 wz0;have hgl:w.heap.size≤gb:=by rw [← hgb];exact (HW2.out.2.2.then HB3.out.2.2 wz0).size
 have HD:=h7k hcw hnw hcb hnb hob hu4 hgl;obtain ⟨L,hL⟩:=eqx text.size;have HL:=Lib.hid hL;have ht2:text.data.toList.length=L:=hL;have HT2:=Lib.hid ht2;rw [hL] at HD ht HB4;rw [hL];clear hcw hnw hcb hnb hob hu4 hgl hgb hL ht2;go_loopw [9] (fun u wr=>∃m k:Nat,u=.int .i64 ((16*m:Nat):Int)∧k=min (16*m) L∧m≤10000∧Own wr 5 1 (.slice A4 L cap4) L (bytesV (strN key nonce text.data.toList k))∧Upd (fun q=>q=gb) w4 wr) (fun u _=>200000 - (intOf u).toNat)
 case atStart=>exact ⟨0,0,rfl,sM,oM,by simpa [strN,fillAt] using HB4.out.1,Upd.refl _ _⟩
 case round =>
  obtain ⟨m,k,rfl,hk,hm,ho,hu⟩:=hrel;by_cases hlt:16*m<L
  ·obtain rfl:k=16*m:=oM
   obtain rfl:A4=some ⟨gb,0,none⟩:=by
    obtain ⟨gg,cc,e,-,-⟩:=ho.head oM;injection e with e1 e2 e3;subst e1;have:=Option.some.inj (show some gg=some gb from HD.out.2.2.2.2.1);rw [this]
   obtain ⟨at_,hat⟩:∃a,16*m=a:=⟨_,rfl⟩;rw [hat] at ho hlt ⊢;have HAT:=Lib.hid hat;have HO2:=h2k ho hu;obtain ⟨n,hn⟩:=eqx wr.heap.size;have HN:=Lib.hid hn;have i1:(at_:Int)<(L:Int):=oM;clear hk ho hu hn hat;go_upto_region 7 with (fail)
   rw [HN.out];generalize hwq:World.alloc _ _=wq;have hBq:Blk wq n 339 (arrB (List.replicate 16 0)):=by rw [← hwq,← HN.out];exact Blk.new wr _ _
   have hUq:Upd (fun q=>q=gb) w4 wq:=by rw [← hwq];exact HO2.out.2.alloc _
   have hOq:Own wq 5 1 (.slice (some ⟨gb,0,none⟩) L cap4) L (bytesV (strN key nonce text.data.toList at_)):=by rw [← hwq];exact HO2.out.1.alloc _
   have hnb:n≠gb:=fun e=>by have:=HO2.out.1.lt HD.out.2.2.2.2.1;have:=HN.out;omega
   have hn4:w4.heap.size≤n:=by rw [← HN.out];exact HO2.out.2.size
   have HQ:=h5k hBq hUq hOq hnb hn4;clear hBq hUq hOq hnb hn4 hwq;go_still_tail 2,kR
   change wpList _ _ _ _ _ wq.drew;go_wp2_with fail
   have hnq:Blk wq.drew (g+1) 312 (arrB nonce):=(HD.out.2.1.upd HQ.out.2.1 HD.out.2.2.2.1).drew;have hnl:=HO.out.2.2;obtain ⟨W7,r7,hcp7,hB7,hU7,hz7⟩:=copy_bytes (off:=0) (n:=16) (cap:=16) (l:=nonce) HQ.out.1.drew (v:=.slice (some ⟨g+1,0,none⟩) 12 12) ⟨_,12,by rw [hnl],oM,by unfold maxLen;omega,fun _=>⟨g+1,0,rfl,hnq.lt,fun i hi=>by rw [Nat.zero_add];exact hnq.cellB i hi⟩⟩ oM (by rw [List.length_replicate];omega);rw [show (List.replicate 16 (0:UInt8)).take 0++nonce++(List.replicate 16 (0:UInt8)).drop (0+nonce.length)=nonce++List.replicate 4 0 by rw [List.take_zero,List.nil_append,Nat.zero_add,hnl,List.drop_replicate]] at hB7;have H7:=h2k hB7 ((Upd.refl (fun q=>q=n) wq).drew.then hU7 (fun q e=>.inl e));rw [hcp7];clear hnq hnl hcp7 hB7 hU7 hz7;go_wp2_with fail
   have HDV:=Lib.hid (show at_ / 16=m by have:=HAT.out;omega);have e1:((at_:Int) / 16)=(m:Int):=by have:=HAT.out;omega
   have e2:IntKind.i64.wrap (m:Int)=(m:Int):=IntWalk.i64_in _ oM;have e3:IntKind.u64.wrap (m:Int)=(m:Int):=u64_wrap m oM;refine wp_region_noPanic ?_;refine wp_region_T (S:=fun w'=>Upd (fun _=>False) W7 w') (T:=fun k=>k == 5) kR ?_;have hS0:=(Upd.refl (fun _=>False) W7).drew;refine tK 0 ?_;refine tKW 1 (.int .i64 (at_:Int)) ?_;refine tK 2 ?_;refine tK 3 ?_;refine wo1 4 (fun K hK=>?_);go_simp
   clear e1 e2 e3;refine (putBig_aes (.slice none 0 0) 0 [] m 4 _ (Own.nil _ _ _) dC dC).mono ?_;rintro e w12 ⟨v12,rfl,ho12,hU12,hl12⟩;rw [Nat.zero_add,List.nil_append] at ho12;have hu12:Upd (fun _=>False) W7.drew w12:=hU12.mono (fun b hb=>by simp [Value.ownBlock] at hb);have hS1:=hS0.then hu12 wz0;refine hK.out _ _ hS1 ?_;have hby:=BytesAt.of_own ho12;have hnl:=HO.out.2.2;have hlb:=beB_len m 4;obtain ⟨W,rv,hcp,hB13,hU13,hz13⟩:=copy_bytes (off:=12) (n:=4) (cap:=4) (l:=beB m 4) (H7.out.1.upd hS1 (fun e=>e)) hby oM (by rw [List.length_append,List.length_replicate];omega);rw [show (nonce++List.replicate 4 (0:UInt8)).take 12++beB m 4++(nonce++List.replicate 4 (0:UInt8)).drop (12+(beB m 4).length)=nonce++beB m 4 by
    rw [hlb,List.take_append_of_le_length oM,List.take_of_length_le oM,List.drop_of_length_le (by rw [List.length_append,List.length_replicate];omega),List.append_nil]] at hB13
   obtain ⟨A12,c12,rfl,-,-⟩:=ho12.shape;clear hK;refine woT 5 (fun K hK=>?_);refine step_copy_run (by rfl) _ _ _ _ (by rfl) (by rfl) (by rfl) hcp ?_;refine hK.out _ _ ?_;obtain ⟨IN,hIN⟩:∃I,nonce++beB m 4=I:=⟨_,rfl⟩;have hINl:IN.length=16:=by rw [← hIN,List.length_append,hlb];omega
   rw [hIN] at hB13;have hnb:=HQ.out.2.2.2.1;have hn4:=HQ.out.2.2.2.2;have hu13:Upd (fun q=>q=gb) w4 W:=((HQ.out.2.1.then H7.out.2 (fun q e=>.inr (by have e2:q=n:=e;omega))).then hS1 wz0).then hU13 (fun q e=>.inr (by have e2:q=n:=e;omega));have hv13:Upd (fun q=>q≠gb) wq W:=((H7.out.2.mono (G:=fun q=>q≠gb) (fun q e=>.inl (by have e2:q=n:=e;omega))).then hS1 wz0).then hU13 (fun q e=>.inl (by have e2:q=n:=e;omega));have HE:=h4k hB13 hu13 hIN hINl;have HV:=Lib.hid hv13;clear hnb hn4 hv13;clear hK hcp hB13 hU13 hz13 hS1 hS0 hby ho12 hU12 hl12 hu12 hnl hlb hIN hINl hu13;refine wdn ?_;refine NoPanic.normal ?_;obtain ⟨OUT,hOUT⟩:∃o,blockL key IN=o:=⟨_,rfl⟩;have hOUTl:OUT.length=16:=by rw [← hOUT];exact blockL_len _ _
   have hcW:Blk W c 361 (arrB (schedL key++boxL)):=HD.out.1.upd HE.out.2.1 HD.out.2.2.1;have hbk:=block_c hcW (schedL_len HO.out.2.1) IN HE.out.2.2.2;rw [show roundK (schedL key) 14 IN=OUT from hOUT] at hbk;have HBK:=Lib.hid hbk;have HOUT:=h2k hOUT hOUTl;clear hOUT hOUTl hcW hbk;go_upto_region 10 with (first
    | (go_at_call 247
       refine HBK.out.mono ?_;rintro e w14 ⟨rfl,hU14⟩;have HU14:=Lib.hid hU14;clear hU14)
    | (show wpList _ _ _ (⟨none,_,_,_,_,_⟩::_) _ _
       refine wpList_store_all rfl 339 _ _ rfl w14.heap.size (arrB OUT) rfl rfl 339 _ (Blk.new w14 _ _) (by rw [arrB_size,HOUT.out.2];rfl) (arrB_one _) (by rw [arrB_size,HOUT.out.2];kernel_rfl) ?_
       intro w15 hB15 hU15 hz15)
    | (refine wlx _ n HE.out.1 Tryz.underlying339 (by rw [arrB_size,HE.out.2.2.2];kernel_rfl) ?_))
   have hgb14:gb<w14.heap.size:=by
    have h1:=HB4.out.1.lt HD.out.2.2.2.2.1;have h2:=HE.out.2.1.size;have h3:=HU14.out.size;omega
   have hu15:Upd (fun q=>q=gb) w4 w15:=((HE.out.2.1.then HU14.out wz0).alloc _).then hU15 (fun q e=>.inr (by have e2:q=w14.heap.size:=e;have:=HE.out.2.1.size;have:=HU14.out.size;omega));have hv15:Upd (fun q=>q≠gb) wq w15:=((HV.out.then HU14.out wz0).alloc _).then hU15 (fun q e=>.inl (by have e2:q=w14.heap.size:=e;omega));have ho15:Own w15 5 1 (.slice (some ⟨gb,0,none⟩) L cap4) L (bytesV (strN key nonce text.data.toList at_)):=HQ.out.2.2.1.upd hv15 (fun q hq e=>e (Option.some.inj (hq.symm.trans HD.out.2.2.2.2.1)));obtain ⟨no,hno⟩:=eqx w14.heap.size;rw [hno] at hB15 hgb14 ⊢;have hnob:no≠gb:=oM;clear hgb14 hv15;have HF:=h4k hB15 hu15 hnob ho15;clear hB15 hU15 hz15 hu15 hnob ho15 hno;obtain ⟨q,hq⟩:=eqx (min 16 (L - at_));have hmin:min (16:Int) ((L:Int) - (at_:Int))=(q:Int):=oM;have HQ2:=Lib.hid hq;clear hq;go_wp2_with fail
   clear hmin;go_loopw [12,40] (fun _ u wr=>∃j:Nat,j≤q∧u=.int .i64 (j:Int)∧Own wr 5 1 (.slice (some ⟨gb,0,none⟩) L cap4) L (bytesV (strN key nonce text.data.toList (at_+j)))∧Upd (fun q=>q=gb) w4 wr∧Blk wr no 339 (arrB OUT)) (fun _ u _=>20 - (intOf u).toNat)
   case atStart=>exact ⟨0,oM,rfl,HF.out.2.2.2,HF.out.2.1,HF.out.1⟩
   case round =>
    obtain ⟨j,hj,rfl,ho,hu,hB⟩:=hrel;have hq:=HQ2.out;by_cases hlt2:j<q
    ·obtain ⟨si,hsi⟩:=eqx (at_+j)
     have htl:=HT2.out;have hsl:(strN key nonce text.data.toList si).length=L:=by unfold strN;rw [fillAt_len _ _ _ oM];exact htl
     have hc1:=ho.cellAt si oM;have hf:=ho.frozenAt si oM;rw [hsi] at hc1 ho;have hgt:(strN key nonce text.data.toList si).getD si 0=text.data.toList.getD si 0:=fillAt_get _ _ _;rw [bytesV_get _ _ oM,hgt] at hc1;have hc2:=hB.cellB j (by rw [HOUT.out.2];omega);have hst:=fillAt_step (fun i=>text.data.toList.getD i 0 ^^^ streamAt key nonce i) text.data.toList si oM;have hsa:streamAt key nonce si=OUT.getD j 0:=by
      have hat:=HAT.out;unfold streamAt;rw [show si / 16=m by omega,show si % 16=j by omega,HE.out.2.2.1,HOUT.out.1]
     simp only [hsa] at hst;obtain ⟨x,hx⟩:=eqx (text.data.toList.getD si 0);obtain ⟨y,hy⟩:=eqx (OUT.getD j 0);rw [hx] at hc1 hst;rw [hy] at hc2 hst;obtain ⟨z,hz⟩:=eqx (x ^^^ y);rw [hz] at hst;have hxy:=xorB x y;rw [hz] at hxy;have hs2:=ho.stored si (.int .u8 (z.toNat:Int));rw [bytesV_put,show (strN key nonce text.data.toList si).set si z=strN key nonce text.data.toList (si+1) from hst] at hs2;have HS:=h4k hs2 hu hB hsi;have j1:(j:Int)<16:=oM;have j2:(si:Int)<(L:Int):=oM;have j3:(0:Int)≤(si:Int):=oM;have j4:(j:Int)<(q:Int):=oM;have e1:IntKind.i64.wrap ((at_:Int)+(j:Int))=(si:Int):=by rw [IntWalk.i64_in _ oM];omega
     clear ho hu hB hq hsi htl hsl hgt hst hsa hx hy hz hs2;go_wp2_with fail
     go_still_tail 11,kR
     change wpList _ _ _ _ _ (World.drew _);go_wp2_with fail
     clear e1;go_roundw
     case rel =>
      refine ⟨j+1,oM,by go_num,?_,?_,?_⟩
      ·rw [show at_+(j+1)=si+1 by have:=HS.out.2.2.2;omega]
       exact HS.out.1.drew
      ·exact (HS.out.2.1.setCell (p:=⟨gb,si,none⟩) (.inl rfl) _).drew
      ·exact (HS.out.2.2.1.far (p:=⟨gb,si,none⟩) HF.out.2.2.1 _).drew
     case measure=>simp [intOf]<;>omega
    ·obtain rfl:j=q:=oM
     have HS:=h2k ho hu;have HQ3:=Lib.hid (show (at_:Int)+16=((16*(m+1):Nat):Int)∧at_+j=min (16*(m+1)) L from ⟨by have:=HAT.out;omega,by have:=HAT.out;omega⟩);clear ho hu hB hj hq;go_wp2_with fail
     go_roundw
     case rel=>exact ⟨m+1,at_+j,by rw [← HQ3.out.1],HQ3.out.2,by have:=HAT.out;omega,HS.out.1,HS.out.2⟩
     case measure=>simp [intOf]<;>omega
  ·have htl:=HT2.out
   have hkL:k=text.data.toList.length:=oM;rw [hkL] at ho;rw [show strN key nonce text.data.toList text.data.toList.length=O from (stream_all key nonce _).trans HO.out.1] at ho;have hcv2:=run_to_string ho;have HU:=Lib.hid (HD.out.2.2.2.2.2.1.then hu (fun q e=>.inr (by have e2:q=gb:=e;have:=HD.out.2.2.2.2.2.2;omega)));clear ho hu hkL htl hk hm;go_wp2_with fail
   go_ret
   exact ⟨rfl,HU.out⟩
end
end Go.Proofs.YtbhjgfibhegddaaGreat
