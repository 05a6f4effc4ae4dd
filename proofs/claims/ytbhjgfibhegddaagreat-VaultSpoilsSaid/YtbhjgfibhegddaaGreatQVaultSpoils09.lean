/-
  Parts of the proof of VaultSpoils: SealD, SealE, BatC, Pairs, LogPart.
-/
import Derived.Test.YtbhjgfibhegddaaGreatQVaultSpoils08
set_option maxRecDepth 100000
set_option maxHeartbeats 16000000
namespace Go.Proofs.YtbhjgfibhegddaaGreat
section
open Go Go.RowKit
section
variable {P:Program} {ops:Array Oper} {Q:Exit→Act→World→Prop} {S:World→Prop}
theorem takes_load_part {i:Nat} {o:Oper} {a:Act} (hi:ops[i]? = some o) (hw:Region.wanted o (yielded ops a.tmps)=true) (ty:TypeId) (x:Operand) (ho:o.op=.load ty x) (g k:Nat) (hx:a.eval x=.pointer (some ⟨g,k,none⟩))
 (t:TypeId) (cs:Array Value) (vs:List Value) (d:TypeDesc) (hS:∀w,S w→Blk w g t cs) (hv:∀j v,vs[j]? = some v→cs[k+j]? = some v) (hu:P.underlying ty=some d) (hd:d.isRow=true) (hz:(P.info? ty).map (·.size)=some vs.length):Takes P ops Q S i o (.agg vs.toArray) a :=
 takes_yield hi (yieldsIf_load_mid (P:=P) (ops:=ops) (S:=S) hw ty x ho g k hx vs d (fun w h=>(hS w h).range k vs hv) hu hd hz)
end
theorem EnvM.tagV (x:EnvM):∀j v,(bytesV x.tag)[j]? = some v→x.row[4+j]? = some v:=by
 intro j v h;unfold EnvM.row;rw [List.getElem?_toArray,List.getElem?_append_right sM];rw [show 4+j - [Value.int .i64 (x.key:Int),.int .u32 (x.boot:Int),.int .u64 (x.n:Int),.string (str x.data)].length=j by simp];exact h
theorem sopen_c (k:List UInt8) (hk:k.length=32) (x:EnvM) (hx:EnvOk x) (about:ByteArray) (ha:about.size≤1000) (hs:x.tag=stampL k x.key x.boot x.n about.data.toList x.data) (w:World) :
 Calls Tryz.prog 181 #[.agg (arrB k),.agg x.row,.string about] w fun e w'=>e=.returned (.tuple #[.string (str (dataL k x.boot x.n x.data)),.int .i64 0])∧Upd (fun _=>False) w w':=by
 have hRt:=fun W=>sright_c x hx W
 have hTg:=fun W=>stag_c k hk x hx about ha W
 rw [← hs] at hTg;have hEq:=fun W=>equal_c x.tag x.tag W hx.tag hx.tag
 rw [decide_eq_true rfl] at hEq;obtain ⟨D,hD⟩:=eqx (str x.data);have hSt:=fun W=>sstream_c k hk x hx D (by rw [← hD,str_size];exact hx.data) W
 rw [show D.data.toList=x.data by rw [← hD,str_list]] at hSt;obtain ⟨O,hO⟩:=eqx (str (dataL k x.boot x.n x.data));rw [hO] at hSt ⊢;have HR:=Lib.hid hRt;have HT:=Lib.hid hTg;have HE:=Lib.hid hEq;have HS:=Lib.hid hSt;have HX:=h4k hD (EnvM.row_size hx.tag) hx.tag hk;clear hRt hTg hEq hSt hD hO hs hk hx ha;obtain ⟨g,hg⟩:=eqx w.heap.size;have HG:=Lib.hid hg;go_enter Tryz.func181,Tryz.ntmps181
 go_upto_region 1 with (fail)
 generalize hw2:World.alloc _ _=w2;have hk2:Blk w2 g 194 (arrB k):=by rw [← hw2,← hg];exact (Blk.new w _ _).alloc _
 have hx2:Blk w2 (g+1) 191 x.row:=by
  have h:=Blk.new (w.alloc (.cells (arrB k) 194)) 191 x.row;rw [World.size_alloc,hg] at h;rw [← hw2];exact h
 have hU2:Upd (fun _=>False) w w2:=by rw [← hw2];exact ((Upd.refl _ w).alloc _).alloc _
 have HW2:=h3k hk2 hx2 hU2;clear hk2 hx2 hU2 hw2 hg;go_upto_region 3 with (first
  | (refine wlx _ (g+1) HW2.out.2.1 Tryz.underlying191 (by rw [HX.out.2.1];kernel_rfl) ?_)
  | (go_at_call 162
     refine (HR.out _).mono ?_;rintro e w3 ⟨rfl,hU3⟩;have HW3:=h3k (HW2.out.1.upd hU3 (fun e=>e)) (HW2.out.2.1.upd hU3 (fun e=>e)) (HW2.out.2.2.then hU3 wz0);clear hU3))
 refine wp_region_noPanic ?_;refine wp_region_T (S:=fun w'=>Upd (fun _=>False) w3 w') (T:=fun _=>false) kR ?_;have hS0:=(Upd.refl (fun _=>False) w3).drew;refine tK8 0 ?_;refine tT8 1 (.agg (arrB x.tag)) (takes_load_part rfl (by rfl) _ _ rfl (g+1) 4 (by rfl) _ _ (bytesV x.tag) _ (fun w' hSw=>HW3.out.2.1.upd hSw (fun e=>e)) x.tagV Tryz.underlying189 rfl (by rw [bytesV_len,HX.out.2.2.1];kernel_rfl)) ?_
 refine tT8 2 (.agg (arrB k)) (takes_load_all rfl (by rfl) _ _ rfl g (by rfl) _ _ _ (fun w' hSw=>HW3.out.1.upd hSw (fun e=>e)) Tryz.underlying194 rfl (by rw [arrB_size,HX.out.2.2.2];kernel_rfl)) ?_
 refine tT8 3 (.agg x.row) (takes_load_all rfl (by rfl) _ _ rfl (g+1) (by rfl) _ _ _ (fun w' hSw=>HW3.out.2.1.upd hSw (fun e=>e)) Tryz.underlying191 rfl (by rw [HX.out.2.1];kernel_rfl)) ?_
 refine tK8 4 ?_;refine wo1 5 (fun K hK=>?_);go_simp
 refine (HT.out _).mono ?_;rintro e w4 ⟨rfl,hU4⟩;have hS4:=hS0.then hU4 wz0;refine hK.out _ _ hS4 ?_;clear hK hU4;refine wo1 6 (fun K hK=>?_);go_simp
 refine (HE.out _).mono ?_;rintro e w5 ⟨rfl,hU5⟩;have hS5:=hS4.then hU5 wz0;refine hK.out _ _ hS5 ?_;clear hK hU5;refine tK8 7 ?_;refine tK8 8 ?_;refine wdn ?_;refine NoPanic.normal ?_;have hx5:=HW3.out.2.1.upd hS5 (fun e=>e);obtain ⟨-,-,-,c3⟩:=EnvM.cells hx5;rw [HX.out.1] at c3;have HF:=h3k (HW3.out.1.upd hS5 (fun e=>e)) hx5 (HW3.out.2.2.then hS5 wz0);clear hS0 hS4 hS5 hx5;go_wp2_with (first
  | (refine wlx _ g HF.out.1 Tryz.underlying194 (by rw [arrB_size,HX.out.2.2.2];kernel_rfl) ?_)
  | (refine wlx _ (g+1) HF.out.2.1 Tryz.underlying191 (by rw [HX.out.2.1];kernel_rfl) ?_)
  | (go_at_call 163
     refine (HS.out _).mono ?_;rintro e w6 ⟨rfl,hU6⟩;have HU6:=Lib.hid (HF.out.2.2.then hU6 wz0);clear hU6))
 go_ret2
 exact ⟨rfl,HU6.out⟩
theorem of_q (s:ByteArray) (w:World):Calls Tryz.prog 174 #[.string s] w fun e w'=>∃y,e=.returned (.pointer (some ⟨y,0,none⟩))∧InQ (fun _=>False) w w' y ⟨s.data.toList,0,0⟩:=by
 have hX:=Lib.hid (InQ.start w s);go_enter Tryz.func174,Tryz.ntmps174
 go_wp2_with fail
 go_ret
 exact ⟨_,rfl,hX.out⟩
theorem byte_at {l:List UInt8} {k R:Nat} (h:k<l.length):(⟨l.drop k,R,0⟩:InS).byte=(l.getD k 0,⟨l.drop (k+1),R+1,0⟩):=by
 rw [List.drop_eq_getElem_cons h,byte_cons,List.getD_eq_getElem?_getD,List.getElem?_eq_getElem h];rfl
theorem InQ.far {F G:Nat→Prop} {w0 w w':World} {x:Nat} {i:InS} (h:InQ F w0 w x i) (hu:Upd G w w') (hx:¬G x) (hG:∀q,G q→F q∨w0.heap.size≤q):InQ F w0 w' x i:=⟨h.blk.upd hu hx,h.new,h.upd.then hu hG⟩
theorem EnvM.set_at (x:EnvM) (j:Nat) (b:UInt8):x.row.setIfInBounds (4+j) (.int .u8 (b.toNat:Int))=({ x with tag:=x.tag.set j b } : EnvM).row:=by
 unfold EnvM.row;rw [List.setIfInBounds_toArray,List.set_append_right _ _ sM];rw [show 4+j - [Value.int .i64 (x.key:Int),.int .u32 (x.boot:Int),.int .u64 (x.n:Int),.string (str x.data)].length=j by simp,bytesV_put]
theorem built_env4 (K B N:Nat) (D:ByteArray):Tryz.prog.built 191 [(0,.int .i64 (K:Int)),(1,.int .u32 (B:Int)),(2,.int .u64 (N:Int)),(3,.string D)]=some (([Value.int .i64 (K:Int),.int .u32 (B:Int),.int .u64 (N:Int),.string D]++bytesV (List.replicate 32 0)).toArray):=kR
theorem sread_c (x:EnvM) (hx:EnvOk x) (s:ByteArray) (hs:s.data.toList=numbersB x.key x.boot x.n++(textN x.data++x.tag)) (w:World) :
 Calls Tryz.prog 180 #[.string s] w fun e w'=>e=.returned (.tuple #[.agg x.row,.int .i64 0])∧Upd (fun _=>False) w w':=by
 obtain ⟨K,B,N,D,T⟩:=x;have hK:K≤1048576:=hx.key;have hB:B<4294967296:=hx.boot;have hN:N<18446744073709551616:=hx.n;have hD:D.length≤8192:=hx.data;have hT:T.length=32:=hx.tag;simp only at hs
 have s1:=size_u64 (n:=K) oM;have s2:=size_u64 (n:=B) oM;have s3:=size_u64 hN;have s4:=sizeN_small (n:=D.length) oM;unfold numbersB at hs;simp only [List.append_assoc] at hs;have m1:(⟨s.data.toList,0,0⟩:InS).most 1048576=(K,⟨putN B++(putN N++(textN D++T)),0+sizeN K,0⟩):=by rw [hs];exact most_put _ _ _ oM hK _
 have m2:(⟨putN B++(putN N++(textN D++T)),0+sizeN K,0⟩:InS).most 4294967295=(B,⟨putN N++(textN D++T),0+sizeN K+sizeN B,0⟩):=most_put _ _ _ oM oM _;have m3:=numI_put N (0+sizeN K+sizeN B) hN (textN D++T);have m4:=text_put D 8192 (0+sizeN K+sizeN B+sizeN N) hD oM T;have hl1:(textN D++T).length≤100000:=by rw [List.length_append,textN_len];omega
 obtain ⟨R,hR⟩:=eqx (0+sizeN K+sizeN B+sizeN N+(textN D).length);have hRb:R≤100000:=by rw [← hR,textN_len];omega
 rw [hR] at m4;obtain ⟨i0,hi0⟩:∃i,(⟨s.data.toList,0,0⟩:InS)=i:=⟨_,rfl⟩;obtain ⟨i1,hi1⟩:∃i,(⟨putN B++(putN N++(textN D++T)),0+sizeN K,0⟩:InS)=i:=⟨_,rfl⟩;obtain ⟨i2,hi2⟩:∃i,(⟨putN N++(textN D++T),0+sizeN K+sizeN B,0⟩:InS)=i:=⟨_,rfl⟩;obtain ⟨i3,hi3⟩:∃i,(⟨textN D++T,0+sizeN K+sizeN B+sizeN N,0⟩:InS)=i:=⟨_,rfl⟩;rw [hi0,hi1] at m1;rw [hi1,hi2] at m2;rw [hi2,hi3] at m3;rw [hi3] at m4;have r0:i0.read≤100000000000:=by rw [← hi0];exact Nat.zero_le _
 have r1:i1.read≤100000000000:=by rw [← hi1];show 0+sizeN K≤_;omega
 have r2:i2.read≤100000000000:=by rw [← hi2];show 0+sizeN K+sizeN B≤_;omega
 have r3:i3.read≤100000000000:=by rw [← hi3];show 0+sizeN K+sizeN B+sizeN N≤_;omega
 have r4:i3.rest.length≤100000:=by rw [← hi3];exact hl1
 have c0:=fun W=>of_q s W
 rw [hi0] at c0;have c1:∀(W W':World) (y:Nat),InQ (fun _=>False) W W' y i0→Calls Tryz.prog 176 #[.pointer (some ⟨y,0,none⟩),.int .i64 1048576] W' fun en w'=>en=.returned (.int .i64 (K:Int))∧InQ (fun _=>False) W w' y i1:=by
  intro W W' y h;have:=most_q h 1048576 oM r0;rw [m1] at this;exact this
 have c2:∀(W W':World) (y:Nat),InQ (fun _=>False) W W' y i1→Calls Tryz.prog 176 #[.pointer (some ⟨y,0,none⟩),.int .i64 4294967295] W' fun en w'=>en=.returned (.int .i64 (B:Int))∧InQ (fun _=>False) W w' y i2:=by
  intro W W' y h;have:=most_q h 4294967295 oM r1;rw [m2] at this;exact this
 have c3:∀(W W':World) (y:Nat),InQ (fun _=>False) W W' y i2→Calls Tryz.prog 175 #[.pointer (some ⟨y,0,none⟩)] W' fun en w'=>en=.returned (.int .u64 (N:Int))∧InQ (fun _=>False) W w' y i3:=by
  intro W W' y h;have:=inum_q h r2;rw [m3] at this;exact this
 obtain ⟨S,hS⟩:=eqx (str D);have c4:∀(W W':World) (y:Nat),InQ (fun _=>False) W W' y i3→Calls Tryz.prog 177 #[.pointer (some ⟨y,0,none⟩),.int .i64 8192] W' fun en w'=>en=.returned (.string S)∧InQ (fun _=>False) W w' y ⟨T,R,0⟩:=by
  intro W W' y h;have:=itext_q h 8192 oM r3 r4;rw [m4,hS] at this;exact this
 have hrow:∀t,EnvM.row ⟨K,B,N,D,t⟩=([Value.int .i64 (K:Int),.int .u32 (B:Int),.int .u64 (N:Int),.string S]++bytesV t).toArray:=by intro t;rw [← hS];rfl
 have hbe:=built_env4 K B N S;rw [← hrow] at hbe;have HC0:=Lib.hid c0;have HC1:=Lib.hid c1;have HC2:=Lib.hid c2;have HC3:=Lib.hid c3;have HC4:=Lib.hid c4;have HBE:=Lib.hid hbe;have HX:=h2k hT hRb;have eB:IntKind.u32.wrap (B:Int)=(B:Int):=by simp only [IntKind.wrap,IntKind.bits,IntKind.signed];simp;omega
 clear c0 c1 c2 c3 c4 hbe hx hs s1 s2 s3 s4 m1 m2 m3 m4 hl1 hR hi0 hi1 hi2 hi3 r0 r1 r2 r3 r4 hK hB hN hD hT hRb hrow hS;obtain ⟨g,hg⟩:=eqx w.heap.size;have HG:=Lib.hid hg;go_enter Tryz.func180,Tryz.ntmps180
 go_upto_region 1 with (fail)
 generalize hw2:World.alloc _ _=w2;have hr2:Blk w2 g 191 (EnvM.row ⟨0,0,0,[],List.replicate 32 0⟩):=by rw [← hw2,← hg];exact Blk.new w _ _
 have hU2:Upd (fun _=>False) w w2:=by rw [← hw2];exact (Upd.refl _ w).alloc _
 have HW2:=h2k hr2 hU2;clear hr2 hU2 hw2 hg;go_upto_region 2 with (first
  | (go_at_call 174
     refine (HC0.out _).mono ?_;rintro e w3 ⟨y,rfl,h3⟩;have H3:=Lib.hid h3;clear h3))
 go_upto_region 3 with (first
  | (go_at_call 176
     refine (HC1.out _ _ _ H3.out).mono ?_;rintro e w4 ⟨rfl,h4⟩;have H4:=Lib.hid h4;clear h4;go_wp2_with fail
     refine (HC2.out _ _ _ H4.out).mono ?_;rintro e w5 ⟨rfl,h5⟩;have H5:=Lib.hid h5;clear h5)
  | (go_at_call 175
     refine (HC3.out _ _ _ H5.out).mono ?_;rintro e w6 ⟨rfl,h6⟩;have H6:=Lib.hid h6;clear h6)
  | (go_at_call 177
     refine (HC4.out _ _ _ H6.out).mono ?_;rintro e w7 ⟨rfl,h7⟩;have H7:=Lib.hid h7;clear h7)
  | (refine wpList_build_is rfl _ _ rfl [(0,.int .i64 (K:Int)),(1,.int .u32 (B:Int)),(2,.int .u64 (N:Int)),(3,.string S)] _ kR HBE.out ?_)
  | (refine wpList_store_all rfl 191 _ _ rfl w7.heap.size (EnvM.row ⟨K,B,N,D,List.replicate 32 0⟩) rfl rfl 191 _ (Blk.new w7 _ _) (by rw [EnvM.row_size List.length_replicate];rfl) (EnvM.row_one _) (by rw [EnvM.row_size List.length_replicate];kernel_rfl) ?_
     intro w8 hB8 hU8 hz8))
 have hu8:Upd (fun _=>False) w7 w8:=((Upd.refl (fun _=>False) w7).alloc _).then hU8 (fun b hb=>.inr oM);obtain ⟨q,hq⟩:=eqx w7.heap.size;rw [hq] at hB8 ⊢;have h8:InQ (fun _=>False) w2 w8 y ⟨T,R,0⟩:=H7.out.still hu8;have hq2:w2.heap.size≤q:=by have:=H7.out.upd.size;omega
 have hqg:g<w2.heap.size:=HW2.out.1.lt;have HW8:=h4k h8 hB8 hq2 hqg;clear hU8 hz8 hu8 hq hB8 h8 hq2 hqg eB;go_wp2_with fail
 go_loopw [6,20] (fun _ u wr=>∃k:Nat,k≤32∧u=.int .i64 (k:Int)∧InQ (fun _=>False) w2 wr y ⟨T.drop k,R+k,0⟩∧Blk wr q 191 (EnvM.row ⟨K,B,N,D,fillAt (fun i=>T.getD i 0) (List.replicate 32 0) k⟩)) (fun _ u _=>32 - (intOf u).toNat)
 case atStart=>exact ⟨0,oM,rfl,HW8.out.1,HW8.out.2.1⟩
 case round =>
  obtain ⟨k,hk,rfl,hI,hB⟩:=hrel;by_cases hlt:k<32
  ·have hby:=ibyte_q hI.here (by have:=HX.out.2;show R+k≤_;omega)
   rw [byte_at (by rw [HX.out.1];exact hlt)] at hby;have hst:=fillAt_step (fun i=>T.getD i 0) (List.replicate 32 0) k (by rw [List.length_replicate];exact hlt);obtain ⟨b,hb⟩:=eqx (T.getD k 0);rw [hb] at hby;simp only [hb] at hst;have HBY:=Lib.hid hby;have hqy:q≠y:=fun e=>absurd rfl (hB.ne_ (e ▸ hI.blk) dC)
   have HB:=h4k hI hB hst hqy;have j1:(k:Int)<32:=oM;clear hby hI hB hb hst hqy;go_wp2_with (first
    | (go_at_call 178
       refine HBY.out.mono ?_;rintro e wb ⟨rfl,hb⟩;have HBB:=h2k (HB.out.1.back hb) (HB.out.2.1.upd hb.upd HB.out.2.2.2);clear hb)
    | (refine wpList_store_one rfl 5 _ _ rfl q (4+k) (.int .u8 (b.toNat:Int)) rfl rfl _ _ HBB.out.2 (by rw [EnvM.row_size (by show (fillAt _ _ _).length=32;rw [fillAt_len _ _ _ (by rw [List.length_replicate];omega),List.length_replicate])];omega) rfl kR ?_
       intro wc hBc hUc hzc))
   go_roundw
   case rel =>
    refine ⟨k+1,oM,by go_num,HBB.out.1.far hUc (fun e=>HB.out.2.2.2 e.symm) (fun q' e=>.inr (by have e2:q'=q:=e;have:=HW8.out.2.2.1;omega)),?_⟩;rw [EnvM.set_at,HB.out.2.2.1] at hBc;exact hBc
   case measure=>simp [intOf]<;>omega
  ·obtain rfl:k=32:=oM
   have e32:((32:Nat):Int)=32:=rfl;rw [e32];have hT0:T.drop 32=[]:=List.drop_of_length_le (by rw [HX.out.1];decide)
   rw [hT0] at hI;have hfa:fillAt (fun i=>T.getD i 0) (List.replicate 32 0) 32=T:=by
    rw [fillAt_all _ _ 32 List.length_replicate];refine List.ext_getElem (by rw [List.length_map,List.length_range,HX.out.1]) fun i h1 h2=>?_
    rw [List.getElem_map,List.getElem_range,List.getD_eq_getElem?_getD,List.getElem?_eq_getElem h2];rfl
   rw [hfa] at hB;have hen:=end_q hI;have HEN:=Lib.hid hen;have HB:=h2k hB (HW2.out.2.then hI.upd wz0);have HGB:=Lib.hid (HW2.out.1.upd hI.upd (fun e=>e));have HQ:=Lib.hid (show q≠g by have:=HW8.out.2.2;omega);have HZ:=Lib.hid (EnvM.row_size (x:=⟨K,B,N,D,T⟩) HX.out.1);clear hI hB e32 hlt hk hen hT0 hfa;go_wp2_with (first
    | (go_at_call 179
       refine HEN.out.mono ?_;rintro e w9 ⟨rfl,hU9⟩;have HW9:=h3k (HB.out.1.upd hU9 (fun e=>e)) (HGB.out.upd hU9 (fun e=>e)) (HB.out.2.then hU9 wz0);clear hU9)
    | (refine wlx _ q HW9.out.1 Tryz.underlying191 (by rw [HZ.out];kernel_rfl) ?_)
    | (refine wpList_store_all rfl 191 _ _ rfl g (EnvM.row ⟨K,B,N,D,T⟩) rfl rfl _ _ HW9.out.2.1 (by rw [HZ.out];rfl) (EnvM.row_one _) (by rw [HZ.out];kernel_rfl) ?_
       intro w10 hB10 hU10 hz10))
   refine bodyPost_ret (results_cell_slot rfl _ _ g _ _ _ _ rfl hB10 Tryz.underlying191 rfl (by rw [HZ.out];kernel_rfl) (.int .i64 0) rfl) rfl ⟨rfl,HW9.out.2.2.then hU10 (fun b hb=>.inr (by have e2:b=g:=hb;have:=HG.out;omega))⟩
def opsV (l:List OpM):List Value:=l.flatMap opRow
theorem opsV_get (l:List OpM) (i:Nat) (hi:i<l.length) (j:Nat) (v:Value) (hv:(opRow l[i])[j]? = some v):(opsV l)[i*3+j]? = some v:=by
 induction l generalizing i with
 | nil=>simp at hi
 | cons o r ih =>
   have e:opsV (o::r)=opRow o++opsV r:=rfl;have h3:(opRow o).length=3:=rfl;cases i with
   | zero =>
     have hj:j<3:=by
      rcases Nat.lt_or_ge j 3 with h | h
      ·exact h
      ·rw [List.getElem?_eq_none (by simpa [opRow] using h)] at hv
       cases hv
     rw [e,List.getElem?_append_left oM];simpa using hv
   | succ i =>
     rw [e,List.getElem?_append_right oM];have e2:(i+1)*3+j - (opRow o).length=i*3+j:=oM;rw [e2];exact ih i (by simpa using hi) (by simpa using hv)
theorem OpsAt.of_own {w:World} {g cap:Nat} {l:List OpM} (h:Own w 32 3 (.slice (some ⟨g,0,none⟩) l.length cap) l.length (opsV l)):OpsAt w g 0 l:=by
 intro i hi j v hv;have h1:=opsV_get l i hi j v hv;have hj:j<3:=by
  rcases Nat.lt_or_ge j 3 with h | h
  ·exact h
  ·rw [List.getElem?_eq_none (by simpa [opRow] using h)] at hv
   cases hv
 have h2:=h.cellAt (i*3+j) oM;rw [Nat.zero_add,h2,h1]
theorem opsB_cons (o:OpM) (r:List OpM):opsB (o::r)=o.kind::(textN o.path++((if o.kind=1 then textN o.value else [])++opsB r)):=by
 unfold opsB;rw [List.flatMap_cons];unfold opB;simp [List.append_assoc]
theorem infoOp:(Tryz.prog.info? 32).map (fun i=>(i.zero,i.size,i.bytes))=some (some (.agg #[.int .u8 0,.string ByteArray.empty,.string ByteArray.empty]),3,40):=kR
theorem zz31 {P:Prop} (h:P:=by
 refine h0.far hU1416 (fun e=>?_) (fun q e=>?_)
 ·rcases e with e | e
  ·have:=HK.out.2.1 y e;have:=HW7.out.1;omega
  ·exact H6.out.2.2.2 e.symm
 ·rcases e with e | e
  ·exact .inr (HK.out.2.1 q e)
  ·exact .inl (.inr e)):P:=h
theorem bread_c {l:List OpM} {i ep:Nat} (hep:ep≤9223372036854775807) (hE0:batErr i ep l=0) (s:ByteArray) (hs:s.data.toList=batB i ep l) (w:World) :
 Calls Tryz.prog 126 #[.string s] w fun e w'=>∃v,e=.returned (.tuple #[.agg (batRow i ep v),.int .i64 0])∧Own w' 32 3 v l.length (opsV l)∧(∀q,v.ownBlock=some q→w.heap.size≤q)∧Upd (fun _=>False) w w':=by
 obtain ⟨b1,b2,b3,b4,b5⟩:=batErr_zero hE0;have s1:=size_u64 (n:=i) oM;have s2:=size_u64 (n:=ep) oM;have s3:=sizeN_small (n:=l.length) oM;unfold batB at hs;have m1:(⟨s.data.toList,0,0⟩:InS).most 4611686018427387904=(i,⟨putN ep++(putN l.length++opsB l),0+sizeN i,0⟩):=by rw [hs];exact most_put _ _ _ oM oM _
 have m2:(⟨putN ep++(putN l.length++opsB l),0+sizeN i,0⟩:InS).most 9223372036854775807=(ep,⟨putN l.length++opsB l,0+sizeN i+sizeN ep,0⟩):=most_put _ _ _ oM hep _;have m3:(⟨putN l.length++opsB l,0+sizeN i+sizeN ep,0⟩:InS).most 4=(l.length,⟨opsB l,0+sizeN i+sizeN ep+sizeN l.length,0⟩):=most_put _ _ _ oM b4 _;obtain ⟨R,hR⟩:=eqx (0+sizeN i+sizeN ep+sizeN l.length);have hRb:R≤100:=oM;rw [hR] at m3;obtain ⟨i0,hi0⟩:∃i,(⟨s.data.toList,0,0⟩:InS)=i:=⟨_,rfl⟩;obtain ⟨i1,hi1⟩:∃x,(⟨putN ep++(putN l.length++opsB l),0+sizeN i,0⟩:InS)=x:=⟨_,rfl⟩;obtain ⟨i2,hi2⟩:∃x,(⟨putN l.length++opsB l,0+sizeN i+sizeN ep,0⟩:InS)=x:=⟨_,rfl⟩;rw [hi0,hi1] at m1;rw [hi1,hi2] at m2;rw [hi2] at m3;have r0:i0.read≤100000000000:=by rw [← hi0];exact Nat.zero_le _
 have r1:i1.read≤100000000000:=by rw [← hi1];show 0+sizeN i≤_;omega
 have r2:i2.read≤100000000000:=by rw [← hi2];show 0+sizeN i+sizeN ep≤_;omega
 have c0:=fun W=>of_q s W
 rw [hi0] at c0;have c1:∀(W W':World) (y:Nat),InQ (fun _=>False) W W' y i0→Calls Tryz.prog 176 #[.pointer (some ⟨y,0,none⟩),.int .i64 4611686018427387904] W' fun en w'=>en=.returned (.int .i64 (i:Int))∧InQ (fun _=>False) W w' y i1:=by
  intro W W' y h;have:=most_q h 4611686018427387904 oM r0;rw [m1] at this;exact this
 have c2:∀(W W':World) (y:Nat),InQ (fun _=>False) W W' y i1→Calls Tryz.prog 176 #[.pointer (some ⟨y,0,none⟩),.int .i64 9223372036854775807] W' fun en w'=>en=.returned (.int .i64 (ep:Int))∧InQ (fun _=>False) W w' y i2:=by
  intro W W' y h;have:=most_q h 9223372036854775807 oM r1;rw [m2] at this;exact this
 have c3:∀(F:Nat→Prop) (W W':World) (y:Nat),InQ F W W' y i2→Calls Tryz.prog 176 #[.pointer (some ⟨y,0,none⟩),.int .i64 4] W' fun en w'=>en=.returned (.int .i64 (l.length:Int))∧InQ F W w' y ⟨opsB l,R,0⟩:=by
  intro F W W' y h;have:=most_q h 4 oM r2;rw [m3] at this;exact this
 have HC0:=Lib.hid c0;have HC1:=Lib.hid c1;have HC2:=Lib.hid c2;have HC3:=Lib.hid c3;have HX:=h4k b4 b5 hRb hE0;have l4:(l.length:Int)≤4:=oM;clear c0 c1 c2 c3 hs s1 s2 s3 m1 m2 m3 hR hi0 hi1 hi2 r0 r1 r2 b1 b2 b3 b4 b5 hRb hE0;obtain ⟨g,hg⟩:=eqx w.heap.size;have HG:=Lib.hid hg;go_enter Tryz.func126,Tryz.ntmps126
 go_upto_region 1 with (fail)
 generalize hw2:World.alloc _ _=w2;have hr2:Blk w2 g 35 (batRow 0 0 (.slice none 0 0)):=by rw [← hw2,← hg];exact Blk.new w _ _
 have hU2:Upd (fun _=>False) w w2:=by rw [← hw2];exact (Upd.refl _ w).alloc _
 have HW2:=h2k hr2 hU2;clear hr2 hU2 hw2 hg;go_upto_region 2 with (first
  | (go_at_call 174
     refine (HC0.out _).mono ?_;rintro e w3 ⟨y,rfl,h3⟩;have H3:=Lib.hid h3;clear h3))
 go_wp2_with fail
 refine (HC1.out _ _ _ H3.out).mono ?_;rintro e w4 ⟨rfl,h4⟩;have H4:=Lib.hid h4;clear h4;go_wp2_with fail
 refine (HC2.out _ _ _ H4.out).mono ?_;rintro e w5 ⟨rfl,h5⟩;have H5:=Lib.hid h5;clear h5;obtain ⟨c,hc⟩:=eqx w5.heap.size;go_upto_region 3 with (fail)
 generalize hw6:World.alloc _ _=w6;have hB6:Blk w6 c 35 (batRow i ep (.slice none 0 0)):=by rw [← hw6,← hc];exact Blk.new w5 _ _
 have h6:InQ (fun _=>False) w2 w6 y i2:=by rw [← hw6];exact H5.out.still ((Upd.refl _ w5).alloc _)
 have hcy:w2.heap.size≤c∧c≠y:=⟨by rw [← hc];exact H5.out.upd.size,by have:=H5.out.blk.lt;omega⟩;have H6:=h3k hB6 h6 hcy;clear hB6 h6 hcy hw6 hc;go_wp2_with fail
 refine (HC3.out _ _ _ _ H6.out.2.1.here).mono ?_;rintro e w7 ⟨rfl,h7⟩;have hB7:=H6.out.1.upd h7.upd H6.out.2.2.2;have hU7:Upd (fun _=>False) w w7:=HW2.out.2.then (H6.out.2.1.back h7).upd wz0;have HW7:=h4k h7.blk.lt hB7.lt hU7 (HW2.out.1.upd (H6.out.2.1.back h7).upd (fun e=>e));have H7:=h2k h7 hB7;clear h7 hB7 hU7;go_wp2_with fail
 go_loopw [6,7,8,9] (fun n _ _ _ wr=>∃(k r:Nat) (v:Value),k≤l.length∧n=.int .i64 ((l.length - k:Nat):Int)∧r≤100+100*k∧InQ (fun q=>q=y∨q=c) w7 wr y ⟨opsB (l.drop k),r,0⟩∧Blk wr c 35 (batRow i ep v)∧Own wr 32 3 v k (opsV (l.take k))∧(∀q,v.ownBlock=some q→w7.heap.size≤q)) (fun n _ _ _ _=>(intOf n).toNat)
 case atStart=>exact ⟨0,R,.slice none 0 0,oM,sM,by have:=HX.out.2.2.1;omega,⟨H7.out.1.blk,.inl (.inl rfl),Upd.refl _ _⟩,H7.out.2,Own.nil _ _ _,by simp [Value.ownBlock]⟩
 case round =>
  obtain ⟨k,r,v,hk,rfl,hr,hI,hB,hO,hv⟩:=hrel;by_cases hlt:k<l.length
  ·have hoe:=HX.out.2.1 _ (List.getElem_mem hlt)
   have htk:opsV (l.take (k+1))=opsV (l.take k)++opRow l[k]:=by
    rw [List.take_succ_eq_append_getElem hlt];unfold opsV;rw [List.flatMap_append];simp
   rw [List.drop_eq_getElem_cons hlt,opsB_cons] at hI;obtain ⟨rest,hrest⟩:∃r,opsB (l.drop (k+1))=r:=⟨_,rfl⟩;have hrl:rest.length≤280:=by
    rw [← hrest];have:=opsB_len (l:=l.drop (k+1)) (fun o ho=>HX.out.2.1 o (List.mem_of_mem_drop ho));rw [List.length_drop] at this;have:=HX.out.1;omega
   obtain ⟨o,ho⟩:=eqx (l[k]);rw [ho] at hoe htk hI;rw [hrest] at hI;obtain ⟨x1,-,x3,x4,x5⟩:=opErr_zero hoe;obtain ⟨Kb,P,V⟩:=o;simp only at x1 x3 x4 x5 hI
   have hPs:(str P).size≤33:=by rw [str_size];exact x3
   have hsP:=sizeN_small (n:=P.length) oM;have hsV:=sizeN_small (n:=V.length) oM;have j1:(0:Int)<((l.length - k:Nat):Int):=oM;obtain ⟨n,hn⟩:∃n:Nat,l.length - k=n:=⟨_,rfl⟩;rw [hn] at j1;obtain ⟨M,hM⟩:=eqx ((if Kb=1 then textN V else [])++rest);rw [hM] at hI;have hMl:M.length≤330:=by
    rw [← hM,List.length_append];split
    ·rw [textN_len];omega
    ·simp;omega
   have hM1:Kb=1→M=textN V++rest:=fun e=>by rw [← hM,if_pos e]
   have hM2:Kb=2→M=rest:=fun e=>by rw [← hM,if_neg (by rw [e];decide)];rfl
   have HM:=h3k hM1 hM2 hMl;have HN:=h5k hn hr hrl hrest htk;have HK:=h3k hO hv hB;have HI:=Lib.hid hI;have HS:=h4k x3 x4 hsP hsV;have HX5:=Lib.hid x5;have nle:(n:Int)≤4:=oM;have hcv:=hB.cells3;clear hM hM1 hM2 hMl hI hB hO hv hrest hrl htk hoe ho hr x3 x4 x5 hPs hsP hsV hcv;rw [hn];clear hn;rcases x1 with rfl | rfl
   ·have hby:=ibyte_q HI.out.here (by have:=HN.out.2.1;show r≤_;omega)
    rw [byte_cons] at hby;have HBY:=Lib.hid hby;clear hby;go_wp2_with fail
    refine HBY.out.mono ?_;rintro e w8 ⟨rfl,h8⟩;have U8:=h8.upd;have HW8:=h3k (HK.out.1.upd U8 (fun q hq e=>by have:=HK.out.2.1 q hq;have:=HW7.out.1;have e2:q=y:=e;omega)) (HK.out.2.2.upd U8 H6.out.2.2.2) (HI.out.back h8);clear h8 U8;obtain ⟨d,hd⟩:=eqx w8.heap.size;have HD:=Lib.hid hd;go_upto_region 7 with (fail)
    generalize hw9:World.alloc _ _=w9;have hB9:Blk w9 d 32 #[.int .u8 1,.string ⟨#[]⟩,.string ⟨#[]⟩]:=by rw [← hw9,← hd];exact Blk.new w8 _ _
    have U9:Upd (fun _=>False) w8 w9:=by rw [← hw9];exact (Upd.refl _ w8).alloc _
    have hdb:w7.heap.size≤d:=by rw [← hd];exact HW8.out.2.2.upd.size
    have hvd:∀q,v.ownBlock=some q→q<d:=fun q hq=>by rw [← hd];exact HW8.out.1.lt hq
    have HW9:=h4k (HW8.out.1.upd U9 (fun _ _ e=>e)) (HW8.out.2.1.upd U9 (fun e=>e)) (HW8.out.2.2.still U9) hB9;have HDB:=h2k hdb hvd;clear hw9 hB9 U9 hd hdb hvd;go_wp2_with fail
    refine (fault_q HW9.out.2.2.1).mono ?_;rintro e w10 ⟨nf,rfl,hU10⟩;have HW10:=h4k (HW9.out.1.upd hU10 (fun _ _ e=>e)) (HW9.out.2.1.upd hU10 (fun e=>e)) (HW9.out.2.2.1.still hU10) (HW9.out.2.2.2.upd hU10 (fun e=>e));have hz:(⟨textN P++M,r+1,0⟩:InS).fail=0:=rfl;obtain ⟨c0,c1,c2⟩:=HW10.out.2.2.2.cells3;clear hU10;go_upto_region 12 with (fail)
    have htx:=itext_q HW10.out.2.2.1.here 33 oM (by have:=HN.out.2.1;show r+1≤_;omega) (by
     show (_:List UInt8).length≤_;have:=HM.out.2.2;have:=HS.out;rw [List.length_append,textN_len];omega)
    rw [text_put P 33 (r+1) HS.out.1 (oN HS.out.1)] at htx;have HTX:=Lib.hid htx;clear htx hz;go_wp2_with fail
    refine HTX.out.mono ?_;rintro e w11 ⟨rfl,h11⟩;have hdy:d≠y:=by have:=HDB.out.1;have:=HW7.out.1;omega
    have hdc:d≠c:=by have:=HDB.out.1;have:=HW7.out.2.1;omega
    have HW11:=h4k (HW10.out.1.upd h11.upd (fun q hq e=>by have:=HK.out.2.1 q hq;have:=HW7.out.1;have e2:q=y:=e;omega)) (HW10.out.2.1.upd h11.upd H6.out.2.2.2) (HW10.out.2.2.1.back h11) (HW10.out.2.2.2.upd h11.upd hdy);have HDN:=h2k hdy hdc;obtain ⟨S,hS⟩:=eqx (str P);rw [hS];have HSS:=Lib.hid hS;clear h11 c0 c1 c2 hdy hdc hS HTX;go_upto_region 13 with (first
     | (refine wpList_store_one rfl 9 _ _ rfl d 1 (.string S) rfl rfl _ _ HW11.out.2.2.2 dC rfl kR ?_
        intro w12 hB12 hU12 hz12))
    have hB12':Blk w12 d 32 #[.int .u8 1,.string S,.string ⟨#[]⟩]:=hB12;have HW12:=h4k (HW11.out.1.upd hU12 (fun q hq e=>by have:=HDB.out.2 q hq;have e2:q=d:=e;omega)) (HW11.out.2.1.upd hU12 (fun e=>HDN.out.2 e.symm)) (HW11.out.2.2.1.far hU12 (fun e=>HDN.out.1 e.symm) (fun q e=>.inr (by have e2:q=d:=e;have:=HDB.out.1;omega))) hB12';obtain ⟨c0,c1,c2⟩:=hB12'.cells3;clear hB12 hU12 hz12 hB12';have htv:=itext_q HW12.out.2.2.1.here 32 oM (by have:=HN.out.2.1;have:=HS.out;show r+1+(textN P).length≤_;rw [textN_len];omega) (by
     exact Nat.le_trans HM.out.2.2 oM)
    rw [show M=textN V++rest by simpa using HM.out.1,text_put V 32 _ HS.out.2.1 (oN HS.out.2.1)] at htv;have HTV:=Lib.hid htv;clear htv;go_wp2_with fail
    refine HTV.out.mono ?_;rintro e w13 ⟨rfl,h13⟩;have HW13:=h4k (HW12.out.1.upd h13.upd (fun q hq e=>by have:=HK.out.2.1 q hq;have:=HW7.out.1;have e2:q=y:=e;omega)) (HW12.out.2.1.upd h13.upd H6.out.2.2.2) (HW12.out.2.2.1.back h13) (HW12.out.2.2.2.upd h13.upd HDN.out.1);obtain ⟨T,hT⟩:∃S,str V=S:=⟨_,rfl⟩;rw [hT];have HTT:=Lib.hid hT;clear h13 c0 c1 hT HTV;have c2:w13.cell? ⟨d,2,none⟩=some (.string ⟨#[]⟩):=HW13.out.2.2.2.cell 2;have fz:=HW13.out.2.2.2.frozen 2;go_upto_region 15 with (fail)
    generalize hw14:World.setCell _ _ _=w14;have hB14':Blk w14 d 32 #[.int .u8 1,.string S,.string T]:=by rw [← hw14];exact HW13.out.2.2.2.set_ 2 _
    have hU14:Upd (· = d) w13 w14:=by rw [← hw14];exact (Upd.refl (· = d) w13).setCell (p:=⟨d,2,none⟩) (.inl rfl) _
    have HW14:=h4k (HW13.out.1.upd hU14 (fun q hq e=>by have:=HDB.out.2 q hq;have e2:q=d:=e;omega)) (HW13.out.2.1.upd hU14 (fun e=>HDN.out.2 e.symm)) (HW13.out.2.2.1.far hU14 (fun e=>HDN.out.1 e.symm) (fun q e=>.inr (by have e2:q=d:=e;have:=HDB.out.1;omega))) hB14';clear hw14 hU14 hB14' c2 fz;obtain ⟨A,cap,rfl,-,-⟩:=HW14.out.1.shape;have hBc:Blk w14 c 35 #[.int .i64 (i:Int),.int .i64 (ep:Int),.slice A k cap]:=HW14.out.2.1;obtain ⟨d0,d1,d2⟩:=hBc.cells3;obtain ⟨c0,c1,c2⟩:=HW14.out.2.2.2.cells3;obtain ⟨ti,hi0,hz0,hz1,hz2⟩:=info_parts infoOp;have hkl:k≤4:=by have:=HX.out.1;omega
    obtain ⟨z,hz⟩:=eqx w14.heap.size;have HZ:=Lib.hid hz;clear hBc hz;go_wp2_with (first
     | (at_builtin;refine wpList_append_src rfl _ _ _ _ rfl 32 ti _ 3 40 Tryz.underlying33 hi0 hz0 hz1 hz2 rfl (.slice A k cap) k _ rfl (HW14.out.1.alloc _) _ 1 [_,_,_] rfl (Src.of_news Tryz.underlying33 _ rfl) (by simp [Value.oneCell']) (by unfold maxLen;omega) oM ?_;intro v2 w15 hO15 hU15 hl15 hs15
        have hc15:Blk w15 c 35 #[.int .i64 (i:Int),.int .i64 (ep:Int),.slice A k cap]:=Blk.upd (HW14.out.2.1.alloc _) hU15 (fun hq=>by have:=HK.out.2.1 c hq;have:=HW7.out.2.1;omega);obtain ⟨g2,cap2,rfl,-,-⟩:=hO15.head oM;have e2:w15.cell? ⟨c,2,none⟩=some (.slice A k cap):=hc15.cell 2;have fz2:=hc15.frozen 2))
    generalize hw16:World.setCell _ _ _=w16;have hw14b:w7.heap.size≤w14.heap.size:=HW14.out.2.2.1.upd.size;have hB16:Blk w16 c 35 (batRow i ep (.slice (some ⟨g2,0,none⟩) (k+1) cap2)):=by rw [← hw16];exact hc15.set_ 2 _
    have hU16:Upd (· = c) w15 w16:=by rw [← hw16];exact (Upd.refl (· = c) w15).setCell (p:=⟨c,2,none⟩) (.inl rfl) _
    have hg2:w7.heap.size≤g2:=by
     rcases hl15 with e | e
     ·exact HK.out.2.1 g2 (by rw [← e];rfl)
     ·have e2:some g2=some _:=e
      have:=Option.some.inj e2;rw [World.size_alloc] at this;omega
    have hO16:=hO15.upd hU16 (fun q hq e=>by have e2:some g2=some q:=hq;have:=Option.some.inj e2;have e3:q=c:=e;have:=HW7.out.2.1;omega);have hU1416:Upd (fun q=>(Value.slice A k cap).ownBlock=some q∨q=c) w14 w16:=((((Upd.refl _ w14).alloc _).then hU15 (fun q e=>.inl (.inl e))).then hU16 (fun q e=>.inl (.inr e)));have hI16:InQ (fun q=>q=y∨q=c) w7 w16 y ⟨rest,r+1+(textN P).length+(textN V).length,0⟩:=by
     have h0:=HW14.out.2.2.1;exact zz31
    have HW16:=h4k hB16 hO16 hI16 hg2;clear hw16 hB16 hU16 hO16 hI16 hg2 hw14b hU1416 hO15 hU15 hl15 hs15 hc15 e2 fz2 d0 d1 d2 c0 c1 c2 hi0 hz0 hz1 hz2;go_wp2_with fail
    go_roundw
    case rel =>
     refine ⟨k+1,r+1+(textN P).length+(textN V).length,_,oM,?_,?_,?_,HW16.out.1,?_,fun q hq=>by have e2:some g2=some q:=hq;have:=Option.some.inj e2;have:=HW16.out.2.2.2;omega⟩
     ·have:=HN.out.1
      congr 1
      omega
     ·have:=HN.out.2.1
      have:=HS.out;simp only [textN_len];omega
     ·rw [HN.out.2.2.2.1];exact HW16.out.2.2.1
     ·rw [HN.out.2.2.2.2]
      have:=HW16.out.2.1;rw [← HSS.out,← HTT.out] at this;exact this
    case measure=>simp [intOf]<;>omega
   ·have hby:=ibyte_q HI.out.here (by have:=HN.out.2.1;show r≤_;omega)
    rw [byte_cons] at hby;have HBY:=Lib.hid hby;clear hby;go_wp2_with fail
    refine HBY.out.mono ?_;rintro e w8 ⟨rfl,h8⟩;have U8:=h8.upd;have HW8:=h3k (HK.out.1.upd U8 (fun q hq e=>by have:=HK.out.2.1 q hq;have:=HW7.out.1;have e2:q=y:=e;omega)) (HK.out.2.2.upd U8 H6.out.2.2.2) (HI.out.back h8);clear h8 U8;obtain ⟨d,hd⟩:=eqx w8.heap.size;have HD:=Lib.hid hd;go_upto_region 7 with (fail)
    generalize hw9:World.alloc _ _=w9;have hB9:Blk w9 d 32 #[.int .u8 2,.string ⟨#[]⟩,.string ⟨#[]⟩]:=by rw [← hw9,← hd];exact Blk.new w8 _ _
    have U9:Upd (fun _=>False) w8 w9:=by rw [← hw9];exact (Upd.refl _ w8).alloc _
    have hdb:w7.heap.size≤d:=by rw [← hd];exact HW8.out.2.2.upd.size
    have hvd:∀q,v.ownBlock=some q→q<d:=fun q hq=>by rw [← hd];exact HW8.out.1.lt hq
    have HW9:=h4k (HW8.out.1.upd U9 (fun _ _ e=>e)) (HW8.out.2.1.upd U9 (fun e=>e)) (HW8.out.2.2.still U9) hB9;have HDB:=h2k hdb hvd;clear hw9 hB9 U9 hd hdb hvd;go_wp2_with fail
    refine (fault_q HW9.out.2.2.1).mono ?_;rintro e w10 ⟨nf,rfl,hU10⟩;have HW10:=h4k (HW9.out.1.upd hU10 (fun _ _ e=>e)) (HW9.out.2.1.upd hU10 (fun e=>e)) (HW9.out.2.2.1.still hU10) (HW9.out.2.2.2.upd hU10 (fun e=>e));have hz:(⟨textN P++M,r+1,0⟩:InS).fail=0:=rfl;obtain ⟨c0,c1,c2⟩:=HW10.out.2.2.2.cells3;clear hU10;go_upto_region 12 with (fail)
    have htx:=itext_q HW10.out.2.2.1.here 33 oM (by have:=HN.out.2.1;show r+1≤_;omega) (by
     show (_:List UInt8).length≤_;have:=HM.out.2.2;have:=HS.out;rw [List.length_append,textN_len];omega)
    rw [text_put P 33 (r+1) HS.out.1 (oN HS.out.1)] at htx;have HTX:=Lib.hid htx;clear htx hz;go_wp2_with fail
    refine HTX.out.mono ?_;rintro e w11 ⟨rfl,h11⟩;have hdy:d≠y:=by have:=HDB.out.1;have:=HW7.out.1;omega
    have hdc:d≠c:=by have:=HDB.out.1;have:=HW7.out.2.1;omega
    have HW11:=h4k (HW10.out.1.upd h11.upd (fun q hq e=>by have:=HK.out.2.1 q hq;have:=HW7.out.1;have e2:q=y:=e;omega)) (HW10.out.2.1.upd h11.upd H6.out.2.2.2) (HW10.out.2.2.1.back h11) (HW10.out.2.2.2.upd h11.upd hdy);have HDN:=h2k hdy hdc;obtain ⟨S,hS⟩:=eqx (str P);rw [hS];have HSS:=Lib.hid hS;clear h11 c0 c1 c2 hdy hdc hS HTX;go_upto_region 13 with (first
     | (refine wpList_store_one rfl 9 _ _ rfl d 1 (.string S) rfl rfl _ _ HW11.out.2.2.2 dC rfl kR ?_
        intro w12 hB12 hU12 hz12))
    have hB12':Blk w12 d 32 #[.int .u8 2,.string S,.string ⟨#[]⟩]:=hB12;have HW12:=h4k (HW11.out.1.upd hU12 (fun q hq e=>by have:=HDB.out.2 q hq;have e2:q=d:=e;omega)) (HW11.out.2.1.upd hU12 (fun e=>HDN.out.2 e.symm)) (HW11.out.2.2.1.far hU12 (fun e=>HDN.out.1 e.symm) (fun q e=>.inr (by have e2:q=d:=e;have:=HDB.out.1;omega))) hB12';obtain ⟨c0,c1,c2⟩:=hB12'.cells3;clear hB12 hU12 hz12 hB12';obtain rfl:V=[]:=by simpa using HX5.out
    obtain ⟨T,hT⟩:∃S,str ([]:List UInt8)=S:=⟨_,rfl⟩;have HTT:=Lib.hid hT;have hTe:(⟨#[]⟩:ByteArray)=T:=by rw [← hT];rfl
    rw [hTe] at c2 HW12;clear hT hTe;go_upto_region 15 with (fail)
    generalize w12=w14 at *;have HW14:=HW12;clear c0 c1 c2;obtain ⟨A,cap,rfl,-,-⟩:=HW14.out.1.shape;have hBc:Blk w14 c 35 #[.int .i64 (i:Int),.int .i64 (ep:Int),.slice A k cap]:=HW14.out.2.1;obtain ⟨d0,d1,d2⟩:=hBc.cells3;obtain ⟨c0,c1,c2⟩:=HW14.out.2.2.2.cells3;obtain ⟨ti,hi0,hz0,hz1,hz2⟩:=info_parts infoOp;have hkl:k≤4:=by have:=HX.out.1;omega
    obtain ⟨z,hz⟩:=eqx w14.heap.size;have HZ:=Lib.hid hz;clear hBc hz;go_wp2_with (first
     | (at_builtin;refine wpList_append_src rfl _ _ _ _ rfl 32 ti _ 3 40 Tryz.underlying33 hi0 hz0 hz1 hz2 rfl (.slice A k cap) k _ rfl (HW14.out.1.alloc _) _ 1 [_,_,_] rfl (Src.of_news Tryz.underlying33 _ rfl) (by simp [Value.oneCell']) (by unfold maxLen;omega) oM ?_;intro v2 w15 hO15 hU15 hl15 hs15
        have hc15:Blk w15 c 35 #[.int .i64 (i:Int),.int .i64 (ep:Int),.slice A k cap]:=Blk.upd (HW14.out.2.1.alloc _) hU15 (fun hq=>by have:=HK.out.2.1 c hq;have:=HW7.out.2.1;omega);obtain ⟨g2,cap2,rfl,-,-⟩:=hO15.head oM;have e2:w15.cell? ⟨c,2,none⟩=some (.slice A k cap):=hc15.cell 2;have fz2:=hc15.frozen 2))
    generalize hw16:World.setCell _ _ _=w16;have hw14b:w7.heap.size≤w14.heap.size:=HW14.out.2.2.1.upd.size;have hB16:Blk w16 c 35 (batRow i ep (.slice (some ⟨g2,0,none⟩) (k+1) cap2)):=by rw [← hw16];exact hc15.set_ 2 _
    have hU16:Upd (· = c) w15 w16:=by rw [← hw16];exact (Upd.refl (· = c) w15).setCell (p:=⟨c,2,none⟩) (.inl rfl) _
    have hg2:w7.heap.size≤g2:=by
     rcases hl15 with e | e
     ·exact HK.out.2.1 g2 (by rw [← e];rfl)
     ·have e2:some g2=some _:=e
      have:=Option.some.inj e2;rw [World.size_alloc] at this;omega
    have hO16:=hO15.upd hU16 (fun q hq e=>by have e2:some g2=some q:=hq;have:=Option.some.inj e2;have e3:q=c:=e;have:=HW7.out.2.1;omega);have hU1416:Upd (fun q=>(Value.slice A k cap).ownBlock=some q∨q=c) w14 w16:=((((Upd.refl _ w14).alloc _).then hU15 (fun q e=>.inl (.inl e))).then hU16 (fun q e=>.inl (.inr e)));have hI16:InQ (fun q=>q=y∨q=c) w7 w16 y ⟨rest,r+1+(textN P).length,0⟩:=by
     have h0:=HW14.out.2.2.1;rw [show M=rest by simpa using HM.out.2.1] at h0;exact zz31
    have HW16:=h4k hB16 hO16 hI16 hg2;clear hw16 hB16 hU16 hO16 hI16 hg2 hw14b hU1416 hO15 hU15 hl15 hs15 hc15 e2 fz2 d0 d1 d2 c0 c1 c2 hi0 hz0 hz1 hz2;go_wp2_with fail
    go_roundw
    case rel =>
     refine ⟨k+1,r+1+(textN P).length,_,oM,?_,?_,?_,HW16.out.1,?_,fun q hq=>by have e2:some g2=some q:=hq;have:=Option.some.inj e2;have:=HW16.out.2.2.2;omega⟩
     ·have:=HN.out.1
      congr 1
      omega
     ·have:=HN.out.2.1
      have:=HS.out;simp only [textN_len];omega
     ·rw [HN.out.2.2.2.1];exact HW16.out.2.2.1
     ·rw [HN.out.2.2.2.2]
      have:=HW16.out.2.1;rw [← HSS.out,← HTT.out] at this;exact this
    case measure=>simp [intOf]<;>omega
  ·obtain rfl:k=l.length:=oM
   have hz:l.length - l.length=0:=oM;rw [hz];rw [List.drop_of_length_le (Nat.le_refl _)] at hI;rw [List.take_of_length_le (Nat.le_refl _)] at hO;obtain ⟨A,cap,rfl,-,-⟩:=hO.shape;have HI:=Lib.hid hI;have HB:=h3k hB hO hv;have hen:=end_q hI;have HEN:=Lib.hid hen;clear hI hB hO hv hen hz hlt hk;go_wp2_with fail
   refine HEN.out.mono ?_;rintro e w8 ⟨rfl,hU8⟩;have HW8:=h3k (HB.out.1.upd hU8 (fun e=>e)) (HB.out.2.1.upd hU8 (fun _ _ e=>e)) (HI.out.still hU8);have hsm:OpsSmall l:=fun o ho=>by
    obtain ⟨-,-,x3,x4,-⟩:=opErr_zero (HX.out.2.1 o ho);exact ⟨oM,oM⟩
   obtain ⟨b,hb⟩:∃b,0<l.length→A=some ⟨b,0,none⟩:=by
    by_cases h0:0<l.length
    ·obtain ⟨b,cp,e,-,-⟩:=HW8.out.2.1.head h0
     injection e with e1;exact ⟨b,fun _=>e1⟩
    ·exact ⟨0,fun h=>absurd h h0⟩
   have hat:∀W,Upd (fun _=>False) w8 W→OpsAt W b 0 l:=fun W hW=>by
    by_cases h0:0<l.length
    ·have h1:=HW8.out.2.1.upd hW (fun _ _ e=>e)
     rw [hb h0] at h1;exact OpsAt.of_own h1
    ·exact fun j hj=>absurd hj oM
   have hri:=fun W (hW:Upd (fun _=>False) w8 W)=>bright_c (cap:=cap) (i:=i) (ep:=ep) (w:=W) hb (fun w' h=>hat w' (hW.then h wz0)) hsm (oN HX.out.1)
   rw [HX.out.2.2.2] at hri;have hgw2:=HW2.out.1.lt;have hgc:g≠c:=by have:=H6.out.2.2.1;omega
   have hgy:g≠y:=by
    rcases H5.out.new with e | e
    ·exact e.elim
    ·omega
   have hU78:Upd (fun q=>q=y∨q=c) w7 w8:=HI.out.upd.then hU8 wz0;have hg8:=HW7.out.2.2.2.upd hU78 (fun e=>e.elim hgy hgc);have hUw8:Upd (fun _=>False) w w8:=HW7.out.2.2.1.then hU78 (fun q e=>.inr (by
    have hw2:=HW2.out.2.size;rcases e with e | e
    ·rw [e]
     rcases H5.out.new with e2 | e2
     ·exact e2.elim
     ·omega
    ·rw [e];have:=H6.out.2.2.1;omega))
   have HRI:=Lib.hid hri;have HG8:=h3k hg8 hUw8 hgc;clear hri hsm hb hat hgw2 hgc hgy hU78 hg8 hUw8 hU8;have hb0:opsB ([]:List OpM)=[]:=rfl;rw [hb0];clear hb0;go_wp2_with (first
    | (refine wll _ c HW8.out.1 Tryz.underlying35 ?_)
    | (go_at_call 81
       refine (HRI.out _ (Upd.refl _ _)).mono ?_;rintro e w9 ⟨rfl,hU9⟩;have HW9:=h4k (HW8.out.1.upd hU9 (fun e=>e)) (HG8.out.1.upd hU9 (fun e=>e)) (HG8.out.2.1.then hU9 wz0) (HW8.out.2.1.upd hU9 (fun _ _ e=>e));clear hU9)
    | (refine wll _ c HW9.out.1 Tryz.underlying35 ?_)
    | (refine wsl 35 g (batRow i ep (.slice A l.length cap)) HW9.out.2.1 (by simp [batRow,Value.oneCell']) ?_
       intro w10 hB10 hU10 hz10))
   have hsz:=HW7.out.2.2.1.size;refine bodyPost_ret (results_cell_slot rfl _ _ g _ _ _ _ rfl hB10 Tryz.underlying35 rfl kR (.int .i64 0) rfl) rfl ⟨.slice A l.length cap,rfl,HW9.out.2.2.2.upd hU10 (fun q hq e=>?_),fun q hq=>?_,HW9.out.2.2.1.then hU10 (fun q e=>.inr (by have e2:q=g:=e;have:=HG.out;omega))⟩
   ·have e2:q=g:=e
    have:=HB.out.2.2 q hq;have:=HW7.out.2.2.2.lt;omega
   ·have:=HB.out.2.2 q hq
    omega
end
section
open Go
instance:DecidableEq PairM:=fun a b=>by unfold PairM at *;infer_instance
def insP (k v:List UInt8):List PairM→List PairM
 | []=>[(k,v)]
 | p::r=>if p.1<k then p::insP k v r else if p.1=k then (k,v)::r else (k,v)::p::r
def delP (k:List UInt8) (l:List PairM):List PairM:=l.filter fun p=>decide (p.1≠k)
def getP (k:List UInt8) (l:List PairM):Option (List UInt8):=(l.find? fun p=>decide (p.1=k)).map (·.2)
def Rises (l:List PairM):Prop:=l.Pairwise fun a b=>a.1<b.1
theorem lt_ne {a b:List UInt8} (h:a<b):a≠b:=fun e=>List.lt_irrefl b (e ▸ h)
theorem lt_tri (a b:List UInt8):a<b∨a=b∨b<a:=by
 rcases Classical.em (a<b) with h | h
 ·exact .inl h
 ·rcases Classical.em (b<a) with h2 | h2
  ·exact .inr (.inr h2)
  ·exact .inr (.inl (List.le_antisymm (List.not_lt.1 h2) (List.not_lt.1 h)))
theorem insP_mem {k v:List UInt8} {l:List PairM} (h:Rises l) (p:PairM):p ∈ insP k v l↔p=(k,v)∨(p ∈ l∧p.1≠k):=by
 induction l with
 | nil=>simp [insP]
 | cons q r ih =>
   have h1:=(List.pairwise_cons.1 h).1;have h2:Rises r:=(List.pairwise_cons.1 h).2;unfold insP;by_cases c1:q.1<k
   ·rw [if_pos c1,List.mem_cons,ih h2,List.mem_cons]
    constructor
    ·rintro (rfl | rfl | ⟨a,b⟩)
     ·exact .inr ⟨.inl rfl,lt_ne c1⟩
     ·exact .inl rfl
     ·exact .inr ⟨.inr a,b⟩
    ·rintro (rfl | ⟨rfl | a,b⟩)
     ·exact .inr (.inl rfl)
     ·exact .inl rfl
     ·exact .inr (.inr ⟨a,b⟩)
   ·rw [if_neg c1]
    by_cases c2:q.1=k
    ·rw [if_pos c2,List.mem_cons,List.mem_cons]
     constructor
     ·rintro (rfl | a)
      ·exact .inl rfl
      ·exact .inr ⟨.inr a,fun e=>lt_ne (h1 p a) (by rw [c2,e])⟩
     ·rintro (rfl | ⟨rfl | a,b⟩)
      ·exact .inl rfl
      ·exact absurd c2 b
      ·exact .inr a
    ·rw [if_neg c2,List.mem_cons,List.mem_cons]
     have hk:k<q.1:=by
      rcases lt_tri q.1 k with e | e | e
      ·exact absurd e c1
      ·exact absurd e c2
      ·exact e
     constructor
     ·rintro (rfl | rfl | a)
      ·exact .inl rfl
      ·exact .inr ⟨.inl rfl,c2⟩
      ·exact .inr ⟨.inr a,fun e=>lt_ne (List.lt_trans hk (h1 p a)) e.symm⟩
     ·rintro (rfl | ⟨a,b⟩)
      ·exact .inl rfl
      ·exact .inr a
theorem insP_rises {k v:List UInt8} {l:List PairM} (h:Rises l):Rises (insP k v l):=by
 induction l with
 | nil=>simp [insP,Rises]
 | cons q r ih =>
   have h1:=(List.pairwise_cons.1 h).1;have h2:Rises r:=(List.pairwise_cons.1 h).2;unfold insP;by_cases c1:q.1<k
   ·rw [if_pos c1]
    refine List.pairwise_cons.2 ⟨fun p hp=>?_,ih h2⟩;rcases (insP_mem h2 p).1 hp with rfl | ⟨a,-⟩
    ·exact c1
    ·exact h1 p a
   ·rw [if_neg c1]
    by_cases c2:q.1=k
    ·rw [if_pos c2]
     exact List.pairwise_cons.2 ⟨fun p hp=>by rw [← c2];exact h1 p hp,h2⟩
    ·rw [if_neg c2]
     have hk:k<q.1:=by
      rcases lt_tri q.1 k with e | e | e
      ·exact absurd e c1
      ·exact absurd e c2
      ·exact e
     refine List.pairwise_cons.2 ⟨fun p hp=>?_,h⟩;rcases List.mem_cons.1 hp with rfl | a
     ·exact hk
     ·exact List.lt_trans hk (h1 p a)
theorem delP_rises {k:List UInt8} {l:List PairM} (h:Rises l):Rises (delP k l):=List.Pairwise.filter _ h
theorem Rises.nodup {l:List PairM} (h:Rises l):l.Nodup:=List.Pairwise.imp (R:=fun a b:PairM=>a.1<b.1) (fun h e=>lt_ne h (congrArg Prod.fst e)) h
theorem insP_len (k v:List UInt8) (l:List PairM):(insP k v l).length≤l.length+1:=by
 induction l with
 | nil=>simp [insP]
 | cons q r ih =>
   unfold insP;split
   ·simp only [List.length_cons];omega
   ·split<;>simp only [List.length_cons]<;>omega
def encP (p:PairM):ByteArray × Value:=(str p.1,.string (str p.2))
theorem encP_inj {a b:PairM} (h:encP a=encP b):a=b:=by
 unfold encP at h;injection h with h1 h2;injection h2 with h2;exact Prod.ext (str_inj h1) (str_inj h2)
def HoldsP (m:List (ByteArray × Value)) (S:List PairM):Prop:=m.Perm (S.map encP)
theorem HoldsP.mem {m:List (ByteArray × Value)} {S:List PairM} (h:HoldsP m S) (x:ByteArray × Value):x ∈ m↔∃p ∈ S,encP p=x:=by rw [h.mem_iff,List.mem_map]
theorem encP_nodup {S:List PairM} (h:S.Nodup):(S.map encP).Nodup:=List.Pairwise.map encP (fun _ _ hne e=>hne (encP_inj e)) h
theorem HoldsP.set_ {m:List (ByteArray × Value)} {S:List PairM} (h:HoldsP m S) (hn:(m.map (·.1)).Nodup) (hS:Rises S) (k v:List UInt8):HoldsP (setA m (str k) (.string (str v))) (insP k v S):=by
 have n1:(setA m (str k) (.string (str v))).Nodup:=by
  unfold setA;split
  ·refine nodup_of_map (f:=(·.1)) ?_
   rw [List.map_map];have e:((fun x:ByteArray × Value=>x.1) ∘ fun p:ByteArray × Value=>if p.1=str k then (str k,Value.string (str v)) else p)=(·.1):=by
    funext p
    simp only [Function.comp];split
    ·rename_i h;exact h.symm
    ·rfl
   rw [e];exact hn
  ·rename_i hk
   refine nodup_of_map (f:=(·.1)) ?_;rw [List.map_append];refine List.nodup_append.2 ⟨hn,sM,fun a ha b hb=>?_⟩;have:b=str k:=by simpa using hb
   rw [this];rintro rfl;exact hk ha
 refine (List.perm_ext_iff_of_nodup n1 (encP_nodup (insP_rises hS).nodup)).2 fun x=>?_
 rw [List.mem_map];have key:x ∈ setA m (str k) (.string (str v))↔x=(str k,.string (str v))∨(x ∈ m∧x.1≠str k):=by
  unfold setA;split
  ·rename_i hk
   rw [List.mem_map];constructor
   ·rintro ⟨p,hp,rfl⟩
    split
    ·exact .inl rfl
    ·rename_i h;exact .inr ⟨hp,h⟩
   ·rintro (rfl | ⟨a,b⟩)
    ·obtain ⟨p,hp,e⟩:=List.mem_map.1 hk
     exact ⟨p,hp,by rw [if_pos e]⟩
    ·exact ⟨x,a,by rw [if_neg b]⟩
  ·rename_i hk
   rw [List.mem_append,List.mem_singleton];constructor
   ·rintro (a | a)
    ·exact .inr ⟨a,fun e=>hk (List.mem_map.2 ⟨x,a,e⟩)⟩
    ·exact .inl a
   ·rintro (a | ⟨a,-⟩)
    ·exact .inr a
    ·exact .inl a
 rw [key];constructor
 ·rintro (rfl | ⟨a,b⟩)
  ·exact ⟨(k,v),(insP_mem hS _).2 (.inl rfl),rfl⟩
  ·obtain ⟨p,hp,rfl⟩:=(h.mem x).1 a
   exact ⟨p,(insP_mem hS _).2 (.inr ⟨hp,fun e=>b (by unfold encP;rw [e])⟩),rfl⟩
 ·rintro ⟨p,hp,rfl⟩
  rcases (insP_mem hS p).1 hp with rfl | ⟨a,b⟩
  ·exact .inl rfl
  ·exact .inr ⟨(h.mem _).2 ⟨p,a,rfl⟩,fun e=>b (str_inj e)⟩
theorem HoldsP.del_ {m:List (ByteArray × Value)} {S:List PairM} (h:HoldsP m S) (k:List UInt8):HoldsP (delA m (str k)) (delP k S):=by
 unfold HoldsP delA delP;have:=h.filter (fun p=>decide (p.1≠str k));rw [List.filter_map] at this;have e:((fun p:ByteArray × Value=>decide (p.1≠str k)) ∘ encP)=fun p:PairM=>decide (p.1≠k):=by
  funext p
  simp only [Function.comp,encP];congr 1
  simp only [ne_eq,eq_iff_iff];exact not_congr ⟨str_inj,fun e=>by rw [e]⟩
 rw [e] at this;exact this
theorem find_key {S:List PairM} (hS:Rises S) {p:PairM} (hp:p ∈ S):getP p.1 S=some p.2:=by
 unfold getP;induction S with
 | nil=>simp at hp
 | cons q r ih =>
   rw [List.find?_cons];by_cases c:q.1=p.1
   ·rw [decide_eq_true c]
    rcases List.mem_cons.1 hp with rfl | a
    ·rfl
    ·exact absurd ((List.pairwise_cons.1 hS).1 p a) (by rw [c];exact List.lt_irrefl _)
   ·rw [decide_eq_false c]
    refine ih (List.pairwise_cons.1 hS).2 ?_;rcases List.mem_cons.1 hp with rfl | a
    ·exact absurd rfl c
    ·exact a
theorem getP_none {S:List PairM} {k:List UInt8} (h:∀p ∈ S,p.1≠k):getP k S=none:=by
 unfold getP;have:S.find? (fun p=>decide (p.1=k))=none:=by
  simp only [List.find?_eq_none,decide_eq_true_eq];exact h
 rw [this];rfl
theorem HoldsP.get_ {m:List (ByteArray × Value)} {S:List PairM} (h:HoldsP m S) (hn:(m.map (·.1)).Nodup) (hS:Rises S) (k:List UInt8):getA m (str k)=(getP k S).map fun v=>Value.string (str v):=by
 by_cases c:∃p ∈ S,p.1=k
 ·obtain ⟨p,hp,rfl⟩:=c
  rw [find_key hS hp];obtain ⟨j,hj⟩:=List.getElem?_of_mem ((h.mem (encP p)).2 ⟨p,hp,rfl⟩);exact getA_some hn hj
 ·have c':∀p ∈ S,p.1≠k:=fun p hp e=>c ⟨p,hp,e⟩
  rw [getP_none c'];refine getA_none fun x hx e=>?_
  obtain ⟨p,hp,rfl⟩:=(h.mem x).1 hx;exact c' p hp (str_inj e)
end
section
open Go Go.RowKit
structure Lp where
 epoch:Nat
 salt:Nat
 ahead:Nat
 number:Nat
 all:Nat
 text:List UInt8
 deriving DecidableEq
def Lp.cells (p:Lp):List Value:=[.int .u64 p.epoch,.int .u64 p.salt,.int .u64 p.ahead,.int .i64 p.number,.int .i64 p.all,.string (str p.text)]
def Lp.val (p:Lp):Value:=.agg #[.int .u64 p.epoch,.int .u64 p.salt,.int .u64 p.ahead,.int .i64 p.number,.int .i64 p.all,.string (str p.text)]
def Lp.body (p:Lp):List UInt8:=leB p.epoch 8++leB p.salt 8++leB p.ahead 8++[UInt8.ofNat p.number,UInt8.ofNat p.all,UInt8.ofNat p.text.length,0]++p.text++List.replicate (32 - p.text.length) 0
theorem Lp.body_len (p:Lp) (h:p.text.length≤32):p.body.length=60:=by simp [Lp.body,leB_len];omega
def partsOf (n:Nat):Nat:=max ((n+31) / 32) 1
def cutG (text:List UInt8) (epoch salt ahead:Nat):List Lp:=(List.range (partsOf text.length)).map fun i=>⟨epoch,salt,ahead,i,partsOf text.length,(text.drop (32*i)).take 32⟩
def partsG (l:List Lp):List Value:=l.flatMap Lp.cells
theorem cutG_len (text:List UInt8) (e s a:Nat):(cutG text e s a).length=partsOf text.length:=by simp [cutG]
theorem cutG_get (t:List UInt8) (e s a j:Nat) (hj:j<(cutG t e s a).length):(cutG t e s a)[j].epoch=e∧(cutG t e s a)[j].salt=s∧(cutG t e s a)[j].ahead=a∧(cutG t e s a)[j].number=j∧(cutG t e s a)[j].all=partsOf t.length∧(cutG t e s a)[j].text.length≤32:=by
 simp [cutG]
 omega
theorem infoLp:(Tryz.prog.info? 204).map (fun i=>(i.zero,i.size,i.bytes))=some (some (.agg #[.int .u64 0,.int .u64 0,.int .u64 0,.int .i64 0,.int .i64 0,.string ByteArray.empty]),6,56):=kR
theorem parts_c (s:ByteArray) (w:World) (hs:s.size≤9223372036854775000) :
 Calls Tryz.prog 112 #[.string s] w fun e w'=>e=.returned (.int .i64 (partsOf s.size:Int))∧w=w':=by
 have hmax:((partsOf s.size:Nat):Int)=max (((s.size:Int)+32 - 1) / 32) 1:=by unfold partsOf;omega
 have HM:=Lib.hid hmax;clear hmax;go_enter Tryz.func112,Tryz.ntmps112
 go_wp2
 go_ret
 exact ⟨by rw [HM.out];rfl,rfl⟩
theorem cutG_c (s:ByteArray) (ep sa ah:Nat) (w:World) (hs:s.size≤100000) :
 Calls Tryz.prog 114 #[.string s,.int .u64 (ep:Int),.int .u64 (sa:Int),.int .u64 (ah:Int)] w fun e w'=>∃v,e=.returned v∧Own w' 204 6 v (partsOf s.size) (partsG (cutG s.data.toList ep sa ah))∧Below w.heap.size w w'∧(∀q,v.ownBlock=some q→w.heap.size≤q):=by
 obtain ⟨i0,hi0,hz0,hz1,hz2⟩:=info_parts infoLp;have HA:Hid (partsOf s.size=max ((s.size+31) / 32) 1):=rfl;have hA1:1≤partsOf s.size:=by rw [HA.out];omega
 have hA2:32*(partsOf s.size - 1)≤s.size:=by rw [HA.out];omega
 have hA3:s.size≤32*partsOf s.size:=by rw [HA.out];omega
 go_enter Tryz.func114,Tryz.ntmps114
 go_wp2_with fail
 refine (parts_c s _ oM).mono ?_;rintro e w' ⟨rfl,rfl⟩;have HC:Hid (∀k,k≤partsOf s.size→(cutG s.data.toList ep sa ah).take k=(List.range k).map fun i=>(⟨ep,sa,ah,i,partsOf s.size,(s.data.toList.drop (32*i)).take 32⟩:Lp)):=by
  intro k hk;have e:s.data.toList.length=s.size:=by simp
  rw [cutG,e,← List.map_take,List.take_range,Nat.min_eq_left hk]
 go_wp2_with fail
 go_loopw [10,15] (fun v i wr=>∃k:Nat,k≤partsOf s.size∧i=.int .i64 k∧Own wr 204 6 v k (partsG ((cutG s.data.toList ep sa ah).take k))∧Below w.heap.size w wr∧(∀q,v.ownBlock=some q→w.heap.size≤q)) (fun _ i _=>partsOf s.size - (intOf i).toNat)
 case atStart=>exact ⟨0,oM,rfl,by simpa [partsG] using Own.nil _ _ _,Below.refl _ _,by simp [Value.ownBlock]⟩
 case round =>
  obtain ⟨k,hk,rfl,hO,hb,hl⟩:=hrel;by_cases hlt:k<partsOf s.size
  ·have HX:=h2k hb hl
   have hk48:32*k≤s.size:=oM;clear hb hl;have key:∀(v2:Value) (w2:World) (x:Value),Own w2 204 6 v2 (k+1) (partsG ((cutG s.data.toList ep sa ah).take k)++Lp.cells ⟨ep,sa,ah,k,partsOf s.size,(s.data.toList.drop (32*k)).take 32⟩)→Upd (fun q=>u10.ownBlock=some q) (wr.alloc (.cells x.cells 204)) w2 →
    (v2.ownBlock=u10.ownBlock∨v2.ownBlock=some (wr.alloc (.cells x.cells 204)).heap.size) →
    Own w2 204 6 v2 (k+1) (partsG ((cutG s.data.toList ep sa ah).take (k+1)))∧Below w.heap.size w w2∧(∀q,v2.ownBlock=some q→w.heap.size≤q):=by
    intro v2 w2 x h1 h2 h3;obtain ⟨hb,hl⟩:=HX.out;refine ⟨?_,(hb.alloc hb.size _).trans ⟨h2.os,h2.tape,h2.output,h2.size,fun q hq=>h2.block q (by have:=hb.size;simp;omega) (fun e=>by have:=hl q e;omega)⟩,fun q hq=>?_⟩
    ·rw [HC.out (k+1) oM,List.range_succ,List.map_append,← HC.out k oM]
     simpa [partsG] using h1
    ·rcases h3 with h | h
     ·exact hl q (by rw [← h];exact hq)
     ·rw [h] at hq
      have h5:=Option.some.inj hq;have:=hb.size;simp at h5
      omega
   have Key:=Lib.hid key;have hcell:Hid (([.int .u64 (ep:Int),.int .u64 (sa:Int),.int .u64 (ah:Int),.int .i64 (k:Int),.int .i64 (partsOf s.size:Int),.string (s.extract (k*32) (min (((k:Int)+1)*32) (s.size:Int)).toNat)]:List Value)=Lp.cells ⟨ep,sa,ah,k,partsOf s.size,(s.data.toList.drop (32*k)).take 32⟩):=by
    show _=_;rw [Lp.cells,extract_str_from];have e:((s.data.toList.drop (k*32)).take ((min (((k:Int)+1)*32) (s.size:Int)).toNat - k*32))=(s.data.toList.drop (32*k)).take 32:=by
     rw [Nat.mul_comm k 32];by_cases hin:32*k+32≤s.size
     ·rw [show (min (((k:Int)+1)*32) (s.size:Int)).toNat - 32*k=32 by omega]
     ·rw [show (min (((k:Int)+1)*32) (s.size:Int)).toNat - 32*k=s.size - 32*k by omega,List.take_of_length_le sM,List.take_of_length_le (by simp;omega)]
    rw [e]
   clear HA key;go_wp2_with (at_builtin;refine wpList_append_src rfl _ _ _ _ rfl 204 i0 _ 6 56 Tryz.underlying201 hi0 hz0 hz1 hz2 rfl u10 k _ rfl (hO.alloc _) _ 1 [_,_,_,_,_,_] rfl (Src.of_news Tryz.underlying201 _ rfl) (by simp [Value.oneCell']) (by unfold maxLen;omega) oM ?_;intro v2 w2 hO2 hU2 hl2 hs2);rw [hcell.out] at hO2;obtain ⟨k1,k2,k3⟩:=Key.out v2 w2 (.agg #[.int .u64 (ep:Int),.int .u64 (sa:Int),.int .u64 (ah:Int),.int .i64 (k:Int),.int .i64 (partsOf s.size:Int),.string (s.extract (k*32) (min (((k:Int)+1)*32) (s.size:Int)).toNat)]) hO2 hU2 hl2;go_roundw
   case rel=>exact ⟨k+1,oM,by go_num,k1,k2,k3⟩
   case measure=>simp [intOf];omega
  ·obtain rfl:k=partsOf s.size:=oM
   have HX:=h3k hO hb hl;clear hO hb hl;go_wp2
   go_ret
   obtain ⟨hO,hb,hl⟩:=HX.out;rw [List.take_of_length_le (by rw [cutG_len];simp)] at hO
   exact ⟨u10,rfl,hO,hb,hl⟩
def readG (b:List UInt8):Lp × Bool :=
 if 32<(b.getD 26 0).toNat then (⟨leN (b.take 8),leN ((b.drop 8).take 8),leN ((b.drop 16).take 8),(b.getD 24 0).toNat,(b.getD 25 0).toNat,[]⟩,false) else
 (⟨leN (b.take 8),leN ((b.drop 8).take 8),leN ((b.drop 16).take 8),(b.getD 24 0).toNat,(b.getD 25 0).toNat,(b.drop 28).take (b.getD 26 0).toNat⟩,
   decide (b.getD 27 0=0∧b.drop (28+(b.getD 26 0).toNat)=List.replicate (32 - (b.getD 26 0).toNat) 0))
theorem readAt_c (s:ByteArray) (i q:Nat) (w:World) (hs:s.size=60) (hi:i<3) (hc:w.cell? ⟨q,0,none⟩=some (.string s)) :
 Calls Tryz.prog 206 #[.int .i64 (i:Int),.pointer (some ⟨q,0,none⟩)] w fun e w'=>e=.returned (.int .u64 (leN ((s.data.toList.drop (8*i)).take 8):Int))∧w=w':=by
 have h8:(i:Int)*8≤(s.size:Int):=oM;have hn:(0:Int)≤(i:Int)*8:=oM;have ht:((i:Int)*8).toNat=i*8:=oM;have hg:∀W,Calls Tryz.prog 207 #[.string (s.extract (i*8) 60),.int .i64 8] W fun e w'=>e=.returned (.int .u64 (leN ((s.data.toList.drop (8*i)).take 8):Int))∧W=w':=by
  intro W;have h:=getLittle_log (s.extract (i*8) 60) 8 W oM (by rw [ByteArray.size_extract];omega);have e:(s.extract (i*8) 60).data.toList.take 8=(s.data.toList.drop (8*i)).take 8:=by
   rw [ByteArray.data_extract,Array.toList_extract];simp only [List.extract_eq_take_drop];rw [List.take_take,Nat.mul_comm i 8];congr 1
   omega
  rw [e] at h;exact h
 have HG:=Lib.hid hg;clear hg;go_enter Tryz.func206,Tryz.ntmps206
 go_wp2_with fail
 refine (HG.out _).mono ?_;rintro e w' ⟨rfl,rfl⟩;go_wp2_with fail
 go_ret
 exact ⟨rfl,rfl⟩
end
end Go.Proofs.YtbhjgfibhegddaaGreat
