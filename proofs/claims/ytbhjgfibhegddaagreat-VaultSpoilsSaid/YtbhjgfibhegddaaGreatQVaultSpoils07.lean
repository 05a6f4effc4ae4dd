/-
  Parts of the proof of VaultSpoils: Seal, SealB, DiskA, DiskN.
-/
import Derived.Test.YtbhjgfibhegddaaGreatQVaultSpoils06
import Derived.Deep.RegionHeld3
import Derived.Maps.RangeWalk
import Derived.Test.YtbhjgfibhegddaaGreatProg
set_option maxRecDepth 100000
set_option maxHeartbeats 16000000
namespace Go.Proofs.YtbhjgfibhegddaaGreat
section
open Go Go.RowKit
section
variable {P:Program} {ops:Array Oper} {Q:Exit→Act→World→Prop} {S:World→Prop}
theorem takes_load_all {i:Nat} {o:Oper} {a:Act} (hi:ops[i]? = some o) (hw:Region.wanted o (yielded ops a.tmps)=true) (ty:TypeId) (x:Operand) (ho:o.op=.load ty x) (g:Nat) (hx:a.eval x=.pointer (some ⟨g,0,none⟩))
 (t:TypeId) (cs:Array Value) (d:TypeDesc) (hS:∀w,S w→Blk w g t cs) (hu:P.underlying ty=some d) (hd:d.isRow=true) (hz:(P.info? ty).map (·.size)=some cs.size):Takes P ops Q S i o (.agg cs) a:=by
 have h:=yieldsIf_load_mid (P:=P) (ops:=ops) (S:=S) hw ty x ho g 0 hx cs.toList d (fun w h=>(hS w h).range 0 _ (fun j v e=>by rw [Nat.zero_add];simpa using e)) hu hd (by simpa using hz)
 exact takes_yield hi (by simpa using h)
end
structure EnvM where
 key:Nat
 boot:Nat
 n:Nat
 data:List UInt8
 tag:List UInt8
structure EnvOk (x:EnvM):Prop where
 key:x.key≤1048576
 boot:x.boot<4294967296
 n:x.n<18446744073709551616
 data:x.data.length≤8192
 tag:x.tag.length=32
def EnvM.row (x:EnvM):Array Value:=([Value.int .i64 (x.key:Int),.int .u32 (x.boot:Int),.int .u64 (x.n:Int),.string (str x.data)]++bytesV x.tag).toArray
theorem EnvM.row_one (x:EnvM):x.row.all (·.oneCell')=true:=by simp [EnvM.row,bytesV,Value.oneCell']
theorem EnvM.row_size {x:EnvM} (h:x.tag.length=32):x.row.size=36:=by simp [EnvM.row,bytesV,h]
theorem EnvM.cells {w:World} {g:Nat} {t:TypeId} {x:EnvM} (h:Blk w g t x.row):w.cell? ⟨g,0,none⟩=some (.int .i64 (x.key:Int))∧w.cell? ⟨g,1,none⟩=some (.int .u32 (x.boot:Int))∧w.cell? ⟨g,2,none⟩=some (.int .u64 (x.n:Int))∧w.cell? ⟨g,3,none⟩=some (.string (str x.data)) :=
 ⟨h.cell 0,h.cell 1,h.cell 2,h.cell 3⟩
theorem EnvM.tagAt {w:World} {g:Nat} {t:TypeId} {x:EnvM} (h:Blk w g t x.row) (i:Nat) (hi:i<x.tag.length):w.cell? ⟨g,4+i,none⟩=some (.int .u8 ((x.tag.getD i 0).toNat:Int)):=by
 rw [h.cell];unfold EnvM.row;rw [List.getElem?_toArray,List.getElem?_append_right sM];rw [show 4+i - [Value.int .i64 (x.key:Int),.int .u32 (x.boot:Int),.int .u64 (x.n:Int),.string (str x.data)].length=i by simp];exact bytesV_get _ _ hi
theorem sright_c (x:EnvM) (hx:EnvOk x) (w:World):Calls Tryz.prog 162 #[.agg x.row] w fun e w'=>e=.returned (.bool true)∧Upd (fun _=>False) w w':=by
 have k1:(x.key:Int)≤1048576:=by have:=hx.key;omega
 have k0:(0:Int)≤(x.key:Int):=oM;have hs:(str x.data).size=x.data.length:=str_size _;have k3:(x.data.length:Int)≤8192:=by have:=hx.data;omega
 obtain ⟨D,hD⟩:=eqx (str x.data);rw [hD] at hs;have k4:(D.size:Int)≤8192:=oM;obtain ⟨K,hK⟩:∃K:Int,(x.key:Int)=K:=⟨_,rfl⟩;rw [hK] at k1 k0;have HH:=h2k hD hK;clear hD hK hx hs k3;go_enter Tryz.func162,Tryz.ntmps162
 go_upto_region 1 with (fail)
 generalize hw2:World.alloc _ _=w2;have hB:Blk w2 w.heap.size 191 x.row:=by rw [← hw2];exact Blk.new w _ _
 have hU:Upd (fun _=>False) w w2:=by rw [← hw2];exact (Upd.refl _ w).alloc _
 obtain ⟨c0,-,-,c3⟩:=EnvM.cells hB;rw [HH.out.1] at c3;rw [HH.out.2] at c0;have HU:=Lib.hid hU;clear hB hU hw2;go_wp2_with fail
 go_ret
 exact ⟨rfl,HU.out⟩
theorem numbers_s (x:EnvM) (hx:EnvOk x) {F:Nat→Prop} {w0 w:World} {o:Nat} {l:List UInt8} (h:OutQ F w0 w o l) (hl:l.length≤1000) :
 Calls Tryz.prog 168 #[.pointer (some ⟨o,0,none⟩),.agg x.row] w fun e w'=>e=.returned (.tuple #[])∧OutQ F w0 w' o (l++numbersB x.key x.boot x.n):=by
 have hk:=hx.key;have hb:=hx.boot;have hn:=hx.n;have s1:=size_u64 (n:=x.key) oM;have s2:=size_u64 (n:=x.boot) oM;have HO:=Lib.hid h;obtain ⟨K,hK⟩:∃K:Nat,x.key=K:=⟨_,rfl⟩;obtain ⟨B,hB⟩:∃K:Nat,x.boot=K:=⟨_,rfl⟩;obtain ⟨N,hN⟩:∃K:Nat,x.n=K:=⟨_,rfl⟩;rw [hK] at hk s1 ⊢;rw [hB] at hb s2 ⊢;rw [hN] at hn ⊢;have k1:(K:Int)≤1048576:=oM;have b1:(B:Int)<4294967296:=oM;have HKB:=h3k hK hB hN;have HE:=Lib.hid (show l++putN K++putN B++putN N=l++numbersB K B N by unfold numbersB;simp only [List.append_assoc]);have HL:=Lib.hid (show (l++putN K).length≤900000∧(l++putN K++putN B).length≤900000 by simp only [List.length_append,putN_len];omega);have HN:=h3k hk hb hn;clear h hx hk hb hn s1 s2 hK hB hN;go_enter Tryz.func168,Tryz.ntmps168
 go_upto_region 1 with (fail)
 generalize hw2:World.alloc _ _=w2;obtain ⟨g,hg⟩:=eqx w.heap.size;rw [hg];have hB:Blk w2 g 191 x.row:=by rw [← hw2,← hg];exact Blk.new w _ _
 have hO:OutQ F w0 w2 o l:=HO.out.still (by rw [← hw2];exact (Upd.refl _ w).alloc _);obtain ⟨G,hO2,hGF,hG⟩:=hO.here;have hgG:¬G g:=hG g _ _ hB dC dC;obtain ⟨c0,-,-,-⟩:=EnvM.cells hB;rw [HKB.out.1] at c0;have HB:=h5k hB hO hO2 hGF hgG;clear hB hO hw2 hg hO2 hGF hG hgG;go_wp2_with fail
 refine (onum_q HB.out.2.2.1 K (oN HN.out.1) oM).mono ?_;rintro e w3 ⟨rfl,h3⟩;obtain ⟨-,c1,-,-⟩:=EnvM.cells (HB.out.1.upd h3.upd HB.out.2.2.2.2);rw [HKB.out.2.1] at c1;have H3:=Lib.hid h3;clear h3 c0;go_wp2_with fail
 refine (onum_q H3.out B (oN HN.out.2.1) HL.out.1).mono ?_;rintro e w4 ⟨rfl,h4⟩;obtain ⟨-,-,c2,-⟩:=EnvM.cells (HB.out.1.upd h4.upd HB.out.2.2.2.2);rw [HKB.out.2.2] at c2;have H4:=Lib.hid h4;clear h4 c1;go_wp2_with fail
 refine (onum_q H4.out N HN.out.2.2 HL.out.2).mono ?_;rintro e w5 ⟨rfl,h5⟩;have H5:=Lib.hid (HB.out.2.1.back HB.out.2.2.2.1 h5);clear h5 c2;go_wp2_with fail
 go_end0
 rw [← HE.out];exact ⟨rfl,H5.out⟩
theorem sstream_c (k:List UInt8) (hk:k.length=32) (x:EnvM) (hx:EnvOk x) (text:ByteArray) (ht:text.size≤8192) (w:World) :
 Calls Tryz.prog 163 #[.agg (arrB k),.agg x.row,.string text] w fun e w'=>e=.returned (.string (str (dataL k x.boot x.n text.data.toList)))∧Upd (fun _=>False) w w':=by
 obtain ⟨B,hB⟩:∃K:Nat,x.boot=K:=⟨_,rfl⟩;obtain ⟨N,hN⟩:∃K:Nat,x.n=K:=⟨_,rfl⟩;have hb:=hx.boot;have hn:=hx.n;obtain ⟨E,hE⟩:=eqx (tagL k [101,110,99]);have hEl:E.length=32:=by rw [← hE];exact tagL_len _ _
 obtain ⟨NO,hNO⟩:∃n,beB B 4++beB N 8=n:=⟨_,rfl⟩;have hNl:NO.length=12:=by rw [← hNO,List.length_append,beB_len,beB_len]
 obtain ⟨O,hO⟩:=eqx (streamL E NO text.data.toList);have hd:dataL k x.boot x.n text.data.toList=O:=by unfold dataL;rw [hB,hN,hE,hNO,hO]
 rw [hd];rw [hB] at hb;rw [hN] at hn;have hmk:=fun W=>mkey_c k (str [101,110,99]) W hk (by rw [str_size];simp)
 rw [str_list,hE] at hmk;have HMK:=Lib.hid hmk;have HST:=Lib.hid (fun W=>stream_c E NO text W hEl hNl oM);rw [hO] at HST;have HX:=h6k hB hN hNO hNl hk hEl;have b1:(B:Int)<4294967296:=oM;have b2:B<4294967296:=oM;have HN2:=Lib.hid hn;clear hB hN hb hn hE hEl hNO hNl hO hd hmk hx;obtain ⟨g,hg⟩:=eqx w.heap.size;have HG:=Lib.hid hg;go_enter Tryz.func163,Tryz.ntmps163
 go_upto_region 2 with (fail)
 generalize hw2:World.alloc _ _=w2;have hB2:Blk w2 g 194 (arrB k):=by rw [← hw2,← hg];exact ((Blk.new w _ _).alloc _).alloc _
 have hC2:Blk w2 (g+1) 191 x.row:=by
  have h:=(Blk.new (w.alloc (.cells (arrB k) 194)) 191 x.row).alloc (.cells (arrB (List.replicate 12 0)) 312);rw [World.size_alloc,hg] at h;rw [← hw2];exact h
 have hD2:Blk w2 (g+1+1) 312 (arrB (List.replicate 12 0)):=by
  have h:=Blk.new ((w.alloc (.cells (arrB k) 194)).alloc (.cells x.row 191)) 312 (arrB (List.replicate 12 0));rw [World.size_alloc,World.size_alloc,hg] at h;rw [← hw2];exact h
 have hU2:Upd (fun _=>False) w w2:=by rw [← hw2];exact (((Upd.refl _ w).alloc _).alloc _).alloc _
 have HW2:=h4k hB2 hC2 hD2 hU2;clear hB2 hC2 hD2 hU2 hw2 hg;have e1:IntKind.u64.wrap (B:Int)=(B:Int):=u64_wrap B oM;refine wp_region_noPanic ?_;refine wp_region_T (S:=fun w'=>Upd (fun _=>False) w2 w') (T:=fun k=>k == 8) kR ?_;have hS0:=(Upd.refl (fun _=>False) w2).drew;refine tK8 0 ?_ rfl (by intro w' hSw;obtain ⟨-,hc1,hc2,-⟩:=EnvM.cells (HW2.out.2.1.upd hSw (fun e=>e));rw [HX.out.1] at hc1;rw [HX.out.2.1] at hc2;go_split_ands;first | (go_simp;done) | (go_simp;rfl) | rfl)
 refine tK8 1 ?_ rfl (by intro w' hSw;obtain ⟨-,hc1,hc2,-⟩:=EnvM.cells (HW2.out.2.1.upd hSw (fun e=>e));rw [HX.out.1] at hc1;rw [HX.out.2.1] at hc2;go_split_ands;first | (go_simp;done) | (go_simp;rfl) | rfl)
 refine tK8 2 ?_ rfl (by intro w' hSw;obtain ⟨-,hc1,hc2,-⟩:=EnvM.cells (HW2.out.2.1.upd hSw (fun e=>e));rw [HX.out.1] at hc1;rw [HX.out.2.1] at hc2;go_split_ands;first | (go_simp;done) | (go_simp;rfl) | rfl)
 refine tK8 3 ?_ rfl (by intro w' hSw;obtain ⟨-,hc1,hc2,-⟩:=EnvM.cells (HW2.out.2.1.upd hSw (fun e=>e));rw [HX.out.1] at hc1;rw [HX.out.2.1] at hc2;go_split_ands;first | (go_simp;done) | (go_simp;rfl) | rfl)
 refine tK8 5 ?_ rfl (by intro w' hSw;obtain ⟨-,hc1,hc2,-⟩:=EnvM.cells (HW2.out.2.1.upd hSw (fun e=>e));rw [HX.out.1] at hc1;rw [HX.out.2.1] at hc2;go_split_ands;first | (go_simp;done) | (go_simp;rfl) | rfl)
 refine tK8 6 ?_ rfl (by intro w' hSw;obtain ⟨-,hc1,hc2,-⟩:=EnvM.cells (HW2.out.2.1.upd hSw (fun e=>e));rw [HX.out.1] at hc1;rw [HX.out.2.1] at hc2;go_split_ands;first | (go_simp;done) | (go_simp;rfl) | rfl)
 refine wo1 4 (fun K hK=>?_);go_simp
 clear e1;refine (putBig_seal (.slice none 0 0) 0 [] B 4 _ (Own.nil _ _ _) dC dC).mono ?_;rintro e w3 ⟨v3,rfl,ho3,hU3,hl3⟩;rw [Nat.zero_add,List.nil_append] at ho3;have hu3:Upd (fun _=>False) w2.drew w3:=hU3.mono (fun b hb=>by simp [Value.ownBlock] at hb);have hS3:=hS0.then hu3 wz0;have hnew3:∀q,v3.ownBlock=some q→w2.heap.size≤q:=by
  intro q hq;rcases hl3 with e | ⟨q2,e,h2⟩
  ·rw [e] at hq;simp [Value.ownBlock] at hq
  ·rw [e] at hq;have:=Option.some.inj hq;have h3:w2.drew.heap.size=w2.heap.size:=rfl;omega
 refine hK.out _ _ hS3 ?_;clear hK;refine wo1 7 (fun K hK=>?_);go_simp
 refine (putBig_seal v3 4 _ N 8 w3 ho3 dC dC).mono ?_;rintro e w4 ⟨v4,rfl,ho4,hU4,hl4⟩;have hS4:Upd (fun _=>False) w2 w4:=hS3.then hU4 (fun q hq=>.inr (hnew3 q hq));refine hK.out _ _ hS4 ?_;clear hK;rw [← bytesV_app,HX.out.2.2.1] at ho4;have hby:=BytesAt.of_own ho4;have hnl:=HX.out.2.2.2.1;obtain ⟨W,rv,hcp,hB5,hU5,hz5⟩:=copy_bytes (off:=0) (n:=12) (cap:=12) (l:=NO) (HW2.out.2.2.1.upd hS4 (fun e=>e)) hby oM (by rw [List.length_replicate];omega);rw [show (List.replicate 12 (0:UInt8)).take 0++NO++(List.replicate 12 (0:UInt8)).drop (0+NO.length)=NO by rw [List.take_zero,List.nil_append,List.drop_of_length_le (by rw [List.length_replicate];omega),List.append_nil]] at hB5;obtain ⟨A4,c4,rfl,-,-⟩:=ho4.shape;refine woT 8 (fun K hK=>?_);refine step_copy_run (by rfl) _ _ _ _ (by rfl) (by rfl) (by rfl) hcp ?_;refine hK.out _ _ ?_;have hkW:Blk W g 194 (arrB k):=(HW2.out.1.upd hS4 (fun e=>e)).upd hU5 oM;have hUW:Upd (fun _=>False) w W:=(HW2.out.2.2.2.then hS4 wz0).then hU5 (fun q e=>.inr (by have e2:q=g+1+1:=e;have:=HG.out;omega));have HW:=h3k hkW hB5 hUW;clear hK hcp hB5 hU5 hz5 hS0 hS3 hS4 hby ho3 ho4 hU3 hU4 hl3 hl4 hu3 hnew3 hnl hkW hUW
 refine wdn ?_;refine NoPanic.normal ?_;go_upto_region 3 with (fail)
 refine wp_region_noPanic ?_;refine wp_region_T (S:=fun w'=>Upd (fun _=>False) W w') (T:=fun _=>false) kR ?_;have hS0:=(Upd.refl (fun _=>False) W).drew;refine tT8 0 (.agg (arrB k)) (takes_load_all rfl (by rfl) _ _ rfl g (by rfl) _ _ _ (fun w' hSw=>HW.out.1.upd hSw (fun e=>e)) Tryz.underlying194 rfl (by rw [arrB_size,HX.out.2.2.2.2.1];kernel_rfl)) ?_
 refine tT8 2 (.agg (arrB NO)) (takes_load_all rfl (by rfl) _ _ rfl (g+1+1) (by rfl) _ _ _ (fun w' hSw=>HW.out.2.1.upd hSw (fun e=>e)) Tryz.underlying312 rfl (by rw [arrB_size,HX.out.2.2.2.1];kernel_rfl)) ?_
 refine tK8 3 ?_;refine wo1 1 (fun K hK=>?_);go_simp
 refine (HMK.out _).mono ?_;rintro e w6 ⟨rfl,hU6⟩;have hS6:=hS0.then hU6 wz0;refine hK.out _ _ hS6 ?_;clear hK hU6;refine wo1 4 (fun K hK=>?_);go_simp
 refine (HST.out _).mono ?_;rintro e w7 ⟨rfl,hU7⟩;have hS7:=hS6.then hU7 wz0;refine hK.out _ _ hS7 ?_;clear hK hU7;refine tK8 5 ?_;refine wdn ?_;refine NoPanic.normal ?_;have HF:=Lib.hid (HW.out.2.2.then hS7 wz0);clear hS0 hS6 hS7;go_wp2_with fail
 go_ret
 exact ⟨rfl,HF.out⟩
theorem stag_c (k:List UInt8) (hk:k.length=32) (x:EnvM) (hx:EnvOk x) (about:ByteArray) (ha:about.size≤1000) (w:World) :
 Calls Tryz.prog 164 #[.agg (arrB k),.agg x.row,.string about] w fun e w'=>e=.returned (.agg (arrB (stampL k x.key x.boot x.n about.data.toList x.data)))∧Upd (fun _=>False) w w':=by
 have hkk:=hx.key;have hb:=hx.boot;have hn:=hx.n;have hd:=hx.data;have s1:=size_u64 (n:=x.key) oM;have s2:=size_u64 (n:=x.boot) oM;have s3:=size_u64 hn;have s4:=size_u64 (n:=about.size) oM;have s5:=size_u64 (n:=x.data.length) oM;obtain ⟨D,hD⟩:=eqx (str x.data);have hDl:D.data.toList=x.data:=by rw [← hD,str_list]
 have hDs:D.size=x.data.length:=by rw [← hD,str_size]
 obtain ⟨N,hN⟩:=eqx (numbersB x.key x.boot x.n);have hNl:N.length≤30:=by rw [← hN];unfold numbersB;simp only [List.length_append,putN_len];omega
 have hTl:(N++textN about.data.toList).length≤2000:=by rw [List.length_append,textN_len];show N.length+(sizeN about.size+about.size)≤2000;omega
 obtain ⟨T,hT⟩:=eqx (N++textN about.data.toList++textN D.data.toList);have hTs:T.length≤20000:=by rw [← hT,List.length_append,hDl,textN_len];omega
 obtain ⟨E,hE⟩:=eqx (tagL k [109,97,99]);have hEl:E.length=32:=by rw [← hE];exact tagL_len _ _
 obtain ⟨O,hO⟩:=eqx (tagL E T);have hOl:O.length=32:=by rw [← hO];exact tagL_len _ _
 have hst:stampL k x.key x.boot x.n about.data.toList x.data=O:=by unfold stampL;rw [hE,hN,← hO,← hT,hDl,List.append_assoc]
 rw [hst];have hmk:=fun W=>mkey_c k (str [109,97,99]) W hk (by rw [str_size];simp)
 rw [str_list,hE] at hmk;have htg:=fun W=>tag_c (str E) (str T) W (by rw [str_size];omega) (by rw [str_size];omega)
 rw [str_list,str_list,hO] at htg;have HMK:=Lib.hid hmk;have HTG:=Lib.hid htg;have HX:=Lib.hid (And.intro hD (And.intro hDs (And.intro hN (And.intro hNl (And.intro hTl (And.intro hT (And.intro hEl (And.intro hOl (And.intro hk (And.intro hd hx))))))))));have HSZ:=Lib.hid (EnvM.row_size hx.tag);clear hkk hb hn hd s1 s2 s3 s4 s5 hD hDl hDs hN hNl hTl hT hTs hE hEl hO hOl hst hmk htg hk hx;obtain ⟨g,hg⟩:=eqx w.heap.size;have HG:=Lib.hid hg;go_enter Tryz.func164,Tryz.ntmps164
 go_upto_region 1 with (fail)
 generalize hw2:World.alloc _ _=w2;have hB2:Blk w2 g 194 (arrB k):=by rw [← hw2,← hg];exact ((Blk.new w _ _).alloc _).alloc _
 have hC2:Blk w2 (g+1) 191 x.row:=by
  have h:=(Blk.new (w.alloc (.cells (arrB k) 194)) 191 x.row).alloc (.cells (arrB (List.replicate 32 0)) 189);rw [World.size_alloc,hg] at h;rw [← hw2];exact h
 have hD2:Blk w2 (g+1+1) 189 (arrB (List.replicate 32 0)):=by
  have h:=Blk.new ((w.alloc (.cells (arrB k) 194)).alloc (.cells x.row 191)) 189 (arrB (List.replicate 32 0));rw [World.size_alloc,World.size_alloc,hg] at h;rw [← hw2];exact h
 have hU2:Upd (fun _=>False) w w2:=by rw [← hw2];exact (((Upd.refl _ w).alloc _).alloc _).alloc _
 obtain ⟨o,ho⟩:=eqx w2.heap.size;have HW2:=h4k hB2 hC2 hD2 hU2;clear hB2 hC2 hD2 hU2 hw2 hg;go_upto_region 2 with (fail)
 generalize hw3:World.alloc _ _=w3;have hO3:OutQ (fun _=>False) w2 w3 o []:=by rw [← hw3,← ho];exact OutQ.start w2
 have HO3:=Lib.hid hO3;clear hO3 hw3 ho;go_upto_region 6 with (first
  | (go_at_call 168
     refine (numbers_s x HX.out.2.2.2.2.2.2.2.2.2.2 HO3.out sM).mono ?_;rintro e w4 ⟨rfl,h4⟩;rw [List.nil_append,HX.out.2.2.1] at h4;have H4:=Lib.hid h4;clear h4)
  | (go_at_call 100
     refine (otext_q H4.out about oM (oN HX.out.2.2.2.1)).mono ?_;rintro e w5 ⟨rfl,h5⟩;obtain ⟨-,-,-,c3⟩:=EnvM.cells (HW2.out.2.1.upd h5.upd (fun e=>e));rw [HX.out.1] at c3;have H5:=Lib.hid h5;clear h5;go_wp2_with fail
     refine (otext_q H5.out D (by rw [HX.out.2.1];have:=HX.out.2.2.2.2.2.2.2.2.2.1;omega) (oN HX.out.2.2.2.2.1)).mono ?_;rintro e w6 ⟨rfl,h6⟩;rw [HX.out.2.2.2.2.2.1] at h6;have H6:=Lib.hid h6;clear h6 c3)
  | (refine wlx _ g (HW2.out.1.upd H6.out.upd (fun e=>e)) Tryz.underlying194 (by rw [arrB_size,HX.out.2.2.2.2.2.2.2.2.1];kernel_rfl) ?_)
  | (refine wlx _ (g+1) (HW2.out.2.1.upd HO3.out.upd (fun e=>e)) Tryz.underlying191 (by rw [HSZ.out];kernel_rfl) ?_)
  | (go_at_call 211
     refine (HMK.out _).mono ?_;rintro e w7 ⟨rfl,h7⟩;have H7:=Lib.hid (H6.out.still h7);clear h7)
  | (refine wpList_store_all rfl 194 _ _ rfl w7.heap.size (arrB E) rfl rfl 194 _ (Blk.new w7 _ _) (by rw [arrB_size,HX.out.2.2.2.2.2.2.1];rfl) (arrB_one _) (by rw [arrB_size,HX.out.2.2.2.2.2.2.1];kernel_rfl) ?_
     intro w8 hB8 hU8 hz8))
 obtain ⟨q8,hq8⟩:∃q,w7.heap.size=q:=⟨_,rfl⟩;have hu8:Upd (fun _=>False) w7 w8:=((Upd.refl (fun _=>False) w7).alloc _).then hU8 (fun q hq=>.inr oM);rw [hq8] at hB8 ⊢;have h8:=H7.out.still hu8;have HW8:=h3k h8 hB8 ((HW2.out.2.2.1.upd h8.upd (fun e=>e)));clear hU8 hz8 hu8 hq8 hB8 h8;refine wp_region_noPanic ?_;refine wp_region_T (S:=fun w'=>Upd (fun _=>False) w8 w') (T:=fun k=>k == 4) kR ?_;have hS0:=(Upd.refl (fun _=>False) w8).drew;refine tQ8 0 (fun w' hSw=>conv_arr (HW8.out.2.1.upd hSw (fun e=>e)) 32 32 HX.out.2.2.2.2.2.2.1) ?_;refine tQ8 1 (fun w' hSw=>conv_arr (HW8.out.2.1.upd hSw (fun e=>e)) 32 32 HX.out.2.2.2.2.2.2.1) ?_;refine wo1 2 (fun K hK=>?_);go_simp
 refine (ostring_q (HW8.out.1.still hS0)).mono ?_;rintro e w9 ⟨rfl,rfl⟩;refine hK.out _ _ hS0 ?_;clear hK;refine wo1 3 (fun K hK=>?_);go_simp
 refine (HTG.out _).mono ?_;rintro e w10 ⟨rfl,hU10⟩;have hS10:=hS0.then hU10 wz0;refine hK.out _ _ hS10 ?_;clear hK hU10;refine woT 4 (fun K hK=>?_);refine step_store_all (by rfl) 189 _ _ (by rfl) (g+1+1) (arrB O) (by rfl) (by rfl) _ _ (HW8.out.2.2.upd hS10 (fun e=>e)) (by rw [arrB_size,arrB_size,HX.out.2.2.2.2.2.2.2.1];rfl) (arrB_one _) (by rw [arrB_size,HX.out.2.2.2.2.2.2.2.1];kernel_rfl) ?_
 intro w11 hB11 hU11 hz11;refine hK.out _ _ ?_;refine wdn ?_;refine NoPanic.normal ?_;have hfin:Upd (fun _=>False) w w11:=((HW2.out.2.2.2.then HW8.out.1.upd wz0).then hS10 wz0).then hU11 (fun q hq=>.inr (by have e2:q=g+1+1:=hq;have:=HG.out;omega));have HF:=h2k hfin hB11;clear hfin hB11 hU11 hz11 hK hS0 hS10;go_wp2_with fail
 refine bodyPost_ret (results_cell_row rfl _ _ (g+1+1) _ _ _ _ rfl HF.out.2 Tryz.underlying189 rfl (by rw [arrB_size,HX.out.2.2.2.2.2.2.2.1];kernel_rfl)) rfl ⟨rfl,HF.out.1⟩
structure Dk where
 lasts:List ByteArray
 waits:List (List ByteArray)
 fuse:Int
 off:Bool
namespace Dk
def at_ (d:Dk) (i:Nat):List ByteArray:=d.waits.getD i []
def last (d:Dk) (i:Nat):ByteArray:=d.lasts.getD i ByteArray.empty
def there (d:Dk) (i:Int):Bool:=decide (0≤i∧i<d.lasts.length)
def now (d:Dk) (i:Nat):ByteArray:=(d.at_ i).getLast?.getD (d.last i)
def read (d:Dk) (i:Int):ByteArray × Int:=if d.off then (ByteArray.empty,14) else if d.there i then (d.now i.toNat,0) else (ByteArray.empty,1)
def burn (d:Dk):Dk × Bool:=if d.fuse=0 then ({ d with off:=true },false) else if 0<d.fuse then ({ d with fuse:=d.fuse - 1 },true) else (d,true)
def push (d:Dk) (i:Nat) (b:ByteArray):Dk := { d with waits:=d.waits.set i (d.at_ i++[b]) }
def write (d:Dk) (i:Int) (b:ByteArray):Dk × Int :=
 if d.off then (d,14) else if d.there i && decide (b.size=64) then (if d.burn.2 then (d.burn.1.push i.toNat b,0) else (d.burn.1,14)) else (d,1)
def flush (d:Dk):Dk := { d with lasts:=(List.range d.lasts.length).map d.now,waits:=d.waits.map fun _=>[] }
def sync (d:Dk):Dk × Int:=if d.off then (d,14) else if d.burn.2 then (d.burn.1.flush,0) else (d.burn.1,14)
def pend (d:Dk):Nat:=(d.waits.map List.length).sum
structure wf (d:Dk):Prop where
 len:d.waits.length=d.lasts.length
 pos:1≤d.lasts.length
 most:d.lasts.length≤4096
 lasts:∀b ∈ d.lasts,b.size=64
 waits:∀l ∈ d.waits,∀b ∈ l,b.size=64
 fuse:-1≤d.fuse
 fuse':d.fuse≤9223372036854775807
 room:d.pend<1000000
theorem at_len {d:Dk} (i:Nat):(d.at_ i).length≤d.pend:=by
 unfold at_ pend;generalize d.waits=l;induction l generalizing i with
 | nil=>simp
 | cons x l ih =>
   cases i with
   | zero=>simp
   | succ i=>have:=ih i;simp at this ⊢;omega
theorem burn_lasts (d:Dk):d.burn.1.lasts=d.lasts:=by
 unfold burn;split
 ·rfl
 ·split<;>rfl
theorem burn_waits (d:Dk):d.burn.1.waits=d.waits:=by
 unfold burn;split
 ·rfl
 ·split<;>rfl
theorem burn_pend (d:Dk):d.burn.1.pend=d.pend:=by unfold pend;rw [burn_waits]
end Dk
def strs (l:List ByteArray):List Value:=l.map Value.string
theorem strs_one (l:List ByteArray):∀u ∈ strs l,u.oneCell'=true:=by
 intro u hu;obtain ⟨_,_,rfl⟩:=List.mem_map.1 hu;rfl
theorem strs_get (l:List ByteArray) (i:Nat):(strs l)[i]? = (l[i]?).map Value.string:=by simp [strs]
abbrev intKey (i:Int):Value:=.int .i64 i
structure WaitsAt (w:World) (m:List (Int × Value)) (waits:List (List ByteArray)):Prop where
 each:∀p ∈ m,∃i:Nat,p.1=(i:Int)∧i<waits.length∧waits.getD i []≠[]∧Own w 9 1 p.2 (waits.getD i []).length (strs (waits.getD i []))
 all:∀i:Nat,waits.getD i []≠[]→(i:Int) ∈ m.map (·.1)
def DiskAt (w:World) (p:Nat) (d:Dk) (F:List Nat):Prop :=
 ∃ bl cap bm m,
  Blk w p 151 #[.slice (some ⟨bl,0,none⟩) d.lasts.length cap,.map (some bm),.int .i64 d.fuse,.bool d.off] ∧
  Own w 9 1 (.slice (some ⟨bl,0,none⟩) d.lasts.length cap) d.lasts.length (strs d.lasts) ∧
  MapB intKey w bm m∧WaitsAt w m d.waits∧d.wf∧F=p::bl::bm::m.filterMap (·.2.ownBlock)∧F.Nodup
theorem keyI:KeyIn (.int .i64) intKey:=keyInt .i64
section
variable {w w':World} {p:Nat} {d:Dk} {F:List Nat}
theorem WaitsAt.upd {m:List (Int × Value)} {waits:List (List ByteArray)} (h:WaitsAt w m waits) (hb:∀k ∈ m.filterMap (·.2.ownBlock),w'.heap[k]? = w.heap[k]?):WaitsAt w' m waits:=by
 refine ⟨fun q hq=>?_,h.all⟩;obtain ⟨i,h1,h2,h3,h4⟩:=h.each q hq;exact ⟨i,h1,h2,h3,h4.eqb fun k hk=>hb k (List.mem_filterMap.2 ⟨q,hq,hk⟩)⟩
theorem DiskAt.eqb (h:DiskAt w p d F) (hb:∀k ∈ F,w'.heap[k]? = w.heap[k]?):DiskAt w' p d F:=by
 obtain ⟨bl,cap,bm,m,h1,h2,h3,h4,h5,rfl,h7⟩:=h;refine ⟨bl,cap,bm,m,h1.eqb (hb p (by simp)),h2.eqb (fun k hk=>hb k ?_),h3.eqb (hb bm (by simp)),h4.upd (fun k hk=>hb k (by simp only [List.mem_cons];exact .inr (.inr (.inr hk)))),h5,rfl,h7⟩;have:k=bl:=by simpa [Value.ownBlock] using hk.symm
 subst this;simp
theorem DiskAt.lt (h:DiskAt w p d F):∀k ∈ F,k<w.heap.size:=by
 obtain ⟨bl,cap,bm,m,h1,h2,h3,h4,h5,rfl,h7⟩:=h;intro k hk;simp only [List.mem_cons,List.mem_filterMap] at hk;rcases hk with rfl | rfl | rfl | ⟨q,hq,hk⟩
 ·exact h1.lt
 ·exact h2.lt (by simp [Value.ownBlock])
 ·exact h3.lt
 ·obtain ⟨i,_,_,_,h8⟩:=h4.each q hq
  exact h8.lt hk
theorem DiskAt.upd {G:Nat→Prop} (h:DiskAt w p d F) (hu:Upd G w w') (hn:∀k ∈ F,¬G k):DiskAt w' p d F:=h.eqb fun k hk=>hu.block k (h.lt k hk) (hn k hk)
theorem DiskAt.drew (h:DiskAt w p d F):DiskAt w.drew p d F:=h.eqb fun _ _=>rfl
theorem DiskAt.alloc (h:DiskAt w p d F) (o:Obj):DiskAt (w.alloc o) p d F:=h.eqb fun k hk=>Below.heap_alloc w o k (h.lt k hk)
theorem DiskAt.below (h:DiskAt w p d F) (hb:Below w.heap.size w w'):DiskAt w' p d F:=h.eqb fun k hk=>hb.block k (h.lt k hk)
theorem DiskAt.blk (h:DiskAt w p d F):∃bl cap bm,Blk w p 151 #[.slice (some ⟨bl,0,none⟩) d.lasts.length cap,.map (some bm),.int .i64 d.fuse,.bool d.off]:=by
 obtain ⟨bl,cap,bm,_,h1,_⟩:=h;exact ⟨bl,cap,bm,h1⟩
theorem DiskAt.wf (h:DiskAt w p d F):d.wf:=by obtain ⟨_,_,_,_,_,_,_,_,h5,_⟩:=h;exact h5
theorem DiskAt.mem (h:DiskAt w p d F):p ∈ F:=by obtain ⟨_,_,_,_,_,_,_,_,_,rfl,_⟩:=h;simp
end
structure Left (w w':World) (p:Nat) (d':Dk) (F F':List Nat):Prop where
 disk:DiskAt w' p d' F'
 upd:Upd (· ∈ F) w w'
 sub:∀k ∈ F',k ∈ F∨w.heap.size≤k
theorem Left.refl {w:World} {p:Nat} {d:Dk} {F:List Nat} (h:DiskAt w p d F):Left w w p d F F:=⟨h,Upd.refl _ _,fun _ hk=>.inl hk⟩
theorem Left.trans {w w1 w2:World} {p:Nat} {d1 d2:Dk} {F F1 F2:List Nat} (h:Left w w1 p d1 F F1) (k:Left w1 w2 p d2 F1 F2):Left w w2 p d2 F F2 :=
 ⟨k.disk,h.upd.then k.upd h.sub,fun b hb=>(k.sub b hb).elim (h.sub b) (fun e=>.inr (Nat.le_trans h.upd.size e))⟩
theorem Left.drew {w w1:World} {p:Nat} {d1:Dk} {F F1:List Nat} (h:Left w w1 p d1 F F1):Left w w1.drew p d1 F F1:=⟨h.disk.drew,h.upd.drew,h.sub⟩
theorem Left.alloc {w w1:World} {p:Nat} {d1:Dk} {F F1:List Nat} (h:Left w w1 p d1 F F1) (o:Obj):Left w (w1.alloc o) p d1 F F1:=⟨h.disk.alloc o,h.upd.alloc o,h.sub⟩
theorem Left.below {w w1 w2:World} {p:Nat} {d1:Dk} {F F1:List Nat} (h:Left w w1 p d1 F F1) (hb:Below w1.heap.size w1 w2):Left w w2 p d1 F F1 :=
 ⟨h.disk.below hb,h.upd.then (Upd.of_below hb (fun _=>False)) wz0,h.sub⟩
theorem Left.eq {w w1:World} {p:Nat} {d1 d2:Dk} {F F1:List Nat} (h:Left w w1 p d1 F F1) (e:d1=d2):Left w w1 p d2 F F1:=e ▸ h
theorem left_fuse {w:World} {p:Nat} {d:Dk} {F:List Nat} (hD:DiskAt w p d F) (n:Int) (h1:-1≤n) (h2:n≤9223372036854775807) :
 Left w (w.setCell ⟨p,2,none⟩ (.int .i64 n)) p { d with fuse:=n } F F:=by
 have hm:=hD.mem;refine ⟨?_,(Upd.refl _ _).setCell (.inl hm) _,fun _ hk=>.inl hk⟩;obtain ⟨bl,cap,bm,m,g1,g2,g3,g4,g5,rfl,g7⟩:=hD;have hpl:p≠bl:=fun e=>by subst e;simp at g7
 have hpm:p≠bm:=fun e=>by subst e;simp at g7
 refine ⟨bl,cap,bm,m,g1.set_ 2 _,g2.far (by simpa [Value.ownBlock] using Ne.symm hpl) _,g3.far (Ne.symm hpm) _,g4.upd (fun k hk=>?_),⟨g5.1,g5.2,g5.3,g5.4,g5.5,h1,h2,g5.8⟩,rfl,g7⟩;exact Below.heap_setCell _ _ _ _ (fun e=>by subst e;simp only [List.nodup_cons,List.mem_cons] at g7;exact g7.1 (.inr (.inr hk)))
theorem left_off {w:World} {p:Nat} {d:Dk} {F:List Nat} (hD:DiskAt w p d F) (b:Bool) :
 Left w (w.setCell ⟨p,3,none⟩ (.bool b)) p { d with off:=b } F F:=by
 have hm:=hD.mem;refine ⟨?_,(Upd.refl _ _).setCell (.inl hm) _,fun _ hk=>.inl hk⟩;obtain ⟨bl,cap,bm,m,g1,g2,g3,g4,g5,rfl,g7⟩:=hD;have hpl:p≠bl:=fun e=>by subst e;simp at g7
 have hpm:p≠bm:=fun e=>by subst e;simp at g7
 refine ⟨bl,cap,bm,m,g1.set_ 3 _,g2.far (by simpa [Value.ownBlock] using Ne.symm hpl) _,g3.far (Ne.symm hpm) _,g4.upd (fun k hk=>?_),⟨g5.1,g5.2,g5.3,g5.4,g5.5,g5.6,g5.7,g5.8⟩,rfl,g7⟩;exact Below.heap_setCell _ _ _ _ (fun e=>by subst e;simp only [List.nodup_cons,List.mem_cons] at g7;exact g7.1 (.inr (.inr hk)))
theorem nodup_filterMap_inj {β : Type} {f : β → Option Nat} : ∀ {l:List β},(l.filterMap f).Nodup→∀ {x y : β} {k:Nat},x ∈ l→y ∈ l→f x=some k→f y=some k→x=y
 | [],_,_,_,_,hx,_,_,_=>by cases hx
 | z :: l,h,x,y,k,hx,hy,fx,fy=>by
   have hl:(l.filterMap f).Nodup:=by
    rw [List.filterMap_cons] at h;split at h
    ·exact h
    ·exact (List.nodup_cons.1 h).2
   have out:f z=some k→∀q,q ∈ l→f q=some k→False:=fun fz q hq fq=>by
    rw [List.filterMap_cons,fz] at h;exact (List.nodup_cons.1 h).1 (List.mem_filterMap.2 ⟨q,hq,fq⟩)
   rcases List.mem_cons.1 hx with ex | hx2
   ·rcases List.mem_cons.1 hy with ey | hy2
    ·rw [ex,ey]
    ·exact (out (by rw [← ex];exact fx) y hy2 fy).elim
   ·rcases List.mem_cons.1 hy with ey | hy2
    ·exact (out (by rw [← ey];exact fy) x hx2 fx).elim
    ·exact nodup_filterMap_inj hl hx2 hy2 fx fy
theorem mem_setA {α : Type} [DecidableEq α] {m:List (α × Value)} {a : α} {v:Value} {q : α × Value} (h:q ∈ setA m a v):q=(a,v)∨(q ∈ m∧q.1≠a):=by
 unfold setA at h;split at h
 ·obtain ⟨r,hr,e⟩:=List.mem_map.1 h
  split at e
  ·exact .inl e.symm
  ·rename_i hne
   subst e;exact .inr ⟨hr,hne⟩
 ·rename_i hna
  rcases List.mem_append.1 h with h | h
  ·exact .inr ⟨h,fun e=>hna (List.mem_map.2 ⟨q,h,e⟩)⟩
  ·exact .inl (by simpa using h)
theorem setA_mem {α : Type} [DecidableEq α] {m:List (α × Value)} {a : α} {v:Value} : (a,v) ∈ setA m a v:=by
 unfold setA;split
 ·rename_i h
  obtain ⟨r,hr,e⟩:=List.mem_map.1 h;exact List.mem_map.2 ⟨r,hr,by simp [e]⟩
 ·simp
theorem setA_keys {α : Type} [DecidableEq α] {m:List (α × Value)} {a : α} {v:Value} {x : α} (h:x ∈ m.map (·.1)):x ∈ (setA m a v).map (·.1):=by
 unfold setA;split
 ·obtain ⟨r,hr,e⟩:=List.mem_map.1 h
  by_cases hra:r.1=a
  ·exact List.mem_map.2 ⟨(a,v),List.mem_map.2 ⟨r,hr,by simp [hra]⟩,by rw [← e,hra]⟩
  ·exact List.mem_map.2 ⟨r,List.mem_map.2 ⟨r,hr,by simp [hra]⟩,e⟩
 ·simp only [List.map_append,List.mem_append]
  exact .inl h
theorem nodup_filterMap_of {β : Type} {f : β → Option Nat} : ∀ {l:List β},l.Nodup→(∀x ∈ l,∀y ∈ l,∀k,f x=some k→f y=some k→x=y)→(l.filterMap f).Nodup
 | [],_,_=>List.nodup_nil
 | z :: l,h,hi=>by
   have ih:=nodup_filterMap_of (l:=l) (List.nodup_cons.1 h).2 (fun x hx y hy=>hi x (.tail _ hx) y (.tail _ hy));rw [List.filterMap_cons];split
   ·exact ih
   ·rename_i k hk
    refine List.nodup_cons.2 ⟨fun hmem=>?_,ih⟩;obtain ⟨y,hy,fy⟩:=List.mem_filterMap.1 hmem;have:=hi z (.head _) y (.tail _ hy) k hk fy;subst this;exact (List.nodup_cons.1 h).1 hy
theorem Dk.wf.push {d:Dk} (h:d.wf) (k:Nat) (b:ByteArray) (hb:b.size=64) (hp:d.pend+1<1000000):(d.push k b).wf∧(d.push k b).pend≤d.pend+1:=by
 have hpend:(d.push k b).pend≤d.pend+1:=by
  unfold Dk.pend Dk.push Dk.at_;simp only
  generalize d.waits=l;induction l generalizing k with
  | nil=>simp
  | cons x l ih =>
    cases k with
    | zero=>simp;omega
    | succ k=>have:=ih k;simp at this ⊢;omega
 refine ⟨⟨by simpa [Dk.push] using h.len,h.pos,h.most,h.lasts,?_,h.fuse,h.fuse',by omega⟩,hpend⟩;intro l hl x hx;simp only [Dk.push] at hl;rcases List.mem_or_eq_of_mem_set hl with hl | rfl
 ·exact h.waits l hl x hx
 ·rcases List.mem_append.1 hx with hx | hx
  ·unfold Dk.at_ at hx
   rw [List.getD_eq_getElem?_getD] at hx;cases hg:d.waits[k]? with
   | none=>simp [hg] at hx
   | some l=>rw [hg] at hx;exact h.waits l (List.mem_of_getElem? hg) x hx
  ·simp at hx;rw [hx];exact hb
theorem push_at {d:Dk} (k:Nat) (b:ByteArray) (hk:k<d.waits.length) (i:Nat):(d.push k b).at_ i=if i=k then d.at_ k++[b] else d.at_ i:=by
 unfold Dk.push Dk.at_;simp only [List.getD_eq_getElem?_getD,List.getElem?_set];by_cases h:k=i
 ·subst h;simp [hk]
 ·simp [h,Ne.symm h]
theorem left_push {w w2 w3:World} {p bl cap bm k:Nat} {d:Dk} {m:List (Int × Value)} {v0 v':Value} {b:ByteArray}
 (g1:Blk w p 151 #[.slice (some ⟨bl,0,none⟩) d.lasts.length cap,.map (some bm),.int .i64 d.fuse,.bool d.off])
 (g2:Own w 9 1 (.slice (some ⟨bl,0,none⟩) d.lasts.length cap) d.lasts.length (strs d.lasts))
 (g3:MapB intKey w bm m) (g4:WaitsAt w m d.waits) (g5:d.wf) (g7:(p::bl::bm::m.filterMap (·.2.ownBlock)).Nodup)
 (hk:k<d.lasts.length) (hb:b.size=64) (hp:d.pend+1<1000000)
 (hv0:∀q,v0.ownBlock=some q→((k:Int),v0) ∈ m)
 (hown:Own w2 9 1 v' ((d.at_ k).length+1) (strs (d.at_ k++[b]))) (hU2:Upd (fun q=>v0.ownBlock=some q) w w2)
 (hloc:∀q,v'.ownBlock=some q→v0.ownBlock=some q∨w.heap.size≤q)
 (hM:MapB intKey w3 bm (setA m (k:Int) v')) (hU3:Upd (· = bm) w2 w3):∃F',Left w w3 p (d.push k b) (p::bl::bm::m.filterMap (·.2.ownBlock)) F':=by
 have hF:DiskAt w p d (p::bl::bm::m.filterMap (·.2.ownBlock)):=⟨bl,cap,bm,m,g1,g2,g3,g4,g5,rfl,g7⟩;have hlt:=hF.lt;simp only [List.nodup_cons,List.mem_cons,not_or] at g7;obtain ⟨⟨npl,npm,npf⟩,⟨nlm,nlf⟩,nmf,nff⟩:=g7;have hmemF:∀q,v0.ownBlock=some q→q ∈ m.filterMap (·.2.ownBlock):=fun q hq=>List.mem_filterMap.2 ⟨_,hv0 q hq,hq⟩
 -- what w3 still has of the blocks of w
 have keep:∀q,q<w.heap.size→v0.ownBlock≠some q→q≠bm→w3.heap[q]? = w.heap[q]? := fun q h1 h2 h3=>(hU3.block q (Nat.lt_of_lt_of_le h1 hU2.size) h3).trans (hU2.block q h1 h2)
 have hp0:v0.ownBlock≠some p:=fun e=>npf (hmemF p e)
 have hl0:v0.ownBlock≠some bl:=fun e=>nlf (hmemF bl e)
 have hm0:v0.ownBlock≠some bm:=fun e=>nmf (hmemF bm e)
 have hbm:v'.ownBlock≠some bm:=fun e=>(hloc bm e).elim hm0 (fun h=>by have:=hlt bm (by simp);omega)
 have hown3:Own w3 9 1 v' ((d.at_ k).length+1) (strs (d.at_ k++[b])):=hown.upd hU3 (fun q hq e=>hbm (by rw [← e];exact hq));have hkw:k<d.waits.length:=by rw [g5.len];exact hk
 have hfm:∀q ∈ (setA m (k:Int) v').filterMap (·.2.ownBlock),q ∈ m.filterMap (·.2.ownBlock)∨w.heap.size≤q:=by
  intro q hq;obtain ⟨x,hx,fx⟩:=List.mem_filterMap.1 hq;rcases mem_setA hx with rfl | ⟨hx,_⟩
  ·exact (hloc q fx).imp (hmemF q) id
  ·exact .inl (List.mem_filterMap.2 ⟨x,hx,fx⟩)
 have hW:WaitsAt w3 (setA m (k:Int) v') (d.push k b).waits:=by
  refine ⟨fun q hq=>?_,fun i hi=>?_⟩
  ·rcases mem_setA hq with rfl | ⟨hq,hne⟩
   ·refine ⟨k,rfl,by simpa [Dk.push] using hkw,?_,?_⟩
    ·show (d.push k b).at_ k≠[]
     rw [push_at k b hkw];simp
    ·show Own w3 _ 1 v' ((d.push k b).at_ k).length (strs ((d.push k b).at_ k))
     rw [push_at k b hkw,if_pos rfl];simpa using hown3
   ·obtain ⟨i,e,hi,hne0,ho⟩:=g4.each q hq
    have hik:i≠k:=fun h=>hne (by rw [e,h])
    refine ⟨i,e,by simpa [Dk.push] using hi,?_,?_⟩
    ·show (d.push k b).at_ i≠[]
     rw [push_at k b hkw,if_neg hik];exact hne0
    ·show Own w3 _ 1 q.2 ((d.push k b).at_ i).length (strs ((d.push k b).at_ i))
     rw [push_at k b hkw,if_neg hik];refine ho.eqb fun x hx=>keep x (ho.lt hx) (fun h0=>?_) (fun hxm=>nmf (List.mem_filterMap.2 ⟨q,hq,by rw [← hxm];exact hx⟩))
     have:=nodup_filterMap_inj nff hq (hv0 x h0) hx h0;rw [this] at hne;exact hne rfl
  ·by_cases hik:i=k
   ·subst hik
    exact List.mem_map.2 ⟨_,setA_mem,rfl⟩
   ·have:d.at_ i≠[]:=by
     have h2:(d.push k b).at_ i≠[]:=hi;rw [push_at k b hkw,if_neg hik] at h2;exact h2
    exact setA_keys (g4.all i this)
 have hnd:((setA m (k:Int) v').filterMap (·.2.ownBlock)).Nodup:=by
  refine nodup_filterMap_of (nodup_of_map hM.nodup) fun x hx y hy q fx fy=>?_
  have other:∀y,y ∈ m→y.1≠(k:Int)→y.2.ownBlock=some q→v'.ownBlock=some q→False:=fun y hy hne fy fx=>by
   rcases hloc q fx with h | h
   ·have:=nodup_filterMap_inj nff hy (hv0 q h) fy h
    rw [this] at hne;exact hne rfl
   ·have:=hlt q (by simp only [List.mem_cons];exact .inr (.inr (.inr (List.mem_filterMap.2 ⟨y,hy,fy⟩))))
    omega
  rcases mem_setA hx with rfl | ⟨hx,hxn⟩
  ·rcases mem_setA hy with rfl | ⟨hy,hyn⟩
   ·rfl
   ·exact (other y hy hyn fy fx).elim
  ·rcases mem_setA hy with rfl | ⟨hy,hyn⟩
   ·exact (other x hx hxn fx fy).elim
   ·exact nodup_filterMap_inj nff hx hy fx fy
 have lp:=hlt p (by simp);have ll:=hlt bl (by simp);have lm:=hlt bm (by simp);refine ⟨p::bl::bm::(setA m (k:Int) v').filterMap (·.2.ownBlock),⟨bl,cap,bm,setA m (k:Int) v',g1.eqb (keep p lp hp0 npm),g2.eqb (fun q hq=>?_),hM,hW,(g5.push k b hb hp).1,rfl,?_⟩,hU2.trans hU3 ?_ ?_,?_⟩
 ·have:q=bl:=by simpa [Value.ownBlock] using hq.symm
  subst this;exact keep q ll hl0 nlm
 ·simp only [List.nodup_cons,List.mem_cons,not_or]
  exact ⟨⟨npl,npm,fun h=>(hfm p h).elim npf (fun h=>by omega)⟩,⟨nlm,fun h=>(hfm bl h).elim nlf (fun h=>by omega)⟩,fun h=>(hfm bm h).elim nmf (fun h=>by omega),hnd⟩
 ·intro q hq
  simp only [List.mem_cons];exact .inr (.inr (.inr (hmemF q hq)))
 ·rintro q rfl
  exact .inl (by simp)
 ·intro q hq
  simp only [List.mem_cons] at hq ⊢;rcases hq with rfl | rfl | rfl | hq
  ·exact .inl (.inl rfl)
  ·exact .inl (.inr (.inl rfl))
  ·exact .inl (.inr (.inr (.inl rfl)))
  ·exact (hfm q hq).imp (fun h=>.inr (.inr (.inr h))) id
theorem neqMapNil (w:World) (r:Option Nat):(binOp .eql 149 (.map r) (.map none)).run Tryz.prog w=.ok (.bool r.isNone) w :=
 run_eql_map_nil w _ _ _ r Tryz.underlying149
theorem none_c {w:World} {p:Nat} {d:Dk} {F:List Nat} (hD:DiskAt w p d F) :
 Calls Tryz.prog 78 #[.pointer (some ⟨p,0,none⟩)] w fun e w'=>e=.returned (.bool false)∧w=w':=by
 obtain ⟨bl,cap,bm,h1⟩:=hD.blk;clear hD;have hc:=h1.cells4;have hm:=neqMapNil w (some bm);clear h1;go_enter Tryz.func78,Tryz.ntmps78
 go_wp2
 go_ret
 exact ⟨rfl,rfl⟩
theorem zz26 {P:Prop} (h:P:=by
 obtain ⟨bl,cap,bm,h1⟩:=hD.blk;clear hD;rw [hoff] at h1;have hc:=h1.cells4;have Hn:=Lib.hid hn;clear h1 hn;go_enter Tryz.func88,Tryz.ntmps88
 go_wp2_with (go_at_call 78;refine Hn.out.mono ?_;rintro e w' ⟨rfl,rfl⟩);go_ret
 exact ⟨rfl,rfl⟩):P:=h
theorem out_up {w:World} {p:Nat} {d:Dk} {F:List Nat} (hD:DiskAt w p d F) (hoff:d.off=false) :
 Calls Tryz.prog 88 #[.pointer (some ⟨p,0,none⟩)] w fun e w'=>e=.returned (.int .i64 0)∧w=w':=by
 have hn:=none_c hD;exact zz26
theorem out_down {w:World} {p:Nat} {d:Dk} {F:List Nat} (hD:DiskAt w p d F) (hoff:d.off=true) :
 Calls Tryz.prog 88 #[.pointer (some ⟨p,0,none⟩)] w fun e w'=>e=.returned (.int .i64 14)∧w=w':=by
 have hn:=none_c hD;exact zz26
theorem there_c {w:World} {p:Nat} {d:Dk} {F:List Nat} (hD:DiskAt w p d F) (i:Int) :
 Calls Tryz.prog 89 #[.pointer (some ⟨p,0,none⟩),.int .i64 i] w fun e w'=>e=.returned (.bool (d.there i))∧w=w':=by
 have hmost:=hD.wf.most;obtain ⟨bl,cap,bm,h1⟩:=hD.blk;clear hD;have hc:=h1.cells4;clear h1;have HT:Hid (d.there i=decide (0≤i∧i<d.lasts.length)):=rfl;generalize d.there i=r at HT;by_cases h0:0≤i
 ·go_enter Tryz.func89,Tryz.ntmps89
  go_wp2
  go_ret
  exact ⟨by rw [HT.out];simp [h0],rfl⟩
 ·go_enter Tryz.func89,Tryz.ntmps89
  go_wp2
  go_ret
  exact ⟨by rw [HT.out];simp;omega,rfl⟩
theorem sectors_c {w:World} {p:Nat} {d:Dk} {F:List Nat} (hD:DiskAt w p d F) :
 Calls Tryz.prog 61 #[.pointer (some ⟨p,0,none⟩)] w fun e w'=>e=.returned (.int .i64 d.lasts.length)∧w=w':=by
 have hn:=none_c hD;obtain ⟨bl,cap,bm,h1⟩:=hD.blk;clear hD;have hc:=h1.cells4;have Hn:=Lib.hid hn;clear h1 hn;go_enter Tryz.func61,Tryz.ntmps61
 go_wp2_with (go_at_call 78;refine Hn.out.mono ?_;rintro e w' ⟨rfl,rfl⟩);go_ret
 exact ⟨rfl,rfl⟩
theorem down_c {w:World} {p:Nat} {d:Dk} {F:List Nat} (hD:DiskAt w p d F) :
 Calls Tryz.prog 33 #[.pointer (some ⟨p,0,none⟩)] w fun e w'=>e=.returned (.bool d.off)∧w=w':=by
 have hn:=none_c hD;obtain ⟨bl,cap,bm,h1⟩:=hD.blk;clear hD;have hc:=h1.cells4;have Hn:=Lib.hid hn;clear h1 hn;go_enter Tryz.func33,Tryz.ntmps33
 go_wp2_with (go_at_call 78;refine Hn.out.mono ?_;rintro e w' ⟨rfl,rfl⟩);go_ret
 exact ⟨rfl,rfl⟩
theorem burns_yes {w:World} {p:Nat} {d:Dk} {F:List Nat} (hD:DiskAt w p d F) (hb:d.burn.2=true) :
 Calls Tryz.prog 170 #[.pointer (some ⟨p,0,none⟩)] w fun e w'=>e=.returned (.int .i64 0)∧Left w w' p d.burn.1 F F:=by
 have hw:=hD.wf;have hw6:=hw.fuse;have hw7:=hw.fuse';by_cases h0:d.fuse=0
 ·simp [Dk.burn,h0] at hb
 ·by_cases h1:0<d.fuse
  ·have HL:Hid (Left w (w.setCell ⟨p,2,none⟩ (.int .i64 (d.fuse - 1))) p d.burn.1 F F) :=
    (left_fuse hD (d.fuse - 1) (by omega) (by omega)).eq (by simp [Dk.burn,h0,h1])
   obtain ⟨bl,cap,bm,g1⟩:=hD.blk;clear hD;have hc:=g1.cells4;have hfr:=g1.frozen 2;generalize d.fuse=f at *;have hz:(f == 0)=false:=by simp [h0]
   clear g1 hb hw h0;go_enter Tryz.func170,Tryz.ntmps170
   go_wp2
   go_ret
   exact ⟨rfl,HL.out⟩
  ·have HL:Hid (Left w w p d.burn.1 F F):=(Left.refl hD).eq (by simp [Dk.burn,h0,h1])
   obtain ⟨bl,cap,bm,g1⟩:=hD.blk;clear hD;have hc:=g1.cells4;generalize d.fuse=f at *;have hz:(f == 0)=false:=by simp [h0]
   clear g1 hb hw h0;go_enter Tryz.func170,Tryz.ntmps170
   go_wp2
   go_ret
   exact ⟨rfl,HL.out⟩
theorem burns_no {w:World} {p:Nat} {d:Dk} {F:List Nat} (hD:DiskAt w p d F) (hb:d.burn.2=false) :
 Calls Tryz.prog 170 #[.pointer (some ⟨p,0,none⟩)] w fun e w'=>e=.returned (.int .i64 14)∧Left w w' p d.burn.1 F F:=by
 have h0:d.fuse=0:=by
  unfold Dk.burn at hb;split at hb
  ·assumption
  ·split at hb<;>simp at hb
 have HL:Hid (Left w (w.setCell ⟨p,3,none⟩ (.bool true)) p d.burn.1 F F):=(left_off hD true).eq (by simp [Dk.burn,h0]);obtain ⟨bl,cap,bm,g1⟩:=hD.blk;clear hD;rw [h0] at g1;have hc:=g1.cells4;have hfr:=g1.frozen 3;clear g1 hb h0;go_enter Tryz.func170,Tryz.ntmps170
 go_wp2
 go_ret
 exact ⟨rfl,HL.out⟩
theorem step_append_src {P:Program} {ops:Array Oper} {o:Oper} {a:Act} {w:World} {K:Act→World→Prop} {Q:Exit→Act→World→Prop} {E:Prop}
 (hg:o.guard=none) (s x:Operand) (t xT:TypeId) (ho:o.op=.call { callee:=.builtin .append,args:=#[s,x],argTypes:=#[t,xT] })
 (e:TypeId) (i:TypeInfo) (z:Value) (size bytes:Nat) (ht:P.underlying t=some (.slice e)) (hi:P.info? e=some i) (hz:i.zero=some z) (hsize:i.size=size) (hby:i.bytes=bytes) (hzs:z.cells.size=size)
 (v:Value) (n:Nat) (xs:List Value) (hs:a.eval s=v) (hown:Own w e size v n xs) (vx:Value) (m:Nat) (news:List Value) (hx:a.eval x=vx) (hsrc:Src P w xT size vx m news) (h1:∀u ∈ news,u.oneCell'=true)
 (h63:n+m≤maxLen) (hbytes:(n+m)*bytes≤140737488355328)
 (h:∀v' w',Own w' e size v' (n+m) (xs++news)→Upd (fun k=>v.ownBlock=some k) w w'→(v'.ownBlock=v.ownBlock∨v'.ownBlock=some w.heap.size)→w'.heap.size≤w.heap.size+1→K (a.put o.dst v') w') :
 if Region.wanted o (yielded ops a.tmps)=true then Oper.wp P o a w K Q else E:=by
 have hw:Region.wanted o (yielded ops a.tmps)=true:=by simp [Region.wanted,hg]
 rw [if_pos hw];obtain ⟨v',w',hrun,h2,h3,h4,h5⟩:=run_append_src (P:=P) t o.type i z bytes ht hi hz hsize hby hzs hown hsrc h1 h63 hbytes;exact wp_append_run s x t xT ho hs hx hrun (h v' w' h2 h3 h4 h5)
theorem infoStr:(Tryz.prog.info? 9).map (fun i=>(i.zero,i.size,i.bytes))=some (some (.string ByteArray.empty),1,16):=by kernel_rfl
theorem zeroStrs (w:World):(zeroValue 147).run Tryz.prog w=.ok (.slice none 0 0) w:=by kernel_rfl
theorem look_at {w:World} {bm:Nat} {m:List (Int × Value)} {d:Dk} (h3:MapB intKey w bm m) (h4:WaitsAt w m d.waits) (i:Nat) :
 ∃v,(getA m (i:Int)).getD (.slice none 0 0)=v∧(Instr.lookup 149 (.map (some bm)) (.int .i64 (i:Int)) false).run Tryz.prog w=.ok v w∧Own w 9 1 v (d.at_ i).length (strs (d.at_ i))∧(d.at_ i=[]→v=.slice none 0 0)∧(d.at_ i≠[]→((i:Int),v) ∈ m):=by
 refine ⟨_,rfl,h3.run_lookup keyI Tryz.underlying149 Tryz.underlying3 (i:Int) false (zeroStrs w),?_⟩;by_cases h0:d.at_ i=[]
 ·have hn:getA m (i:Int)=none:=by
   refine getA_none fun p hp hpi=>?_
   obtain ⟨j,e,_,hj,_⟩:=h4.each p hp;have:j=i:=by omega
   subst this;exact hj h0
  rw [hn,h0];exact ⟨Own.nil _ _ _,fun _=>rfl,fun h=>absurd rfl h⟩
 ·obtain ⟨q,hq,hqi⟩:=List.mem_map.1 (h4.all i h0)
  obtain ⟨k,hk⟩:=List.getElem?_of_mem hq;have hg:getA m (i:Int)=some q.2:=getA_some h3.nodup (j:=k) (by rw [hk,← hqi]);obtain ⟨j,e,_,hj,hown⟩:=h4.each q hq;have:j=i:=by omega
  subst this;rw [hg];refine ⟨hown,fun h=>absurd h h0,fun _=>?_⟩;simp only [Option.getD_some];rw [← hqi];exact hq
theorem DiskAt.look {w:World} {p:Nat} {d:Dk} {F:List Nat} (hD:DiskAt w p d F) (i:Nat) (hi:i<d.lasts.length) :
 ∃ bl cap bm v,Blk w p 151 #[.slice (some ⟨bl,0,none⟩) d.lasts.length cap,.map (some bm),.int .i64 d.fuse,.bool d.off]∧(Instr.lookup 149 (.map (some bm)) (.int .i64 (i:Int)) false).run Tryz.prog w=.ok v w ∧
  Own w 9 1 v (d.at_ i).length (strs (d.at_ i))∧w.cell? ⟨bl,i,none⟩=some (.string (d.last i))∧(d.at_ i=[]→v=.slice none 0 0):=by
 obtain ⟨bl,cap,bm,m,h1,h2,h3,h4,_⟩:=hD;obtain ⟨v,_,hrun,hown,hnil,_⟩:=look_at h3 h4 i;refine ⟨bl,cap,bm,v,h1,hrun,hown,?_,hnil⟩;rw [h2.cellAt i (by omega),strs_get,Dk.last];simp [hi]
theorem read_c {w:World} {p:Nat} {d:Dk} {F:List Nat} (hD:DiskAt w p d F) (i:Int) :
 Calls Tryz.prog 46 #[.pointer (some ⟨p,0,none⟩),.int .i64 i] w fun e w'=>e=.returned (.tuple #[.string (d.read i).1,.int .i64 (d.read i).2])∧w=w':=by
 have hwf:=hD.wf;cases hoff:d.off with
 | true =>
   have hr:d.read i=(ByteArray.empty,14):=by simp [Dk.read,hoff]
   rw [hr];have Ho:=Lib.hid (out_down hD hoff);clear hoff hr hwf hD;go_enter Tryz.func46,Tryz.ntmps46
   go_wp2_with (go_at_call 88;refine Ho.out.mono ?_;rintro e w' ⟨rfl,rfl⟩);go_ret2
   exact ⟨rfl,rfl⟩
 | false =>
   have Ho:=Lib.hid (out_up hD hoff);have Ht:=Lib.hid (there_c hD i);cases ht:d.there i with
   | false =>
     have hr:d.read i=(ByteArray.empty,1):=by simp [Dk.read,hoff,ht]
     rw [hr];rw [ht] at Ht;clear hoff hr hwf hD ht;go_enter Tryz.func46,Tryz.ntmps46
     go_wp2_with (first | (go_at_call 88;refine Ho.out.mono ?_;rintro e w' ⟨rfl,rfl⟩) | (go_at_call 89;refine Ht.out.mono ?_;rintro e w' ⟨rfl,rfl⟩));go_ret2
     exact ⟨rfl,rfl⟩
   | true =>
     have hi:0≤i∧i<d.lasts.length:=by simpa [Dk.there] using ht
     obtain ⟨k,rfl⟩:=Int.eq_ofNat_of_zero_le hi.1;have hk:k<d.lasts.length:=by omega
     have hr:d.read (k:Int)=(d.now k,0):=by simp [Dk.read,hoff,ht]
     rw [hr];rw [ht] at Ht;have hmost:=hwf.most;have hroom:=hwf.room;have hal:=Dk.at_len (d:=d) k;obtain ⟨bl,cap,bm,v,h1,hrun,hown,hcell,hnil⟩:=hD.look k hk;have hc:=h1.cells4;clear h1 hoff hr ht hD hwf;by_cases h0:d.at_ k=[]
     ·have hnow:Hid (d.now k=d.last k):=by simp [Dk.now,h0,Hid]
      have hv:v=.slice none 0 0:=hnil h0;subst hv;generalize d.last k=x at *;clear h0 hown hal hnil;go_enter Tryz.func46,Tryz.ntmps46
      go_wp2_with (first | (go_at_call 88;refine Ho.out.mono ?_;rintro e w' ⟨rfl,rfl⟩) | (go_at_call 89;refine Ht.out.mono ?_;rintro e w' ⟨rfl,rfl⟩));go_ret2
      exact ⟨by rw [hnow.out];rfl,rfl⟩
     ·have hlen:0<(d.at_ k).length:=List.length_pos_iff.2 h0
      obtain ⟨g,cap',rfl,hnc,hcm⟩:=hown.head hlen;have hlast:w.cell? ⟨g,(d.at_ k).length - 1,none⟩=some (.string (d.now k)):=by
       rw [hown.cellAt _ (by omega),strs_get,Dk.now,List.getLast?_eq_getElem?];rw [List.getElem?_eq_getElem (by omega)];rfl
      generalize d.now k=x at *;generalize (d.at_ k).length=n at *;clear h0 hown hcell hnil;go_enter Tryz.func46,Tryz.ntmps46
      go_wp2_with (first | (go_at_call 88;refine Ho.out.mono ?_;rintro e w' ⟨rfl,rfl⟩) | (go_at_call 89;refine Ht.out.mono ?_;rintro e w' ⟨rfl,rfl⟩));go_ret2
      exact ⟨rfl,rfl⟩
theorem write_off {w:World} {p:Nat} {d:Dk} {F:List Nat} (hD:DiskAt w p d F) (i:Int) (b:ByteArray) (hoff:d.off=true) :
 Calls Tryz.prog 115 #[.pointer (some ⟨p,0,none⟩),.int .i64 i,.string b] w fun e w'=>e=.returned (.int .i64 14)∧w=w':=by
 have Ho:=Lib.hid (out_down hD hoff);clear hoff hD;go_enter Tryz.func115,Tryz.ntmps115
 go_wp2_with (go_at_call 88;refine Ho.out.mono ?_;rintro e w' ⟨rfl,rfl⟩);go_ret
 exact ⟨rfl,rfl⟩
theorem write_arg {w:World} {p:Nat} {d:Dk} {F:List Nat} (hD:DiskAt w p d F) (i:Int) (b:ByteArray) (hoff:d.off=false) (h:(d.there i && decide (b.size=64))=false) :
 Calls Tryz.prog 115 #[.pointer (some ⟨p,0,none⟩),.int .i64 i,.string b] w fun e w'=>e=.returned (.int .i64 1)∧w=w':=by
 have Ho:=Lib.hid (out_up hD hoff);have Ht:=Lib.hid (there_c hD i);clear hoff hD;cases ht:d.there i with
 | false =>
   rw [ht] at Ht;clear h ht;go_enter Tryz.func115,Tryz.ntmps115
   go_wp2_with (first | (go_at_call 88;refine Ho.out.mono ?_;rintro e w' ⟨rfl,rfl⟩) | (go_at_call 89;refine Ht.out.mono ?_;rintro e w' ⟨rfl,rfl⟩));go_ret
   exact ⟨rfl,rfl⟩
 | true =>
   rw [ht] at Ht;have hb:((b.size:Int) != 64)=true:=by rw [bne_iff_ne];simp [ht] at h;omega
   clear h ht;go_enter Tryz.func115,Tryz.ntmps115
   go_wp2_with (first | (go_at_call 88;refine Ho.out.mono ?_;rintro e w' ⟨rfl,rfl⟩) | (go_at_call 89;refine Ht.out.mono ?_;rintro e w' ⟨rfl,rfl⟩));go_ret
   exact ⟨rfl,rfl⟩
theorem write_no {w:World} {p:Nat} {d:Dk} {F:List Nat} (hD:DiskAt w p d F) (i:Int) (b:ByteArray) (hoff:d.off=false) (ht:d.there i=true) (hb:b.size=64) (hn:d.burn.2=false) :
 Calls Tryz.prog 115 #[.pointer (some ⟨p,0,none⟩),.int .i64 i,.string b] w fun e w'=>e=.returned (.int .i64 14)∧Left w w' p d.burn.1 F F:=by
 have Ho:=Lib.hid (out_up hD hoff);have Ht:=Lib.hid (there_c hD i);have Hb:=Lib.hid (burns_no hD hn);rw [ht] at Ht;have hb':((b.size:Int) != 64)=false:=by rw [hb];rfl
 clear hoff hD ht hb hn;go_enter Tryz.func115,Tryz.ntmps115
 go_wp2_with (first | (go_at_call 88;refine Ho.out.mono ?_;rintro e w' ⟨rfl,rfl⟩) | (go_at_call 89;refine Ht.out.mono ?_;rintro e w' ⟨rfl,rfl⟩) | (go_at_call 170;refine Hb.out.mono ?_;rintro e w1 ⟨rfl,hL⟩));go_ret
 exact ⟨rfl,hL⟩
theorem write_yes {w:World} {p:Nat} {d:Dk} {F:List Nat} (hD:DiskAt w p d F) (k:Nat) (b:ByteArray) (hoff:d.off=false) (ht:d.there (k:Int)=true) (hb:b.size=64) (hn:d.burn.2=true) (hp:d.pend+1<1000000) :
 Calls Tryz.prog 115 #[.pointer (some ⟨p,0,none⟩),.int .i64 (k:Int),.string b] w fun e w'=>e=.returned (.int .i64 0)∧∃F',Left w w' p (d.burn.1.push k b) F F':=by
 have Ho:=Lib.hid (out_up hD hoff);have Ht:=Lib.hid (there_c hD k);have Hb:=Lib.hid (burns_yes hD hn);have hk:k<d.burn.1.lasts.length:=by
  rw [Dk.burn_lasts];simp [Dk.there] at ht
  exact ht
 have hp':d.burn.1.pend+1<1000000:=by rw [Dk.burn_pend];exact hp
 generalize d.burn.1=d1 at *;obtain ⟨i0,hi0,hz0,hz1,hz2⟩:=info_parts infoStr;rw [ht] at Ht;have hb':((b.size:Int) != 64)=false:=by rw [hb];rfl
 have HB:=Lib.hid hb;clear hoff hD ht hn hb hp;go_enter Tryz.func115,Tryz.ntmps115
 go_wp2_with (first | (go_at_call 88;refine Ho.out.mono ?_;rintro e w' ⟨rfl,rfl⟩) | (go_at_call 89;refine Ht.out.mono ?_;rintro e w' ⟨rfl,rfl⟩) | (go_at_call 170;refine Hb.out.mono ?_;rintro e w1 ⟨rfl,hL⟩));clear Ho Ht Hb hb';have HL:=Lib.hid hL;obtain ⟨bl,cap,bm,m,g1,g2,g3,g4,g5,gF,g7⟩:=hL.disk;clear hL;subst gF;obtain ⟨v0,hget,hrun0,hown0,hnil,hmem⟩:=look_at g3 g4 k;obtain ⟨v1,hget1,hrun1,hx1⟩:=look_at (w:=w1.drew) g3.drew (g4.upd (fun _ _=>rfl)) k;obtain ⟨v2,hget2,hrun2,hx2⟩:=look_at (w:=(w1.alloc (.cells #[.string b] 9)).drew) (g3.alloc _).drew (g4.upd (fun q hq=>Below.heap_alloc _ _ _ (by
  have:=HL.out.disk.lt q (by simp only [List.mem_cons];exact .inr (.inr (.inr hq)));exact this))) k
 have e1:v1=v0:=hget1.symm.trans hget;have e2:v2=v0:=hget2.symm.trans hget;subst e1 e2;clear hx1 hx2;have hlen:=Dk.at_len (d:=d1) k;have hcell:w1.cell? ⟨p,1,none⟩=some (.map (some bm)):=g1.cell 1;have hlt1:=g1.lt;have hmemO:∀q,v2.ownBlock=some q→((k:Int),v2) ∈ m:=fun q hq=>hmem (fun h0=>by rw [hnil h0] at hq;simp [Value.ownBlock] at hq)
 have hpv:v2.ownBlock≠some p:=fun e=>by
  have:=List.mem_filterMap (f:=fun q:Int × Value=>q.2.ownBlock).2 ⟨_,hmemO p e,e⟩;simp only [List.nodup_cons,List.mem_cons] at g7;exact g7.1 (.inr (.inr this))
 have hbv:v2.ownBlock≠some bm:=fun e=>by
  have:=List.mem_filterMap (f:=fun q:Int × Value=>q.2.ownBlock).2 ⟨_,hmemO bm e,e⟩;simp only [List.nodup_cons,List.mem_cons] at g7;exact g7.2.2.1 this
 have hpb:p≠bm:=fun e=>by subst e;simp at g7
 have H7:=h5k g1 g2 g4 g5 g7;have Hm:=h3k hpv hbv hpb;have HO:=Lib.hid hmemO;clear hget hrun0 hnil hmem hget1 hget2 g1 g2 g4 g5 g7 hpv hbv hpb hmemO;go_region_held3 (fun w'=>w'.cell? ⟨p,1,none⟩=some (.map (some bm))) (first | assumption | go_keep)
  ((refine step_append_src (by rfl) _ _ _ _ (by rfl) 9 i0 _ 1 16 Tryz.underlying147 hi0 hz0 hz1 hz2 rfl v2 _ _ (by rfl) ((hown0.alloc _).drew) _ 1 [.string b] (by rfl) (Src.of_new_drew Tryz.underlying147 (.string b)) (by simp [Value.oneCell']) (by unfold maxLen;omega) (by omega) ?_
    intro v' w2 hown2 hU2 hloc2 hs2;have hc2:w2.cell? ⟨p,1,none⟩=some (.map (some bm)):=(World.cell?_of_block (w:=w1) (a:=⟨p,1,none⟩) ((hU2.block p (by simp;omega) Hm.out.1).trans (Below.heap_alloc w1 _ p hlt1))).trans hcell;have hM2:MapB intKey w2 bm m:=(g3.alloc _).drew.upd hU2 Hm.out.2.1;obtain ⟨w3,hrun3,hM3,hU3,hs3⟩:=hM2.run_update keyI Tryz.underlying149 Tryz.underlying3 (k:Int) v';have hrun4:(Instr.mapUpdate 149 (.map (some bm)) (.int .i64 (k:Int)) v').run Tryz.prog w2=.ok () w3:=hrun3;clear hrun3;have hc3:w3.cell? ⟨p,1,none⟩=some (.map (some bm)):=(World.cell?_of_block (w:=w2) (a:=⟨p,1,none⟩) (hU3.block p (World.block_lt_of_cell? w2 _ hc2) Hm.out.2.2)).trans hc2;have HX:=h5k hown2 hU2 hloc2 hM3 hU3;clear hown2 hU2 hloc2 hs2 hM2 hM3 hU3 hs3))
 all_goals
  clear hcell hrun1 hrun2 hc2 hc3 hrun4;go_wp2
  go_ret
  refine ⟨rfl,?_⟩;obtain ⟨x1,x2,x3,x4,x5⟩:=HX.out;obtain ⟨g1,g2,g4,g5,g7⟩:=H7.out;obtain ⟨F',hF'⟩:=left_push g1 g2 g3 g4 g5 g7 hk HB.out hp' HO.out (by simpa [strs] using x1) (((Upd.refl _ w1).alloc _).drew.then x2 (fun _ h=>.inl h))
   (fun q hq=>by
     rcases x3 with h | h
     ·exact .inl (by rw [← h];exact hq)
     ·rw [h] at hq
      have:=Option.some.inj hq;simp at this
      exact .inr (by omega)) x4 x5
  exact ⟨F',HL.out.trans hF'⟩
theorem write_c {w:World} {p:Nat} {d:Dk} {F:List Nat} (hD:DiskAt w p d F) (i:Int) (b:ByteArray) (hp:d.pend+1<1000000) :
 Calls Tryz.prog 115 #[.pointer (some ⟨p,0,none⟩),.int .i64 i,.string b] w fun e w'=>e=.returned (.int .i64 (d.write i b).2)∧∃F',Left w w' p (d.write i b).1 F F':=by
 cases hoff:d.off with
 | true =>
   refine (write_off hD i b hoff).mono ?_;rintro e w' ⟨rfl,rfl⟩;exact ⟨by simp [Dk.write,hoff],F,(Left.refl hD).eq (by simp [Dk.write,hoff])⟩
 | false =>
   cases h:(d.there i && decide (b.size=64)) with
   | false =>
     refine (write_arg hD i b hoff h).mono ?_;rintro e w' ⟨rfl,rfl⟩;exact ⟨by rw [Dk.write,hoff,h];rfl,F,(Left.refl hD).eq (by rw [Dk.write,hoff,h];rfl)⟩
   | true =>
     have h':=h;simp only [Bool.and_eq_true,decide_eq_true_eq] at h';cases hn:d.burn.2 with
     | false =>
       refine (write_no hD i b hoff h'.1 h'.2 hn).mono ?_;rintro e w' ⟨rfl,hL⟩;exact ⟨by rw [Dk.write,hoff,h,hn];rfl,F,hL.eq (by rw [Dk.write,hoff,h,hn];rfl)⟩
     | true =>
       have hi:0≤i:=by have:=h'.1;simp [Dk.there] at this;exact this.1
       obtain ⟨k,rfl⟩:=Int.eq_ofNat_of_zero_le hi;refine (write_yes hD k b hoff h'.1 h'.2 hn hp).mono ?_;rintro e w' ⟨rfl,F',hL⟩;exact ⟨by rw [Dk.write,hoff,h,hn];rfl,F',hL.eq (by rw [Dk.write,hoff,h,hn];rfl)⟩
def lastsOf (d:Dk) (left:List (Int × Value)):List ByteArray:=(List.range d.lasts.length).map fun (i:Nat)=>if (i:Int) ∈ left.map (·.1) then d.last i else d.now i
theorem lastsOf_len (d:Dk) (left:List (Int × Value)):(lastsOf d left).length=d.lasts.length:=by simp [lastsOf]
theorem lastsOf_get (d:Dk) (left:List (Int × Value)) (i:Nat) (hi:i<d.lasts.length):(lastsOf d left)[i]? = some (if (i:Int) ∈ left.map (·.1) then d.last i else d.now i):=by
 rw [lastsOf,List.getElem?_map,List.getElem?_range hi];rfl
theorem lastsOf_all {w:World} {d:Dk} {m:List (Int × Value)} (h:WaitsAt w m d.waits):lastsOf d m=d.lasts:=by
 apply List.ext_getElem?
 intro i;by_cases hi:i<d.lasts.length
 ·rw [lastsOf_get d m i hi]
  have hl:d.last i=d.lasts[i]:=by simp [Dk.last,hi]
  rw [List.getElem?_eq_getElem hi];split
  ·rw [hl]
  ·rename_i hn
   have h0:d.at_ i=[]:=by
    rcases Classical.em (d.at_ i=[]) with h0 | h0
    ·exact h0
    ·exact absurd (h.all i h0) hn
   simp [Dk.now,h0,hl]
 ·rw [List.getElem?_eq_none (by rw [lastsOf_len];omega),List.getElem?_eq_none (by omega)]
theorem lastsOf_nil (d:Dk):lastsOf d []=d.flush.lasts:=by simp [lastsOf,Dk.flush]
theorem lastsOf_step (d:Dk) {l1 l2:List (Int × Value)} {k:Nat} {v:Value} (hn:((l1++((k:Int),v)::l2).map (·.1)).Nodup) :
 (lastsOf d (l1++((k:Int),v)::l2)).set k (d.now k)=lastsOf d (l1++l2):=by
 apply List.ext_getElem?
 intro i;by_cases hi:i<d.lasts.length
 ·rw [List.getElem?_set,lastsOf_len]
  by_cases hik:k=i
  ·subst hik
   rw [if_pos rfl,if_pos hi,lastsOf_get d _ k hi,if_neg];intro hmem;simp only [List.map_append,List.map_cons,List.nodup_append,List.nodup_cons,List.mem_append,List.mem_cons] at hn hmem;rcases hmem with h | h
   ·exact hn.2.2 _ h _ (.inl rfl) rfl
   ·exact hn.2.1.1 h
  ·rw [if_neg hik,lastsOf_get d _ i hi,lastsOf_get d _ i hi]
   have:((i:Int) ∈ (l1++((k:Int),v)::l2).map (·.1))↔((i:Int) ∈ (l1++l2).map (·.1)):=by
    simp only [List.map_append,List.map_cons,List.mem_append,List.mem_cons];constructor
    ·rintro (h | h | h)
     ·exact .inl h
     ·omega
     ·exact .inr h
    ·rintro (h | h)
     ·exact .inl h
     ·exact .inr (.inr h)
   simp only [this]
 ·rw [List.getElem?_eq_none (by rw [List.length_set,lastsOf_len];omega),List.getElem?_eq_none (by rw [lastsOf_len];omega)]
theorem delA_split {α : Type} [DecidableEq α] {l1 l2:List (α × Value)} {k : α} {v:Value} (hn:((l1++(k,v)::l2).map (·.1)).Nodup):delA (l1++(k,v)::l2) k=l1++l2∧delA (l1++l2) k=l1++l2:=by
 simp only [List.map_append,List.map_cons,List.nodup_append,List.nodup_cons,List.mem_cons] at hn;have f1:l1.filter (fun p=>decide (p.1≠k))=l1:=by
  rw [List.filter_eq_self];intro q hq;have:=hn.2.2 q.1 (List.mem_map.2 ⟨q,hq,rfl⟩) k (.inl rfl);simpa using this
 have f2:l2.filter (fun p=>decide (p.1≠k))=l2:=by
  rw [List.filter_eq_self];intro q hq;have:q.1≠k:=fun e=>hn.2.1.1 (List.mem_map.2 ⟨q,hq,e⟩)
  simpa using this
 unfold delA;refine ⟨?_,?_⟩
 ·rw [List.filter_append,List.filter_cons,if_neg (by simp),f1,f2]
 ·rw [List.filter_append,f1,f2]
structure Syncing (w wr:World) (p bl cap bm r:Nat) (d:Dk) (m left:List (Int × Value)):Prop where
 blk:Blk wr p 151 #[.slice (some ⟨bl,0,none⟩) d.lasts.length cap,.map (some bm),.int .i64 d.fuse,.bool d.off]
 lasts:Own wr 9 1 (.slice (some ⟨bl,0,none⟩) d.lasts.length cap) d.lasts.length (strs (lastsOf d left))
 rng:Rng intKey wr r bm left left
 waits:∀q ∈ left,∃i:Nat,q.1=(i:Int)∧i<d.lasts.length∧d.at_ i≠[]∧Own wr 9 1 q.2 (d.at_ i).length (strs (d.at_ i))∧q ∈ m
 upd:Upd (fun b=>b=bl∨b=bm) w wr
 new:w.heap.size≤r
theorem Syncing.done {w wr:World} {p bl cap bm r:Nat} {d:Dk} {m:List (Int × Value)} (h:Syncing w wr p bl cap bm r d m []) (hwf:d.wf) (hnd:(p::bl::bm::m.filterMap (·.2.ownBlock)).Nodup) :
 Left w wr p d.flush (p::bl::bm::m.filterMap (·.2.ownBlock)) [p,bl,bm]:=by
 have hlen:d.flush.lasts.length=d.lasts.length:=by simp [Dk.flush]
 have hfw:d.flush.wf:=by
  refine ⟨by simp [Dk.flush,hwf.len],by rw [hlen];exact hwf.pos,by rw [hlen];exact hwf.most,?_,?_,hwf.fuse,hwf.fuse',?_⟩
  ·intro b hb
   simp only [Dk.flush,List.mem_map,List.mem_range] at hb;obtain ⟨i,hi,rfl⟩:=hb;unfold Dk.now;cases hg:(d.at_ i).getLast? with
   | none =>
     simp only [Option.getD_none];unfold Dk.last;rw [List.getD_eq_getElem?_getD,List.getElem?_eq_getElem hi];exact hwf.lasts _ (List.getElem_mem _)
   | some b =>
     simp only [Option.getD_some];have hb:b ∈ d.at_ i:=List.mem_of_getLast? hg;unfold Dk.at_ at hb;rw [List.getD_eq_getElem?_getD,List.getElem?_eq_getElem (by rw [hwf.len];exact hi)] at hb;exact hwf.waits _ (List.getElem_mem _) b hb
  ·intro l hl b hb
   simp only [Dk.flush,List.mem_map] at hl;obtain ⟨_,_,rfl⟩:=hl;simp at hb
  ·have:d.flush.pend=0:=by
    unfold Dk.pend Dk.flush;simp only [List.map_map];generalize d.waits=l;induction l with
    | nil=>rfl
    | cons x l ih=>simpa using ih
   omega
 simp only [List.nodup_cons,List.mem_cons,not_or] at hnd;refine ⟨⟨bl,cap,bm,[],?_,?_,h.rng.map,⟨fun _ hq=>by simp at hq,fun i hi=>?_⟩,hfw,rfl,?_⟩,h.upd.mono (fun b hb=>.inl ?_),fun k hk=>.inl ?_⟩
 ·rw [hlen];exact h.blk
 ·rw [hlen,← lastsOf_nil];exact h.lasts
 ·exfalso
  apply hi
  simp only [Dk.flush,List.getD_eq_getElem?_getD,List.getElem?_map];cases d.waits[i]?<;>rfl
 ·simp only [List.nodup_cons,List.mem_cons,List.not_mem_nil,or_false,not_or,not_false_eq_true,List.nodup_nil,and_true]
  exact ⟨⟨hnd.1.1,hnd.1.2.1⟩,hnd.2.1.1⟩
 ·rcases hb with rfl | rfl<;>simp
 ·simp only [List.mem_cons,List.not_mem_nil,or_false] at hk ⊢
  rcases hk with rfl | rfl | rfl<;>simp
theorem sync_yes {w:World} {p:Nat} {d:Dk} {F:List Nat} (hD:DiskAt w p d F) (hoff:d.off=false) (hn:d.burn.2=true) :
 Calls Tryz.prog 117 #[.pointer (some ⟨p,0,none⟩)] w fun e w'=>e=.returned (.int .i64 0)∧∃F',Left w w' p d.burn.1.flush F F':=by
 have Ho:=Lib.hid (out_up hD hoff);have Hb:=Lib.hid (burns_yes hD hn);generalize d.burn.1=d1 at *;clear hoff hD hn;go_enter Tryz.func117,Tryz.ntmps117
 go_wp2_with (first
  | (go_at_call 88;refine Ho.out.mono ?_;rintro e w' ⟨rfl,rfl⟩)
  | (go_at_call 170
     refine Hb.out.mono ?_;rintro e w1 ⟨rfl,hL⟩;have HL:=Lib.hid hL;obtain ⟨bl,cap,bm,m,g1,g2,g3,g4,g5,gF,g7⟩:=hL.disk;clear hL;have hc:=g1.cells4;obtain ⟨w2,hr2,hR2,hU2,hs2⟩:=g3.run_range (P:=Tryz.prog) Tryz.underlying149;have H4:=h7k g1 g2 g3 g4 g5 gF g7;have HX:=h3k hR2 hU2 hs2;clear g1 g2 g3 g4 g5 gF g7 Ho Hb hR2 hU2 hs2))
 obtain ⟨g1,g2,g3,g4,g5,gF,g7⟩:=H4.out;have hpl:p≠bl:=fun e=>by rw [gF] at g7;subst e;simp at g7
 have hpm:p≠bm:=fun e=>by rw [gF] at g7;subst e;simp at g7
 have hlm:bl≠bm:=fun e=>by rw [gF] at g7;subst e;simp at g7
 have hfp:p ∉ m.filterMap (·.2.ownBlock):=by rw [gF] at g7;simp only [List.nodup_cons,List.mem_cons,not_or] at g7;exact g7.1.2.2
 have hfl:bl ∉ m.filterMap (·.2.ownBlock):=by rw [gF] at g7;simp only [List.nodup_cons,List.mem_cons,not_or] at g7;exact g7.2.1.2
 have hfm:bm ∉ m.filterMap (·.2.ownBlock):=by rw [gF] at g7;simp only [List.nodup_cons,List.mem_cons,not_or] at g7;exact g7.2.2.1
 have hmost:=g5.most;have hstart:Syncing w1 w2 p bl cap bm w1.heap.size d1 m m:=by
  obtain ⟨x1,x2,_⟩:=HX.out;refine ⟨g1.upd x2 (fun e=>e),?_,x1,fun q hq=>?_,x2.mono wz0,Nat.le_refl _⟩
  ·rw [lastsOf_all g4];exact g2.upd x2 (fun _ _ e=>e)
  ·obtain ⟨i,e,hi,h0,ho⟩:=g4.each q hq
   exact ⟨i,e,by rw [← g5.len];exact hi,h0,ho.upd x2 (fun _ _ e=>e),hq⟩
 clear g1 g2 g3 hc hr2 HX;have HG:=h4k g4 g5 gF g7;have HN:=h6k hpl hpm hlm hfp hfl hfm;clear g4 g5 gF g7 hpl hpm hlm hfp hfl hfm H4;have hroom:d1.pend<1000000:=HG.out.2.1.room;go_loopw [5] (fun _ wr=>∃left,Syncing w1 wr p bl cap bm w1.heap.size d1 m left) (fun _ wr=>rngLeft wr w1.heap.size bm)
 case atStart=>exact ⟨m,hstart⟩
 case round =>
  obtain ⟨left,hS⟩:=hrel;clear hstart;have HS:=Lib.hid hS;have hmu:=Lib.hid (hS.rng.left_eq);rcases hS.rng.run_next (P:=Tryz.prog) keyI.inj 0 with ⟨h0,hrun⟩ | ⟨k,v,l1,l2,w3,hleft,hmem,hrun,hR3,hen,hU3,hs3⟩
  ·clear hS hmu
   subst h0;go_wp2
   go_ret
   refine ⟨rfl,[p,bl,bm],HL.out.trans ?_⟩;have hx:=HS.out.done HG.out.2.1 (HG.out.2.2.1 ▸ HG.out.2.2.2);rw [HG.out.2.2.1];exact hx
  ·obtain ⟨i,hki,hi,hne,hown,hqm⟩:=hS.waits (k,v) (by rw [hleft];simp)
   simp only at hki hown
   subst hki;have hlen0:0<(d1.at_ i).length:=List.length_pos_iff.2 hne;have hlenm:=Dk.at_len (d:=d1) i;obtain ⟨g,cap',rfl,hnc,hcm⟩:=hown.head hlen0;have hgF:g ∈ m.filterMap (·.2.ownBlock):=List.mem_filterMap.2 ⟨_,hqm,by simp [Value.ownBlock]⟩;have hgr:g≠w1.heap.size:=by
    have h1:=(HL.out.disk.lt g (by rw [HG.out.2.2.1];simp only [List.mem_cons];exact .inr (.inr (.inr hgF))));omega
   have hpr:p≠w1.heap.size:=by
    have h1:=(HL.out.disk.lt p (by rw [HG.out.2.2.1];simp))
    omega
   have hlr:bl≠w1.heap.size:=by
    have h1:=(HL.out.disk.lt bl (by rw [HG.out.2.2.1];simp))
    omega
   have hB3:=hS.blk.upd hU3 hpr;have hO3:=hS.lasts.upd hU3 (fun q hq e=>hlr (by rw [← e];simpa [Value.ownBlock] using hq))
   have hV3:=hown.upd hU3 (fun q hq e=>hgr (by rw [← e];simpa [Value.ownBlock] using hq))
   have hc:=hB3.cells4;have hlast:w3.cell? ⟨g,(d1.at_ i).length - 1,none⟩=some (.string (d1.now i)):=by
    rw [hV3.cellAt _ (by omega),strs_get,Dk.now,List.getLast?_eq_getElem?,List.getElem?_eq_getElem (by omega)];rfl
   have hold:w3.cell? ⟨bl,i,none⟩=some (.string (d1.last i)):=by
    rw [hO3.cellAt _ (by omega),strs_get,lastsOf_get d1 _ i hi,if_pos]
    ·rfl
    ·rw [hleft];simp
   have hfz:=hO3.frozenAt i (by omega);have HU:=h7k hB3 hO3 hR3 hU3 hpr hlr hgF;have Hleft:=Lib.hid hleft;clear hS hleft hown hqm hgF hgr hpr hlr hB3 hO3 hV3 hR3 hU3 hne hmem hnc hcm;go_wp2_with fail
   go_region
   obtain ⟨hB3,hO3,hR3,hU3,hpr,hlr,hgF⟩:=HU.out;obtain ⟨hpl,hpm,hlm,hfp,hfl,hfm⟩:=HN.out;have hR4:=(hR3.far (p:=⟨bl,i,none⟩) (Ne.symm hlr) (Ne.symm hlm) (.string (d1.now i))).drew;obtain ⟨w4,hrun4,hR5,hU5,hs5⟩:=hR4.run_delete (P:=Tryz.prog) (ty:=0) keyI Tryz.underlying149 Tryz.underlying3 (i:Int);have HV:=h2k hR5 hU5;have hc4:(w3.setCell ⟨bl,i,none⟩ (.string (d1.now i))).cell? ⟨p,1,none⟩=some (.map (some bm)):=(hB3.far (p:=⟨bl,i,none⟩) hpl _).cell 1;clear hc;clear hB3 hO3 hR3 hU3 hpr hlr hgF hpl hpm hlm hfp hfl hfm hR4 hR5 hU5 hs5 hen hrun hlast hold hfz;go_wp2_with (refine wpList_delete_run rfl _ _ _ _ rfl rfl rfl hrun4 ?_;go_frame)
   have hround:Syncing w1 w4 p bl cap bm w1.heap.size d1 m (l1++l2):=by
    obtain ⟨hB3,hO3,hR3,hU3,hpr,hlr,hgF⟩:=HU.out;obtain ⟨hpl,hpm,hlm,hfp,hfl,hfm⟩:=HN.out;obtain ⟨hR5,hU5⟩:=HV.out;have hS:=HS.out;have hnd:=hS.rng.map.nodup;rw [Hleft.out] at hnd;have hd:=delA_split hnd;rw [Hleft.out,hd.1,hd.2] at hR5;have hU4:Upd (· = bl) w3 (w3.setCell ⟨bl,i,none⟩ (.string (d1.now i))).drew:=((Upd.refl (· = bl) w3).setCell (p:=⟨bl,i,none⟩) (.inl rfl) _).drew;have hU34:Upd (fun b=>b=bl∨b=bm) w3 w4:=hU4.trans hU5 (fun b h=>.inl h) (fun b h=>.inl (.inr h));have hUr:Upd (fun b=>b=bl∨b=bm∨b=w1.heap.size) wr w4:=hU3.trans hU34 (fun b h=>.inr (.inr h)) (fun b h=>.inl (h.elim .inl (fun h=>.inr (.inl h))));refine ⟨hB3.upd hU34 (fun h=>h.elim hpl hpm),?_,hR5,fun q hq=>?_,hS.upd.then hUr (fun b h=>?_),Nat.le_refl _⟩
    ·have hO4:=(hO3.stored i (.string (d1.now i))).drew.upd hU5 (fun q hq e=>hlm (by rw [← e];simpa [Value.ownBlock] using hq))
     have e1:(strs (lastsOf d1 left)).set i (.string (d1.now i))=strs (lastsOf d1 (l1++l2)):=by
      rw [← lastsOf_step d1 hnd,Hleft.out];simp only [strs,List.map_set]
     rw [e1] at hO4;exact hO4
    ·obtain ⟨j,e,hj,h0,ho,hm⟩:=hS.waits q (by
      rw [Hleft.out];simp only [List.mem_append,List.mem_cons] at hq ⊢;exact hq.elim .inl (fun h=>.inr (.inr h)))
     refine ⟨j,e,hj,h0,ho.upd hUr (fun x hx e2=>?_),hm⟩;have hxF:x ∈ m.filterMap (·.2.ownBlock):=List.mem_filterMap.2 ⟨q,hm,hx⟩;rcases e2 with rfl | rfl | e2
     ·exact hfl hxF
     ·exact hfm hxF
     ·have h1:=(HL.out.disk.lt x (by rw [HG.out.2.2.1];simp only [List.mem_cons];exact .inr (.inr (.inr hxF))))
      omega
    ·rcases h with h | h | h
     ·exact .inl (.inl h)
     ·exact .inl (.inr h)
     ·exact .inr (by omega)
   go_roundw
   case rel=>exact ⟨_,hround⟩
   case measure =>
    rw [hround.rng.left_eq,HS.out.rng.left_eq,Hleft.out];simp
theorem sync_off {w:World} {p:Nat} {d:Dk} {F:List Nat} (hD:DiskAt w p d F) (hoff:d.off=true) :
 Calls Tryz.prog 117 #[.pointer (some ⟨p,0,none⟩)] w fun e w'=>e=.returned (.int .i64 14)∧w=w':=by
 have Ho:=Lib.hid (out_down hD hoff);clear hoff hD;go_enter Tryz.func117,Tryz.ntmps117
 go_wp2_with (go_at_call 88;refine Ho.out.mono ?_;rintro e w' ⟨rfl,rfl⟩);go_ret
 exact ⟨rfl,rfl⟩
theorem sync_no {w:World} {p:Nat} {d:Dk} {F:List Nat} (hD:DiskAt w p d F) (hoff:d.off=false) (hn:d.burn.2=false) :
 Calls Tryz.prog 117 #[.pointer (some ⟨p,0,none⟩)] w fun e w'=>e=.returned (.int .i64 14)∧Left w w' p d.burn.1 F F:=by
 have Ho:=Lib.hid (out_up hD hoff);have Hb:=Lib.hid (burns_no hD hn);clear hoff hD hn;go_enter Tryz.func117,Tryz.ntmps117
 go_wp2_with (first
  | (go_at_call 88;refine Ho.out.mono ?_;rintro e w' ⟨rfl,rfl⟩)
  | (go_at_call 170;refine Hb.out.mono ?_;rintro e w2 ⟨rfl,hL⟩))
 go_ret
 exact ⟨rfl,hL⟩
theorem sync_c {w:World} {p:Nat} {d:Dk} {F:List Nat} (hD:DiskAt w p d F) :
 Calls Tryz.prog 117 #[.pointer (some ⟨p,0,none⟩)] w fun e w'=>e=.returned (.int .i64 d.sync.2)∧∃F',Left w w' p d.sync.1 F F':=by
 cases hoff:d.off with
 | true =>
   refine (sync_off hD hoff).mono ?_;rintro e w' ⟨rfl,rfl⟩;exact ⟨by simp [Dk.sync,hoff],F,(Left.refl hD).eq (by simp [Dk.sync,hoff])⟩
 | false =>
   cases hb:d.burn.2 with
   | true =>
     refine (sync_yes hD hoff hb).mono ?_;rintro e w' ⟨rfl,F',h⟩;exact ⟨by simp [Dk.sync,hoff,hb],F',h.eq (by simp [Dk.sync,hoff,hb])⟩
   | false =>
     refine (sync_no hD hoff hb).mono ?_;rintro e w' ⟨rfl,h⟩;exact ⟨by simp [Dk.sync,hoff,hb],F,h.eq (by simp [Dk.sync,hoff,hb])⟩
def zeros64:ByteArray:=str (List.replicate 64 0)
theorem zeros64_size:zeros64.size=64:=by unfold zeros64;rw [str_size];simp
namespace Dk
def fresh (n:Nat):Dk := { lasts:=List.replicate n zeros64,waits:=List.replicate n [],fuse:=-1,off:=false }
theorem fresh_wf (n:Nat) (h1:1≤n) (h2:n≤4096):(fresh n).wf:=by
 refine ⟨by simp [fresh],by simpa [fresh] using h1,by simpa [fresh] using h2,?_,?_,by simp [fresh],by simp [fresh],?_⟩
 ·intro b hb
  have:=List.eq_of_mem_replicate hb;rw [this];exact zeros64_size
 ·intro l hl b hb
  have:=List.eq_of_mem_replicate hl;rw [this] at hb;simp at hb
 ·simp [fresh,pend]
end Dk
theorem repeat_zeros:(⟨(Lib.repeatL (⟨#[0]⟩:ByteArray).data.toList 64).toArray⟩:ByteArray)=zeros64:=by decide +kernel
theorem New_c (n:Nat) (w:World) (h1:1≤n) (h2:n≤4096) :
 Calls Tryz.prog 25 #[.int .i64 (n:Int)] w fun e w'=>∃p F,e=.returned (.tuple #[.pointer (some ⟨p,0,none⟩),.int .i64 0])∧DiskAt w' p (Dk.fresh n) F∧Upd (fun _=>False) w w'∧(∀k ∈ F,w.heap.size≤k):=by
 have hrep:=fun W=>Tryz.strings_Repeat ⟨#[0]⟩ 64 W (by omega) (by show 1*64≤_;omega)
 rw [repeat_zeros] at hrep;have Hr:=Lib.hid hrep;have hmm:=@run_makeMap Tryz.prog;obtain ⟨i0,hi0,hz0,hz1,hz2⟩:=info_parts infoStr;clear hrep;go_enter Tryz.func25,Tryz.ntmps25
 go_wp2_with fail
 refine (Hr.out _).mono ?_;rintro e w1 ⟨rfl,hb1⟩;have hB1:Blk w1 (w.heap.size+1) 151 #[.slice none 0 0,.map (some w.heap.size),.int .i64 (-1),.bool false]:=(hb1.block (w.heap.size+1) (by simp)).trans (by
  have:=heap_alloc_new (w.alloc (.map #[] 0)) (.cells #[.slice none 0 0,.map (some w.heap.size),.int .i64 (-1),.bool false] 151);simpa using this)
 have hM1:MapB intKey w1 w.heap.size []:=((MapB.new w).alloc _).eqb (hb1.block w.heap.size (by simp;omega));have hU1:Upd (fun _=>False) w w1:=(((Upd.refl _ w).alloc _).alloc _).then (Upd.of_below hb1 (fun _=>False)) (fun _ h=>h.elim);have H1:=h3k hB1 hM1 hU1;clear hB1 hM1 hU1 hb1 hmm Hr;go_wp2_with fail
 go_loopw [17] (fun i wr=>∃(k:Nat) (v:Value),k≤n∧i=.int .i64 k∧Blk wr (w.heap.size+1) 151 #[v,.map (some w.heap.size),.int .i64 (-1),.bool false]∧Own wr 9 1 v k (strs (List.replicate k zeros64))∧MapB intKey wr w.heap.size []∧Upd (fun _=>False) w wr∧(∀q,v.ownBlock=some q→w.heap.size≤q)) (fun i _=>n - (intOf i).toNat)
 case atStart=>exact ⟨0,.slice none 0 0,by omega,rfl,H1.out.1,Own.nil _ _ _,H1.out.2.1,H1.out.2.2,by simp [Value.ownBlock]⟩
 case round =>
  obtain ⟨k,v,hk,rfl,hB,hO,hM,hU,hl⟩:=hrel;clear H1;by_cases hlt:k<n
  ·have hc:=hB.cells4
   have hsz:=hU.size;have hlB:=hB.lt;have HX:=h4k hB hM hU hl;have hvp:=hO.ne_blk hB (by decide);have hvm:=hO.ne_map hM;have HV:=h2k hvp hvm;clear hB hM hU hl hvp hvm;go_wp2_with (first
    | (at_builtin
       refine wpList_append_src rfl _ _ _ _ rfl 9 i0 _ 1 16 Tryz.underlying147 hi0 hz0 hz1 hz2 rfl v k _ rfl (hO.alloc _) _ 1 [_] rfl (Src.of_new Tryz.underlying147 _) (by simp [Value.oneCell']) (by unfold maxLen;omega) (by omega) ?_;intro v' w2 hO2 hU2 hl2 hs2;have hB2:=(HX.out.1.alloc (.cells #[.string zeros64] 9)).upd hU2 HV.out.1;have H2:=h3k hO2 hU2 hl2;have hone:=hO2.one;clear hO2 hU2 hl2 hs2 hc)
    | (refine wpList_store_one rfl 147 _ _ rfl (w.heap.size+1) 0 v' rfl rfl _ _ hB2 (by simp) hone (by kernel_rfl) ?_
       intro w3 hB3 hU3 hs3))
   obtain ⟨hO2,hU2,hl2⟩:=H2.out;obtain ⟨hB,hM,hU,hl⟩:=HX.out;have hO3:=hO2.upd hU3 (fun q hq e=>hO2.ne_blk hB2 (by decide) (by rw [← e];exact hq));have hM2:=(hM.alloc (.cells #[.string zeros64] 9)).upd hU2 HV.out.2;have hM3:=hM2.upd hU3 (fun e=>by have:=hM2.ne_blk hB2;omega);have hU4:Upd (fun _=>False) w w3:=(hU.alloc _).then (Upd.trans (H:=fun q=>v.ownBlock=some q∨q=w.heap.size+1) hU2 hU3 (fun q h=>.inl h) (fun q h=>.inl (.inr h))) (fun q h=>.inr (h.elim (fun h=>hl q h) (fun h=>by omega)));go_roundw
   case rel =>
    refine ⟨k+1,v',by omega,by go_num,hB3,?_,hM3,hU4,fun q hq=>?_⟩
    ·rw [List.replicate_succ']
     simpa [strs] using hO3
    ·rcases hl2 with h | h
     ·exact hl q (by rw [← h];exact hq)
     ·rw [h] at hq
      have:=Option.some.inj hq;simp at this
      omega
   case measure=>simp [intOf];omega
  ·obtain rfl:k=n:=by omega
   obtain ⟨g,cap,rfl,hnc,hcm⟩:=hO.head (by omega);go_wp2
   go_ret2
   refine ⟨w.heap.size+1,[w.heap.size+1,g,w.heap.size],rfl,⟨g,cap,w.heap.size,[],?_,?_,hM,⟨fun q hq=>by simp at hq,fun i hi=>?_⟩,Dk.fresh_wf k h1 h2,rfl,?_⟩,hU,fun q hq=>?_⟩
   ·simpa [Dk.fresh] using hB
   ·simpa [Dk.fresh] using hO
   ·exfalso
    apply hi
    simp only [Dk.fresh,List.getD_eq_getElem?_getD,List.getElem?_replicate];split<;>rfl
   ·have h1:g≠w.heap.size+1:=fun e=>hO.ne_blk hB (by decide) (by simp [Value.ownBlock,e])
    have h2:g≠w.heap.size:=fun e=>hO.ne_map hM (by simp [Value.ownBlock,e])
    simp only [List.nodup_cons,List.mem_cons,List.not_mem_nil,or_false,not_or,not_false_eq_true,List.nodup_nil,and_true];exact ⟨⟨Ne.symm h1,by omega⟩,h2⟩
   ·have:=hl g (by simp [Value.ownBlock])
    simp only [List.mem_cons,List.not_mem_nil,or_false] at hq;omega
end
end Go.Proofs.YtbhjgfibhegddaaGreat
