/-
  Parts of the proof of VaultSpoils: VatQ, VatR, VatS, VatT, VatU.
-/
import Derived.Test.YtbhjgfibhegddaaGreatQVaultSpoils17
set_option maxRecDepth 100000
set_option maxHeartbeats 16000000
namespace Go.Proofs.YtbhjgfibhegddaaGreat
section
open Go Go.RowKit
theorem Upd.cell_ {F:Nat→Prop} {wa wb:World} (hU:Upd F wa wb) {b i:Nat} (hb:b<wa.heap.size) (hn:¬F b):wb.cell? ⟨b,i,none⟩=wa.cell? ⟨b,i,none⟩:=by
 have h:=hU.block b hb hn;unfold World.cell?;simp only [h]
theorem Dk.sync_ok {d:Dk} (h:d.sync.2=0):d.sync.1.off=false:=by
 unfold Dk.sync at h ⊢;split at h
 ·simp at h
 ·rename_i ho
  rw [if_neg ho];split at h
  ·rename_i hb
   rw [if_pos hb];show d.burn.1.off=false;have ho':d.off=false:=by simpa using ho
   unfold Dk.burn at hb ⊢;split at hb
   ·simp at hb
   ·rename_i h0
    rw [if_neg h0];split<;>exact ho'
  ·simp at h
theorem Dk.sync_len (d:Dk):d.sync.1.lasts.length=d.lasts.length:=by
 unfold Dk.sync;split
 ·rfl
 ·split
  ·show ((List.range _).map _).length=_
   rw [List.length_map,List.length_range,burn_lasts]
  ·rw [burn_lasts]
theorem Dk.sync_pend (d:Dk):d.sync.1.pend≤d.pend:=by
 unfold Dk.sync;split
 ·exact Nat.le_refl _
 ·split
  ·rw [Dk.flush_pend];exact Nat.zero_le _
  ·rw [burn_pend];exact Nat.le_refl _
theorem writeSlotD_same {d:Dk} (hl:d.waits.length=d.lasts.length) (slot:Nat) (t:List UInt8):(writeSlotD d slot t).1.lasts.length=d.lasts.length∧(writeSlotD d slot t).1.pend≤d.pend+80:=by
 unfold writeSlotD;split
 ·exact ⟨rfl,sM⟩
 ·have h:=writeB_same d (placeN slot) (slotSecs t) hl (slotN t)
  split
  ·exact ⟨by rw [h.1],oM⟩
  ·have:=Dk.sync_pend (writeB d (placeN slot) (slotSecs t) (slotN t)).1
   exact ⟨by rw [Dk.sync_len,h.1],oM⟩
theorem putK_same {d:Dk} (hl:d.waits.length=d.lasts.length) (k:Kp) (t:List UInt8):(putK d k t).1.lasts.length=d.lasts.length:=by
 unfold putK;have h:=writeN_same d (k.from_+(1 - k.at_)*10) (cutL t (k.seen+1)) hl (allOf t.length);repeat' split
 all_goals first | rfl | exact congrArg List.length h.1 | (rw [Dk.sync_len,h.1])
theorem putK_ok {d:Dk} {k:Kp} {t:List UInt8} (h:(putK d k t).2.2=0):(putK d k t).1.off=false:=by
 unfold putK at h ⊢;split at h
 ·simp at h
 rename_i h1
 rw [if_neg h1];split at h
 ·simp at h
 rename_i h2
 rw [if_neg h2];split at h
 ·simp at h
 rename_i h3
 rw [if_neg h3];split at h
 ·rename_i h4;exact absurd h h4
 rename_i h4
 rw [if_neg h4];split at h
 ·rename_i h5;exact absurd h h5
 rename_i h5
 rw [if_neg h5];exact Dk.sync_ok (by simpa using h5)
theorem putV_same {d:Dk} (hl:d.waits.length=d.lasts.length) (V:VtM) (s:StM):(putV d V s).1.lasts.length=d.lasts.length∧((putV d V s).2.2=0→(putV d V s).1.off=false∧(putV d V s).2.1.st=s):=by
 unfold putV;have h:=putK_same hl V.kp (stB s (V.wrap sSecret s.m.secret));split
 ·rename_i h1
  exact ⟨h,fun e=>absurd e h1⟩
 ·rename_i h1
  exact ⟨h,fun _=>⟨putK_ok (by simpa using h1),rfl⟩⟩
section
variable {w w':World} {p v:Nat} {d d':Dk} {V V':VtM} {o o':VtO}
theorem VtAt.mp_not (h:VtAt w p v d V o) {q:Nat} (hm:Mp w q) (h1:q ∉ o.F) (h2:q≠o.rk):¬o.mut v q:=by
 intro hq;rcases h.kind hq with e | e | e | e | e | e | e | e | e
 ·exact e.no_map hm
 ·exact e.no_map hm
 ·exact e.no_map hm
 ·exact e.no_map hm
 ·exact e.no_map hm
 ·exact e.no_map hm
 ·exact e.no_map hm
 ·exact e.no_map hm
 ·rcases e.2 with e | e
  ·exact h1 e
  ·exact h2 e
theorem MapAt.mp {w:World} {m mb:Nat} {S:List PairM} (h:MapAt w m mb S):Mp w mb:=by
 obtain ⟨ents,e1,-⟩:=h.map;exact e1.mp
theorem whole_x (h:VtAt w p v d V o) (m:MetaM) {mv:Value} (hmv:TRow w 46 2 mv (m.mounts.map mtRow)) (x:List PairM) {m2 mb2:Nat} (hm2:MapAt w m2 mb2 x) (hmF:mb2 ∉ o.F) (hmk:mb2≠o.rk) (at_ ep:Int) (hst:StOk (V.st.whole m at_ ep)) (hf:PutFit d V) (hn:V.n+1<4611686018427387904) (hp:d.pend+300<1000000) (hl:d.lasts.length=500) (hlog:V.st.log<1000000) (hsl:V.st.slot≤2) :
 Calls Tryz.prog 56 #[.pointer (some ⟨v,0,none⟩),.agg (metaRow m mv),.pointer (some ⟨m2,0,none⟩),.int .i64 at_,.int .i64 ep] w fun e w'=>e=.returned (.int .i64 (wholeV d V m x at_ ep).2.2)∧∃o',VtAt w' p v (wholeV d V m x at_ ep).1 (wholeV d V m x at_ ep).2.1 o'∧VtStep w w' v o { o' with m:=o.m,mb:=o.mb } ∧ (o'.mb=o.mb∨o'.mb=mb2∨w.heap.size≤o'.mb):=by
 obtain ⟨c,hc⟩:=eqx w.heap.size;obtain ⟨C,hC⟩:=eqx (metaRow m mv);have hCs:C.size=5:=by rw [← hC];rfl
 have hone:=hmv.one;have hC1:C.all (·.oneCell')=true:=by rw [← hC];exact metaCells_one _ _ _ hone rfl
 obtain ⟨X,hX⟩:=eqx (V.wrap sMap (pairsB x));have hpb:=pairsB_len hm2.ok;have hXl:X.length≤4400:=by
  rw [← hX];have:=sealB_len (k:=ringK masterL V.cur) (about:=sMap) (text:=pairsB x) hf.cur (show V.st.boot<4294967296 by have:V.st.boot≤1000000:=hst.boot;omega) (show V.n<18446744073709551616 by omega) (show (pairsB x).length≤8192 by omega);unfold VtM.wrap;omega
 have H:=Lib.hid (And.intro h (And.intro hmv (And.intro hm2 (And.intro hmF (And.intro hmk (And.intro hst (And.intro hf (And.intro hn (And.intro hp (And.intro hl hlog))))))))));have HSL:=Lib.hid hsl;clear hsl;have HC:=h4k hc hC hCs hC1;have HX:=h3k hX hXl hpb;rw [hC];clear h hmv hm2 hmF hmk hst hf hn hp hl hlog hc hC hCs hC1 hone hX hXl hpb;go_enter Tryz.func56,Tryz.ntmps56
 go_upto_region 1 with fail
 rw [HC.out.1];generalize hw1:World.alloc _ _=w1;have hB1:Blk w1 c 50 C:=by rw [← hw1,← HC.out.1];exact Blk.new w _ _
 have hU1:Upd (fun _=>False) w w1:=by rw [← hw1];exact (Upd.refl _ w).alloc _
 have H1:=h3k hB1 hU1 (H.out.1.still hU1);clear hB1 hU1 hw1;refine wp_region_noPanic ?_;refine wp_region_T (S:=fun w'=>Blk w' c 50 C∧w'.cell? ⟨v,8,none⟩=some (.pointer (some ⟨o.rb,0,none⟩))) (T:=fun _=>false) kR ?_;have hS0:Blk w1.drew c 50 C∧w1.drew.cell? ⟨v,8,none⟩=some (.pointer (some ⟨o.rb,0,none⟩)):=⟨H1.out.1.drew,H1.out.2.2.blk.cell 8⟩;refine tK8 0 ?_;refine tK8 1 ?_;refine tK8 2 ?_;refine tQ8 3 (fun w' hSw=>hSw.2) ?_;refine tK8 4 ?_;refine wo1 5 (fun KK hKK=>?_);go_simp
 have hU1d:Upd (fun _=>False) w w1.drew:=H1.out.2.1.drew;refine (oall_c (H.out.2.2.1.still hU1d)).mono ?_;rintro e w2 ⟨pv,rfl,hO2,-,hU2⟩;have hA2:=(H1.out.2.2.still (Upd.refl (fun _=>False) w1).drew).still hU2;have hS2:Blk w2 c 50 C∧w2.cell? ⟨v,8,none⟩=some (.pointer (some ⟨o.rb,0,none⟩)):=⟨hS0.1.upd hU2 (fun e=>e),hA2.blk.cell 8⟩;refine hKK.out _ _ hS2 ?_;have H2:=h4k hA2 hS2 hO2 (hU1d.then hU2 (fun _ e=>.inl e));clear hKK hA2 hO2 hU2 hU1d;refine wo1 6 (fun KK hKK=>?_);go_simp
 have hT:=TRow.of_own (cs:=x.map pairRow) (k:=2) (n:=x.length) (by have:=H2.out.2.2.1;rw [pairsV,List.flatMap_def] at this;exact this) (List.length_map _) (oN H.out.2.2.1.ok.len) (fun c hc=>by obtain ⟨q,-,rfl⟩:=List.mem_map.1 hc;rfl)
 obtain ⟨A2,cap2,pb,po,rfl,e2,e3,e4,e5⟩:=hT.open_;rw [List.length_map] at e2 e3 e4 ⊢;refine (ptext_c (w:=w2) (A:=A2) (cap:=cap2) (b:=pb) (off:=po) (l:=x) e4 (fun w' hu i hi=>e5 w' _ hu (fun _ _ e=>e) i (pairRow x[i]) (by simp [hi])) H.out.2.2.1.each H.out.2.2.1.ok.len).mono ?_;rintro e w3 ⟨rfl,hU3⟩;have hA3:=H2.out.1.still hU3;have hS3:Blk w3 c 50 C∧w3.cell? ⟨v,8,none⟩=some (.pointer (some ⟨o.rb,0,none⟩)):=⟨hS2.1.upd hU3 (fun e=>e),hA3.blk.cell 8⟩;refine hKK.out _ _ hS3 ?_;have H3:=h3k hA3 hS3 (H2.out.2.2.2.then hU3 (fun _ e=>.inl e));clear hKK hA3 hU3 hT e2 e3 e4 e5;refine wo1 7 (fun KK hKK=>?_);go_simp
 have hX2:sealB (ringK (str masterL).data.toList V.cur) V.cur V.st.boot V.n (str sMap).data.toList (str (pairsB x)).data.toList=X:=by rw [← HX.out.1,str_list,str_list,str_list];rfl
 have hwr:=rwrap_c H3.out.1.ring (by rw [str_size];decide) H.out.2.2.2.2.2.2.1.cur (by have:V.st.boot≤1000000:=H.out.2.2.2.2.2.1.boot;omega) H.out.2.2.2.2.2.2.1.n (str sMap) (str (pairsB x)) dC (by rw [str_size];have:=HX.out.2.2;omega);rw [hX2] at hwr;refine hwr.mono ?_;rintro e w4 ⟨rfl,ents',hR⟩;have hA4:=H3.out.1.ring_ hR;have hB4:Blk w4 c 50 C:=hS3.1.upd hR.upd (fun e=>by have e1:=H.out.1.lt (i:=5) dC e;have e2:=HC.out.1;omega);have hS4:Blk w4 c 50 C∧w4.cell? ⟨v,8,none⟩=some (.pointer (some ⟨o.rb,0,none⟩)):=⟨hB4,hA4.1.blk.cell 8⟩;refine hKK.out _ _ hS4 ?_;have H4:=h3k hA4 hB4 H3.out.2.2;clear hKK hA4 hB4 hX2 hR hwr;refine tK8 8 ?_;refine tK8 9 ?_;refine tK8 10 ?_;refine tK8 11 ?_;refine tK8 12 ?_;refine wdn ?_;refine NoPanic.normal ?_;clear hS0 hS2 hS3 hS4;obtain ⟨q,hq⟩:=eqx w4.heap.size;obtain ⟨D,hD⟩:=eqx (stRow V.st o.mv);have hD2:((vtRow { V with n:=V.n+1 } p { o with ents:=ents' }).toList.drop 9).take 11=D.toList:=by rw [← hD];rfl
 have hDs:D.size=11:=by rw [← hD];rfl
 have hD1:D.toList.toArray.all (·.oneCell')=true:=by rw [← hD];exact stRow_one _ _ H4.out.1.1.mts.one
 have HD:=h5k hD hD2 hDs hD1 hq;clear hD hD2 hDs hD1 hq;have hblk:Blk w4 v 117 (vtRow { V with n:=V.n+1 } p { o with ents:=ents' }):=H4.out.1.1.blk;go_upto_region 5 with (first
  | (refine wpList_load_part rfl _ _ rfl v 9 rfl _ _ D.toList _ hblk (part_get HD.out.2.1) Tryz.underlying115 rfl (by rw [Array.length_toList,HD.out.2.2.1];kernel_rfl) ?_)
  | (refine wpList_store_all rfl 115 _ _ rfl w4.heap.size _ rfl rfl _ _ (Blk.new w4 _ _) (by rw [List.size_toArray,Array.length_toList,HD.out.2.2.1];rfl) HD.out.2.2.2.1 (by rw [List.size_toArray,Array.length_toList,HD.out.2.2.1];kernel_rfl) ?_
     intro w5 hB5 hU5 hs5))
 rw [HD.out.2.2.2.2] at hB5 hU5 ⊢;have hU45:Upd (fun _=>False) w4 w5:=((Upd.refl _ w4).alloc _).then hU5 (fun b e=>.inr (by have e2:b=q:=e;have:=HD.out.2.2.2.2;omega));have h5:=H4.out.1.1.still hU45;have hC5:Blk w5 c 50 C:=H4.out.2.1.upd hU45 (fun e=>e);have hcq:c<q:=by have:=H4.out.2.1.lt;have:=HD.out.2.2.2.2;omega
 have hvq:v<q:=by have:=H4.out.1.1.blk.lt;have:=HD.out.2.2.2.2;omega
 obtain ⟨KS,hKS⟩:∃K:Int,(V.st.slot:Int)=K:=⟨_,rfl⟩;obtain ⟨KL,hKL⟩:∃K:Int,(V.st.log:Int)=K:=⟨_,rfl⟩;obtain ⟨s1,hs1⟩:∃s:StM,({ V.st with m:=m } : StM)=s:=⟨_,rfl⟩;obtain ⟨s2,hs2⟩:∃s:StM,({ s1 with at_:=at_ } : StM)=s:=⟨_,rfl⟩;obtain ⟨s3,hs3⟩:∃s:StM,({ s2 with epoch:=ep } : StM)=s:=⟨_,rfl⟩;obtain ⟨s4,hs4⟩:∃s:StM,({ s3 with slot:=1+V.st.slot % 2 } : StM)=s:=⟨_,rfl⟩;obtain ⟨s5,hs5'⟩:∃s:StM,V.st.whole m at_ ep=s:=⟨_,rfl⟩;have e0:D.toList.take 0++C.toList++D.toList.drop (0+C.size)=(stRow s1 mv).toList:=by rw [HC.out.2.2.1,← HD.out.1,← HC.out.2.1,← hs1];rfl
 have e1:(stRow s1 mv).setIfInBounds 5 (.int .i64 at_)=stRow s2 mv:=by rw [← hs2];rfl
 have e2:(stRow s2 mv).setIfInBounds 6 (.int .i64 ep)=stRow s3 mv:=by rw [← hs3];rfl
 have e3:(stRow s3 mv).setIfInBounds 7 (.int .i64 (IntKind.i64.wrap (1+KS.tmod 2)))=stRow s4 mv:=by rw [Int.tmod_eq_emod_of_nonneg oM,IntWalk.i64_in _ oM,← hs4,← hKS,show 1+(V.st.slot:Int) % 2=((1+V.st.slot % 2:Nat):Int) by omega];rfl
 have e4:(stRow s4 mv).setIfInBounds 8 (.int .u64 (KL+1))=stRow s5 mv:=by rw [← hs5',← hKL,← hs4,← hs3,← hs2,← hs1,show (V.st.log:Int)+1=((V.st.log+1:Nat):Int) by omega];rfl
 have HE:=h6k e0 e1 e2 e3 e4 hs5';have ks0:0≤KS:=oM;have ks2:KS≤1000000:=by have:V.st.slot≤2:=HSL.out;omega
 have kl0:0≤KL:=oM;have kl1:KL<1000000:=by have:=H.out.2.2.2.2.2.2.2.2.2.2;omega
 have wl:IntKind.u64.wrap (KL+1)=KL+1:=IntWalk.u64_in _ oM;have c16:w5.cell? ⟨v,16,none⟩=some (.int .i64 KS):=by rw [← hKS];exact h5.blk.cell 16
 have c17:w5.cell? ⟨v,17,none⟩=some (.int .u64 KL):=by rw [← hKL];exact h5.blk.cell 17
 have H5:=h6k h5 hC5 hU45 hcq hvq hB5;clear h5 hC5 hU45 hcq hvq hB5 hKS hKL hs1 hs2 hs3 hs4 hs5' e0 e1 e2 e3 e4 hU5 hs5;refine wp_region_noPanic ?_;refine wp_region_T (S:=fun w'=>Blk w' c 50 C∧w'.cell? ⟨v,16,none⟩=some (.int .i64 KS)∧w'.cell? ⟨v,17,none⟩=some (.int .u64 KL)) (T:=fun _=>false) kR ?_;have hS0:Blk w5.drew c 50 C∧w5.drew.cell? ⟨v,16,none⟩=some (.int .i64 KS)∧w5.drew.cell? ⟨v,17,none⟩=some (.int .u64 KL):=⟨H5.out.2.1.drew,c16,c17⟩;refine tT8 0 (.agg C) (takes_load_all rfl (by rfl) _ _ rfl c (by rfl) _ _ _ (fun w' hSw=>hSw.1) Tryz.underlying50 rfl (by rw [HC.out.2.2.1];kernel_rfl)) ?_
 refine tK8 1 ?_;refine tK8 2 ?_;refine tK8 3 ?_;refine tK8 4 ?_;refine tK8 5 ?_;refine tK8 6 ?_;refine tQ8 7 (fun w' hSw=>hSw.2.1) ?_;refine tK8 8 ?_;refine tK8 9 ?_;refine tK8 10 ?_;refine tK8 11 ?_;refine tK8 12 ?_;refine tK8 13 ?_;refine tQ8 14 (fun w' hSw=>hSw.2.2) ?_;refine tK8 15 ?_;refine tK8 16 ?_;have HK:=Lib.hid (fun (wa wb:World) (hU:Upd (· = q) wa wb) (hS:Blk wa c 50 C∧wa.cell? ⟨v,16,none⟩=some (.int .i64 KS)∧wa.cell? ⟨v,17,none⟩=some (.int .u64 KL)) (hv:v<wa.heap.size)=>(show Blk wb c 50 C∧wb.cell? ⟨v,16,none⟩=some (.int .i64 KS)∧wb.cell? ⟨v,17,none⟩=some (.int .u64 KL) from ⟨hS.1.upd hU (oN H5.out.2.2.2.1),(hU.cell_ hv (by have:=H5.out.2.2.2.2.1;show ¬v=q;omega)).trans hS.2.1,(hU.cell_ hv (by have:=H5.out.2.2.2.2.1;show ¬v=q;omega)).trans hS.2.2⟩));have hv5:v<w5.drew.heap.size:=H5.out.1.blk.drew.lt;refine wo1 17 (fun KK hKK=>?_);rw [if_pos (show Region.wanted _ _=true by rfl)];refine wp_store_part _ _ _ rfl q 0 C rfl rfl _ _ (stRow s1 mv) H5.out.2.2.2.2.2.drew (by rw [HC.out.2.2.1,HD.out.2.2.1];decide) HE.out.1 HC.out.2.2.2 (by rw [HC.out.2.2.1];kernel_rfl) (fun w6 hB6 hU6 hz6=>?_)
 have hS6:=HK.out _ _ hU6 hS0 hv5;have hv6:v<w6.heap.size:=by rw [hz6];exact hv5
 refine hKK.out _ _ hS6 ?_;clear hKK hS0;simp only [Act.put];refine tK8 18 ?_;refine wo1 19 (fun KK hKK=>?_);rw [if_pos (show Region.wanted _ _=true by rfl)];refine wp_store_one _ _ _ rfl q 5 (.int .i64 at_) rfl rfl _ _ hB6 (by simp [stRow]) rfl kR (fun w7 hB7 hU7 hz7=>?_);rw [HE.out.2.1] at hB7;have hS7:=HK.out _ _ hU7 hS6 hv6;have hv7:v<w7.heap.size:=by rw [hz7];exact hv6
 refine hKK.out _ _ hS7 ?_;clear hKK hS6 hB6;simp only [Act.put];refine tK8 20 ?_;refine wo1 21 (fun KK hKK=>?_);rw [if_pos (show Region.wanted _ _=true by rfl)];refine wp_store_one _ _ _ rfl q 6 (.int .i64 ep) rfl rfl _ _ hB7 (by simp [stRow]) rfl kR (fun w8 hB8 hU8 hz8=>?_);rw [HE.out.2.2.1] at hB8;have hS8:=HK.out _ _ hU8 hS7 hv7;have hv8:v<w8.heap.size:=by rw [hz8];exact hv7
 refine hKK.out _ _ hS8 ?_;clear hKK hS7 hB7;simp only [Act.put];refine tK8 22 ?_;refine wo1 23 (fun KK hKK=>?_);rw [if_pos (show Region.wanted _ _=true by rfl)];refine wp_store_one _ _ _ rfl q 7 (.int .i64 (IntKind.i64.wrap (1+KS.tmod 2))) rfl rfl _ _ hB8 (by simp [stRow]) rfl kR (fun w9 hB9 hU9 hz9=>?_);rw [HE.out.2.2.2.1] at hB9;have hS9:=HK.out _ _ hU9 hS8 hv8;have hv9:v<w9.heap.size:=by rw [hz9];exact hv8
 refine hKK.out _ _ hS9 ?_;clear hKK hS8 hB8;simp only [Act.put];refine tK8 24 ?_;refine wo1 25 (fun KK hKK=>?_);rw [if_pos (show Region.wanted _ _=true by rfl)];refine wp_store_one _ _ _ rfl q 8 (.int .u64 (KL+1)) rfl rfl _ _ hB9 (by simp [stRow]) rfl kR (fun w10 hB10 hU10 hz10=>?_);rw [HE.out.2.2.2.2.1] at hB10;have hS10:=HK.out _ _ hU10 hS9 hv9;refine hKK.out _ _ hS10 ?_;clear hKK hS9 hB9;simp only [Act.put];refine wdn ?_;refine NoPanic.normal ?_;clear hS10 hv5 hv6 hv7 hv8 hv9 HK c16 c17 wl;have hU410:Upd (fun _=>False) w4 w10:=(((((H5.out.2.2.1.drew.then hU6 (fun b e=>.inr (by have e2:b=q:=e;have:=HD.out.2.2.2.2;omega))).then hU7 (fun b e=>.inr (by have e2:b=q:=e;have:=HD.out.2.2.2.2;omega))).then hU8 (fun b e=>.inr (by have e2:b=q:=e;have:=HD.out.2.2.2.2;omega))).then hU9 (fun b e=>.inr (by have e2:b=q:=e;have:=HD.out.2.2.2.2;omega))).then hU10 (fun b e=>.inr (by have e2:b=q:=e;have:=HD.out.2.2.2.2;omega)));have h10:=H4.out.1.1.still hU410;have hT10:VtStep w w10 v o { o with ents:=ents' } := ((VtStep.mk (o:=o) (o':=o) (v:=v) (H4.out.2.2.mono wz0) (fun q e=>.inl e)).trans H4.out.1.2).still hU410
 have h5s:s5.slot=1+V.st.slot % 2:=by rw [← HE.out.2.2.2.2.2];rfl
 have h5l:s5.log=V.st.log+1:=by rw [← HE.out.2.2.2.2.2];rfl
 have h5b:s5.boot=V.st.boot:=by rw [← HE.out.2.2.2.2.2];rfl
 have h5m:s5.m=m:=by rw [← HE.out.2.2.2.2.2];rfl
 have h5ok:StOk s5:=by rw [← HE.out.2.2.2.2.2];exact H.out.2.2.2.2.2.1
 have hWV:wholeV d V m x at_ ep=(if (writeSlotD d s5.slot X).2≠0 then ((writeSlotD d s5.slot X).1,V.next.told (writeSlotD d s5.slot X).2,(writeSlotD d s5.slot X).2) else if (putV (writeSlotD d s5.slot X).1 V.next s5).2.2≠0 then putV (writeSlotD d s5.slot X).1 V.next s5 else match openG (putV (writeSlotD d s5.slot X).1 V.next s5).1 20 320 s5.log with
  | none=>((putV (writeSlotD d s5.slot X).1 V.next s5).1,(putV (writeSlotD d s5.slot X).1 V.next s5).2.1.told 9,9)
  | some g=>((putV (writeSlotD d s5.slot X).1 V.next s5).1,{ (putV (writeSlotD d s5.slot X).1 V.next s5).2.1 with lg:=g,S:=x,at_:=at_,epoch:=ep,rows:=[],prev:=ep },0)):=by
  rw [← HE.out.2.2.2.2.2,← HX.out.1];rfl
 have hq10:q<w10.heap.size:=hB10.lt;have hqw:w.heap.size≤q:=by have:=HD.out.2.2.2.2;have:=H4.out.1.2.upd.size;have:=H4.out.2.2.size;omega
 have HW:=Lib.hid hWV;have H10:=h5k h10 hB10 hT10 hq10 hqw;have H5S:=h5k h5s h5l h5b h5m h5ok;obtain ⟨KS2,hKS2⟩:∃K:Int,(s5.slot:Int)=K:=⟨_,rfl⟩;obtain ⟨KL2,hKL2⟩:∃K:Int,(s5.log:Int)=K:=⟨_,rfl⟩;have HK2:=h2k hKS2 hKL2;obtain ⟨R5,hR5⟩:∃R,stRow s5 mv=R:=⟨_,rfl⟩;have h57:R5[7]? = some (.int .i64 KS2):=by rw [← hR5,← hKS2];rfl
 have h58:R5[8]? = some (.int .u64 KL2):=by rw [← hR5,← hKL2];rfl
 have h5z:R5.size=11:=by rw [← hR5];rfl
 rw [hR5] at H10;have HR5:=h4k hR5 h57 h58 h5z;clear h10 hB10 hT10 hq10 hqw hU410 h5s h5l h5b h5m h5ok hWV hU6 hU7 hU8 hU9 hU10 hz6 hz7 hz8 hz9 hz10 ks0 ks2 kl0 kl1 hKS2 hKL2 hR5 h57 h58 h5z;have hp1:=H.out.2.2.2.2.2.2.2.2.1;go_upto_region 6 with fail
 have c5:w10.cell? ⟨v,5,none⟩=some (.pointer (some ⟨p,0,none⟩)):=H10.out.1.blk.cell 5;refine wp_region_noPanic ?_;refine wp_region_T (S:=fun w'=>Blk w' q 115 R5∧w'.cell? ⟨v,5,none⟩=some (.pointer (some ⟨p,0,none⟩))) (T:=fun _=>false) kR ?_;have hS0:Blk w10.drew q 115 R5∧w10.drew.cell? ⟨v,5,none⟩=some (.pointer (some ⟨p,0,none⟩)):=⟨H10.out.2.1.drew,c5⟩;have HCK:=Lib.hid (fun (w':World) (h:Blk w' q 115 R5)=>(h.cell 7).trans HR5.out.2.1);refine tk8 0 ?_;simp only [Act.put,List.getElem_toArray,List.getElem_cons_zero,List.setIfInBounds_toArray];refine tK8 1 ?_;refine tK8 2 ?_;refine tQ8 3 (fun w' hSw=>hSw.2) ?_;refine tK8 4 ?_;refine tQ8 5 (fun w' hSw=>HCK.out _ hSw.1) ?_;refine tK8 6 ?_;refine wo1 7 (fun KK hKK=>?_);go_simp
 have hws:=wslot_c (H10.out.1.still (Upd.refl (fun _=>False) w10).drew).disk oM s5.slot (oN H5S.out.1) (oN H5S.out.1) (str X) (by rw [str_size];exact HX.out.2.1);rw [HK2.out.1,str_list] at hws;refine hws.mono ?_;rintro e w11 ⟨rfl,F1,hL⟩;have hA11:=(H10.out.1.still (Upd.refl (fun _=>False) w10).drew).disk_ hL;have hB11:Blk w11 q 115 R5:=hS0.1.upd hL.upd (fun e=>by have e1:=H.out.1.lt (i:=1) dC e;have e2:=H10.out.2.2.2.2;omega);have hS11:Blk w11 q 115 R5∧w11.cell? ⟨v,5,none⟩=some (.pointer (some ⟨p,0,none⟩)):=⟨hB11,hA11.1.blk.cell 5⟩;refine hKK.out _ _ hS11 ?_;have H11:=h3k hA11.1 hB11 ((H10.out.2.2.1.still (Upd.refl (fun _=>False) w10).drew).trans hA11.2);clear hKK hA11 hB11 hL hws;refine tK8 8 ?_;refine wdn ?_;refine NoPanic.normal ?_;clear hS0 hS11 HCK c5 hp1;have hsame:=writeSlotD_same H.out.1.disk.wf.len s5.slot X;have hwait:(writeSlotD d s5.slot X).1.waits.length=(writeSlotD d s5.slot X).1.lasts.length:=H11.out.1.disk.wf.len;obtain ⟨d1,hd1⟩:=eqx (writeSlotD d s5.slot X).1;obtain ⟨E1,hE1⟩:∃E,(writeSlotD d s5.slot X).2=E:=⟨_,rfl⟩;rw [hd1] at hsame hwait H11 HW;rw [hE1] at HW ⊢
 have HSM:=h2k hsame hwait;clear hsame hwait hd1 hE1;by_cases h0:E1=0
 ·subst h0
  rw [if_neg sM] at HW;have hf:=H.out.2.2.2.2.2.2.1;have hmv11:TRow w11 46 2 mv (m.mounts.map mtRow):=H.out.2.1.upd H11.out.2.2.upd (fun b ht=>H.out.1.not_mut ht dC);have hput:=put_c H11.out.1 s5 H5S.out.2.2.2.2 (mv:=mv) (by rw [H5S.out.2.2.2.1];exact hmv11) H5S.out.2.2.1 hf.cur (by have:=H.out.2.2.2.2.2.2.2.1;exact this) hf.seen hf.at_ hf.from_ (oO HSM.out.1.2 H.out.2.2.2.2.2.2.2.2.1);rw [HR5.out.1] at hput;have hpsame:=putV_same (d:=d1) HSM.out.2 V.next s5;have hput2:Calls Tryz.prog 67 #[.pointer (some ⟨v,0,none⟩),.agg R5] w11 fun e w'=>e=.returned (.int .i64 (putV d1 V.next s5).2.2)∧∃o',VtAt w' p v (putV d1 V.next s5).1 (putV d1 V.next s5).2.1 o'∧VtStep w11 w' v { o with ents:=ents',F:=F1 } o':=hput
  clear hput hmv11 hf;obtain ⟨P2,hP2⟩:∃P,putV d1 V.next s5=P:=⟨_,rfl⟩;rw [hP2] at hput2 hpsame HW;obtain ⟨E2,hE2⟩:∃E,P2.2.2=E:=⟨_,rfl⟩;rw [hE2] at hput2 hpsame HW;have HP:=h3k hput2 hpsame hE2;clear hput2 hpsame hE2 hP2;by_cases h2:E2=0
  ·subst h2
   rw [if_neg sM] at HW;go_upto_region 12 with (first
    | (refine wlx _ q H11.out.2.1 Tryz.underlying115 (by rw [HR5.out.2.2.2];kernel_rfl) ?_)
    | (go_at_call 67;refine HP.out.1.mono ?_;rintro e w12 ⟨rfl,o12,h12,k12⟩
       have hB12:Blk w12 q 115 R5:=H11.out.2.1.upd k12.upd (H11.out.1.not_mut H11.out.2.1.ty dC);have c5:w12.cell? ⟨v,5,none⟩=some (.pointer (some ⟨p,0,none⟩)):=h12.blk.cell 5;have H12:=h3k h12 hB12 (H11.out.2.2.trans k12);clear h12 k12 hB12))
   refine wp_region_noPanic ?_;refine wp_region_T (S:=fun w'=>Blk w' q 115 R5∧w'.cell? ⟨v,5,none⟩=some (.pointer (some ⟨p,0,none⟩))) (T:=fun _=>false) kR ?_;have hS0:Blk w12.drew q 115 R5∧w12.drew.cell? ⟨v,5,none⟩=some (.pointer (some ⟨p,0,none⟩)):=⟨H12.out.2.1.drew,c5⟩;have HCK:=Lib.hid (fun (w':World) (h:Blk w' q 115 R5)=>(h.cell 8).trans HR5.out.2.2.1);refine tK8 0 ?_;refine tK8 1 ?_;refine tK8 2 ?_;refine tQ8 3 (fun w' hSw=>hSw.2) ?_;refine tK8 4 ?_;refine tQ8 5 (fun w' hSw=>HCK.out _ hSw.1) ?_;refine wo1 6 (fun KK hKK=>?_);go_simp
   have hop:=openG_on (H12.out.1.still (Upd.refl (fun _=>False) w12).drew).disk 20 320 s5.log dC (by have h1:=HP.out.2.1.1;have h2:=HSM.out.1.1;have h3:=H.out.2.2.2.2.2.2.2.2.2.1;omega) (oN H5S.out.2.1) (by have h1:=H5S.out.2.1;have h2:=H.out.2.2.2.2.2.2.2.2.2.2;omega) (HP.out.2.1.2 trivial).1;rw [HK2.out.2] at hop;refine hop.mono ?_;rintro e w13 ⟨gv,rfl,hG⟩;have hA13:=(H12.out.1.still (Upd.refl (fun _=>False) w12).drew).still hG.upd;have hS13:Blk w13 q 115 R5∧w13.cell? ⟨v,5,none⟩=some (.pointer (some ⟨p,0,none⟩)):=⟨hS0.1.upd hG.upd (fun e=>e),hA13.blk.cell 5⟩;refine hKK.out _ _ hS13 ?_;have H13:=h3k hA13 hG (((H12.out.2.2.still (Upd.refl (fun _=>False) w12).drew)).still hG.upd);clear hKK hA13 hG hop;refine tK8 7 ?_;refine tK8 8 ?_;refine tK8 9 ?_;refine tK8 10 ?_;refine tK8 11 ?_;refine wdn ?_;refine NoPanic.normal ?_;clear hS0 hS13 HCK c5;obtain ⟨G,hG⟩:=eqx (openG P2.1 20 320 s5.log);rw [hG] at HW H13 ⊢;clear hG;cases G with
   | none =>
     have e9:openErrG none=9:=rfl;rw [e9];have HTD:=Lib.hid (told_c H13.out.1 9);go_wp2_with (first
      | (go_at_call 59;refine HTD.out.mono ?_;rintro e w14 ⟨rfl,h14,k14⟩;have H14:=h2k h14 k14;clear h14 k14))
     go_ret
     rw [HW.out];exact ⟨rfl,_,H14.out.1,(H13.out.2.2.trans H14.out.2).re (.inl rfl),(H13.out.2.2.trans H14.out.2).mbs.imp id .inr⟩
   | some g =>
     have e9:openErrG (some g)=0:=rfl;rw [e9];obtain ⟨b,v1,rfl,gB,gO,gb,gv⟩:=H13.out.2.1.ok g rfl;have HG:=h4k gB gO gb gv;clear gB gO gb gv;have hB13:=H13.out.1.blk;have HB13:=Lib.hid hB13;clear hB13;have hz7:=HB13.out.frozen 7;have hnew:((vtRow P2.2.1 p o12).setIfInBounds 7 (.pointer (some ⟨b,0,none⟩))).toList.take 0++(#[.pointer (some ⟨m2,0,none⟩),.int .i64 at_,.int .i64 ep,.slice none 0 0,.int .i64 ep]:Array Value).toList++((vtRow P2.2.1 p o12).setIfInBounds 7 (.pointer (some ⟨b,0,none⟩))).toList.drop (0+5)=(vtRow { P2.2.1 with lg:=g,S:=x,at_:=at_,epoch:=ep,rows:=[],prev:=ep } p { o12 with lb:=b,lv:=v1,m:=m2,mb:=mb2,rv:=.slice none 0 0,ovs:=[] }).toList:=rfl;have hsz:0+5≤((vtRow P2.2.1 p o12).setIfInBounds 7 (.pointer (some ⟨b,0,none⟩))).size:=by rw [Array.size_setIfInBounds];exact Nat.le_of_ble_eq_true rfl
     have HN:=h2k hnew hsz;clear hnew hsz;go_wp2_with (first
      | (refine wpList_store_one rfl _ _ _ rfl v 7 (.pointer (some ⟨b,0,none⟩)) rfl rfl _ _ HB13.out (by simp [vtRow]) rfl kR ?_
         intro w14 hB14 hU14 hs14;have H14:=h2k hB14 hU14;clear hU14 hB14 hz7)
      | (refine wpList_store_part rfl _ _ _ rfl v 0 #[.pointer (some ⟨m2,0,none⟩),.int .i64 at_,.int .i64 ep,.slice none 0 0,.int .i64 ep] rfl rfl _ _ (vtRow { P2.2.1 with lg:=g,S:=x,at_:=at_,epoch:=ep,rows:=[],prev:=ep } p { o12 with lb:=b,lv:=v1,m:=m2,mb:=mb2,rv:=.slice none 0 0,ovs:=[] }) H14.out.1 HN.out.2 HN.out.1 (by simp [Value.oneCell']) kR ?_
         intro w15 hB15 hU15 hs15))
     go_ret
     have hU:Upd (· = v) w13 w15:=H14.out.2.then hU15 (fun q e=>.inl e);have hm:∀q,q=v→o12.mut v q:=fun q e=>.inl e
     have hT13:=H13.out.2.2;have hU0:Upd (o.mut v) w w15:=hT13.upd.then hU (fun q e=>hT13.sub q (.inl e));have hmap:=H.out.2.2.1;have hmb:¬o.mut v mb2:=H.out.1.mp_not hmap.mp H.out.2.2.2.1 H.out.2.2.2.2.1;have hmb12:¬o12.mut v mb2:=fun e=>(hT13.sub _ e).elim hmb (fun e=>by have:=hmap.lt.2;omega)
     have hlt12:∀q,w12.drew.heap.size≤q→q ∉ o12.F:=fun q hq e=>by have:=H12.out.1.lt (i:=1) dC e;have e3:w12.drew.heap.size=w12.heap.size:=rfl;omega
     have h15:VtAt w15 p v P2.1 { P2.2.1 with lg:=g,S:=x,at_:=at_,epoch:=ep,rows:=[],prev:=ep } { o12 with lb:=b,lv:=v1,m:=m2,mb:=mb2,rv:=.slice none 0 0,ovs:=[] } :=
      H13.out.1.cells_ hU rfl rfl rfl rfl rfl hB15 rfl rfl rfl rfl
       (HG.out.1.upd hU (fun e=>by have e2:b=v:=e;have h1:=HG.out.2.2.1;have h2:=H12.out.1.blk.lt;have e3:w12.drew.heap.size=w12.heap.size:=rfl;omega))
       (HG.out.2.1.upd hU (fun q hq e=>by have e2:q=v:=e;have h1:=HG.out.2.2.2 q hq;have h2:=H12.out.1.blk.lt;have e3:w12.drew.heap.size=w12.heap.size:=rfl;omega))
       (fun q hq=>hlt12 q (HG.out.2.2.2 q hq))
       (hmap.upd hU0 (H.out.1.not_mut hmap.blk.ty dC) hmb)
       (fun e=>hmb12 (.inr (.inl e))) (fun e=>hmb12 (.inr (.inr (.inr (.inr (.inr (.inl (.inr (.inl e)))))))))
       (Own.nil _ _ _) rfl (fun i b ov h1=>by simp at h1) (H13.out.1.mts.upd hU (fun b ht e=>H13.out.1.not_mut ht dC (hm _ e)))
     have hT15:VtStep w w15 v o { o12 with lb:=b,lv:=v1,m:=o.m,mb:=o.mb,rv:=.slice none 0 0,ovs:=[] } := by
      have hz:∀q,w12.drew.heap.size≤q→w.heap.size≤q:=fun q hq=>Nat.le_trans H12.out.2.2.upd.size hq
      refine ⟨hU0,fun q hq=>?_,.inl rfl⟩;rcases hq with e | e | e | e | e | e | e
      ·exact hT13.sub q (.inl e)
      ·exact hT13.sub q (.inr (.inl e))
      ·exact hT13.sub q (.inr (.inr (.inl e)))
      ·exact .inr (hz q (by have e2:q=b:=e;rw [e2];exact HG.out.2.2.1))
      ·exact .inr (hz q (HG.out.2.2.2 q e))
      ·exact hT13.sub q (.inr (.inr (.inr (.inr (.inr (.inl e))))))
      ·simp [Value.ownBlock] at e
     rw [HW.out];exact ⟨rfl,_,h15,hT15,.inr (.inl rfl)⟩
  ·have hE0:(E2 != 0)=true:=by simpa using h2
   have H0:=Lib.hid h2;clear h2;go_wp2_with (first
    | (refine wlx _ q H11.out.2.1 Tryz.underlying115 (by rw [HR5.out.2.2.2];kernel_rfl) ?_)
    | (go_at_call 67;refine HP.out.1.mono ?_;rintro e w12 ⟨rfl,o12,h12,k12⟩;have H12:=h2k h12 k12;clear h12 k12))
   go_ret
   rw [HW.out,if_pos H0.out,HP.out.2.2];exact ⟨rfl,o12,H12.out.1,(H11.out.2.2.trans H12.out.2).re (.inl rfl),(H11.out.2.2.trans H12.out.2).mbs.imp id .inr⟩
 ·have hE0:(E1 != 0)=true:=by simpa using h0
  have H0:=Lib.hid h0;have HTD:=Lib.hid (told_c H11.out.1 E1);clear h0;go_wp2_with (first
   | (go_at_call 59;refine HTD.out.mono ?_;rintro e w12 ⟨rfl,h12,k12⟩;have H12:=h2k h12 k12;clear h12 k12))
  go_ret
  rw [HW.out,if_pos H0.out];exact ⟨rfl,_,H12.out.1,(H11.out.2.2.trans H12.out.2).re (.inl rfl),(H11.out.2.2.trans H12.out.2).mbs.imp id .inr⟩
theorem whole_c (h:VtAt w p v d V o) (m:MetaM) {mv:Value} (hmv:TRow w 46 2 mv (m.mounts.map mtRow)) (x:List PairM) {m2 mb2:Nat} (hm2:MapAt w m2 mb2 x) (hmF:mb2 ∉ o.F) (hmk:mb2≠o.rk) (hmbs:mb2=o.mb∨w.heap.size≤mb2) (at_ ep:Int) (hst:StOk (V.st.whole m at_ ep)) (hf:PutFit d V) (hn:V.n+1<4611686018427387904) (hp:d.pend+300<1000000) (hl:d.lasts.length=500) (hlog:V.st.log<1000000) (hsl:V.st.slot≤2) :
 Calls Tryz.prog 56 #[.pointer (some ⟨v,0,none⟩),.agg (metaRow m mv),.pointer (some ⟨m2,0,none⟩),.int .i64 at_,.int .i64 ep] w fun e w'=>e=.returned (.int .i64 (wholeV d V m x at_ ep).2.2)∧∃o',VtAt w' p v (wholeV d V m x at_ ep).1 (wholeV d V m x at_ ep).2.1 o'∧VtStep w w' v o o':=by
 refine (whole_x h m hmv x hm2 hmF hmk at_ ep hst hf hn hp hl hlog hsl).mono ?_;rintro e w' ⟨he,o',h1,h2,h3⟩;refine ⟨he,o',h1,h2.re (m:=o'.m) (mb:=o'.mb) ?_⟩;rcases h3 with e | e | e
 ·exact .inl e
 ·rw [e];exact hmbs
 ·exact .inr e
end
theorem infoBatch:(Tryz.prog.info? 35).map (fun i=>(i.zero,i.size,i.bytes))=some (some (.agg #[.int .i64 0,.int .i64 0,.slice none 0 0]),3,40):=kR
theorem rowsV_snoc:∀(l:List BatM) (s:List Value),s.length=l.length→∀(b:BatM) (ov:Value),rowsV (l++[b]) (s++[ov])=rowsV l s++[.int .i64 b.index,.int .i64 b.epoch,ov]
 | [],[],_,_,_=>rfl
 | a::r,x::s,h,b,ov=>by
   have:=rowsV_snoc r s (by simpa using h) b ov;show _::_::_::rowsV (r++[b]) (s++[ov])=_;rw [this];rfl
theorem Src.of_news_drew {P:Program} {w:World} {xT t e:TypeId} {size n:Nat} (ht:P.underlying xT=some (.slice t)) (news:List Value) (hn:news.length=n*size) :
 Src P (w.alloc (.cells news.toArray e)).drew xT size (.slice (some ⟨w.heap.size,0,none⟩) n n) n news :=
 .of_addr ht _ _ _ hn fun j u hu=>by
  have hadd:(⟨w.heap.size,0,none⟩:Addr).add j=⟨w.heap.size,j,none⟩:=by unfold Addr.add;split<;>simp_all
  rw [hadd];show (w.alloc _).cell? _=_;rw [World.cell?_alloc_new];simpa using hu
theorem three_one {a b:Int} {v:Value} (h:v.oneCell'=true):∀u ∈ [Value.int .i64 a,.int .i64 b,v],u.oneCell'=true:=by
 intro u hu;simp only [List.mem_cons,List.not_mem_nil,or_false] at hu;rcases hu with rfl | rfl | rfl
 ·rfl
 ·rfl
 ·exact h
section
variable {w w':World} {p v:Nat} {d d':Dk} {V V':VtM} {o o':VtO}
theorem VtAt.rows_ {Z:Nat→Prop} (h:VtAt w p v d V o) (hu:Upd Z w w') (hz:∀q,Z q→o.cl v 0 q∨o.cl v 6 q∨o.cl v 6 q) {rv':Value} {ovs':List Value} (hB:Blk w' v 117 (vtRow V' p { o with rv:=rv',ovs:=ovs' })) (hk:V'.kp=V.kp) (hl:V'.lg=V.lg) (hS:V'.S=V.S) (hc:V'.cur=V.cur) (hn:V'.n=V.n) (hst:V'.st=V.st)
 (hrows:Own w' 35 3 rv' V'.rows.length (rowsV V'.rows ovs')) (hov:ovs'.length=V'.rows.length) (heach:∀(i:Nat) (b:BatM) (ov:Value),V'.rows[i]? = some b→ovs'[i]? = some ov→TRow w' 32 3 ov (b.ops.map opRow)) (hsub:∀q,rv'.ownBlock=some q→o.rv.ownBlock=some q∨w.heap.size≤q) :
 VtAt w' p v d V' { o with rv:=rv',ovs:=ovs' } ∧ VtStep w w' v o { o with rv:=rv',ovs:=ovs' } := by
 have hm:∀q,Z q→o.mut v q:=fun q e=>(hz q e).elim VtO.cl_mut fun e=>e.elim VtO.cl_mut VtO.cl_mut
 refine ⟨⟨h.disk.upd hu (fun q e=>h.off hz (j:=1) dC e),hB,?_,?_,?_,h.sep,?_,h.rkF,?_,h.mbF,h.mbk,hrows,hov,heach,?_⟩,VtStep.mk_ (hu.mono fun q e=>.inl (hm q e)) _ rfl (fun q e=>.inl e) (.inl rfl) (.inl rfl) (fun q e=>.inl e) (fun q e=>.inl e) hsub⟩
 ·rw [hk];exact h.kept.upd hu (h.off hz (j:=2) dC rfl)
 ·rw [hl];exact h.log.upd hu (h.off hz (j:=3) dC rfl)
 ·rw [hl];exact h.recs.upd hu (fun q e=>h.off hz (j:=4) dC e)
 ·rw [hc,hn,hst];exact h.ring.move hu (fun q e=>h.off hz (j:=5) dC e)
 ·rw [hS];exact h.keep_map hu hm
 ·rw [hst];exact h.keep_mts hu hm
theorem does_m (h:VtAt w p v d V o) (b:BatM) {ty:TypeId} {ov:Value} (hov:TRow w ty 3 ov (b.ops.map opRow)) (hl:b.ops.length≤1000) (hr:V.rows.length≤1000) :
 Calls Tryz.prog 60 #[.pointer (some ⟨v,0,none⟩),.agg #[.int .i64 b.index,.int .i64 b.epoch,ov]] w fun e w'=>e=.returned (.tuple #[])∧∃o',VtAt w' p v d { V with rows:=V.rows++[b],at_:=b.index,epoch:=b.epoch } o'∧VtStep w w' v o o'∧o'.m=o.m∧o'.mb=o.mb∧o'.F=o.F:=by
 obtain ⟨c,hc⟩:=eqx w.heap.size;obtain ⟨i0,hi0,hz0,hz1,hz2⟩:=info_parts infoBatch;have HI:=h4k hi0 hz0 hz1 hz2;have hone:=hov.one;have H:=h6k h hov hl hr hc hone;clear h hov hl hr hc hi0 hz0 hz1 hz2 hone;go_enter Tryz.func60,Tryz.ntmps60
 go_upto_region 1 with fail
 rw [H.out.2.2.2.2.1];generalize hw1:World.alloc _ _=w1;have hB1:Blk w1 c 35 #[.int .i64 b.index,.int .i64 b.epoch,ov]:=by rw [← hw1,← H.out.2.2.2.2.1];exact Blk.new w _ _
 have hU1:Upd (fun _=>False) w w1:=by rw [← hw1];exact (Upd.refl _ w).alloc _
 have c2:=hB1.cell 2;have HCL:=Lib.hid (opclone_c (H.out.2.1.still hU1) (opRow_ok _) (by rw [List.length_map];exact H.out.2.2.1));have H1:=h2k hB1 hU1;clear hB1 hU1 hw1;go_upto_region 2 with (first
  | (go_at_call 68
     refine HCL.out.mono ?_;rintro e w2 ⟨ov2,rfl,hR2,hU2⟩;have hone2:=hR2.one;have hB2:=H1.out.1.upd hU2 (fun e=>e);have H2:=h2k hR2 hU2;clear hR2 hU2)
  | (refine wpList_store_one rfl 33 _ _ rfl c 2 ov2 rfl rfl _ _ hB2 sM hone2 kR ?_
     intro w3 hB3 hU3 hz3))
 rw [show (#[Value.int .i64 b.index,.int .i64 b.epoch,ov]:Array Value).setIfInBounds 2 ov2=#[.int .i64 b.index,.int .i64 b.epoch,ov2] from rfl] at hB3;have hU03:Upd (fun _=>False) w w3:=(H1.out.2.then H2.out.2 (fun _ e=>.inl e)).then hU3 (fun q e=>.inr (by have e2:q=c:=e;have:=H.out.2.2.2.2.1;omega));have hR3:TRow w3 32 3 ov2 (b.ops.map opRow):=H2.out.1.upd hU3 (fun q ht e=>by
  have e2:q=c:=e;subst e2;exact absurd (hB2.ty.inj ht) dC)
 have h3:=H.out.1.still hU03;have H3:=h4k h3 hR3 hB3 hU03;have hcv:c≠v:=by have:=H.out.1.blk.lt;have:=H.out.2.2.2.2.1;omega
 have HCV:=Lib.hid hcv;have HO2:=Lib.hid hone2;clear h3 hR3 hB3 hU03 hU3 hz3 hB2 hcv hone2 c2;refine wp_region_noPanic ?_;refine wp_region_T (S:=fun w'=>Blk w' c 35 #[.int .i64 b.index,.int .i64 b.epoch,ov2]∧w'.cell? ⟨v,3,none⟩=some o.rv) (T:=fun i=>i == 12) kR ?_;have hS0:Blk w3.drew c 35 #[.int .i64 b.index,.int .i64 b.epoch,ov2]∧w3.drew.cell? ⟨v,3,none⟩=some o.rv:=⟨H3.out.2.2.1.drew,H3.out.1.blk.cell 3⟩;refine tK8 0 ?_;refine tK8 1 ?_;refine tK8 2 ?_;refine tK8 3 ?_;refine tK8 4 ?_;refine tQ8 5 (fun w' hSw=>hSw.2) ?_;refine tT8 6 (.agg #[.int .i64 b.index,.int .i64 b.epoch,ov2]) (takes_load_all rfl (by rfl) _ _ rfl c (by rfl) _ _ _ (fun w' hSw=>hSw.1) Tryz.underlying35 rfl kR) ?_;refine wo1 7 (fun KK hKK=>?_);go_simp
 have hS1:Blk ((w3.alloc (.cells #[.int .i64 b.index,.int .i64 b.epoch,ov2] 35)).drew) c 35 #[.int .i64 b.index,.int .i64 b.epoch,ov2]∧((w3.alloc (.cells #[.int .i64 b.index,.int .i64 b.epoch,ov2] 35)).drew).cell? ⟨v,3,none⟩=some o.rv:=⟨(H3.out.2.2.1.alloc _).drew,(H3.out.1.blk.alloc _).drew.cell 3⟩;refine hKK.out _ _ hS1 ?_;clear hKK;refine wo1 8 (fun KK hKK=>?_);refine step_append_src (by rfl) _ _ _ _ (by rfl) 35 i0 _ 3 40 Tryz.underlying38 HI.out.1 HI.out.2.1 HI.out.2.2.1 HI.out.2.2.2 rfl o.rv V.rows.length (rowsV V.rows o.ovs) (by rfl) (H3.out.1.rows.alloc _).drew _ 1 [.int .i64 b.index,.int .i64 b.epoch,ov2] (by rfl) (Src.of_news_drew (e:=35) (n:=1) (size:=3) Tryz.underlying38 [.int .i64 b.index,.int .i64 b.epoch,ov2] rfl) (three_one HO2.out) (by have:=H.out.2.2.2.1;unfold maxLen;omega) (oN H.out.2.2.2.1) ?_;intro rv' w4 hO4 hU4 hl4 hz4;have hrvv:o.rv.ownBlock≠some v:=fun e=>H3.out.1.apart (i:=6) (j:=0) dC dC dC e rfl
 have hrvc:o.rv.ownBlock≠some c:=fun e=>by have e1:=H.out.1.lt (i:=6) dC e;have e2:=H.out.2.2.2.2.1;omega
 have hB4:Blk w4 v 117 (vtRow V p o):=(H3.out.1.blk.alloc _).drew.upd hU4 hrvv;have hS4:Blk w4 c 35 #[.int .i64 b.index,.int .i64 b.epoch,ov2]∧w4.cell? ⟨v,3,none⟩=some o.rv:=⟨hS1.1.upd hU4 hrvc,hB4.cell 3⟩;refine hKK.out _ _ hS4 ?_;clear hKK;simp only [Act.put,List.setIfInBounds_toArray];refine tK8 9 ?_;refine tK8 10 ?_;refine tK8 11 ?_;refine woT 12 (fun KK hKK=>?_);rw [if_pos (show Region.wanted _ _=true by rfl)];refine wp_store_one _ _ _ rfl v 3 rv' rfl rfl _ _ hB4 (by simp [vtRow]) hO4.one kR (fun w5 hB5 hU5 hz5=>?_);refine hKK.out _ _ ?_;clear hKK;simp only [Act.put];refine wdn ?_;refine NoPanic.normal ?_;clear hS0 hS1 hS4;rw [show (vtRow V p o).setIfInBounds 3 rv'=vtRow V p { o with rv:=rv' } from rfl] at hB5;have hrows:Own w4 35 3 rv' (V.rows.length+1) (rowsV (V.rows++[b]) (o.ovs++[ov2])):=by rw [rowsV_snoc _ _ H3.out.1.ovl];exact hO4
 have hU34:Upd (fun k=>o.rv.ownBlock=some k) w3 w4:=(((Upd.refl _ w3).alloc _).drew).then hU4 (fun q e=>.inl e);have H5:=h8k hB5 hU5 hrows hU34 hl4 hB4 hrvc hrvv;have hB5c:Blk w5 c 35 #[.int .i64 b.index,.int .i64 b.epoch,ov2]:=((H3.out.2.2.1.upd hU34 hrvc)).upd hU5 (fun e=>HCV.out e);have HB5c:=Lib.hid hB5c;clear hB5 hU5 hrows hU34 hl4 hB4 hz5 hO4 hU4 hz4 hrvc hrvv hB5c;go_upto_region 3 with fail
 refine wp_region_noPanic ?_;refine wp_region_T (S:=fun w'=>Blk w' c 35 #[.int .i64 b.index,.int .i64 b.epoch,ov2]) (T:=fun _=>false) kR ?_;have hS0:Blk w5.drew c 35 #[.int .i64 b.index,.int .i64 b.epoch,ov2]:=HB5c.out.drew;refine tk8 0 ?_;simp only [Act.put,List.getElem_toArray,List.getElem_cons_zero,List.setIfInBounds_toArray];refine tK8 1 ?_;refine tK8 2 ?_;refine tQ8 3 (fun w' hSw=>hSw.cell 0) ?_;refine tK8 4 ?_;refine tQ8 5 (fun w' hSw=>hSw.cell 1) ?_;refine tK8 6 ?_;refine tK8 7 ?_;refine tK8 8 ?_;refine wo1 9 (fun KK hKK=>?_);rw [if_pos (show Region.wanted _ _=true by rfl)];refine wp_store_one _ _ _ rfl v 1 (.int .i64 b.index) rfl rfl _ _ H5.out.1.drew (by simp [vtRow]) rfl kR (fun w6 hB6 hU6 hz6=>?_);have hS6:Blk w6 c 35 #[.int .i64 b.index,.int .i64 b.epoch,ov2]:=HB5c.out.drew.upd hU6 (fun e=>HCV.out e);refine hKK.out _ _ hS6 ?_;clear hKK;simp only [Act.put];refine tK8 10 ?_;refine tK8 11 ?_;refine tK8 12 ?_;refine wo1 13 (fun KK hKK=>?_);rw [if_pos (show Region.wanted _ _=true by rfl)];refine wp_store_one _ _ _ rfl v 2 (.int .i64 b.epoch) rfl rfl _ _ hB6 (by simp [vtRow]) rfl kR (fun w7 hB7 hU7 hz7=>?_);have hS7:Blk w7 c 35 #[.int .i64 b.index,.int .i64 b.epoch,ov2]:=hS6.upd hU7 (fun e=>HCV.out e)
 refine hKK.out _ _ hS7 ?_;clear hKK;simp only [Act.put];refine wdn ?_;refine NoPanic.normal ?_;clear hS0 hS6 hS7;rw [show ((vtRow V p { o with rv:=rv' }).setIfInBounds 1 (.int .i64 b.index)).setIfInBounds 2 (.int .i64 b.epoch)=vtRow { V with rows:=V.rows++[b],at_:=b.index,epoch:=b.epoch } p { o with rv:=rv',ovs:=o.ovs++[ov2] } from rfl] at hB7;have hU57:Upd (· = v) w5 w7:=((Upd.refl (fun q=>q=v) w5).drew.then hU6 (fun q e=>.inl e)).then hU7 (fun q e=>.inl e);have HE:=h2k hB7 hU57;clear hB7 hU57 hB6 hU6 hU7 hz6 hz7;go_wp2_with fail
 go_end0
 have hU37:Upd (fun q=>q=v∨o.rv.ownBlock=some q) w3 w7:=((H5.out.2.2.2.1.mono (fun q e=>.inl (.inr e))).then H5.out.2.1 (fun q e=>.inl (.inl e))).then HE.out.2 (fun q e=>.inl (.inl e));have hU47:Upd (· = v) w4 w7:=H5.out.2.1.then HE.out.2 (fun q e=>.inl e);have hz:∀q,(q=v∨o.rv.ownBlock=some q)→o.cl v 0 q∨o.cl v 6 q∨o.cl v 6 q:=fun q e=>e.imp id .inl
 have hm:∀q,(q=v∨o.rv.ownBlock=some q)→o.mut v q:=fun q e=>(hz q e).elim VtO.cl_mut fun e=>e.elim VtO.cl_mut VtO.cl_mut
 have hnew:∀q,rv'.ownBlock=some q→o.rv.ownBlock=some q∨w3.heap.size≤q:=fun q hq=>by
  rcases H5.out.2.2.2.2.1 with e | e
  ·exact .inl (by rw [← e];exact hq)
  ·rw [e] at hq
   have:=Option.some.inj hq;right
   have e2:((w3.alloc (.cells #[.int .i64 b.index,.int .i64 b.epoch,ov2] 35)).drew).heap.size=w3.heap.size+1:=by
    show (w3.alloc _).heap.size=_;simp
   omega
 have hx:=H3.out.1.rows_ (V' := { V with rows:=V.rows++[b],at_:=b.index,epoch:=b.epoch }) (rv':=rv') (ovs':=o.ovs++[ov2]) hU37 hz HE.out.1 rfl rfl rfl rfl rfl rfl
  (by rw [show (V.rows++[b]).length=V.rows.length+1 by simp];exact H5.out.2.2.1.upd hU47 (fun q hq e=>by
    have e2:q=v:=e;subst e2;rcases hnew q hq with e | e
    ·exact H5.out.2.2.2.2.2.2.2 e
    ·have:=H3.out.1.blk.lt;omega))
  (by simp [H3.out.1.ovl])
  (fun i x ov' h1 h2=>by
    have hold:=H3.out.1.keep_each hU37 hm;have hov:=H3.out.1.ovl;by_cases hi:i<V.rows.length
    ·rw [List.getElem?_append_left hi] at h1
     rw [List.getElem?_append_left oM] at h2;exact hold i x ov' h1 h2
    ·rw [List.getElem?_append_right oM] at h1
     rw [List.getElem?_append_right oM] at h2;have hi0:i - V.rows.length=0:=by
      have:=(List.getElem?_eq_some_iff.1 h1).1;simpa using this
     rw [hi0] at h1;rw [show i - o.ovs.length=0 by omega] at h2;cases h1
     cases h2
     exact H3.out.2.1.upd hU37 (fun q ht e=>H3.out.1.not_mut ht dC (hm q e)))
  hnew
 exact ⟨rfl,_,hx.1,(VtStep.mk (H3.out.2.2.2.mono wz0) (fun q e=>.inl e)).trans hx.2,rfl,rfl,rfl⟩
theorem does_c (h:VtAt w p v d V o) (b:BatM) {ty:TypeId} {ov:Value} (hov:TRow w ty 3 ov (b.ops.map opRow)) (hl:b.ops.length≤1000) (hr:V.rows.length≤1000) :
 Calls Tryz.prog 60 #[.pointer (some ⟨v,0,none⟩),.agg #[.int .i64 b.index,.int .i64 b.epoch,ov]] w fun e w'=>e=.returned (.tuple #[])∧∃o',VtAt w' p v d { V with rows:=V.rows++[b],at_:=b.index,epoch:=b.epoch } o'∧VtStep w w' v o o' :=
 (does_m h b hov hl hr).mono fun _ _ ⟨h1,o',h2,h3,_⟩=>⟨h1,o',h2,h3⟩
end
section
variable {w w':World} {p v:Nat} {d d':Dk} {V V':VtM} {o o':VtO}
theorem vinstall_c (h:VtAt w p v d V o) (hst:StOk V.st) (hf:PutFit d V) (hn:V.n+1<4611686018427387904) (hp:d.pend+300<1000000) (hl:d.lasts.length=500) (hlog:V.st.log<1000000)
 (m:MetaM) {ty:TypeId} {mv:Value} (hmv:TRow w ty 2 mv (m.mounts.map mtRow)) (hmn:m.seen≤9223372036854775807∧m.grant≤9223372036854775807) (hml:∀x ∈ m.mounts,x.name.length≤1000000)
 (l:List PairM) {tl:TypeId} {lv:Value} (hlv:TRow w tl 2 lv (l.map pairRow)) (hls:∀p ∈ l,p.1.length≤1000000∧p.2.length≤1000000) (at_ ep:Int) (hep:ep≤9223372036854775807) :
 Calls Tryz.prog 21 #[.pointer (some ⟨v,0,none⟩),.agg (metaRow m mv),lv,.int .i64 at_,.int .i64 ep] w fun e w'=>e=.returned (.int .i64 (installV d V m l at_ ep).2.2)∧∃o',VtAt w' p v (installV d V m l at_ ep).1 (installV d V m l at_ ep).2.1 o'∧VtStep w w' v o o':=by
 obtain ⟨A,cap,mb,mo,hmv1,hmv2,hmv3,hmv4,hmv5⟩:=hmv.mts;obtain ⟨LA,lcap,lb,lo,hlv1,hlv2,hlv3,hlv4,hlv5⟩:=hlv.open_;rw [List.length_map] at hlv1 hlv2 hlv3 hlv4;obtain ⟨c,hc⟩:=eqx w.heap.size;obtain ⟨C,hC⟩:=eqx (metaRow m mv);have hCs:C.size=5:=by rw [← hC];rfl
 have H:=h7k h hst hf hn hp hl hlog;have HM:=h8k hmv hmn hml hmv1 hmv2 hmv3 hmv4 hmv5;have HL:=h6k hlv1 hlv2 hlv3 hlv4 hlv5 hls;have HC:=h3k hc hC hCs;have HEP:=Lib.hid hep;rw [hC];clear h hst hf hn hp hl hlog hmv hmn hml hmv1 hmv2 hmv3 hmv4 hmv5 hlv hlv1 hlv2 hlv3 hlv4 hlv5 hls hc hC hCs hep;go_enter Tryz.func21,Tryz.ntmps21
 go_upto_region 1 with fail
 rw [HC.out.1];generalize hw1:World.alloc _ _=w1;have hB1:Blk w1 c 50 C:=by rw [← hw1,← HC.out.1];exact Blk.new w _ _
 have hU1:Upd (fun _=>False) w w1:=by rw [← hw1];exact (Upd.refl _ w).alloc _
 have H1:=h3k hB1 hU1 (H.out.1.still hU1);have HO:=Lib.hid (off_c (H.out.1.still hU1));clear hB1 hU1 hw1;have hset:installV d V m l at_ ep=if offV d V then (d,{ V with down:=true },14) else if rightM m=false∨placeOk at_ ep=false then (d,V,1) else if (ofP l).2≠0 then (d,V,(ofP l).2) else wholeV d V m (ofP l).1 at_ ep:=rfl
 have HS:=Lib.hid hset;clear hset;have HT1:=Lib.hid (VtStep.mk (o:=o) (o':=o) (v:=v) (H1.out.2.1.mono wz0) (fun q e=>.inl e));cases hoff:offV d V
 ·rw [hoff] at HS HO
  simp only [Bool.false_eq_true,if_false,forall_const] at HO;have hri:=vright_c (w:=w1) (A:=A) (cap:=cap) (b:=mb) (off:=mo) m HM.out.2.2.2.2.2.2.1 (fun w' hu=>HM.out.2.2.2.2.2.2.2 w' (fun _=>False) (H1.out.2.1.then hu (fun _ e=>.inl e)) (fun _ _ e=>e)) HM.out.2.2.2.2.2.1 HM.out.2.2.2.2.1 HM.out.2.2.1;rw [← HM.out.2.2.2.1,HC.out.2.1] at hri;have HR:=Lib.hid hri;clear hri hoff;go_upto_region 4 with (first
   | (go_at_call 53;refine HO.out.mono ?_;rintro e w2 ⟨rfl,-,-,hw2⟩;subst hw2))
  obtain ⟨B1,hB1⟩:∃B,decide (at_=0∧ep=0)=B:=⟨_,rfl⟩;obtain ⟨B2,hB2⟩:∃B,decide (1≤at_∧at_≤4611686018427387904∧1≤ep)=B:=⟨_,rfl⟩;have HB1:=Lib.hid hB1;have HB2:=Lib.hid hB2;clear hB1 hB2;go_cut [12] (fun t12 wx=>t12=.bool B1∧w1=wx)
  case first =>
   cases h1:(at_ == 0)
   ·go_wp2_with fail
    go_meet
    refine ⟨?_,rfl⟩;rw [← HB1.out];have h1':at_≠0:=by simpa using h1
    simp [h1']
   ·go_wp2_with fail
    go_meet
    refine ⟨?_,rfl⟩;rw [← HB1.out];have h1':at_=0:=by simpa using h1
    simp [h1',Bool.beq_eq_decide_eq]
  case rest =>
   obtain ⟨rfl,rfl⟩:=hcut;go_upto_region 5 with fail
   go_cut [13] (fun t13 wx=>t13=.bool B2∧w1=wx)
   case first =>
    by_cases h1:1≤at_<;>by_cases h2:at_≤4611686018427387904<;>by_cases h3:1≤ep<;>
    (go_wp2_with fail
     go_meet
     refine ⟨?_,rfl⟩;rw [← HB2.out];first
      | exact congrArg Value.bool (decide_eq_true oM).symm
      | exact congrArg Value.bool (decide_eq_false oM).symm)
   case rest =>
    obtain ⟨rfl,rfl⟩:=hcut;go_upto_region 6 with fail
    have hplace:placeOk at_ ep=(B1 || B2):=by rw [← HB1.out,← HB2.out];rfl
    obtain ⟨B3,hB3⟩:∃B,(rightM m && placeOk at_ ep)=B:=⟨_,rfl⟩;have HB3:=h2k hB3 hplace;clear hB3 hplace;go_cut [47] (fun t47 wx=>t47=.bool (!B3)∧Upd (fun _=>False) w1 wx)
    case first =>
     obtain ⟨Z,hZ⟩:=eqx (rightM m);have hz3:=HB3.out;rw [hZ] at HR hz3;have HZ3:=Lib.hid hz3;clear hz3 hZ;cases Z<;>cases B1<;>cases B2<;>
     (go_wp2_with (first
       | (refine wlx _ c H1.out.1 Tryz.underlying50 (by rw [HC.out.2.2];kernel_rfl) ?_)
       | (go_at_call 41;refine HR.out.mono ?_;rintro e w3 ⟨rfl,hU3⟩;have H3:=Lib.hid hU3;clear hU3))
      go_meet
      refine ⟨?_,H3.out⟩;rw [← HZ3.out.1,HZ3.out.2];rfl)
    case rest =>
     obtain ⟨rfl,hU3⟩:=hcut;have h3:=H1.out.2.2.still hU3;have hT3:=HT1.out.still hU3;have hUw3:=H1.out.2.1.then hU3 (fun _ e=>.inl e);have hB3c:=H1.out.1.upd hU3 (fun e=>e);have H3:=h4k h3 hT3 hUw3 hB3c;clear h3 hT3 hUw3 hB3c hU3;cases hb:B3
     ·have hno:rightM m=false∨placeOk at_ ep=false:=by
       have:=HB3.out.1;rw [hb] at this;cases hr:rightM m
       ·exact .inl rfl
       ·rw [hr] at this;exact .inr (by simpa using this)
      have HNO:=Lib.hid hno;clear hno hb;go_wp2_with fail
      go_ret
      rw [HS.out,if_neg sM,if_pos HNO.out];exact ⟨rfl,o,H3.out.1,H3.out.2.1⟩
     ·have hyes:rightM m=true∧placeOk at_ ep=true:=by
       have:=HB3.out.1;rw [hb] at this;simpa using this
      have HY:=Lib.hid hyes;have hof:=oof_c (w:=wc) (A:=LA) (cap:=lcap) (b:=lb) (off:=lo) (l:=l) HL.out.2.2.2.1 (fun w' hu i hi=>HL.out.2.2.2.2.1 w' (fun _=>False) (H3.out.2.2.1.then hu (fun _ e=>.inl e)) (fun _ _ e=>e) i (pairRow l[i]) (by simp [hi])) HL.out.2.2.2.2.2 HL.out.2.2.1;rw [← HL.out.1] at hof;have HOF:=Lib.hid hof;clear hyes hb hof;obtain ⟨R,hR⟩:=eqx (ofP l);rw [hR] at HS;by_cases h0:R.2=0
      ·have HE:=h2k hR h0
       clear hR h0;go_upto_region 9 with (first
        | (go_at_call 75;refine HOF.out.mono ?_;intro e w4 hE4
           obtain ⟨m2,mb2,rfl,hm4,hm5,hm6⟩:=hE4.yes (by rw [HE.out.1];exact HE.out.2);have H4:=h4k hm4 hm5 hm6 hE4.upd;clear hm4 hm5 hm6 hE4))
       have hwc:w.heap.size≤wc.heap.size:=H3.out.2.2.1.size;have h4:=H3.out.1.still H4.out.2.2.2;have hmv4:=(HM.out.1.still H3.out.2.2.1).still H4.out.2.2.2;have hown:=own_c m hmv4 (rightM_ok HY.out.1).mts;rw [HC.out.2.1] at hown;have HOW:=Lib.hid hown;have hB4:=H3.out.2.2.2.upd H4.out.2.2.2 (fun e=>e);have hwst:StOk (V.st.whole m at_ ep):=by
        have hst:=H.out.2.1;have hpk:=HY.out.2;have he:=HEP.out;unfold placeOk at hpk;simp only [Bool.or_eq_true,decide_eq_true_eq] at hpk;refine ⟨HY.out.1,⟨?_,?_,?_,?_⟩,?_,?_,hst.key,hst.boot,HM.out.2.1⟩
        ·show 0≤at_;omega
        ·show at_≤_;omega
        ·show 0≤ep;omega
        ·show ep≤_;omega
        ·show 1+V.st.slot % 2≤2;omega
        ·show V.st.log+1≤1000000
         have:=H.out.2.2.2.2.2.2;omega
       have hmF:mb2 ∉ o.F:=fun e=>by
        have h1:=H.out.1.lt (i:=1) dC e;have h2:=H4.out.2.2.1;omega
       have hmk:mb2≠o.rk:=fun e=>by
        have h1:=H.out.1.lt (i:=5) (q:=o.rk) dC (.inr (.inl rfl));have h2:=H4.out.2.2.1;omega
       have HW:=Lib.hid (fun (w5:World) (mv':Value) (hR5:TRow w5 46 2 mv' (m.mounts.map mtRow)) (hU5:Upd (fun _=>False) w4 w5)=>whole_x (h4.still hU5) m hR5 (ofP l).1 (H4.out.1.still hU5) hmF hmk at_ ep hwst H.out.2.2.1 H.out.2.2.2.1 H.out.2.2.2.2.1 H.out.2.2.2.2.2.1 H.out.2.2.2.2.2.2 H.out.2.1.slot);have HB4:=Lib.hid hB4;clear h4 hmv4 hown hB4 hwst hmF hmk hwc;go_wp2_with (first
        | (refine wlx _ c HB4.out Tryz.underlying50 (by rw [HC.out.2.2];kernel_rfl) ?_)
        | (go_at_call 76
           refine HOW.out.mono ?_;rintro e w5 ⟨mv',rfl,hR5,hU5⟩;have H5:=h2k hR5 hU5;clear hR5 hU5)
        | (go_at_call 56
           refine (HW.out _ _ H5.out.1 H5.out.2).mono ?_;rintro e w6 ⟨rfl,o6,h6,k6,km⟩;have H6:=h3k h6 k6 km;clear h6 k6 km))
       go_ret
       rw [HS.out,if_neg sM,if_neg (by rw [HY.out.1,HY.out.2];simp),if_neg (by rw [HE.out.2];simp),← HE.out.1]
       refine ⟨rfl,o6,H6.out.1,(((H3.out.2.1.still H4.out.2.2.2).still H5.out.2).trans H6.out.2.1).re (m:=o6.m) (mb:=o6.mb) ?_⟩;rcases H6.out.2.2 with e | e | e
       ·exact .inl e
       ·rw [e]
        exact .inr (Nat.le_trans H3.out.2.1.upd.size H4.out.2.2.1)
       ·exact .inr (Nat.le_trans ((H3.out.2.1.still H4.out.2.2.2).still H5.out.2).upd.size e)
      ·obtain ⟨E,hE⟩:=eqx R.2
       have HE:=h2k hR hE;rw [hE] at h0;have hE0:(E != 0)=true:=by simpa using h0
       have H0:=Lib.hid h0;clear hR hE h0;go_wp2_with (first
        | (go_at_call 75;refine HOF.out.mono ?_;intro e w4 hE4
           obtain rfl:=hE4.no (by rw [HE.out.1,HE.out.2];exact H0.out);rw [HE.out.1,HE.out.2];have H4:=Lib.hid hE4.upd;clear hE4))
       go_ret
       rw [HS.out,if_neg sM,if_neg (by rw [HY.out.1,HY.out.2];simp),HE.out.2,if_pos H0.out]
       exact ⟨rfl,o,H3.out.1.still H4.out,H3.out.2.1.still H4.out⟩
 ·exact zz9
end
structure LgFit (g:Lg):Prop where
 from_:g.from_≤5000
 sectors:g.sectors≤5000
 used:g.used≤g.sectors
 len:g.l.length≤g.used
 epoch:g.epoch<18446744073709551616
 last:g.last<18446744073709551616
 salt:g.salt<18446744073709551616
theorem loopG_fit:∀(n:Nat) (g:Lg) (row:List Lp),LgFit g→g.used+row.length≤g.sectors→(∀q ∈ row,q.salt<18446744073709551616)→LgFit (loopG n g row)
 | 0,_,_,h,_,_=>h
 | n + 1,g,row,h,hu,hs=>by
   unfold loopG;split
   ·rename_i hf
    obtain ⟨h1,h2,h3,h4⟩:=firstG_parts hf;refine loopG_fit n _ _ ⟨h.from_,h.sectors,?_,?_,h.epoch,?_,h.salt⟩ ?_ (fun q hq=>hs q (List.mem_of_mem_drop hq))
    ·show g.used+_≤g.sectors
     omega
    ·show (g.l++[_]).length≤g.used+_
     have:=h.len;rw [List.length_append,List.length_singleton];omega
    ·show (row.headD _).salt<_
     cases row with
     | nil=>simp at h1
     | cons a r=>exact hs a sM
    ·show g.used+_+(row.drop _).length≤g.sectors
     rw [List.length_drop];omega
   ·exact h
theorem openG_fit {d:Dk} {f n e:Nat} {g:Lg} (hf:f≤5000) (hn:n≤5000) (he:e<18446744073709551616) (h:openG d f n e=some g):LgFit g:=by
 unfold openG at h;split at h
 ·cases h
 ·cases h
  have h1:=scanAt_len d f n;have h2:=scanAt_ok d f n;exact loopG_fit _ _ _ ⟨hf,hn,by show 0≤n;omega,sM,he,by show 0<_;omega,h2.2⟩ (by show 0+_≤n;omega) (fun q hq=>(h2.1 q hq).2.2)
theorem Add_any {w:World} {p b:Nat} {d:Dk} {F:List Nat} {g:Lg} {v:Value} (hD:DiskAt w p d F) (hB:Blk w b 199 (g.cells p v)) (hO:Own w 9 1 v g.l.length (strs g.l)) (hsep:∀q,v.ownBlock=some q→q ∉ F) (s:ByteArray)
 (hg:LgFit g) (hp:d.pend+40<1000000) :
 Calls Tryz.prog 58 #[.pointer (some ⟨b,0,none⟩),.string s] w fun e w'=>e=.returned (.int .i64 (addG d g s).2.2)∧AddLeft w w' p b (addG d g s).1 (addG d g s).2.1 F v:=by
 have hlen:=hg.len;have hused:=hg.used;have hsec:=hg.sectors;have hsalt:=hg.salt;by_cases h:g.broken=true∨1024<s.size∨g.sectors - g.used<partsOf s.size∨g.salt=18446744073709551615
 ·refine (Add_refused (p:=p) ⟨v,hB,hO⟩ s hg.used hg.sectors h).mono ?_
  rintro e w' ⟨rfl,hu⟩;have hno:AddLeft w w' p b d g F v:=⟨⟨F,v,hD.upd hu (fun _ _ e=>e),fun q e=>.inl e,hB.upd hu (fun e=>e),hO.upd hu (fun _ _ e=>e),fun q e=>.inl e,hsep⟩,hu.mono wz0⟩;unfold addG;by_cases h1:g.broken=true
  ·rw [if_pos h1,if_pos h1];exact ⟨rfl,hno⟩
  ·rw [if_neg h1,if_neg h1]
   by_cases h2:1024<s.size
   ·rw [if_pos h2,if_pos h2];exact ⟨rfl,hno⟩
   ·rw [if_neg h2,if_neg h2,if_pos (by rcases h with h | h | h;exact absurd h h1;exact absurd h h2;exact h)];exact ⟨rfl,hno⟩
 ·simp only [not_or] at h
  exact Add_goes hD hB hO hsep s (by simpa using h.1) oM oM oM hg.from_ hg.sectors hg.used oM hg.epoch hg.last hp
theorem Dk.sync_dry {d:Dk} (h:d.sync.2=0):d.sync.1.pend=0:=by
 unfold Dk.sync at h ⊢;split at h
 ·simp at h
 ·rename_i ho
  rw [if_neg ho];split at h
  ·rename_i hb
   rw [if_pos hb];exact Dk.flush_pend _
  ·simp at h
theorem putK_dry {d:Dk} {k:Kp} {t:List UInt8} (h:(putK d k t).2.2=0):(putK d k t).1.pend=0:=by
 unfold putK at h ⊢;split at h
 ·simp at h
 rename_i h1
 rw [if_neg h1];split at h
 ·simp at h
 rename_i h2
 rw [if_neg h2];split at h
 ·simp at h
 rename_i h3
 rw [if_neg h3];split at h
 ·rename_i h4;exact absurd h h4
 rename_i h4
 rw [if_neg h4];split at h
 ·rename_i h5;exact absurd h h5
 rename_i h5
 rw [if_neg h5];exact Dk.sync_dry (by simpa using h5)
structure PutOk (D:Dk) (V W:VtM) (s:StM):Prop where
 pend:D.pend=0
 S:W.S=V.S
 at_:W.at_=V.at_
 epoch:W.epoch=V.epoch
 rows:W.rows=V.rows
 prev:W.prev=V.prev
 st:W.st=s
 lg:W.lg=V.lg
 cur:W.cur=V.cur
 n:W.n=V.n+1
theorem putV_ok {d:Dk} {V:VtM} {s:StM} (h:(putV d V s).2.2=0):PutOk (putV d V s).1 V (putV d V s).2.1 s:=by
 unfold putV at h ⊢;split at h
 ·rename_i h1;exact absurd h h1
 ·rename_i h1
  rw [if_neg h1];exact ⟨putK_dry (by simpa using h1),rfl,rfl,rfl,rfl,rfl,rfl,rfl,rfl,rfl⟩
structure WholeOk (D:Dk) (V W:VtM) (m:MetaM) (x:List PairM) (a ep:Int):Prop where
 pend:D.pend=0
 S:W.S=x
 at_:W.at_=a
 epoch:W.epoch=ep
 rows:W.rows=[]
 st:W.st=V.st.whole m a ep
 lg:LgFit W.lg
 cur:W.cur=V.cur
 n:W.n=V.n+2
theorem wholeV_ok {d:Dk} {V:VtM} {m:MetaM} {x:List PairM} {at_ ep:Int} (hlog:V.st.log<1000000) (h:(wholeV d V m x at_ ep).2.2=0):WholeOk (wholeV d V m x at_ ep).1 V (wholeV d V m x at_ ep).2.1 m x at_ ep:=by
 unfold wholeV at h ⊢;simp only at h ⊢
 split at h
 ·rename_i h1;exact absurd h h1
 rename_i h1
 rw [if_neg h1];split at h
 ·rename_i h2;exact absurd h h2
 rename_i h2
 rw [if_neg h2];have hok:=putV_ok (show _=(0:Int) by simpa using h2);cases hg:openG (putV (writeSlotD d (V.st.whole m at_ ep).slot (V.wrap sMap (pairsB x))).1 V.next (V.st.whole m at_ ep)).1 20 320 (V.st.whole m at_ ep).log with
 | none=>rw [hg] at h;simp at h
 | some g =>
   simp only
   exact ⟨hok.pend,rfl,rfl,rfl,rfl,hok.st,openG_fit oM oM (by show V.st.log+1<_;omega) hg,hok.cur,hok.n⟩
end
end Go.Proofs.YtbhjgfibhegddaaGreat
