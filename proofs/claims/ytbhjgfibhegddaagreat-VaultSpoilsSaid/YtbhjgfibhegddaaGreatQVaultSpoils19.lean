/-
  Parts of the proof of VaultSpoils: VatV, VatW, VatX, VatY, OpnP, LogSpoil, SpoilV, InA, Ref11, InB.
-/
import Derived.Test.YtbhjgfibhegddaaGreatQVaultSpoils18
import Derived.BigQuiet
import Derived.Outline
set_option maxRecDepth 100000
set_option maxHeartbeats 16000000
namespace Go.Proofs.YtbhjgfibhegddaaGreat
section
open Go Go.RowKit
section
variable {w w':World} {p v:Nat} {d d':Dk} {V V':VtM} {o o':VtO}
theorem addV_same {d:Dk} {V:VtM} {b:BatM} {X:List PairM} (h:V.S=X):((addV d V b).1,(if (addV d V b).2.2=0 then { (addV d V b).2.1 with S:=doL X b.ops } else (addV d V b).2.1),(addV d V b).2.2)=addV d V b:=by
 subst h;unfold addV;simp only
 obtain ⟨R,hR⟩:=eqx (addG d V.lg (str (V.wrap sLog (batT b))));rw [hR];by_cases h1:R.2.2=0
 ·simp [h1,VtM.does,VtM.next]
 ·simp [h1]
theorem VtAt.map_ (h:VtAt w p v d V o) (hu:Upd (· = v) w w') {X:List PairM} {m2 mb2:Nat} (hB:Blk w' v 117 (vtRow V p { o with m:=m2 })) (hm:MapAt w' m2 mb2 X) (h1:mb2 ∉ o.F) (h2:mb2≠o.rk) :
 VtAt w' p v d { V with S:=X } { o with m:=m2,mb:=mb2 } ∧ VtStep w w' v o o:=by
 have hz:∀q,q=v→o.mut v q:=fun q e=>.inl e
 exact ⟨h.cells_ hu rfl rfl rfl rfl rfl hB rfl rfl rfl rfl (h.log.upd hu (h.not_v (j:=3) dC rfl)) (h.recs.upd hu (fun q e=>h.not_v (j:=4) dC e)) h.sep hm h1 h2 (h.rows.upd hu (fun q e=>h.not_v (j:=6) dC e)) h.ovl (h.keep_each hu hz) (h.keep_mts hu hz),
  VtStep.mk_ (hu.mono fun q e=>.inl (hz q e)) _ rfl (fun q e=>.inl e) (.inl rfl) (.inl rfl) (fun q e=>.inl e) (fun q e=>.inl e) (fun q e=>.inl e)⟩
theorem vcommit_c (h:VtAt w p v d V o) (hst:StOk V.st) (hf:PutFit d V) (hn:V.n+3<4611686018427387904) (hp:d.pend+600<1000000) (hl:d.lasts.length=500) (hlog:V.st.log<1000000) (hg:LgFit V.lg) (hr:V.rows.length≤24) (hat:PlaceIs V.at_ V.epoch)
 (b:BatM) {ty:TypeId} {ov:Value} (hov:TRow w ty 3 ov (b.ops.map opRow)) (hofar:∀W,Upd (o.mut v) w W→TRow W ty 3 ov (b.ops.map opRow)) (hbs:OpsSmall b.ops) (hbe:b.epoch≤9223372036854775807) :
 Calls Tryz.prog 15 #[.pointer (some ⟨v,0,none⟩),.agg #[.int .i64 b.index,.int .i64 b.epoch,ov]] w fun e w'=>e=.returned (.int .i64 (commitV d V b).2.2)∧∃o',VtAt w' p v (commitV d V b).1 (commitV d V b).2.1 o'∧VtStep w w' v o o':=by
 obtain ⟨A,cap,ob,oo,hov1,hov2,hov3,hov4,hov5⟩:=hov.ops;obtain ⟨c,hc⟩:=eqx w.heap.size;have hone:=hov.one;have H:=Lib.hid (And.intro h (And.intro hst (And.intro hf (And.intro hn (And.intro hp (And.intro hl (And.intro hlog (And.intro hg (And.intro hr hat)))))))));have HV:=Lib.hid (And.intro hov (And.intro hov1 (And.intro hov2 (And.intro hov3 (And.intro hov4 (And.intro hov5 (And.intro hbs (And.intro hbe hone))))))));have HC:=Lib.hid hc;have HOFAR:=Lib.hid hofar;clear h hofar hst hf hn hp hl hlog hg hr hat hov hov1 hov2 hov3 hov4 hov5 hbs hbe hc hone;go_enter Tryz.func15,Tryz.ntmps15
 go_upto_region 1 with fail
 rw [HC.out];generalize hw1:World.alloc _ _=w1;have hB1:Blk w1 c 35 #[.int .i64 b.index,.int .i64 b.epoch,ov]:=by rw [← hw1,← HC.out];exact Blk.new w _ _
 have hU1:Upd (fun _=>False) w w1:=by rw [← hw1];exact (Upd.refl _ w).alloc _
 have H1:=h3k hB1 hU1 (H.out.1.still hU1);have HO:=Lib.hid (off_c (H.out.1.still hU1));clear hB1 hU1 hw1;have hset:commitV d V b=if offV d V then (d,{ V with down:=true },14) else if batErr b.index b.epoch b.ops≠0 then (d,V,batErr b.index b.epoch b.ops) else if b.index≠V.at_+1∨b.epoch<V.epoch then (d,V,1) else
  if doE V.S b.ops≠0 then (d,V,doE V.S b.ops) else
  if 24≤V.rows.length then (if (wholeV d V V.st.m V.S V.at_ V.epoch).2.2≠0 then wholeV d V V.st.m V.S V.at_ V.epoch else
   ((addV (wholeV d V V.st.m V.S V.at_ V.epoch).1 (wholeV d V V.st.m V.S V.at_ V.epoch).2.1 b).1,if (addV (wholeV d V V.st.m V.S V.at_ V.epoch).1 (wholeV d V V.st.m V.S V.at_ V.epoch).2.1 b).2.2=0 then { (addV (wholeV d V V.st.m V.S V.at_ V.epoch).1 (wholeV d V V.st.m V.S V.at_ V.epoch).2.1 b).2.1 with S:=doL V.S b.ops } else (addV (wholeV d V V.st.m V.S V.at_ V.epoch).1 (wholeV d V V.st.m V.S V.at_ V.epoch).2.1 b).2.1,(addV (wholeV d V V.st.m V.S V.at_ V.epoch).1 (wholeV d V V.st.m V.S V.at_ V.epoch).2.1 b).2.2))
  else addV d V b:=rfl
 have HS:=Lib.hid hset;clear hset;have HT1:=Lib.hid (VtStep.mk (o:=o) (o':=o) (v:=v) (H1.out.2.1.mono wz0) (fun q e=>.inl e));cases hoff:offV d V
 ·rw [hoff] at HS HO
  simp only [Bool.false_eq_true,if_false,forall_const] at HO;clear hoff;by_cases hE:batErr b.index b.epoch b.ops=0
  ·have HE := Lib.hid hE
   obtain ⟨b1,b2,b3,b4,b5⟩:=batErr_zero hE;have HB0:=h5k b1 b2 b3 b4 b5;obtain ⟨ni,hni⟩:∃n:Nat,b.index=n:=⟨b.index.toNat,oM⟩;obtain ⟨ne,hne⟩:∃n:Nat,b.epoch=n:=⟨b.epoch.toNat,oM⟩;have hby:=bbytes_ok (w:=w1) (A:=A) (cap:=cap) (b:=ob) (off:=oo) (l:=b.ops) (i:=ni) (ep:=ne) HV.out.2.2.2.2.1 (fun w' hu=>HV.out.2.2.2.2.2.1 w' (fun _=>False) (H1.out.2.1.then hu (fun _ e=>.inl e)) (fun _ _ e=>e)) HV.out.2.2.2.2.2.2.1 (oN HV.out.2.2.2.2.2.2.2.1) (by rw [← hni,← hne];exact hE);have hbt:batB ni ne b.ops=batT b:=by unfold batT;rw [hni,hne];rfl
   rw [← HV.out.2.1,← hni,← hne,hbt] at hby;have HBY:=Lib.hid hby;clear hE b1 b2 b3 b4 b5 hby hbt hni hne;go_upto_region 7 with (first
    | (go_at_call 53;refine HO.out.mono ?_;rintro e w2 ⟨rfl,-,-,hw2⟩;subst hw2)
    | (refine wll _ c H1.out.1 Tryz.underlying35 ?_)
    | (go_at_call 54;refine HBY.out.mono ?_;rintro e w3 ⟨rfl,hU3⟩;have H3:=Lib.hid hU3;clear hU3))
   have h3:=H1.out.2.2.still H3.out;have hB3:=H1.out.1.upd H3.out (fun e=>e);have hUw3:=H1.out.2.1.then H3.out (fun _ e=>.inl e);have K3:=h4k h3 hB3 hUw3 (HT1.out.still H3.out);have cb0:w3.cell? ⟨c,0,none⟩=some (.int .i64 b.index):=hB3.cell 0;have cb1:w3.cell? ⟨c,1,none⟩=some (.int .i64 b.epoch):=hB3.cell 1;have cb2:w3.cell? ⟨c,2,none⟩=some ov:=hB3.cell 2;have cv0:w3.cell? ⟨v,0,none⟩=some (.pointer (some ⟨o.m,0,none⟩)):=h3.blk.cell 0;have cv1:w3.cell? ⟨v,1,none⟩=some (.int .i64 V.at_):=h3.blk.cell 1;have cv2:w3.cell? ⟨v,2,none⟩=some (.int .i64 V.epoch):=h3.blk.cell 2;have wa:IntKind.i64.wrap (V.at_+1)=V.at_+1:=IntWalk.i64_in _ (oO H.out.2.2.2.2.2.2.2.2.2.at0 H.out.2.2.2.2.2.2.2.2.2.at1);clear h3 hB3 hUw3;by_cases hi:b.index=V.at_+1
   ·have hi0 : (b.index != V.at_+1)=false:=by simp [hi]
    have HI:=Lib.hid hi;clear hi;by_cases he:b.epoch<V.epoch
    ·have he0:decide (b.epoch<V.epoch)=true:=by simpa using he
     have HE2:=Lib.hid he;clear he;go_quiet (fail)
     go_wp2_with fail
     go_ret
     rw [HS.out,if_neg sM,if_neg (by rw [HE.out];simp),if_pos (.inr HE2.out)]
     exact ⟨rfl,o,K3.out.1.still ((Upd.refl _ _).drewN _),K3.out.2.2.2.still ((Upd.refl _ _).drewN _)⟩
    ·have he0 : decide (b.epoch<V.epoch)=false:=by simpa using he
     have HE2:=Lib.hid he;clear he;have HTW:=Lib.hid (fun n=>otwin_c (K3.out.1.still ((Upd.refl (fun _=>False) w3).drewN n)).map);have HDO:=Lib.hid (fun (W:World) (m2 mb2:Nat) (hU:Upd (fun _=>False) w3 W) (hm:MapAt W m2 mb2 V.S)=>odo_c hm (A:=A) (cap:=cap) (b:=ob) (off:=oo) (l:=b.ops) HV.out.2.2.2.2.1 (fun w' hu=>HV.out.2.2.2.2.2.1 w' (fun _=>False) ((K3.out.2.2.1.then hU (fun _ e=>.inl e)).then hu (fun _ e=>.inl e)) (fun _ _ e=>e)) HV.out.2.2.2.2.2.2.1 HV.out.2.2.2.1);rw [← HV.out.2.1] at HDO;have hrows:(V.rows.length:Int)=(V.rows.length:Int):=rfl;by_cases hD:doE V.S b.ops=0
     ·have HD0:=Lib.hid hD
      rw [hD] at HDO;clear hD hrows;go_quiet (fail)
      go_upto_region 13 with (first
       | (go_at_call 55;refine (HTW.out _).mono ?_;rintro e w5 ⟨m2,mb2,rfl,hm5,hm5a,hm5b,hU5⟩
          have cb25:w5.cell? ⟨c,2,none⟩=some ov:=(K3.out.2.1.upd (((Upd.refl (fun _=>False) w3).drewN _).then hU5 (fun _ e=>.inl e)) (fun e=>e)).cell 2;have H5:=h4k hm5 hm5a hm5b (((Upd.refl (fun _=>False) w3).drewN _).then hU5 (fun _ e=>.inl e));clear hm5 hm5a hm5b hU5)
       | (go_at_call 36;refine (HDO.out _ _ _ H5.out.2.2.2 H5.out.1).mono ?_;rintro e w6 ⟨rfl,hD6⟩
          obtain ⟨mb6,hm6,hm6a,hU6⟩:=hD6.yes HD0.out;have H6:=h3k hm6 hm6a hU6;clear hD6 hm6 hm6a hU6))
      obtain ⟨RA,rcap,hrv,-,-⟩:=K3.out.1.rows.shape;have hU36:Upd (fun _=>False) w3 w6:=H5.out.2.2.2.then H6.out.2.2 (fun q e=>.inr (by have e2:q=m2:=e;have h1:=H5.out.2.1;have e3:(w3.drewN nq).heap.size=w3.heap.size:=rfl;omega));have h6:=K3.out.1.still hU36;have cv3:w6.cell? ⟨v,3,none⟩=some (.slice RA V.rows.length rcap):=by rw [← hrv];exact h6.blk.cell 3
      have hq6:c<w6.heap.size∧m2<w6.heap.size∧mb6<w6.heap.size:=⟨(K3.out.2.1.upd hU36 (fun e=>e)).lt,H6.out.1.lt.1,H6.out.1.lt.2⟩;have hqw:w.heap.size≤c∧w.heap.size≤m2∧w.heap.size≤mb6:=by
       have h1:=HC.out;have h2:=H5.out.2.1;have h3:=H6.out.2.1;have h4:=K3.out.2.2.1.size;have h5:=H5.out.2.2.2.size;have e3:(w3.drewN nq).heap.size=w3.heap.size:=rfl;omega
      have H6A:=h5k h6 hU36 (K3.out.2.1.upd hU36 (fun e=>e)) hq6 hqw;have hov6:TRow w6 ty 3 ov (b.ops.map opRow):=(HV.out.1.still K3.out.2.2.1).still hU36;have HOV6:=Lib.hid hov6;clear hrv hU36 h6 hq6 hqw hov6;by_cases h24:24≤V.rows.length
      ·have h24':(24:Int)≤(V.rows.length:Int):=oM
       obtain ⟨D5,hD5⟩:∃D,metaRow V.st.m o.mv=D:=⟨_,rfl⟩;have hD52:((vtRow V p o).toList.drop 9).take 5=D5.toList:=by rw [← hD5];rfl
       have hD53:D5.size=5:=by rw [← hD5];rfl
       have HD5:=h3k hD5 hD52 hD53;have HH24:=Lib.hid h24;clear h24 hD5 hD52 hD53;go_upto_region 14 with fail
       have h6d:=H6A.out.1.still (Upd.refl (fun _=>False) w6).drew;have hwst:StOk (V.st.whole V.st.m V.at_ V.epoch):=by
        have hst:=H.out.2.1;refine ⟨hst.right,H.out.2.2.2.2.2.2.2.2.2,?_,?_,hst.key,hst.boot,hst.mn⟩
        ·show 1+V.st.slot % 2≤2;omega
        ·show V.st.log+1≤1000000
         have:=H.out.2.2.2.2.2.2.1;omega
       have hwh:=whole_c h6d V.st.m h6d.mts V.S h6d.map h6d.mbF h6d.mbk (.inl rfl) V.at_ V.epoch hwst H.out.2.2.1 (oN H.out.2.2.2.1) (oN H.out.2.2.2.2.1) H.out.2.2.2.2.2.1 H.out.2.2.2.2.2.2.1 H.out.2.1.slot;have hwok:=fun e=>wholeV_ok (d:=d) (V:=V) (m:=V.st.m) (x:=V.S) (at_:=V.at_) (ep:=V.epoch) H.out.2.2.2.2.2.2.1 e
       rw [HD5.out.1] at hwh;obtain ⟨Y,hY⟩:=eqx (wholeV d V V.st.m V.S V.at_ V.epoch);rw [hY] at hwh hwok HS;obtain ⟨E1,hE1⟩:∃E,Y.2.2=E:=⟨_,rfl⟩;rw [hE1] at hwh hwok HS;have HWH:=h3k hwh hwok hE1;clear hwh hwok hE1 hY hwst h6d;refine wp_region_noPanic ?_;refine wp_region_T (S:=fun w'=>Blk w' v 117 (vtRow V p o)) (T:=fun i=>i == 21 || i == 22) kR ?_;have hS0:Blk w6.drew v 117 (vtRow V p o):=H6A.out.1.blk.drew;refine tK8 0 ?_;refine tK8 1 ?_;refine tK8 2 ?_;refine tK8 3 ?_;refine tK8 4 ?_;refine tT8 5 (.agg D5) (takes_load_part rfl (by rfl) _ _ rfl v 9 (by rfl) _ _ D5.toList _ (fun w' hSw=>hSw) (part_get HD5.out.2.1) Tryz.underlying50 rfl (by rw [Array.length_toList,HD5.out.2.2];kernel_rfl)) ?_
       refine tK8 6 ?_;refine tK8 7 ?_;refine tK8 8 ?_;refine tK8 9 ?_;refine tQ8 10 (fun w' hSw=>show w'.cell? ⟨v,0,none⟩=some (.pointer (some ⟨o.m,0,none⟩)) from hSw.cell 0) ?_;refine tK8 11 ?_;refine tK8 12 ?_;refine tK8 13 ?_;refine tK8 14 ?_;refine tQ8 15 (fun w' hSw=>show w'.cell? ⟨v,1,none⟩=some (.int .i64 V.at_) from hSw.cell 1) ?_;refine tK8 16 ?_;refine tK8 17 ?_;refine tK8 18 ?_;refine tK8 19 ?_;refine tQ8 20 (fun w' hSw=>show w'.cell? ⟨v,2,none⟩=some (.int .i64 V.epoch) from hSw.cell 2) ?_;refine woT 21 (fun KK hKK=>?_);go_simp
       refine HWH.out.1.mono ?_;rintro e w7 ⟨rfl,o7,h7,k7⟩;refine hKK.out _ _ ?_;clear hKK;have H7:=h2k h7 k7;clear h7 k7;refine woT 22 (fun KK hKK=>?_);go_simp
       refine hKK.out _ _ ?_;clear hKK;refine wdn ?_;refine NoPanic.normal ?_;clear hS0;by_cases hz:E1=0
       ·subst hz
        have hok:=HWH.out.2.1 rfl;have hqo:∀q,w.heap.size≤q→¬o.mut v q:=fun q h1 e=>by obtain ⟨i,hi,he⟩:=VtO.mut_cl (o:=o) e;have:=H.out.1.lt hi he;omega
        have HT:=Lib.hid (show VtAt w7 p v Y.1 Y.2.1 o7∧VtStep w w7 v o o7∧∀q,w.heap.size≤q→q<w6.heap.size→¬o7.mut v q from ⟨H7.out.1,((K3.out.2.2.2.still H6A.out.2.1).still (Upd.refl (fun _=>False) w6).drew).trans H7.out.2,fun q h1 h2 e=>(H7.out.2.sub q e).elim (hqo q h1) (fun e=>by have e3:w6.drew.heap.size=w6.heap.size:=rfl;omega)⟩);have HFIN:=Lib.hid (show commitV d V b=addV Y.1 Y.2.1 b by rw [HS.out,if_neg sM,if_neg (by rw [HE.out];simp),if_neg (by have h1:=HI.out;have h2:=HE2.out;omega),if_neg (by rw [HD0.out];simp),if_pos HH24.out,if_neg sM,addV_same hok.S])
        have HN:=Lib.hid (show Y.2.1.cur≤1048576∧Y.2.1.st.boot<4294967296∧Y.2.1.n<4611686018427387904∧LgFit Y.2.1.lg∧Y.1.pend+40<1000000∧Y.2.1.rows.length≤1000∧Y.2.1.S=V.S from ⟨by rw [hok.cur];exact H.out.2.2.1.cur,by rw [hok.st];show V.st.boot<_;have:=H.out.2.1.boot;omega,by rw [hok.n];have:=H.out.2.2.2.1;omega,hok.lg,by rw [hok.pend];omega,by rw [hok.rows];simp,hok.S⟩)
        have HWZ:=Lib.hid (show w6.heap.size≤w7.heap.size from H7.out.2.upd.size);have HCB:=h2k (H6A.out.2.2.1.drew.upd H7.out.2.upd (hqo c H6A.out.2.2.2.2.1)) H6A.out.2.2.2.2.1;have HMP:=h4k ((H6.out.1.still (Upd.refl (fun _=>False) w6).drew).upd H7.out.2.upd (hqo m2 H6A.out.2.2.2.2.2.1) (hqo mb6 H6A.out.2.2.2.2.2.2)) (Nat.le_refl 0) H6A.out.2.2.2.2.2.1 H6A.out.2.2.2.2.2.2;clear hok hqo;have hX0:∃X,(Y.2.1).wrap sLog (batT b)=X:=⟨_,rfl⟩;obtain ⟨X,hX⟩:=hX0;have hbl:=batT_len HE.out HV.out.2.2.2.2.2.2.2.1;have hXl:(str X).size=X.length:=str_size X;have hX2:sealB (ringK (str masterL).data.toList (Y.2.1).cur) (Y.2.1).cur (Y.2.1).st.boot (Y.2.1).n (str sLog).data.toList (str (batT b)).data.toList=X:=by rw [← hX,str_list,str_list,str_list];rfl
        have hwr:=rwrap_c HT.out.1.ring (by rw [str_size];decide) HN.out.1 HN.out.2.1 HN.out.2.2.1 (str sLog) (str (batT b)) dC (by rw [str_size];omega);rw [hX2] at hwr;have HWR:=Lib.hid hwr;have c8:(w7).cell? ⟨v,8,none⟩=some (.pointer (some ⟨(o7).rb,0,none⟩)):=HT.out.1.blk.cell 8;obtain ⟨R,hR⟩:=eqx (addG Y.1 (Y.2.1).lg (str X));obtain ⟨E,hEE⟩:=eqx R.2.2;have HRE:=h3k hR hEE hX;clear hX hbl hXl hX2 hwr hR hEE;go_upto_region 20 with (first
         | (go_at_call 57;refine HWR.out.mono ?_;rintro e wa ⟨rfl,es,hRg⟩
            have ha:=HT.out.1.ring_ hRg;have c7:wa.cell? ⟨v,7,none⟩=some (.pointer (some ⟨(o7).lb,0,none⟩)):=ha.1.blk.cell 7;have hadd:=Add_any ha.1.disk ha.1.log ha.1.recs ha.1.sep (str X) HN.out.2.2.2.1 HN.out.2.2.2.2.1;have HA:=h3k ha.1 ha.2 hadd;clear ha hadd hRg))
        by_cases h0:E=0
        ·have HE0:=Lib.hid h0
         go_upto_region 23 with (first
          | (go_at_call 58;refine HA.out.2.2.mono ?_;rintro e wb ⟨rfl,hAL⟩
             obtain ⟨F',lv',hb,kb⟩:=HA.out.1.log_ hAL;rw [show (addG Y.1 (Y.2.1).lg (str X)).2.2=0 by rw [HRE.out.1,HRE.out.2.1];exact HE0.out];have HBB:=Lib.hid hb.blk;have HB:=h2k hb kb;clear hb kb hAL))
         have hkk:=HA.out.2.1.trans HB.out.2;have hno:∀q,w.heap.size≤q→q<w6.heap.size→¬VtO.mut { (o7) with ents:=es,F:=F',lv:=lv' } v q:=fun q h1 h2 e=>(hkk.sub q e).elim (HT.out.2.2 q h1 h2) (fun e=>by have:=HWZ.out;omega)
         have HNO:=h2k hno hkk;clear hno hkk;go_upto_region 24 with (first
          | (refine wpList_store_one rfl _ _ _ rfl v 0 (.pointer (some ⟨m2,0,none⟩)) rfl rfl _ _ HBB.out (by simp [vtRow]) rfl kR ?_
             intro wc hBc hUc hzc))
         have hkk:=HNO.out.2;have hno:=HNO.out.1;have hUW:Upd ((o7).mut v) (w7) wc:=hkk.upd.then hUc (fun q e=>.inl (.inl e));have hmap:=HMP.out.1.upd hUW (HT.out.2.2 _ HMP.out.2.2.1 H6A.out.2.2.2.1.2.1) (HT.out.2.2 _ HMP.out.2.2.2 H6A.out.2.2.2.1.2.2);have hnb:=hno mb6 HMP.out.2.2.2 H6A.out.2.2.2.1.2.2;have hvc:=HB.out.1.map_ (X:=doL V.S b.ops) (m2:=m2) (mb2:=mb6) hUc hBc hmap (fun e=>hnb (.inr (.inl e))) (fun e=>hnb (.inr (.inr (.inr (.inr (.inr (.inl (.inr (.inl e)))))))));have hovc:TRow wc ty 3 ov (b.ops.map opRow):=HOFAR.out wc (HT.out.2.1.upd.then hUW HT.out.2.1.sub);have hcbc:=HCB.out.1.upd hUW (HT.out.2.2 _ HCB.out.2 H6A.out.2.2.2.1.1);have hdo:=does_c hvc.1 b hovc (oN HB0.out.2.2.2.1) HN.out.2.2.2.2.2.1;have HDOES:=Lib.hid hdo;have HCBC:=Lib.hid hcbc;have HVC:=Lib.hid ((((HT.out.2.1.trans HA.out.2.1).trans HB.out.2).trans hvc.2).re (m:=m2) (mb:=mb6) (.inr HMP.out.2.2.2));clear hkk hno hUW hmap hnb hvc hovc hcbc hdo hBc hUc hzc;go_wp2_with (first
          | (refine wll _ c HCBC.out Tryz.underlying35 ?_)
          | (go_at_call 60;refine HDOES.out.mono ?_;rintro e w9 ⟨rfl,o9,h9,k9⟩;have H9:=h2k h9 k9;clear h9 k9))
         go_ret
         have hav:addV Y.1 (Y.2.1) b=(R.1,({ (Y.2.1).next with lg:=R.2.1 } : VtM).does b,0):=by
          unfold addV;simp only
          rw [HRE.out.2.2,HRE.out.1,HRE.out.2.1,if_neg (by rw [HE0.out];simp)]
         have h9:=H9.out.1;rw [HRE.out.1] at h9;have hds:({ (Y.2.1).next with lg:=R.2.1 } : VtM).does b = { (Y.2.1).next with lg:=R.2.1,S:=doL V.S b.ops,rows:=(Y.2.1).rows++[b],at_:=b.index,epoch:=b.epoch } := by
          unfold VtM.does VtM.next;first
           | (simp only;done)
           | (simp only;rw [HN.out.2.2.2.2.2.2])
         rw [HFIN.out,hav,hds];exact ⟨rfl,_,h9,HVC.out.trans H9.out.2⟩
        ·have hE0:(E != 0)=true:=by simpa using h0
         have H0:=Lib.hid h0;clear h0;go_wp2_with (first
          | (go_at_call 58;refine HA.out.2.2.mono ?_;rintro e wb ⟨rfl,hAL⟩
             obtain ⟨F',lv',hb,kb⟩:=HA.out.1.log_ hAL;rw [show (addG Y.1 (Y.2.1).lg (str X)).2.2=E by rw [HRE.out.1,HRE.out.2.1]];have HTD:=Lib.hid (told_c hb E);have HB:=Lib.hid kb;clear hb kb hAL)
          | (go_at_call 59;refine HTD.out.mono ?_;rintro e w9 ⟨rfl,h9,k9⟩;have H9:=h2k h9 k9;clear h9 k9))
         go_ret
         have hav:addV Y.1 (Y.2.1) b=(R.1,({ (Y.2.1).next with lg:=R.2.1 } : VtM).told E,E):=by
          unfold addV;simp only
          rw [HRE.out.2.2,HRE.out.1,HRE.out.2.1,if_pos H0.out]
         have h9:=H9.out.1;rw [HRE.out.1] at h9;rw [HFIN.out,hav];exact ⟨rfl,_,h9,((HT.out.2.1.trans HA.out.2.1).trans HB.out).trans H9.out.2⟩
       ·have hE0:(E1 != 0)=true:=by simpa using hz
        have H0:=Lib.hid hz;clear hz;go_wp2_with fail
        go_ret
        rw [HS.out,if_neg sM,if_neg (by rw [HE.out];simp),if_neg (by have h1:=HI.out;have h2:=HE2.out;omega),if_neg (by rw [HD0.out];simp),if_pos HH24.out,if_pos H0.out,HWH.out.2.2]
        exact ⟨rfl,o7,H7.out.1,((K3.out.2.2.2.still H6A.out.2.1).still (Upd.refl (fun _=>False) w6).drew).trans H7.out.2⟩
      ·have h24':¬(24:Int)≤(V.rows.length:Int):=oM
       have HT:=Lib.hid (show VtAt w6 p v d V o∧VtStep w w6 v o o∧∀q,w.heap.size≤q→q<w6.heap.size→¬o.mut v q from ⟨H6A.out.1,K3.out.2.2.2.still H6A.out.2.1,fun q h1 h2 e=>by obtain ⟨i,hi,he⟩:=VtO.mut_cl (o:=o) e;have:=H.out.1.lt hi he;omega⟩);have HFIN:=Lib.hid (show commitV d V b=addV d V b by rw [HS.out,if_neg sM,if_neg (by rw [HE.out];simp),if_neg (by have h1:=HI.out;have h2:=HE2.out;omega),if_neg (by rw [HD0.out];simp),if_neg h24])
       have HWZ:=Lib.hid (Nat.le_refl w6.heap.size);have HCB:=h2k H6A.out.2.2.1 H6A.out.2.2.2.2.1;have HMP:=h4k H6.out.1 (Nat.le_refl 0) H6A.out.2.2.2.2.2.1 H6A.out.2.2.2.2.2.2;have HN:=Lib.hid (show V.cur≤1048576∧V.st.boot<4294967296∧V.n<4611686018427387904∧LgFit V.lg∧d.pend+40<1000000∧V.rows.length≤1000∧V.S=V.S from ⟨H.out.2.2.1.cur,by have:=H.out.2.1.boot;omega,H.out.2.2.1.n,H.out.2.2.2.2.2.2.2.1,by have:=H.out.2.2.2.2.1;omega,by have:=H.out.2.2.2.2.2.2.2.2.1;omega,rfl⟩);clear h24;have hX0:∃X,(V).wrap sLog (batT b)=X:=⟨_,rfl⟩;obtain ⟨X,hX⟩:=hX0;have hbl:=batT_len HE.out HV.out.2.2.2.2.2.2.2.1;have hXl:(str X).size=X.length:=str_size X;have hX2:sealB (ringK (str masterL).data.toList (V).cur) (V).cur (V).st.boot (V).n (str sLog).data.toList (str (batT b)).data.toList=X:=by rw [← hX,str_list,str_list,str_list];rfl
       have hwr:=rwrap_c HT.out.1.ring (by rw [str_size];decide) HN.out.1 HN.out.2.1 HN.out.2.2.1 (str sLog) (str (batT b)) dC (by rw [str_size];omega);rw [hX2] at hwr;have HWR:=Lib.hid hwr;have c8:(w6).cell? ⟨v,8,none⟩=some (.pointer (some ⟨(o).rb,0,none⟩)):=HT.out.1.blk.cell 8;obtain ⟨R,hR⟩:=eqx (addG d (V).lg (str X));obtain ⟨E,hEE⟩:=eqx R.2.2;have HRE:=h3k hR hEE hX;clear hX hbl hXl hX2 hwr hR hEE;go_upto_region 20 with (first
        | (go_at_call 57;refine HWR.out.mono ?_;rintro e wa ⟨rfl,es,hRg⟩
           have ha:=HT.out.1.ring_ hRg;have c7:wa.cell? ⟨v,7,none⟩=some (.pointer (some ⟨(o).lb,0,none⟩)):=ha.1.blk.cell 7;have hadd:=Add_any ha.1.disk ha.1.log ha.1.recs ha.1.sep (str X) HN.out.2.2.2.1 HN.out.2.2.2.2.1;have HA:=h3k ha.1 ha.2 hadd;clear ha hadd hRg))
       by_cases h0:E=0
       ·have HE0:=Lib.hid h0
        go_upto_region 23 with (first
         | (go_at_call 58;refine HA.out.2.2.mono ?_;rintro e wb ⟨rfl,hAL⟩
            obtain ⟨F',lv',hb,kb⟩:=HA.out.1.log_ hAL;rw [show (addG d (V).lg (str X)).2.2=0 by rw [HRE.out.1,HRE.out.2.1];exact HE0.out];have HBB:=Lib.hid hb.blk;have HB:=h2k hb kb;clear hb kb hAL))
        have hkk:=HA.out.2.1.trans HB.out.2;have hno:∀q,w.heap.size≤q→q<w6.heap.size→¬VtO.mut { (o) with ents:=es,F:=F',lv:=lv' } v q:=fun q h1 h2 e=>(hkk.sub q e).elim (HT.out.2.2 q h1 h2) (fun e=>by have:=HWZ.out;omega)
        have HNO:=h2k hno hkk;clear hno hkk;go_upto_region 24 with (first
         | (refine wpList_store_one rfl _ _ _ rfl v 0 (.pointer (some ⟨m2,0,none⟩)) rfl rfl _ _ HBB.out (by simp [vtRow]) rfl kR ?_
            intro wc hBc hUc hzc))
        have hkk:=HNO.out.2;have hno:=HNO.out.1;have hUW:Upd ((o).mut v) (w6) wc:=hkk.upd.then hUc (fun q e=>.inl (.inl e));have hmap:=HMP.out.1.upd hUW (HT.out.2.2 _ HMP.out.2.2.1 H6A.out.2.2.2.1.2.1) (HT.out.2.2 _ HMP.out.2.2.2 H6A.out.2.2.2.1.2.2);have hnb:=hno mb6 HMP.out.2.2.2 H6A.out.2.2.2.1.2.2;have hvc:=HB.out.1.map_ (X:=doL V.S b.ops) (m2:=m2) (mb2:=mb6) hUc hBc hmap (fun e=>hnb (.inr (.inl e))) (fun e=>hnb (.inr (.inr (.inr (.inr (.inr (.inl (.inr (.inl e)))))))));have hovc:TRow wc ty 3 ov (b.ops.map opRow):=HOFAR.out wc (HT.out.2.1.upd.then hUW HT.out.2.1.sub);have hcbc:=HCB.out.1.upd hUW (HT.out.2.2 _ HCB.out.2 H6A.out.2.2.2.1.1);have hdo:=does_c hvc.1 b hovc (oN HB0.out.2.2.2.1) HN.out.2.2.2.2.2.1;have HDOES:=Lib.hid hdo;have HCBC:=Lib.hid hcbc;have HVC:=Lib.hid ((((HT.out.2.1.trans HA.out.2.1).trans HB.out.2).trans hvc.2).re (m:=m2) (mb:=mb6) (.inr HMP.out.2.2.2));clear hkk hno hUW hmap hnb hvc hovc hcbc hdo hBc hUc hzc;go_wp2_with (first
         | (refine wll _ c HCBC.out Tryz.underlying35 ?_)
         | (go_at_call 60;refine HDOES.out.mono ?_;rintro e w9 ⟨rfl,o9,h9,k9⟩;have H9:=h2k h9 k9;clear h9 k9))
        go_ret
        have hav:addV d (V) b=(R.1,({ (V).next with lg:=R.2.1 } : VtM).does b,0):=by
         unfold addV;simp only
         rw [HRE.out.2.2,HRE.out.1,HRE.out.2.1,if_neg (by rw [HE0.out];simp)]
        have h9:=H9.out.1;rw [HRE.out.1] at h9;have hds:({ (V).next with lg:=R.2.1 } : VtM).does b = { (V).next with lg:=R.2.1,S:=doL V.S b.ops,rows:=(V).rows++[b],at_:=b.index,epoch:=b.epoch } := by
         unfold VtM.does VtM.next;first
          | (simp only;done)
          | (simp only;rw [HN.out.2.2.2.2.2.2])
        rw [HFIN.out,hav,hds];exact ⟨rfl,_,h9,HVC.out.trans H9.out.2⟩
       ·have hE0:(E != 0)=true:=by simpa using h0
        have H0:=Lib.hid h0;clear h0;go_wp2_with (first
         | (go_at_call 58;refine HA.out.2.2.mono ?_;rintro e wb ⟨rfl,hAL⟩
            obtain ⟨F',lv',hb,kb⟩:=HA.out.1.log_ hAL;rw [show (addG d (V).lg (str X)).2.2=E by rw [HRE.out.1,HRE.out.2.1]];have HTD:=Lib.hid (told_c hb E);have HB:=Lib.hid kb;clear hb kb hAL)
         | (go_at_call 59;refine HTD.out.mono ?_;rintro e w9 ⟨rfl,h9,k9⟩;have H9:=h2k h9 k9;clear h9 k9))
        go_ret
        have hav:addV d (V) b=(R.1,({ (V).next with lg:=R.2.1 } : VtM).told E,E):=by
         unfold addV;simp only
         rw [HRE.out.2.2,HRE.out.1,HRE.out.2.1,if_pos H0.out]
        have h9:=H9.out.1;rw [HRE.out.1] at h9;rw [HFIN.out,hav];exact ⟨rfl,_,h9,((HT.out.2.1.trans HA.out.2.1).trans HB.out).trans H9.out.2⟩
     ·have HD0:=Lib.hid hD
      obtain ⟨E,hEE⟩:=eqx (doE V.S b.ops);have HEE:=Lib.hid hEE;rw [hEE] at hD HS HDO;have hE0:(E != 0)=true:=by simpa using hD
      have HD1:=Lib.hid hD;clear hD hrows hEE;go_quiet (fail)
      go_wp2_with (first
       | (go_at_call 55;refine (HTW.out _).mono ?_;rintro e w5 ⟨m2,mb2,rfl,hm5,hm5a,hm5b,hU5⟩
          have cb25:w5.cell? ⟨c,2,none⟩=some ov:=(K3.out.2.1.upd (((Upd.refl (fun _=>False) w3).drewN _).then hU5 (fun _ e=>.inl e)) (fun e=>e)).cell 2;have H5:=h2k hm5 (((Upd.refl (fun _=>False) w3).drewN _).then hU5 (fun _ e=>.inl e));clear hm5 hm5a hm5b hU5)
       | (go_at_call 36;refine (HDO.out _ _ _ H5.out.2 H5.out.1).mono ?_;rintro e w6 ⟨rfl,hD6⟩
          have H6:=Lib.hid (hD6.no HD0.out);clear hD6))
      go_ret
      rw [HS.out,if_neg sM,if_neg (by rw [HE.out];simp),if_neg (by have h1:=HI.out;have h2:=HE2.out;omega),if_pos HD1.out];exact ⟨rfl,o,(K3.out.1.still H5.out.2).still H6.out,(K3.out.2.2.2.still H5.out.2).still H6.out⟩
   ·have hi0:(b.index != V.at_+1)=true:=by simpa using hi
    have HI:=Lib.hid hi;clear hi;go_quiet (fail)
    go_wp2_with fail
    go_ret
    rw [HS.out,if_neg sM,if_neg (by rw [HE.out];simp),if_pos (.inl HI.out)]
    exact ⟨rfl,o,K3.out.1.still ((Upd.refl _ _).drewN _),K3.out.2.2.2.still ((Upd.refl _ _).drewN _)⟩
  ·have H0:=Lib.hid hE
   have hby:=bbytes_bad (w:=w1) (A:=A) (cap:=cap) (b:=ob) (off:=oo) (l:=b.ops) (i:=b.index) (ep:=b.epoch) HV.out.2.2.2.2.1 (fun w' hu=>HV.out.2.2.2.2.2.1 w' (fun _=>False) (H1.out.2.1.then hu (fun _ e=>.inl e)) (fun _ _ e=>e)) HV.out.2.2.2.2.2.2.1 HV.out.2.2.2.1 hE;rw [← HV.out.2.1] at hby;obtain ⟨E,hEE⟩:=eqx (batErr b.index b.epoch b.ops);rw [hEE] at hby HS H0 hE;have hE0:(E != 0)=true:=by simpa using hE
   have HBY:=Lib.hid hby;clear hby hEE hE;go_wp2_with (first
    | (go_at_call 53;refine HO.out.mono ?_;rintro e w2 ⟨rfl,-,-,hw2⟩;subst hw2)
    | (refine wll _ c H1.out.1 Tryz.underlying35 ?_)
    | (go_at_call 54;refine HBY.out.mono ?_;rintro e w3 ⟨rfl,hU3⟩;have H3:=Lib.hid hU3;clear hU3))
   go_ret
   rw [HS.out,if_neg sM,if_pos H0.out];exact ⟨rfl,o,H1.out.2.2.still H3.out,HT1.out.still H3.out⟩
 ·exact zz9
end
section
variable {w w':World} {p v:Nat} {d d':Dk} {V V':VtM} {o o':VtO}
theorem vboot_c (h:VtAt w p v d V o) (hb:V.st.boot<4294967296):Calls Tryz.prog 13 #[.pointer (some ⟨v,0,none⟩)] w fun e w'=>e=.returned (.int .i64 (V.st.boot:Int))∧w=w':=by
 have hc:w.cell? ⟨v,19,none⟩=some (.int .u32 (V.st.boot:Int)):=h.blk.cell 19;have hw:IntKind.i64.wrap (V.st.boot:Int)=(V.st.boot:Int):=IntWalk.i64_in _ oM;clear h;go_enter Tryz.func13,Tryz.ntmps13
 go_wp2_with fail
 go_ret
 exact ⟨by first | rfl | (rw [hw];rfl),rfl⟩
end
theorem batCells_one {a b:Int} {ov:Value} (h:ov.oneCell'=true):(#[Value.int .i64 a,.int .i64 b,ov]:Array Value).all (·.oneCell')=true:=by
 simp only [List.all_toArray,List.all_cons,List.all_nil,h,Bool.and_true];rfl
section
variable {w w':World} {p v:Nat} {d d':Dk} {V V':VtM} {o o':VtO}
end
def preRow (V:VtM) (p kb m:Nat) (mv rg:Value):Array Value :=
 #[.pointer (some ⟨m,0,none⟩),.int .i64 V.at_,.int .i64 V.epoch,.slice none 0 0,.int .i64 V.prev,.pointer (some ⟨p,0,none⟩),.pointer (some ⟨kb,0,none⟩),.pointer none,rg,
  .int .i64 V.st.m.role,.int .i64 V.st.m.seen,.int .i64 V.st.m.grant,mv,.string (str V.st.m.secret),.int .i64 V.st.at_,.int .i64 V.st.epoch,.int .i64 (V.st.slot:Int),.int .u64 (V.st.log:Int),.int .i64 (V.st.key:Int),.int .u32 (V.st.boot:Int),.bool V.down]
structure VtPre (w:World) (p v:Nat) (d:Dk) (V:VtM) (F:List Nat) (kb m mb:Nat) (mv rg:Value):Prop where
 disk:DiskAt w p d F
 blk:Blk w v 117 (preRow V p kb m mv rg)
 kept:Blk w kb 209 (V.kp.cells p)
 map:MapAt w m mb V.S
 mbF:mb ∉ F
 mts:TRow w 46 2 mv (V.st.m.mounts.map mtRow)
section
variable {w w':World} {p v:Nat} {d d':Dk} {V V':VtM} {F:List Nat} {kb m mb m' mb':Nat} {mv rg mv' rg':Value}
theorem VtPre.vF (h:VtPre w p v d V F kb m mb mv rg):v ∉ F:=fun e=>by
 rcases h.disk.kind e with e | e | e
 ·exact absurd (h.blk.ty.inj e) dC
 ·exact absurd (h.blk.ty.inj e) dC
 ·exact h.blk.ty.no_map e
theorem VtPre.still (h:VtPre w p v d V F kb m mb mv rg) (hu:Upd (fun _=>False) w w'):VtPre w' p v d V F kb m mb mv rg :=
 ⟨h.disk.upd hu (fun _ _ e=>e),h.blk.upd hu (fun e=>e),h.kept.upd hu (fun e=>e),h.map.still hu,h.mbF,h.mts.still hu⟩
theorem VtPre.mv_ne (h:VtPre w p v d V F kb m mb mv rg):m≠v∧mb≠v∧kb≠v:=by
 refine ⟨fun e=>?_,fun e=>?_,fun e=>?_⟩
 ·subst e;exact absurd (h.blk.ty.inj h.map.blk.ty) dC
 ·subst e;exact h.blk.ty.no_map h.map.mp
 ·subst e;exact absurd (h.blk.ty.inj h.kept.ty) dC
theorem VtPre.cells_ (h:VtPre w p v d V F kb m mb mv rg) (hu:Upd (· = v) w w') (hB:Blk w' v 117 (preRow V' p kb m' mv' rg')) (hk:V'.kp=V.kp) (hm:MapAt w' m' mb' V'.S) (hmF:mb' ∉ F) (hmts:TRow w' 46 2 mv' (V'.st.m.mounts.map mtRow)) :
 VtPre w' p v d V' F kb m' mb' mv' rg' :=
 ⟨h.disk.upd hu (fun q hq e=>h.vF ((show q=v from e) ▸ hq)),hB,by rw [hk];exact h.kept.upd hu (fun e=>h.mv_ne.2.2 e),hm,hmF,hmts⟩
theorem VtPre.nums_ (h:VtPre w p v d V F kb m mb mv rg) (hu:Upd (· = v) w w') (hB:Blk w' v 117 (preRow V' p kb m mv rg')) (hk:V'.kp=V.kp) (hS:V'.S=V.S) (hms:V'.st.m.mounts=V.st.m.mounts):VtPre w' p v d V' F kb m mb mv rg' :=
 h.cells_ hu hB hk (by rw [hS];exact h.map.upd hu (fun e=>h.mv_ne.1 e) (fun e=>h.mv_ne.2.1 e)) h.mbF (by
  rw [hms];exact h.mts.upd hu (fun q ht e=>by
   have e2:q=v:=e;subst e2;exact absurd (h.blk.ty.inj ht) dC))
theorem VtPre.ring_ {rb rk:Nat} {ents:List (Int × Nat)} {master:ByteArray} {cur boot n:Nat} (h:VtPre w p v d V F kb m mb mv rg) (hR:RgE (ringOwn rb rk ents) w w rb master cur boot n rk ents) (hrF:rk ∉ F) (hmk:mb≠rk) (hu:Upd (ringOwn rb rk ents) w w'):VtPre w' p v d V F kb m mb mv rg:=by
 refine ⟨h.disk.upd hu (fun q hq e=>?_),h.blk.upd hu (hR.own_not h.blk dC dC),h.kept.upd hu (hR.own_not h.kept dC dC),h.map.upd hu (hR.own_not h.map.blk dC dC) (fun e=>?_),h.mbF,h.mts.upd hu (fun q ht e=>?_)⟩
 ·rcases hR.kind e with f | f | f
  ·rcases h.disk.kind hq with g | g | g
   ·exact absurd (g.inj f) dC
   ·exact absurd (g.inj f) dC
   ·exact f.no_map g
  ·rcases h.disk.kind hq with g | g | g
   ·exact absurd (g.inj f) dC
   ·exact absurd (g.inj f) dC
   ·exact f.no_map g
  ·exact hrF (f ▸ hq)
 ·rcases hR.kind e with f | f | f
  ·exact f.no_map h.map.mp
  ·exact f.no_map h.map.mp
  ·exact hmk f
 ·rcases hR.kind e with f | f | f
  ·exact absurd (ht.inj f) dC
  ·exact absurd (ht.inj f) dC
  ·subst f;exact ht.no_map hR.map.mp
end
def preV (k:Kp) (s:StM) (S0:List PairM):VtM:=⟨S0,s.at_,s.epoch,[],s.epoch,s,false,k,lgv0,s.key,0⟩
structure Recalls (d:Dk) (k:Kp) (s:StM) (S0:List PairM):Prop where
 text:(k.gen=0∧s=stM0∧S0=[])∨(0<k.gen∧∃t,Sealed s.key sSecret s.m.secret t∧k.text=stB s t)
 ok:StOk s
 boot:s.boot+1≤1000000
 slot:(s.slot=0∧S0=[])∨(1≤s.slot∧∃t,Sealed s.key sMap (pairsB S0) t∧slotHas d s.slot t)
 pairs:PairsOk S0
structure Replays (s:StM) (S0:List PairM) (g:Lg) (rows:List BatM) (S:List PairM) (at_ epoch:Int):Prop where
 fit:LgFit g
 glen:g.l.length=rows.length
 recs:∀i (h:i<g.l.length) (h2:i<rows.length),Sealed s.key sLog (batT rows[i]) (g.l[i]).data.toList
 many:rows.length≤24
 rep:replL rows (S0,s.at_,s.epoch)=some (S,at_,epoch)
 eps:∀b ∈ rows,b.epoch≤9223372036854775807
structure DkFit (d:Dk):Prop where
 off:d.off=false
 len:d.lasts.length=500
 pend:d.pend+20<1000000
structure Opens (d:Dk) (V:VtM) (S0:List PairM):Prop where
 fit:DkFit d
 kept:openN d 0 2=some V.kp
 kp:V.kp.seen<18446744073709551616∧V.kp.at_≤1∧V.kp.from_=0
 recalls:Recalls d V.kp V.st S0
 sound:badS d 160=false
 log:openG d 20 320 V.st.log=some V.lg
 log0:1≤V.st.log
 replays:Replays V.st S0 V.lg V.rows V.S V.at_ V.epoch
 prev:V.prev=V.st.epoch
 cur:V.cur=V.st.key
theorem badS_false {d:Dk} : ∀k,(∀i,i<k→(lookL (d.now (340+i)).data.toList).2≠2)→badS d k=false
 | 0,_=>rfl
 | k+1,h=>by rw [badS_succ,badS_false k (fun i hi=>h i oM)];simp [h k oM]
theorem VDk.lgfit {d:Dk} {k:Kp} {g:Lg} {s:StM} {S0:List PairM} {rows:List BatM} {c:Nat} (h:VDk d k g s S0 rows c) (hc:c<100000):LgFit g:=by
 obtain ⟨rs,R,hl,-⟩:=h.log;have ho:=hl.opens;exact openG_fit (by rw [h.gplace.1];omega) (by rw [h.gplace.2.1];omega) (by rw [h.gplace.2.2];have:=h.logs;omega) ho
theorem VDk.opens_ {d:Dk} {V:VtM} {S0:List PairM} {c:Nat} (h:VDk d.free V.kp V.lg V.st S0 V.rows c) (hc:c<99000) (ho:d.off=false)
 (h0:V.kp.gen=0→S0=[]) (hrep:replL V.rows (S0,V.st.at_,V.st.epoch)=some (V.S,V.at_,V.epoch)) (hprev:V.prev=V.st.epoch) (hcur:V.cur=V.st.key) (heps:∀b ∈ V.rows,b.epoch≤9223372036854775807) (hmn:V.st.m.seen≤9223372036854775807∧V.st.m.grant≤9223372036854775807):Opens d V S0:=by
 have h1:=h.keys;have h2:=h.boots;have h3:=h.logs;have h4:=h.kseen;have hg:=h.good;obtain ⟨L0,L1,hk⟩:=h.kept;obtain ⟨rs,R,hl,-⟩:=h.log;obtain ⟨g1,g2,g3⟩:=h.gplace;have hkp:=hk.opens;rw [h.kfrom] at hkp;have hlo:=hl.opens;rw [g1,g2,g3] at hlo;refine ⟨⟨ho,hg.len,?_⟩,hkp,⟨oM,hk.at_,h.kfrom⟩,⟨?_,⟨h.right,h.place,h.slots,oM,oM,oM,hmn⟩,oM,?_,h.pairs⟩,badS_false 160 fun i hi=>(h.sound i hi).look,hlo,by rw [← g3];exact hl.epoch0,⟨h.lgfit oM,h.glen,h.recs,h.many,hrep,heps⟩,hprev,hcur⟩
 ·have:d.pend=0:=hg.pend
  omega
 ·rcases h.text with e | e
  ·exact .inl ⟨e.1,e.2,h0 e.1⟩
  ·exact .inr e
 ·rcases h.slot with e | e
  ·exact .inl ⟨e.1,e.2.1⟩
  ·exact .inr e
theorem VtG.opens_ {d:Dk} {V:VtM} {S0:List PairM} {c:Nat} (h:VtG d.free V S0 c) (hc:c<99000) (ho:d.off=false):Opens d V S0 :=
 h.vdk.opens_ hc ho (fun e=>absurd h.gen oM) h.rep h.prev h.cur h.eps h.mn
theorem opens_first:Opens (Dk.fresh 500) V0 [] :=
 VDk.opens_ (d:=Dk.fresh 500) VDk.fresh oM rfl (fun _=>rfl) rfl rfl rfl dC dC
theorem bodyG_get0 (p:Lp):p.sec.data.toList.getD 0 0=UInt8.ofNat p.epoch:=by
 simp [Lp.sec,str,closeL,Lp.body,leB,List.range_succ]
theorem bodyG_get25 (p:Lp):p.sec.data.toList.getD 25 0=UInt8.ofNat p.all:=by
 simp [Lp.sec,str,closeL,Lp.body,leB,List.range_succ]
theorem turn_badG (p:Lp) (h:p.ok) (hg:p.epoch<256) (a:Nat) (x:List UInt8) (hx:x.length≤4) (ha:a+x.length≤64) (hne:turnK p.sec.data.toList a x x.length≠p.sec.data.toList) :
 (lookL (turnK p.sec.data.toList a x x.length)).2=2:=by
 have h1:=turn_look p.sec.data.toList a x (by rw [look_secG p h]) hx ha hne;have h0:(lookL (turnK p.sec.data.toList a x x.length)).2≠0:=by
  intro e;have hz:turnK p.sec.data.toList a x x.length=List.replicate 64 0:=by
   unfold lookL at e;split at e
   ·simp at e
   ·split at e
    ·assumption
    ·split at e<;>simp at e
  have hz':∀j,(turnK p.sec.data.toList a x x.length).getD j 0=0:=by
   intro j;rw [hz,List.getD_eq_getElem?_getD,List.getElem?_replicate];split<;>rfl
  have g:=h.epoch0;have g2:=h.all0;have g3:=h.all;have nz:∀n,0<n→n<256→UInt8.ofNat n≠0:=by
   intro n h1 h2 e;have:=congrArg UInt8.toNat e;simp at this
   omega
  by_cases hj:0<a
  ·have:=turnK_get p.sec.data.toList a x x.length 0 (.inl hj)
   rw [hz',bodyG_get0] at this;exact nz _ g hg this.symm
  ·have:=turnK_get p.sec.data.toList a x x.length 25 (.inr oM)
   rw [hz',bodyG_get25] at this;exact nz _ g2 g3 this.symm
 have:=lookL_cases (turnK p.sec.data.toList a x x.length);omega
theorem scanAt_bad_of {d:Dk} {f n:Nat} (j:Nat) (hj:j<n) (hb:(lookL (d.now (f+j)).data.toList).2=2):(scanAt d f n).bad=true:=by
 have h1:(scanAt d f (j+1)).bad=true:=by
  rw [scanAt_succ,scanStep];split
  ·assumption
  ·first
   | rfl
   | (rw [if_pos hb])
 rw [scanAt_bad d f (j+1) n oM h1];exact h1
theorem look_null {l:List UInt8} (h:(lookL l).2=0):l=List.replicate 64 0:=by
 unfold lookL at h;split at h
 ·simp at h
 ·split at h
  ·assumption
  ·split at h<;>simp at h
theorem leN_inj2 {a b:List UInt8} (hl:a.length=b.length) (h:leN a=leN b):a=b:=by
 rw [← leB_leN a,← leB_leN b,hl,h]
theorem turn_twice (s:List UInt8) (a:Nat) (x:List UInt8) (ha:a+x.length≤s.length):turnK (turnK s a x x.length) a x x.length=s:=by
 refine leN_inj2 (by rw [turnK_len,turnK_len]) ?_;rw [turnK_leN _ a x x.length (by rw [turnK_len];exact ha) (Nat.le_refl _),turnK_leN s a x x.length ha (Nat.le_refl _),Nat.xor_assoc,Nat.xor_self,Nat.xor_zero]
theorem turn_ne (s:List UInt8) (a:Nat) (x:List UInt8) (ha:a+x.length≤s.length) (hx:x≠List.replicate x.length 0):turnK s a x x.length≠s:=by
 intro e;have h:=turnK_leN s a x x.length ha (Nat.le_refl _);rw [e,List.take_of_length_le (Nat.le_refl _)] at h;have h2:2 ^ (8*a)*leN x=0:=by
  have h3:=congrArg (leN s ^^^ ·) h;simp only [← Nat.xor_assoc,Nat.xor_self,Nat.zero_xor] at h3;exact h3.symm
 have h4:leN x=0:=by
  rcases Nat.mul_eq_zero.1 h2 with h | h
  ·exact absurd h (Nat.ne_of_gt (Nat.pow_pos dC))
  ·exact h
 refine hx (leN_inj2 sM ?_);rw [h4];have:∀n,leN (List.replicate n 0)=0:=by
  intro n;induction n with
  | zero=>rfl
  | succ n ih=>rw [List.replicate_succ,leN,ih];rfl
 exact (this _).symm
def spX (a b c d e:UInt8):List UInt8:=a::b::c::d::e::List.replicate 59 0
theorem spX_look0:(lookL (spX 4 27 34 190 0)).2=1:=by decide +kernel
theorem spX_look1:(lookL (spX 0 2 230 211 7)).2=1:=by decide +kernel
theorem xor_can (a b:UInt8):a ^^^ (a ^^^ b)=b:=by rw [← UInt8.xor_assoc,UInt8.xor_self,UInt8.zero_xor]
theorem spX_no0 (a b c:UInt8):(lookL (spX a b c 0 0)).2≠1:=by
 have h:=turn_look (spX 4 27 34 190 0) 0 [4 ^^^ a,27 ^^^ b,34 ^^^ c,190 ^^^ 0] spX_look0 sM sM;have e:turnK (spX 4 27 34 190 0) 0 [4 ^^^ a,27 ^^^ b,34 ^^^ c,190 ^^^ 0] 4=spX (4 ^^^ (4 ^^^ a)) (27 ^^^ (27 ^^^ b)) (34 ^^^ (34 ^^^ c)) (190 ^^^ (190 ^^^ 0)) 0:=rfl;rw [xor_can,xor_can,xor_can,xor_can] at e;rw [show ([4 ^^^ a,27 ^^^ b,34 ^^^ c,190 ^^^ 0]:List UInt8).length=4 from rfl,e] at h;refine h fun e2=>?_
 have:=congrArg (fun l:List UInt8=>l.getD 3 0) e2;exact absurd this (by show ¬((0:UInt8)=190);decide)
theorem spX_no1 (b c e:UInt8):(lookL (spX 0 b c 0 e)).2≠1:=by
 have h:=turn_look (spX 0 2 230 211 7) 1 [2 ^^^ b,230 ^^^ c,211 ^^^ 0,7 ^^^ e] spX_look1 sM sM;have e1:turnK (spX 0 2 230 211 7) 1 [2 ^^^ b,230 ^^^ c,211 ^^^ 0,7 ^^^ e] 4=spX 0 (2 ^^^ (2 ^^^ b)) (230 ^^^ (230 ^^^ c)) (211 ^^^ (211 ^^^ 0)) (7 ^^^ (7 ^^^ e)):=rfl;rw [xor_can,xor_can,xor_can,xor_can] at e1;rw [show ([2 ^^^ b,230 ^^^ c,211 ^^^ 0,7 ^^^ e]:List UInt8).length=4 from rfl,e1] at h;refine h fun e2=>?_
 have:=congrArg (fun l:List UInt8=>l.getD 3 0) e2;exact absurd this (by show ¬((0:UInt8)=211);decide)
theorem turn_slot (t:List UInt8) (j:Nat) (h1:1≤slotN t) (h2:slotN t≤80) (a:Nat) (x:List UInt8) (hx:x.length≤4) (ha:a+x.length≤64) (hne:turnK (closeL (slotBody t j)) a x x.length≠closeL (slotBody t j)) :
 (lookL (turnK (closeL (slotBody t j)) a x x.length)).2=2:=by
 have hl:(lookL (closeL (slotBody t j))).2=1:=by have:=look_slot t j h1 h2;rw [str_list] at this;rw [this]
 have n1:=turn_look _ a x hl hx ha hne;have n0:(lookL (turnK (closeL (slotBody t j)) a x x.length)).2≠0:=by
  intro e;have hz:=look_null e;have hlen:(closeL (slotBody t j)).length=64:=by rw [← turnK_len _ a x x.length,hz];simp
  have hz':∀i,i<a∨a+x.length≤i→(closeL (slotBody t j)).getD i 0=0:=by
   intro i hi;rw [← turnK_get _ a x x.length i hi,hz,List.getD_eq_getElem?_getD,List.getElem?_replicate];split<;>rfl
  have b1:(closeL (slotBody t j)).getD 1 0=UInt8.ofNat (slotN t):=rfl;have b3:(closeL (slotBody t j)).getD 3 0=0:=rfl;have nz:UInt8.ofNat (slotN t)≠0:=by
   intro e;have:=congrArg UInt8.toNat e;simp at this
   omega
  have hw:a≤1∧1<a+x.length:=by
   refine ⟨?_,?_⟩<;>refine Nat.not_lt.1 fun h=>?_
   ·exact nz (b1 ▸ hz' 1 (.inl h))
   ·exact nz (b1 ▸ hz' 1 (.inr oM))
  generalize hS:closeL (slotBody t j)=S at *;have shape:S=spX (S.getD 0 0) (S.getD 1 0) (S.getD 2 0) (S.getD 3 0) (S.getD 4 0):=by
   refine List.ext_getElem (by rw [hlen];simp [spX]) fun i g1 g2=>?_
   have e1:S[i]=S.getD i 0:=by rw [List.getD_eq_getElem?_getD,List.getElem?_eq_getElem g1];rfl
   rw [e1];match i,g2 with
   | 0,_=>rfl
   | 1,_=>rfl
   | 2,_=>rfl
   | 3,_=>rfl
   | 4,_=>rfl
   | i+5,g2 =>
     have h4:i+5<64:=by simpa [spX] using g2
     have h5:i<(List.replicate 59 (0:UInt8)).length:=by rw [List.length_replicate];omega
     rw [hz' (i+5) (.inr oM)];exact (List.getElem_replicate h5).symm
  rw [b3] at shape;rcases Nat.lt_or_ge 0 a with h | h
  ·have e0:S.getD 0 0=0:=hz' 0 (.inl h)
   rw [e0] at shape;rw [shape] at hl;exact spX_no1 _ _ _ hl
  ·have e4:S.getD 4 0=0:=hz' 4 (.inr oM)
   rw [e4] at shape;rw [shape] at hl;exact spX_no0 _ _ _ hl
 have:=lookL_cases (turnK (closeL (slotBody t j)) a x x.length);omega
def Dk.spl (d:Dk) (i a:Nat) (x:List UInt8):Dk := { d with lasts:=d.lasts.set i (str (turnK (d.last i).data.toList a x x.length)) }
section
variable {d:Dk} {i a:Nat} {x:List UInt8}
theorem Dk.spl_is (hi:i<d.lasts.length) (hx:x.length≤4) (ha:a+x.length≤64):d.spoil (i:Int) (a:Int) (str x)=(d.spl i a x,0):=by
 rw [Dk.spoil_ok hi (by rw [str_size];exact hx) (by rw [str_size];exact ha),str_list,str_size];rfl
theorem Dk.spl_now (hp:d.pend=0) (hi:i<d.lasts.length) (j:Nat):(d.spl i a x).now j=if j=i then str (turnK (d.now i).data.toList a x x.length) else d.now j:=by
 rw [Dk.now_last (d:=d.spl i a x) hp,Dk.now_last hp,Dk.now_last hp];unfold Dk.spl Dk.last;simp only [List.getD_eq_getElem?_getD,List.getElem?_set];by_cases hj:i=j
 ·subst hj;simp [hi]
 ·simp [hj,Ne.symm hj]
theorem Dk.spl_back (hi:i<d.lasts.length) (hs:(d.last i).size=64) (ha:a+x.length≤64):(d.spl i a x).spl i a x=d:=by
 have e1:(d.spl i a x).last i=str (turnK (d.last i).data.toList a x x.length):=by
  unfold Dk.spl Dk.last;simp only [List.getD_eq_getElem?_getD,List.getElem?_set];simp [hi]
 have e2:(d.last i).data.toList.length=64:=by rw [← hs];simp
 have e3:d.lasts[i]=d.last i:=by unfold Dk.last;rw [List.getD_eq_getElem?_getD,List.getElem?_eq_getElem hi];rfl
 have e4:(d.lasts.set i (str (turnK (d.last i).data.toList a x x.length))).set i (d.last i)=d.lasts:=by rw [List.set_set,← e3,List.set_getElem_self]
 show ({ d with lasts:=(d.spl i a x).lasts.set i (str (turnK ((d.spl i a x).last i).data.toList a x x.length)) } : Dk)=d;rw [e1,str_list,turn_twice _ _ _ (by rw [e2];exact ha),str_eta];show ({ d with lasts:=(d.lasts.set i (str (turnK (d.last i).data.toList a x x.length))).set i (d.last i) } : Dk)=d;rw [e4]
end
theorem spoil_openK {d D:Dk} {k:Kp} {L0 L1:List (Option Pt)} (h:KeptG d k L0 L1) (hsn:k.seen<256) (j:Nat) (hj:j<20) (a:Nat) (x:List UInt8) (hx:x.length≤4) (ha:a+x.length≤64)
 (hn:∀i,D.now i=if i=k.from_+j then str (turnK (d.now i).data.toList a x x.length) else d.now i)
 (hst:(lookL (d.now (k.from_+j)).data.toList).2=1) (hne:turnK (d.now (k.from_+j)).data.toList a x x.length≠(d.now (k.from_+j)).data.toList):openN D k.from_ 2=none:=by
 have hbad:∀(b:Nat) (L:List (Option Pt)) (i:Nat),SlotG d b L→(∀p,some p ∈ L→p.gen≤k.seen)→i<10→b+i=k.from_+j→(lookL (D.now (b+i)).data.toList).2=2:=by
  intro b L i hS hG hi hb;have hil:i<L.length:=by rw [hS.len];exact hi
  have hc:=hS.cell i hil;rw [hn,if_pos hb,hb,str_list];rw [hb] at hc;cases hp:L[i] with
  | none =>
    rw [hp] at hc;rw [hc,show secP none=zeros64 from rfl,look_zeros] at hst;exact absurd hst dC
  | some p =>
    rw [hp] at hc;have hm:some p ∈ L:=hp ▸ List.getElem_mem hil;rw [hc,show secP (some p)=p.sec from rfl] at hne ⊢;exact turn_bad p (hS.ok p hm) (oN (hG p hm)) a x hx ha hne
 by_cases h10:j<10
 ·have hb:=hbad k.from_ L0 j h.s0 h.gen0 h10 rfl
  refine openN_none (n:=1) ?_ oM;rw [openN,openN];show openStep _ 0 _=none;unfold openStep;rw [if_pos];exact slotAt_bad_of j h10 (by simpa using hb)
 ·have hb:=hbad (k.from_+10) L1 (j - 10) h.s1 h.gen1 oM oM
  have hs0:SlotG D k.from_ L0:=slot_same h.s0 fun i hi=>by rw [hn,if_neg oM]
  have e1:∃k',openN D k.from_ 1=some k'∧k'.from_=k.from_:=by
   rw [openN,openN];exact ⟨_,openStep_g (k:=⟨k.from_,[],0,1,0,false⟩) (by simpa using hs0),by split<;>rfl⟩
  obtain ⟨k',e1,e2⟩:=e1;rw [openN,e1];show openStep _ 1 _=none;unfold openStep;rw [if_pos];rw [e2];exact slotAt_bad_of (j - 10) oM (by simpa using hb)
theorem spoil_openL {d D:Dk} {g:Lg} {rs:List (List UInt8 × Nat)} {R:List (Option Lp)} (h:LogIs d g rs R) (he:∀p,some p ∈ (rowOf g.epoch 0 rs).map some++R→p.epoch<256) (j:Nat) (hj:j<g.sectors) (a:Nat) (x:List UInt8) (hx:x.length≤4) (ha:a+x.length≤64)
 (hn:∀i,D.now i=if i=g.from_+j then str (turnK (d.now i).data.toList a x x.length) else d.now i)
 (hst:(lookL (d.now (g.from_+j)).data.toList).2=1) (hne:turnK (d.now (g.from_+j)).data.toList a x x.length≠(d.now (g.from_+j)).data.toList) (e:Nat):openG D g.from_ g.sectors e=none:=by
 have hl:((rowOf g.epoch 0 rs).map some++R).length=g.sectors:=by rw [List.length_append,List.length_map];exact h.len
 have hc:=h.cells.cell j oM;have hb:(lookL (D.now (g.from_+j)).data.toList).2=2:=by
  rw [hn,if_pos rfl,str_list];cases hL:((rowOf g.epoch 0 rs).map some++R)[j] with
  | none =>
    rw [hL] at hc;rw [hc,show secO none=zeros64 from rfl,look_zeros] at hst;exact absurd hst dC
  | some q =>
    have hmem:some q ∈ (rowOf g.epoch 0 rs).map some++R:=hL ▸ List.getElem_mem oM;rw [hL] at hc;rw [hc,show secO (some q)=q.sec from rfl] at hne ⊢;exact turn_badG q (h.cells.ok q hmem) (he q hmem) a x hx ha hne
 unfold openG;rw [if_pos (scanAt_bad_of j hj hb)]
def Barred (D:Dk) (V:VtM) (S0:List PairM):Prop:=badS D 160=true∨(badS D 160=false∧openN D 0 2=none)∨(badS D 160=false∧openN D 0 2=some V.kp∧Recalls D V.kp V.st S0∧1≤V.st.log∧openG D 20 320 V.st.log=none)
section
variable {d:Dk} {V:VtM} {S0:List PairM} {c i a:Nat} {x:List UInt8}
theorem VtG.spoils (h:VtG d V S0 c) (hc:c<250) (hi:i<500) (hx:x.length≤4) (ha:a+x.length≤64) (hst:(lookL (d.now i).data.toList).2=1) (hne:turnK (d.now i).data.toList a x x.length≠(d.now i).data.toList) :
 DkFit (d.spl i a x)∧Barred (d.spl i a x) V S0:=by
 have hg:=h.vdk.good;have hlen:=hg.len;have hnow:=fun j=>Dk.spl_now (d:=d) (a:=a) (x:=x) hg.pend (i:=i) oM j
 have hop:=VtG.opens_ (d:=d) (by rw [Dk.free_off hg.fuse hg.off];exact h) oM hg.off;obtain ⟨L0,L1,hk⟩:=h.vdk.kept;obtain ⟨rs,R,hl,hep⟩:=h.vdk.log;obtain ⟨g1,g2,g3⟩:=h.vdk.gplace;have hkf:=h.vdk.kfrom;have hks:=h.vdk.kseen;have hlo:=h.vdk.logs;refine ⟨⟨hg.off,by show (d.lasts.set _ _).length=500;rw [List.length_set];exact hlen,by show d.pend+20<_;rw [hg.pend];omega⟩,?_⟩;by_cases c1:340≤i
 ·left
  obtain ⟨j,rfl⟩:∃j,i=340+j:=⟨i - 340,oM⟩;have hb:(lookL ((d.spl (340+j) a x).now (340+j)).data.toList).2=2:=by
   rw [hnow,if_pos rfl,str_list];rcases h.vdk.sound j oM with e | ⟨t,m,t1,t2,-,e⟩
   ·rw [e,look_zeros] at hst
    exact absurd hst dC
   ·rw [e,str_list] at hne ⊢
    exact turn_slot t m t1 t2 a x hx ha hne
  unfold badS;rw [List.any_eq_true];exact ⟨j,List.mem_range.2 oM,by rw [hb];rfl⟩
 ·have hbf:badS (d.spl i a x) 160=false:=badS_false 160 fun j hj=>by rw [hnow,if_neg oM];exact (h.vdk.sound j hj).look
  right
  by_cases c2:i<20
  ·left
   refine ⟨hbf,?_⟩;have:=spoil_openK (D:=d.spl i a x) hk oM i c2 a x hx ha (fun j=>by rw [hnow,hkf,Nat.zero_add];by_cases e:j=i<;>simp [e]) (by rw [hkf,Nat.zero_add];exact hst) (by rw [hkf,Nat.zero_add];exact hne);rw [hkf] at this;exact this
  ·right
   have hK:openN (d.spl i a x) 0 2=some V.kp:=by
    have e:KeptG (d.spl i a x) V.kp L0 L1:=hk.far hg.fuse hg.off (by show d.waits.length=(d.lasts.set _ _).length;rw [List.length_set];exact hg.waits) (by show (d.lasts.set _ _).length=_;rw [List.length_set]) fun j j1 j2=>by rw [hnow,if_neg oM]
    have:=e.opens;rw [hkf] at this;exact this
   have hR:=hop.recalls;refine ⟨hbf,hK,{ hR with slot:=?_ },hop.log0,?_⟩
   ·rcases hR.slot with e | ⟨e1,u,e2,e3⟩
    ·exact .inl e
    ·refine .inr ⟨e1,u,e2,fun j hj=>?_⟩
     rw [hnow,if_neg (by unfold placeN;omega)];exact e3 j hj
   ·have e20:20+(i - 20)=i:=oM
    have:=spoil_openL (D:=d.spl i a x) hl (fun p hp=>by have:=hep p hp;omega) (i - 20) (by rw [g2];omega) a x hx ha (fun j=>by rw [hnow,g1,e20];by_cases e:j=i<;>simp [e]) (by rw [g1,e20];exact hst) (by rw [g1,e20];exact hne) V.st.log;rw [g1,g2] at this;exact this
end
def RIn (w:World) (k:Nat) (v:Value) (cs:List (List Value)):Prop :=
 ∃A cap,v=.slice A cs.length cap∧cs.length≤cap∧cs.length≤9223372036854775807∧(0<cs.length→∃b off cur t fr,A=some ⟨b,off,none⟩∧w.heap[b]? = some (.cells cur t fr)∧∀i c,cs[i]? = some c→∀j u,c[j]? = some u→cur[off+i*k+j]? = some u)
section
variable {w w':World} {k:Nat} {v:Value} {cs:List (List Value)}
theorem RIn.still (h:RIn w k v cs) (hu:Upd (fun _=>False) w w'):RIn w' k v cs:=by
 obtain ⟨A,cap,h1,h2,h3,h4⟩:=h;refine ⟨A,cap,h1,h2,h3,fun h0=>?_⟩;obtain ⟨b,off,cur,t,fr,e1,e2,e3⟩:=h4 h0;exact ⟨b,off,cur,t,fr,e1,(hu.block b (Array.getElem?_eq_some_iff.1 e2).1 (fun e=>e)).trans e2,e3⟩
theorem RIn.open_ (h:RIn w k v cs):∃A cap b off,v=.slice A cs.length cap∧cs.length≤cap∧cs.length≤9223372036854775807∧(0<cs.length→A=some ⟨b,off,none⟩) ∧
 ∀i c,cs[i]? = some c→∀j u,c[j]? = some u→w.cell? ⟨b,off+i*k+j,none⟩=some u:=by
 obtain ⟨A,cap,h1,h2,h3,h4⟩:=h;by_cases h0:0<cs.length
 ·obtain ⟨b,off,cur,t,fr,e1,e2,e3⟩:=h4 h0
  refine ⟨A,cap,b,off,h1,h2,h3,fun _=>e1,fun i c hc j u hj=>?_⟩;rw [cell_of_row w b _ cur t fr e2];exact e3 i c hc j u hj
 ·refine ⟨A,cap,0,0,h1,h2,h3,fun h=>absurd h h0,fun i c hc=>?_⟩
  have:=(List.getElem?_eq_some_iff.1 hc).1;omega
theorem RIn.row (h:RIn w k v cs) (hl:cs.length≤1000000):TRow w anyT k v cs:=by
 obtain ⟨A,cap,h1,h2,h3,h4⟩:=h;refine ⟨A,cap,h1,h2,hl,fun h0=>?_⟩;obtain ⟨b,off,cur,t,fr,e1,e2,e3⟩:=h4 h0;exact ⟨b,off,cur,t,fr,e1,e2,fun e=>absurd rfl e,e3⟩
theorem RIn.lt (h:RIn w k v cs) (h0:0<cs.length):∀q,v.ownBlock=some q→q<w.heap.size:=by
 obtain ⟨A,cap,h1,h2,h3,h4⟩:=h;obtain ⟨b,off,cur,t,fr,e1,e2,e3⟩:=h4 h0;intro q hq;rw [h1,e1] at hq;have:b=q:=by simpa [Value.ownBlock] using hq
 subst this;exact (Array.getElem?_eq_some_iff.1 e2).1
end
def i64r (n:Int):Prop:=-9223372036854775808≤n∧n≤9223372036854775807
structure OpsIn (w:World) (v:Value) (l:List OpM):Prop where
 rows:RIn w 3 v (l.map opRow)
 small:∀o ∈ l,o.path.length≤9223372036854775807∧o.value.length≤9223372036854775807
structure PrsIn (w:World) (v:Value) (l:List PairM):Prop where
 rows:RIn w 2 v (l.map pairRow)
 small:∀p ∈ l,p.1.length≤9223372036854775807∧p.2.length≤9223372036854775807
structure MetaIn (w:World) (mv:Value) (m:MetaM):Prop where
 rows:RIn w 2 mv (m.mounts.map mtRow)
 small:∀x ∈ m.mounts,x.name.length≤9223372036854775807
 secret:m.secret.length≤9223372036854775807
 role:i64r m.role
 seen:i64r m.seen
 grant:i64r m.grant
structure BatIn (w:World) (ov:Value) (b:BatM):Prop where
 ops:OpsIn w ov b.ops
 index:i64r b.index
 epoch:i64r b.epoch
def OpsFew (l:List OpM):Prop:=l.length≤100∧∀o ∈ l,o.path.length≤1000∧o.value.length≤1000
def PrsFew (l:List PairM):Prop:=l.length≤200∧∀p ∈ l,p.1.length≤1000∧p.2.length≤1000
def MetaFew (m:MetaM):Prop:=m.mounts.length≤20∧m.secret.length≤500∧∀x ∈ m.mounts,x.name.length≤500
def BoolSays (Q:Prop) (w:World) (e:Ending) (w':World):Prop:=∃b,e=.returned (.bool b)∧Upd (fun _=>False) w w'∧(b=false→Q)
theorem OpsIn.still {w w':World} {v:Value} {l:List OpM} (h:OpsIn w v l) (hu:Upd (fun _=>False) w w'):OpsIn w' v l:=⟨h.rows.still hu,h.small⟩
theorem PrsIn.still {w w':World} {v:Value} {l:List PairM} (h:PrsIn w v l) (hu:Upd (fun _=>False) w w'):PrsIn w' v l:=⟨h.rows.still hu,h.small⟩
theorem MetaIn.still {w w':World} {v:Value} {m:MetaM} (h:MetaIn w v m) (hu:Upd (fun _=>False) w w'):MetaIn w' v m := { h with rows:=h.rows.still hu }
theorem BatIn.still {w w':World} {v:Value} {b:BatM} (h:BatIn w v b) (hu:Upd (fun _=>False) w w'):BatIn w' v b:=⟨h.ops.still hu,h.index,h.epoch⟩
theorem zz5 {P:Prop} (h:P:=by
 have hwk:IntKind.i64.wrap ((k:Int)+1)=(k:Int)+1:=IntWalk.i64_in _ oM;have HP:=h6k hPs hQs hr hks hk hlt;have j1:(k:Int)<(l.length:Int):=oM;clear hrow hP hQ hks hr;by_cases g1:(1000:Int)<(P.size:Int)
 ·clear hPs hQs
  go_wp2_with fail
  go_ret
  exact ⟨true,rfl,Upd.refl _ _,sM⟩
 ·by_cases g2:(1000:Int)<(Q.size:Int)
  ·clear hPs hQs
   go_wp2_with fail
   go_ret
   exact ⟨true,rfl,Upd.refl _ _,sM⟩
  ·clear hPs hQs
   go_wp2_with fail
   go_roundw
   case rel =>
    refine ⟨k+1,oM,sM,trivial,fun j h hj=>?_⟩;by_cases e:j=k
    ·subst e
     rw [HP.out.2.2.1];have h1:=HP.out.1;have h2:=HP.out.2.1;omega
    ·exact HALL.out j h oM
   case measure=>simp [intOf]<;>omega):P:=h
theorem zz32 {P:Prop} (h:P:=by
 have j1:¬((k:Int)<(l.length:Int)):=oM;go_wp2_with fail
 go_ret
 refine ⟨false,rfl,Upd.refl _ _,fun _=>⟨oM,fun o ho=>?_⟩⟩;obtain ⟨j,hj,rfl⟩:=List.mem_iff_getElem.1 ho;exact HALL.out j hj oM):P:=h
theorem greatops_c {w:World} {v:Value} {l:List OpM} (hA:OpsIn w v l) :
 Calls Tryz.prog 39 #[v] w fun e w'=>BoolSays (OpsFew l) w e w':=by
 obtain ⟨A,cap,bA,off,rfl,hcap,hm,hA0,hcells⟩:=hA.rows.open_;rw [List.length_map] at hm hA0 hcap ⊢;have HC:=Lib.hid hcells;have HK:=Lib.hid hA.small;clear hcells hA;go_enter Tryz.func39,Tryz.ntmps39
 by_cases hn:100<l.length
 ·have hn':(100:Int)<(l.length:Int):=oM
  go_wp2_with fail
  go_ret
  exact ⟨true,rfl,Upd.refl _ _,sM⟩
 have hn':¬(100:Int)<(l.length:Int):=oM;go_wp2_with fail
 go_loopw [3] (fun i wr=>∃k:Nat,k≤l.length∧i=.int .i64 k∧wr=w∧∀j (h:j<l.length),j<k→l[j].path.length≤1000∧l[j].value.length≤1000) (fun i _=>l.length - (intOf i).toNat)
 case atStart=>exact ⟨0,oM,rfl,rfl,fun j h hj=>by omega⟩
 case round =>
  obtain ⟨k,hk,rfl,rfl,hall⟩:=hrel;have HALL:=Lib.hid hall;clear hall;by_cases hlt:k<l.length
  ·obtain rfl:=hA0 oM
   obtain ⟨r,hr⟩:=eqx (l[k]);have hrow:(l.map opRow)[k]? = some (opRow r):=by rw [List.getElem?_map,List.getElem?_eq_getElem hlt,hr];rfl
   have hks:=HK.out r (hr ▸ List.getElem_mem hlt);obtain ⟨P,hP⟩:=eqx (str r.path);obtain ⟨Q,hQ⟩:=eqx (str r.value);have hPs:P.size=r.path.length:=by rw [← hP,str_size]
   have hQs:Q.size=r.value.length:=by rw [← hQ,str_size]
   have cP:wr.cell? ⟨bA,off+k*3+1,none⟩=some (.string P):=HC.out k _ hrow 1 (.string P) (by rw [← hP];rfl)
   have cQ:wr.cell? ⟨bA,off+k*3+2,none⟩=some (.string Q):=HC.out k _ hrow 2 (.string Q) (by rw [← hQ];rfl)
   exact zz5
  ·exact zz32
theorem greatprs_c {w:World} {v:Value} {l:List PairM} (hA:PrsIn w v l) :
 Calls Tryz.prog 40 #[v] w fun e w'=>BoolSays (PrsFew l) w e w':=by
 obtain ⟨A,cap,bA,off,rfl,hcap,hm,hA0,hcells⟩:=hA.rows.open_;rw [List.length_map] at hm hA0 hcap ⊢;have HC:=Lib.hid hcells;have HK:=Lib.hid hA.small;clear hcells hA;go_enter Tryz.func40,Tryz.ntmps40
 by_cases hn:200<l.length
 ·have hn':(200:Int)<(l.length:Int):=oM
  go_wp2_with fail
  go_ret
  exact ⟨true,rfl,Upd.refl _ _,sM⟩
 have hn':¬(200:Int)<(l.length:Int):=oM;go_wp2_with fail
 go_loopw [3] (fun i wr=>∃k:Nat,k≤l.length∧i=.int .i64 k∧wr=w∧∀j (h:j<l.length),j<k→l[j].1.length≤1000∧l[j].2.length≤1000) (fun i _=>l.length - (intOf i).toNat)
 case atStart=>exact ⟨0,oM,rfl,rfl,fun j h hj=>by omega⟩
 case round =>
  obtain ⟨k,hk,rfl,rfl,hall⟩:=hrel;have HALL:=Lib.hid hall;clear hall;by_cases hlt:k<l.length
  ·obtain rfl:=hA0 oM
   obtain ⟨r,hr⟩:=eqx (l[k]);have hrow:(l.map pairRow)[k]? = some (pairRow r):=by rw [List.getElem?_map,List.getElem?_eq_getElem hlt,hr];rfl
   have hks:=HK.out r (hr ▸ List.getElem_mem hlt);obtain ⟨P,hP⟩:=eqx (str r.1);obtain ⟨Q,hQ⟩:=eqx (str r.2);have hPs:P.size=r.1.length:=by rw [← hP,str_size]
   have hQs:Q.size=r.2.length:=by rw [← hQ,str_size]
   have cP:wr.cell? ⟨bA,off+k*2,none⟩=some (.string P):=HC.out k _ hrow 0 (.string P) (by rw [← hP];rfl)
   have cQ:wr.cell? ⟨bA,off+k*2+1,none⟩=some (.string Q):=HC.out k _ hrow 1 (.string Q) (by rw [← hQ];rfl)
   exact zz5
  ·exact zz32
theorem greatmeta_c {w:World} {v:Value} {m:MetaM} (hA:MetaIn w v m) :
 Calls Tryz.prog 38 #[.agg (metaRow m v)] w fun e w'=>BoolSays (MetaFew m) w e w':=by
 obtain ⟨l,hl⟩:=eqx m.mounts;obtain ⟨S,hS⟩:=eqx (str m.secret);have hSs:S.size=m.secret.length:=by rw [← hS,str_size]
 have hSm:S.size≤9223372036854775807:=by rw [hSs];exact hA.secret
 have hrows:=hA.rows;have hsm:=hA.small;rw [hl] at hrows hsm;obtain ⟨C,hC⟩:=eqx (metaRow m v);obtain ⟨c,hc⟩:=eqx w.heap.size;rw [hC];have HCC:=h2k hc hC;clear hc hC;go_enter Tryz.func38,Tryz.ntmps38
 go_upto_region 1 with fail
 rw [HCC.out.1];generalize hw1:World.alloc _ _=w1;have hB1:Blk w1 c 50 (metaRow m v):=by rw [HCC.out.2,← hw1,← HCC.out.1];exact Blk.new w _ _
 have hU1:Upd (fun _=>False) w w1:=by rw [← hw1];exact (Upd.refl _ w).alloc _
 obtain ⟨A,cap,bA,off,rfl,hcap,hm,hA0,hcells⟩:=(hrows.still hU1).open_;rw [List.length_map] at hm hA0 hcap;unfold metaRow at hB1;rw [List.length_map,hS] at hB1;have c3:=hB1.cell 3;have c4:=hB1.cell 4;simp only [List.getElem?_toArray,List.getElem?_cons_succ,List.getElem?_cons_zero] at c3 c4;have HC:=Lib.hid hcells;have HK:=Lib.hid hsm;have HM:=h3k hl hSs hU1;clear hcells hsm hrows hA hS hw1 hB1 hSs hl hU1;by_cases hn:20<l.length
 ·have hn':(20:Int)<(l.length:Int):=oM
  go_wp2_with fail
  go_ret
  exact ⟨true,rfl,HM.out.2.2,sM⟩
 have hn':¬(20:Int)<(l.length:Int):=oM;by_cases hs:(500:Int)<(S.size:Int)
 ·go_wp2_with fail
  go_ret
  exact ⟨true,rfl,HM.out.2.2,sM⟩
 go_wp2_with fail
 go_loopw [3] (fun i wr=>∃k:Nat,k≤l.length∧i=.int .i64 k∧wr=w1∧∀j (h:j<l.length),j<k→l[j].name.length≤500) (fun i _=>l.length - (intOf i).toNat)
 case atStart=>exact ⟨0,oM,rfl,rfl,fun j h hj=>by omega⟩
 case round =>
  obtain ⟨k,hk,rfl,rfl,hall⟩:=hrel;have HALL:=Lib.hid hall;clear hall;by_cases hlt:k<l.length
  ·obtain rfl:=hA0 oM
   obtain ⟨r,hr⟩:=eqx (l[k]);have hrow:(l.map mtRow)[k]? = some (mtRow r):=by rw [List.getElem?_map,List.getElem?_eq_getElem hlt,hr];rfl
   have hks:=HK.out r (hr ▸ List.getElem_mem hlt);obtain ⟨P,hP⟩:=eqx (str r.name);have hPs:P.size=r.name.length:=by rw [← hP,str_size]
   have cP:wr.cell? ⟨bA,off+k*2,none⟩=some (.string P):=HC.out k _ hrow 0 (.string P) (by rw [← hP];rfl)
   have hwk:IntKind.i64.wrap ((k:Int)+1)=(k:Int)+1:=IntWalk.i64_in _ oM;have HP:=h5k hPs hr hks hk hlt;have j1:(k:Int)<(l.length:Int):=oM;clear hrow hP hks hr;by_cases g1:(500:Int)<(P.size:Int)
   ·clear hPs
    go_wp2_with fail
    go_ret
    exact ⟨true,rfl,HM.out.2.2,sM⟩
   ·clear hPs
    go_wp2_with fail
    go_roundw
    case rel =>
     refine ⟨k+1,oM,sM,trivial,fun j h hj=>?_⟩;by_cases e:j=k
     ·subst e
      rw [HP.out.2.1];have h1:=HP.out.1;omega
     ·exact HALL.out j h oM
    case measure=>simp [intOf]<;>omega
  ·have j1:¬((k:Int)<(l.length:Int)):=oM
   go_wp2_with fail
   go_ret
   refine ⟨false,rfl,HM.out.2.2,fun _=>⟨by rw [HM.out.1];omega,by have:=HM.out.2.1;omega,fun x hx=>?_⟩⟩;rw [HM.out.1] at hx;obtain ⟨j,hj,rfl⟩:=List.mem_iff_getElem.1 hx;exact HALL.out j hj oM
theorem str_of (s:ByteArray):str s.data.toList=s:=by
 obtain ⟨d⟩:=s;simp [str]
end
section
open Go Go.RowKit Go.ChangeShapes Go.WideShapes Go.ChangeAt Go.Deep
theorem len_str (s:ByteArray):s.data.toList.length=s.size:=by simp
section
variable {H:Type} {enc:TypeId × Value→H} {w:World} {base:Nat} {spare:Nat→Bool} {held:Bool}
theorem cell_block {b i:Nat} {u:Value} (h:w.cell? ⟨b,i,none⟩=some u):∃cur t fr,w.heap[b]? = some (.cells cur t fr)∧cur[i]? = some u:=by
 unfold World.cell? at h;simp only at h
 split at h
 ·rename_i cs t fr hb
  exact ⟨cs,t,fr,hb,by simpa using h⟩
 ·simp at h
theorem rin_of {P:Program} {t e:TypeId} {k:Nat} {fuel:Nat} {v:Value} {x:DataW H × List MemPlace} (R:List Value→Prop) (ht:P.underlying t=some (.slice e)) (hk:P.cellsOf e=k) (hk0:0<k)
 (hR:∀n cs y,DataW.trod enc P w base spare held n e cs=some y→R cs) (h:DataW.trod enc P w base spare held fuel t [v]=some x):∃cs,RIn w k v cs∧∀c ∈ cs,R c:=by
 rcases open_slice ht h with ⟨hcs,_⟩ | ⟨a,len,cap,m,n,D,Pl,hcs,_,hl,hm,hmm,_,hi⟩
 ·simp only [List.cons.injEq,and_true] at hcs
  subst hcs;exact ⟨[],⟨none,0,rfl,sM,sM,fun h=>by simp at h⟩,sM⟩
 ·simp only [List.cons.injEq,and_true] at hcs
  subst hcs;have hlm:len≤m:=by rw [hmm];split<;>omega
  have each:∀i,i<len→∃c:List Value,c.length=k∧R c∧∀j,j<k→w.cell? (a.add (i*k+j))=c[j]? := by
   intro i hil;obtain ⟨cs',hc,hy⟩:=hi i oM;rw [hk] at hc;obtain ⟨_,hcl,hat⟩:=World.cells?_some hc;refine ⟨cs',hcl,hR _ _ _ hy,fun j hj=>?_⟩;rw [← Go.Deep.add_add];exact hat j hj
  obtain ⟨cs,h1,h2⟩:=pick_list (fun i (c:List Value)=>c.length=k∧R c∧∀j,j<k→w.cell? (a.add (i*k+j))=c[j]?) len each;refine ⟨cs,⟨some a,cap,by rw [h1],oM,by have:maxLen=9223372036854775807:=rfl;omega,fun h0=>?_⟩,fun c hc=>?_⟩
  ·obtain ⟨b,off,sp⟩:=a
   obtain ⟨l0,-,c0⟩:=h2 0 h0;have hc00:=c0 0 hk0;rw [List.getElem?_eq_getElem oM] at hc00;have hsp:sp=none:=by simpa [Addr.add] using World.cell?_spot hc00
   subst hsp;rw [add_plain2] at hc00;obtain ⟨cur,t',fr,hb,-⟩:=cell_block hc00;refine ⟨b,off,cur,t',fr,rfl,hb,fun i c hc j u hj=>?_⟩;have hil:=(List.getElem?_eq_some_iff.1 hc).1;have hie:=(List.getElem?_eq_some_iff.1 hc).2;obtain ⟨li,-,ci⟩:=h2 i hil;rw [hie] at li ci;have hjl:=(List.getElem?_eq_some_iff.1 hj).1;have:=ci j oM;rw [add_plain2,cell_of_row w b _ cur t' fr hb,hj] at this;rw [Nat.add_assoc];exact this
  ·obtain ⟨i,hi,rfl⟩:=List.mem_iff_getElem.1 hc
   exact (h2 i hi).2.1
theorem i64r_of {n:Int} (h:(Lit.int .i64 n).wf=true):i64r n:=i64ok_of h
theorem u8_is {n:Int} (h:(Lit.int .u8 n).wf=true):∃k:UInt8,n=(k.toNat:Int):=by
 simp only [Lit.wf,Bool.and_eq_true,decide_eq_true_eq] at h;have h1:IntKind.u8.min=0:=rfl;have h2:IntKind.u8.max=255:=rfl;refine ⟨UInt8.ofNat n.toNat,?_⟩;rw [UInt8.toNat_ofNat'];omega
theorem fields_of {P:Program} {t:TypeId} {fs:Array Field} {fuel:Nat} {cs:List Value} {x:DataW H × List MemPlace} (ht:P.underlying t=some (.struct fs)) (hone:oneCellFields P fs=true) (hC:P.cellsOf t=fs.size) (h:DataW.trod enc P w base spare held fuel t cs=some x) :
 cs.length=fs.size∧∃n,∀(j:Nat) (f:Field),fs[j]? = some f→∃u y,cs[j]? = some u∧DataW.trod enc P w base spare held n f.type [u]=some y:=by
 obtain ⟨xs,n,_,_,hl,hlen,hf⟩:=DataW.trod_struct ht h;refine ⟨by rw [hl,hC],n,fun j f hj=>?_⟩;have hjl:j<fs.size:=(Array.getElem?_eq_some_iff.1 hj).1;obtain ⟨ho,hk⟩:=hone_of hone j f hj;have h1:=hf j f hj;rw [ho,hk,List.drop_eq_getElem_cons oM] at h1;rw [List.getElem?_eq_getElem (show j<xs.length by omega)] at h1;exact ⟨cs[j]'oM,_,List.getElem?_eq_getElem oM,h1⟩
theorem op_of {fuel:Nat} {cs:List Value} {x:DataW H × List MemPlace} (h:DataW.trod enc Tryz.prog w base spare held fuel 32 cs=some x):∃o:OpM,cs=opRow o∧o.path.length≤9223372036854775807∧o.value.length≤9223372036854775807:=by
 obtain ⟨hl,n,hf⟩:=fields_of Tryz.underlying32 kR kR h;obtain ⟨u0,y0,c0,t0⟩:=hf 0 _ rfl;obtain ⟨u1,y1,c1,t1⟩:=hf 1 _ rfl;obtain ⟨u2,y2,c2,t2⟩:=hf 2 _ rfl;obtain ⟨n0,q0,_,w0⟩:=DataW.trod_int Tryz.underlying5 t0;obtain ⟨s1,q1,_,w1⟩:=DataW.trod_string Tryz.underlying9 t1;obtain ⟨s2,q2,_,w2⟩:=DataW.trod_string Tryz.underlying9 t2;simp only [List.cons.injEq,and_true] at q0 q1 q2;subst q0 q1 q2;obtain ⟨k,rfl⟩:=u8_is w0;match cs,hl with
 | [a,b,c],_ =>
   simp only [List.getElem?_cons_zero,List.getElem?_cons_succ,Option.some.injEq] at c0 c1 c2;subst c0 c1 c2;refine ⟨⟨k,s1.data.toList,s2.data.toList⟩,?_,by rw [len_str];exact w1,by rw [len_str];exact w2⟩;unfold opRow;rw [str_of,str_of]
theorem pair_of {fuel:Nat} {cs:List Value} {x:DataW H × List MemPlace} (h:DataW.trod enc Tryz.prog w base spare held fuel 55 cs=some x):∃p:PairM,cs=pairRow p∧p.1.length≤9223372036854775807∧p.2.length≤9223372036854775807:=by
 obtain ⟨hl,n,hf⟩:=fields_of Tryz.underlying55 kR kR h;obtain ⟨u1,y1,c1,t1⟩:=hf 0 _ rfl;obtain ⟨u2,y2,c2,t2⟩:=hf 1 _ rfl;obtain ⟨s1,q1,_,w1⟩:=DataW.trod_string Tryz.underlying9 t1;obtain ⟨s2,q2,_,w2⟩:=DataW.trod_string Tryz.underlying9 t2;simp only [List.cons.injEq,and_true] at q1 q2;subst q1 q2;match cs,hl with
 | [b,c],_ =>
   simp only [List.getElem?_cons_zero,List.getElem?_cons_succ,Option.some.injEq] at c1 c2;subst c1 c2;refine ⟨(s1.data.toList,s2.data.toList),?_,by rw [len_str];exact w1,by rw [len_str];exact w2⟩;unfold pairRow;rw [str_of,str_of]
theorem mount_of {fuel:Nat} {cs:List Value} {x:DataW H × List MemPlace} (h:DataW.trod enc Tryz.prog w base spare held fuel 46 cs=some x):∃m:MtM,cs=mtRow m∧m.name.length≤9223372036854775807:=by
 obtain ⟨hl,n,hf⟩:=fields_of Tryz.underlying46 kR kR h;obtain ⟨u1,y1,c1,t1⟩:=hf 0 _ rfl;obtain ⟨u2,y2,c2,t2⟩:=hf 1 _ rfl;obtain ⟨s1,q1,_,w1⟩:=DataW.trod_string Tryz.underlying9 t1;obtain ⟨b2,q2,_⟩:=DataW.trod_bool Tryz.underlying4 t2;simp only [List.cons.injEq,and_true] at q1 q2;subst q1 q2;match cs,hl with
 | [b,c],_ =>
   simp only [List.getElem?_cons_zero,List.getElem?_cons_succ,Option.some.injEq] at c1 c2;subst c1 c2;refine ⟨⟨s1.data.toList,b2⟩,?_,by rw [len_str];exact w1⟩;unfold mtRow;rw [str_of]
theorem pick_rows {β : Type} {row : β → List Value} {Q : β → Prop} {cs:List (List Value)} (h:∀c ∈ cs,∃b,c=row b∧Q b):∃l:List β,cs=l.map row∧∀b ∈ l,Q b:=by
 induction cs with
 | nil=>exact ⟨[],rfl,sM⟩
 | cons c r ih =>
   obtain ⟨b,hb,hq⟩:=h c sM;obtain ⟨l,hl,hql⟩:=ih fun c hc=>h c (by simp [hc])
   refine ⟨b::l,by rw [hb,hl];rfl,fun x hx=>?_⟩
   rcases List.mem_cons.1 hx with rfl | hx
   ·exact hq
   ·exact hql x hx
theorem ops_of {fuel:Nat} {v:Value} {x:DataW H × List MemPlace} (h:DataW.trod enc Tryz.prog w base spare held fuel 33 [v]=some x):∃l,OpsIn w v l:=by
 obtain ⟨cs,h1,h2⟩:=rin_of (k:=3) (fun c=>∃o:OpM,c=opRow o∧o.path.length≤9223372036854775807∧o.value.length≤9223372036854775807) Tryz.underlying33 kR oM (fun n cs y hy=>op_of hy) h;obtain ⟨l,rfl,hq⟩:=pick_rows h2;exact ⟨l,h1,hq⟩
theorem prs_of {fuel:Nat} {v:Value} {x:DataW H × List MemPlace} (h:DataW.trod enc Tryz.prog w base spare held fuel 56 [v]=some x):∃l,PrsIn w v l:=by
 obtain ⟨cs,h1,h2⟩:=rin_of (k:=2) (fun c=>∃o:PairM,c=pairRow o∧o.1.length≤9223372036854775807∧o.2.length≤9223372036854775807) Tryz.underlying56 kR oM (fun n cs y hy=>pair_of hy) h;obtain ⟨l,rfl,hq⟩:=pick_rows h2;exact ⟨l,h1,hq⟩
theorem mts_of {fuel:Nat} {v:Value} {x:DataW H × List MemPlace} (h:DataW.trod enc Tryz.prog w base spare held fuel 47 [v]=some x):∃l:List MtM,RIn w 2 v (l.map mtRow)∧∀m ∈ l,m.name.length≤9223372036854775807:=by
 obtain ⟨cs,h1,h2⟩:=rin_of (k:=2) (fun c=>∃o:MtM,c=mtRow o∧o.name.length≤9223372036854775807) Tryz.underlying47 kR oM (fun n cs y hy=>mount_of hy) h;obtain ⟨l,rfl,hq⟩:=pick_rows h2;exact ⟨l,h1,hq⟩
theorem meta_cells {fuel:Nat} {cs:List Value} {x:DataW H × List MemPlace} (h:DataW.trod enc Tryz.prog w base spare held fuel 50 cs=some x):∃m mv,cs=(metaRow m mv).toList∧MetaIn w mv m:=by
 obtain ⟨hl,n,hf⟩:=fields_of Tryz.underlying50 kR kR h;obtain ⟨u0,y0,c0,t0⟩:=hf 0 _ rfl;obtain ⟨u1,y1,c1,t1⟩:=hf 1 _ rfl;obtain ⟨u2,y2,c2,t2⟩:=hf 2 _ rfl;obtain ⟨u3,y3,c3,t3⟩:=hf 3 _ rfl;obtain ⟨u4,y4,c4,t4⟩:=hf 4 _ rfl;obtain ⟨n0,q0,_,w0⟩:=DataW.trod_int Tryz.underlying3 t0;obtain ⟨n1,q1,_,w1⟩:=DataW.trod_int Tryz.underlying3 t1;obtain ⟨n2,q2,_,w2⟩:=DataW.trod_int Tryz.underlying3 t2;obtain ⟨l,w3,w3b⟩:=mts_of t3;obtain ⟨s4,q4,_,w4⟩:=DataW.trod_string Tryz.underlying9 t4;simp only [List.cons.injEq,and_true] at q0 q1 q2 q4;subst q0 q1 q2 q4;match cs,hl with
 | [a,b,c,d,e],_ =>
   simp only [List.getElem?_cons_zero,List.getElem?_cons_succ,Option.some.injEq] at c0 c1 c2 c3 c4;subst c0 c1 c2 c3 c4;refine ⟨⟨n0,n1,n2,l,s4.data.toList⟩,d,?_,w3,w3b,by rw [len_str];exact w4,i64r_of w0,i64r_of w1,i64r_of w2⟩;unfold metaRow;simp only
   rw [str_of]
theorem bat_cells {fuel:Nat} {cs:List Value} {x:DataW H × List MemPlace} (h:DataW.trod enc Tryz.prog w base spare held fuel 35 cs=some x):∃(b:BatM) (ov:Value),cs=[.int .i64 b.index,.int .i64 b.epoch,ov]∧BatIn w ov b:=by
 obtain ⟨hl,n,hf⟩:=fields_of Tryz.underlying35 kR kR h;obtain ⟨u0,y0,c0,t0⟩:=hf 0 _ rfl;obtain ⟨u1,y1,c1,t1⟩:=hf 1 _ rfl;obtain ⟨u2,y2,c2,t2⟩:=hf 2 _ rfl;obtain ⟨n0,q0,_,w0⟩:=DataW.trod_int Tryz.underlying3 t0;obtain ⟨n1,q1,_,w1⟩:=DataW.trod_int Tryz.underlying3 t1;obtain ⟨l,w2⟩:=ops_of t2;simp only [List.cons.injEq,and_true] at q0 q1;subst q0 q1;match cs,hl with
 | [a,b,c],_ =>
   simp only [List.getElem?_cons_zero,List.getElem?_cons_succ,Option.some.injEq] at c0 c1 c2;subst c0 c1 c2;exact ⟨⟨n0,n1,l⟩,c,rfl,w2,i64r_of w0,i64r_of w1⟩
end
end
end Go.Proofs.YtbhjgfibhegddaaGreat
