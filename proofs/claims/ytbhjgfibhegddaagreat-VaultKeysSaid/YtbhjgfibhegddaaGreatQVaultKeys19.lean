/-
  Parts of the proof of VaultKeys: VatS, VatT, VatU, VatV, VatW, VatX, VatY, OpnP, OpnA.
-/
import Derived.Test.YtbhjgfibhegddaaGreatQVaultKeys18
set_option maxRecDepth 100000
set_option maxHeartbeats 16000000
namespace Go.Proofs.YtbhjgfibhegddaaGreat
section
open Go Go.RowKit
section
variable {w w':World} {p v:Nat} {d d':Dk} {V V':VtM} {o o':VtO}
theorem vinstall_c (h:VtAt w p v d V o) (hst:StOk V.st) (hf:PutFit d V) (hn:V.n+1<4611686018427387904) (hp:d.pend+300<1000000) (hl:d.lasts.length=500) (hlog:V.st.log<1000000)
 (m:MetaM) {ty:TypeId} {mv:Value} (hmv:TRow w ty 2 mv (m.mounts.map mtRow)) (hmn:m.seen≤9223372036854775807∧m.grant≤9223372036854775807) (hml:∀x ∈ m.mounts,x.name.length≤1000000)
 (l:List PairM) {tl:TypeId} {lv:Value} (hlv:TRow w tl 2 lv (l.map pairRow)) (hls:∀p ∈ l,p.1.length≤1000000∧p.2.length≤1000000) (at_ ep:Int) (hep:ep≤9223372036854775807) :
 Calls Tryz.prog 21 #[.pointer (some ⟨v,0,none⟩),.agg (metaRow m mv),lv,.int .i64 at_,.int .i64 ep] w fun e w'=>e=.returned (.int .i64 (installV d V m l at_ ep).2.2)∧∃o',VtAt w' p v (installV d V m l at_ ep).1 (installV d V m l at_ ep).2.1 o'∧VtStep w w' v o o':=by
 obtain ⟨A,cap,mb,mo,hmv1,hmv2,hmv3,hmv4,hmv5⟩:=hmv.mts;obtain ⟨LA,lcap,lb,lo,hlv1,hlv2,hlv3,hlv4,hlv5⟩:=hlv.open_;rw [List.length_map] at hlv1 hlv2 hlv3 hlv4;obtain ⟨c,hc⟩:=eqx w.heap.size;obtain ⟨C,hC⟩:=eqx (metaRow m mv);have hCs:C.size=5:=by rw [← hC];rfl
 have H:=h7k h hst hf hn hp hl hlog;have HM:=h8k hmv hmn hml hmv1 hmv2 hmv3 hmv4 hmv5;have HL:=h6k hlv1 hlv2 hlv3 hlv4 hlv5 hls;have HC:=h3k hc hC hCs;have HEP:=Lib.hid hep;rw [hC];clear h hst hf hn hp hl hlog hmv hmn hml hmv1 hmv2 hmv3 hmv4 hmv5 hlv hlv1 hlv2 hlv3 hlv4 hlv5 hls hc hC hCs hep;go_enter Tryz.func21,Tryz.ntmps21
 go_upto_region 1 with fail
 rw [HC.out.1];generalize hw1:World.alloc _ _=w1;have hB1:Blk w1 c 50 C:=by rw [← hw1,← HC.out.1];exact Blk.new w _ _
 have hU1:Upd (fun _=>False) w w1:=by rw [← hw1];exact (Upd.refl _ w).alloc _
 have H1:=h3k hB1 hU1 (H.out.1.still hU1);have HO:=Lib.hid (off_c (H.out.1.still hU1));clear hB1 hU1 hw1;have hset:installV d V m l at_ ep=if offV d V then (d,{ V with down:=true },14) else if rightM m=false∨placeOk at_ ep=false then (d,V,1) else if (ofP l).2≠0 then (d,V,(ofP l).2) else wholeV d V m (ofP l).1 at_ ep:=rfl
 have HS:=Lib.hid hset;clear hset;have HT1:=Lib.hid (VtStep.mk (o:=o) (o':=o) (v:=v) (H1.out.2.1.mono (fun _ e=>e.elim)) (fun q e=>.inl e));cases hoff:offV d V
 ·rw [hoff] at HS HO
  simp only [Bool.false_eq_true,if_false,forall_const] at HO;have hri:=vright_c (w:=w1) (A:=A) (cap:=cap) (b:=mb) (off:=mo) m HM.out.2.2.2.2.2.2.1 (fun w' hu=>HM.out.2.2.2.2.2.2.2 w' (fun _=>False) (H1.out.2.1.then hu (fun _ e=>.inl e)) (fun _ _ e=>e)) HM.out.2.2.2.2.2.1 HM.out.2.2.2.2.1 HM.out.2.2.1;rw [← HM.out.2.2.2.1,HC.out.2.1] at hri;have HR:=Lib.hid hri;clear hri hoff;go_upto_region 4 with (first
   | (go_at_call 53;refine HO.out.mono ?_;rintro e w2 ⟨rfl,-,-,hw2⟩;subst hw2))
  obtain ⟨B1,hB1⟩:∃B,decide (at_=0∧ep=0)=B:=⟨_,rfl⟩;obtain ⟨B2,hB2⟩:∃B,decide (1≤at_∧at_≤4611686018427387904∧1≤ep)=B:=⟨_,rfl⟩;have HB1:=Lib.hid hB1;have HB2:=Lib.hid hB2;clear hB1 hB2;go_cut [12] (fun t12 wx=>t12=.bool B1∧w1=wx)
  case first =>
   cases h1:(at_ == 0)
   ·go_wp2_with fail
    go_meet
    refine ⟨?_,rfl⟩;rw [← HB1.out];have h1':at_≠0:=by simpa using h1
    simp [h1']
   ·go_wp2_with fail
    go_meet
    refine ⟨?_,rfl⟩;rw [← HB1.out];have h1':at_=0:=by simpa using h1
    simp [h1',Bool.beq_eq_decide_eq]
  case rest =>
   obtain ⟨rfl,rfl⟩:=hcut;go_upto_region 5 with fail
   go_cut [13] (fun t13 wx=>t13=.bool B2∧w1=wx)
   case first =>
    by_cases h1:1≤at_<;>by_cases h2:at_≤4611686018427387904<;>by_cases h3:1≤ep<;>
    (go_wp2_with fail
     go_meet
     refine ⟨?_,rfl⟩;rw [← HB2.out];first
      | exact congrArg Value.bool (decide_eq_true (by omega)).symm
      | exact congrArg Value.bool (decide_eq_false (by omega)).symm)
   case rest =>
    obtain ⟨rfl,rfl⟩:=hcut;go_upto_region 6 with fail
    have hplace:placeOk at_ ep=(B1 || B2):=by rw [← HB1.out,← HB2.out];rfl
    obtain ⟨B3,hB3⟩:∃B,(rightM m && placeOk at_ ep)=B:=⟨_,rfl⟩;have HB3:=h2k hB3 hplace;clear hB3 hplace;go_cut [47] (fun t47 wx=>t47=.bool (!B3)∧Upd (fun _=>False) w1 wx)
    case first =>
     obtain ⟨Z,hZ⟩:=eqx (rightM m);have hz3:=HB3.out;rw [hZ] at HR hz3;have HZ3:=Lib.hid hz3;clear hz3 hZ;cases Z<;>cases B1<;>cases B2<;>
     (go_wp2_with (first
       | (refine wpList_load_all rfl _ _ rfl c rfl _ _ _ H1.out.1 Tryz.underlying50 rfl (by rw [HC.out.2.2];kernel_rfl) ?_)
       | (go_at_call 41;refine HR.out.mono ?_;rintro e w3 ⟨rfl,hU3⟩;have H3:=Lib.hid hU3;clear hU3))
      go_meet
      refine ⟨?_,H3.out⟩;rw [← HZ3.out.1,HZ3.out.2];rfl)
    case rest =>
     obtain ⟨rfl,hU3⟩:=hcut;have h3:=H1.out.2.2.still hU3;have hT3:=HT1.out.still hU3;have hUw3:=H1.out.2.1.then hU3 (fun _ e=>.inl e);have hB3c:=H1.out.1.upd hU3 (fun e=>e);have H3:=h4k h3 hT3 hUw3 hB3c;clear h3 hT3 hUw3 hB3c hU3;cases hb:B3
     ·have hno:rightM m=false∨placeOk at_ ep=false:=by
       have:=HB3.out.1;rw [hb] at this;cases hr:rightM m
       ·exact .inl rfl
       ·rw [hr] at this;exact .inr (by simpa using this)
      have HNO:=Lib.hid hno;clear hno hb;go_wp2_with fail
      go_ret
      rw [HS.out,if_neg (by simp),if_pos HNO.out];exact ⟨rfl,o,H3.out.1,H3.out.2.1⟩
     ·have hyes:rightM m=true∧placeOk at_ ep=true:=by
       have:=HB3.out.1;rw [hb] at this;simpa using this
      have HY:=Lib.hid hyes;have hof:=oof_c (w:=wc) (A:=LA) (cap:=lcap) (b:=lb) (off:=lo) (l:=l) HL.out.2.2.2.1 (fun w' hu i hi=>HL.out.2.2.2.2.1 w' (fun _=>False) (H3.out.2.2.1.then hu (fun _ e=>.inl e)) (fun _ _ e=>e) i (pairRow l[i]) (by simp [hi])) HL.out.2.2.2.2.2 HL.out.2.2.1;rw [← HL.out.1] at hof;have HOF:=Lib.hid hof;clear hyes hb hof;obtain ⟨R,hR⟩:=eqx (ofP l);rw [hR] at HS;by_cases h0:R.2=0
      ·have HE:=h2k hR h0
       clear hR h0;go_upto_region 9 with (first
        | (go_at_call 75;refine HOF.out.mono ?_;intro e w4 hE4
           obtain ⟨m2,mb2,rfl,hm4,hm5,hm6⟩:=hE4.yes (by rw [HE.out.1];exact HE.out.2);have H4:=h4k hm4 hm5 hm6 hE4.upd;clear hm4 hm5 hm6 hE4))
       have hwc:w.heap.size≤wc.heap.size:=H3.out.2.2.1.size;have h4:=H3.out.1.still H4.out.2.2.2;have hmv4:=(HM.out.1.still H3.out.2.2.1).still H4.out.2.2.2;have hown:=own_c m hmv4 (rightM_ok HY.out.1).mts;rw [HC.out.2.1] at hown;have HOW:=Lib.hid hown;have hB4:=H3.out.2.2.2.upd H4.out.2.2.2 (fun e=>e);have hwst:StOk (V.st.whole m at_ ep):=by
        have hst:=H.out.2.1;have hpk:=HY.out.2;have he:=HEP.out;unfold placeOk at hpk;simp only [Bool.or_eq_true,decide_eq_true_eq] at hpk;refine ⟨HY.out.1,⟨?_,?_,?_,?_⟩,?_,?_,hst.key,hst.boot,HM.out.2.1⟩
        ·show 0≤at_;omega
        ·show at_≤_;omega
        ·show 0≤ep;omega
        ·show ep≤_;omega
        ·show 1+V.st.slot % 2≤2;omega
        ·show V.st.log+1≤1000000
         have:=H.out.2.2.2.2.2.2;omega
       have hmF:mb2 ∉ o.F:=fun e=>by
        have h1:=H.out.1.lt (i:=1) (by decide) e;have h2:=H4.out.2.2.1;omega
       have hmk:mb2≠o.rk:=fun e=>by
        have h1:=H.out.1.lt (i:=5) (q:=o.rk) (by decide) (.inr (.inl rfl));have h2:=H4.out.2.2.1;omega
       have HW:=Lib.hid (fun (w5:World) (mv':Value) (hR5:TRow w5 46 2 mv' (m.mounts.map mtRow)) (hU5:Upd (fun _=>False) w4 w5)=>whole_x (h4.still hU5) m hR5 (ofP l).1 (H4.out.1.still hU5) hmF hmk at_ ep hwst H.out.2.2.1 H.out.2.2.2.1 H.out.2.2.2.2.1 H.out.2.2.2.2.2.1 H.out.2.2.2.2.2.2 H.out.2.1.slot);have HB4:=Lib.hid hB4;clear h4 hmv4 hown hB4 hwst hmF hmk hwc;go_wp2_with (first
        | (refine wpList_load_all rfl _ _ rfl c rfl _ _ _ HB4.out Tryz.underlying50 rfl (by rw [HC.out.2.2];kernel_rfl) ?_)
        | (go_at_call 76
           refine HOW.out.mono ?_;rintro e w5 ⟨mv',rfl,hR5,hU5⟩;have H5:=h2k hR5 hU5;clear hR5 hU5)
        | (go_at_call 56
           refine (HW.out _ _ H5.out.1 H5.out.2).mono ?_;rintro e w6 ⟨rfl,o6,h6,k6,km⟩;have H6:=h3k h6 k6 km;clear h6 k6 km))
       go_ret
       rw [HS.out,if_neg (by simp),if_neg (by rw [HY.out.1,HY.out.2];simp),if_neg (by rw [HE.out.2];simp),← HE.out.1]
       refine ⟨rfl,o6,H6.out.1,(((H3.out.2.1.still H4.out.2.2.2).still H5.out.2).trans H6.out.2.1).re (m:=o6.m) (mb:=o6.mb) ?_⟩;rcases H6.out.2.2 with e | e | e
       ·exact .inl e
       ·rw [e]
        exact .inr (Nat.le_trans H3.out.2.1.upd.size H4.out.2.2.1)
       ·exact .inr (Nat.le_trans ((H3.out.2.1.still H4.out.2.2.2).still H5.out.2).upd.size e)
      ·obtain ⟨E,hE⟩:=eqx R.2
       have HE:=h2k hR hE;rw [hE] at h0;have hE0:(E != 0)=true:=by simpa using h0
       have H0:=Lib.hid h0;clear hR hE h0;go_wp2_with (first
        | (go_at_call 75;refine HOF.out.mono ?_;intro e w4 hE4
           obtain rfl:=hE4.no (by rw [HE.out.1,HE.out.2];exact H0.out);rw [HE.out.1,HE.out.2];have H4:=Lib.hid hE4.upd;clear hE4))
       go_ret
       rw [HS.out,if_neg (by simp),if_neg (by rw [HY.out.1,HY.out.2];simp),HE.out.2,if_pos H0.out]
       exact ⟨rfl,o,H3.out.1.still H4.out,H3.out.2.1.still H4.out⟩
 ·rw [hoff] at HS HO
  simp only [if_true] at HO;go_wp2_with (first
   | (go_at_call 53;refine HO.out.mono ?_;rintro e w2 ⟨rfl,h2,k2,-⟩;have H2:=h2k h2 k2;clear h2 k2))
  go_ret
  rw [HS.out];exact ⟨rfl,o,H2.out.1,HT1.out.trans H2.out.2⟩
end
end
section
open Go Go.RowKit
structure LgFit (g:Lg):Prop where
 from_:g.from_≤5000
 sectors:g.sectors≤5000
 used:g.used≤g.sectors
 len:g.l.length≤g.used
 epoch:g.epoch<18446744073709551616
 last:g.last<18446744073709551616
 salt:g.salt<18446744073709551616
theorem loopG_fit:∀(n:Nat) (g:Lg) (row:List Lp),LgFit g→g.used+row.length≤g.sectors→(∀q ∈ row,q.salt<18446744073709551616)→LgFit (loopG n g row)
 | 0,_,_,h,_,_=>h
 | n + 1,g,row,h,hu,hs=>by
   unfold loopG;split
   ·rename_i hf
    obtain ⟨h1,h2,h3,h4⟩:=firstG_parts hf;refine loopG_fit n _ _ ⟨h.from_,h.sectors,?_,?_,h.epoch,?_,h.salt⟩ ?_ (fun q hq=>hs q (List.mem_of_mem_drop hq))
    ·show g.used+_≤g.sectors
     omega
    ·show (g.l++[_]).length≤g.used+_
     have:=h.len;rw [List.length_append,List.length_singleton];omega
    ·show (row.headD _).salt<_
     cases row with
     | nil=>simp at h1
     | cons a r=>exact hs a (by simp)
    ·show g.used+_+(row.drop _).length≤g.sectors
     rw [List.length_drop];omega
   ·exact h
theorem openG_fit {d:Dk} {f n e:Nat} {g:Lg} (hf:f≤5000) (hn:n≤5000) (he:e<18446744073709551616) (h:openG d f n e=some g):LgFit g:=by
 unfold openG at h;split at h
 ·cases h
 ·cases h
  have h1:=scanAt_len d f n;have h2:=scanAt_ok d f n;exact loopG_fit _ _ _ ⟨hf,hn,by show 0≤n;omega,by simp,he,by show 0<_;omega,h2.2⟩ (by show 0+_≤n;omega) (fun q hq=>(h2.1 q hq).2.2)
theorem Add_any {w:World} {p b:Nat} {d:Dk} {F:List Nat} {g:Lg} {v:Value} (hD:DiskAt w p d F) (hB:Blk w b 199 (g.cells p v)) (hO:Own w 9 1 v g.l.length (strs g.l)) (hsep:∀q,v.ownBlock=some q→q ∉ F) (s:ByteArray)
 (hg:LgFit g) (hp:d.pend+40<1000000) :
 Calls Tryz.prog 58 #[.pointer (some ⟨b,0,none⟩),.string s] w fun e w'=>e=.returned (.int .i64 (addG d g s).2.2)∧AddLeft w w' p b (addG d g s).1 (addG d g s).2.1 F v:=by
 have hlen:=hg.len;have hused:=hg.used;have hsec:=hg.sectors;have hsalt:=hg.salt;by_cases h:g.broken=true∨1024<s.size∨g.sectors - g.used<partsOf s.size∨g.salt=18446744073709551615
 ·refine (Add_refused (p:=p) ⟨v,hB,hO⟩ s hg.used hg.sectors h).mono ?_
  rintro e w' ⟨rfl,hu⟩;have hno:AddLeft w w' p b d g F v:=⟨⟨F,v,hD.upd hu (fun _ _ e=>e),fun q e=>.inl e,hB.upd hu (fun e=>e),hO.upd hu (fun _ _ e=>e),fun q e=>.inl e,hsep⟩,hu.mono (fun _ e=>e.elim)⟩;unfold addG;by_cases h1:g.broken=true
  ·rw [if_pos h1,if_pos h1];exact ⟨rfl,hno⟩
  ·rw [if_neg h1,if_neg h1]
   by_cases h2:1024<s.size
   ·rw [if_pos h2,if_pos h2];exact ⟨rfl,hno⟩
   ·rw [if_neg h2,if_neg h2,if_pos (by rcases h with h | h | h;exact absurd h h1;exact absurd h h2;exact h)];exact ⟨rfl,hno⟩
 ·simp only [not_or] at h
  exact Add_goes hD hB hO hsep s (by simpa using h.1) (by omega) (by omega) (by omega) hg.from_ hg.sectors hg.used (by omega) hg.epoch hg.last hp
end
section
open Go Go.RowKit
theorem Dk.sync_dry {d:Dk} (h:d.sync.2=0):d.sync.1.pend=0:=by
 unfold Dk.sync at h ⊢;split at h
 ·simp at h
 ·rename_i ho
  rw [if_neg ho];split at h
  ·rename_i hb
   rw [if_pos hb];exact Dk.flush_pend _
  ·simp at h
theorem putK_dry {d:Dk} {k:Kp} {t:List UInt8} (h:(putK d k t).2.2=0):(putK d k t).1.pend=0:=by
 unfold putK at h ⊢;split at h
 ·simp at h
 rename_i h1
 rw [if_neg h1];split at h
 ·simp at h
 rename_i h2
 rw [if_neg h2];split at h
 ·simp at h
 rename_i h3
 rw [if_neg h3];split at h
 ·rename_i h4;exact absurd h h4
 rename_i h4
 rw [if_neg h4];split at h
 ·rename_i h5;exact absurd h h5
 rename_i h5
 rw [if_neg h5];exact Dk.sync_dry (by simpa using h5)
structure PutOk (D:Dk) (V W:VtM) (s:StM):Prop where
 pend:D.pend=0
 S:W.S=V.S
 at_:W.at_=V.at_
 epoch:W.epoch=V.epoch
 rows:W.rows=V.rows
 prev:W.prev=V.prev
 st:W.st=s
 lg:W.lg=V.lg
 cur:W.cur=V.cur
 n:W.n=V.n+1
theorem putV_ok {d:Dk} {V:VtM} {s:StM} (h:(putV d V s).2.2=0):PutOk (putV d V s).1 V (putV d V s).2.1 s:=by
 unfold putV at h ⊢;split at h
 ·rename_i h1;exact absurd h h1
 ·rename_i h1
  rw [if_neg h1];exact ⟨putK_dry (by simpa using h1),rfl,rfl,rfl,rfl,rfl,rfl,rfl,rfl,rfl⟩
structure WholeOk (D:Dk) (V W:VtM) (m:MetaM) (x:List PairM) (a ep:Int):Prop where
 pend:D.pend=0
 S:W.S=x
 at_:W.at_=a
 epoch:W.epoch=ep
 rows:W.rows=[]
 st:W.st=V.st.whole m a ep
 lg:LgFit W.lg
 cur:W.cur=V.cur
 n:W.n=V.n+2
theorem wholeV_ok {d:Dk} {V:VtM} {m:MetaM} {x:List PairM} {at_ ep:Int} (hlog:V.st.log<1000000) (h:(wholeV d V m x at_ ep).2.2=0):WholeOk (wholeV d V m x at_ ep).1 V (wholeV d V m x at_ ep).2.1 m x at_ ep:=by
 unfold wholeV at h ⊢;simp only at h ⊢
 split at h
 ·rename_i h1;exact absurd h h1
 rename_i h1
 rw [if_neg h1];split at h
 ·rename_i h2;exact absurd h h2
 rename_i h2
 rw [if_neg h2];have hok:=putV_ok (show _=(0:Int) by simpa using h2);cases hg:openG (putV (writeSlotD d (V.st.whole m at_ ep).slot (V.wrap sMap (pairsB x))).1 V.next (V.st.whole m at_ ep)).1 20 320 (V.st.whole m at_ ep).log with
 | none=>rw [hg] at h;simp at h
 | some g =>
   simp only
   exact ⟨hok.pend,rfl,rfl,rfl,rfl,hok.st,openG_fit (by omega) (by omega) (by show V.st.log+1<_;omega) hg,hok.cur,hok.n⟩
end
section
open Go Go.RowKit
section
variable {w w':World} {p v:Nat} {d d':Dk} {V V':VtM} {o o':VtO}
theorem addV_same {d:Dk} {V:VtM} {b:BatM} {X:List PairM} (h:V.S=X):((addV d V b).1,(if (addV d V b).2.2=0 then { (addV d V b).2.1 with S:=doL X b.ops } else (addV d V b).2.1),(addV d V b).2.2)=addV d V b:=by
 subst h;unfold addV;simp only
 obtain ⟨R,hR⟩:=eqx (addG d V.lg (str (V.wrap sLog (batT b))));rw [hR];by_cases h1:R.2.2=0
 ·simp [h1,VtM.does,VtM.next]
 ·simp [h1]
theorem VtAt.map_ (h:VtAt w p v d V o) (hu:Upd (· = v) w w') {X:List PairM} {m2 mb2:Nat} (hB:Blk w' v 117 (vtRow V p { o with m:=m2 })) (hm:MapAt w' m2 mb2 X) (h1:mb2 ∉ o.F) (h2:mb2≠o.rk) :
 VtAt w' p v d { V with S:=X } { o with m:=m2,mb:=mb2 } ∧ VtStep w w' v o o:=by
 have hz:∀q,q=v→o.mut v q:=fun q e=>.inl e
 exact ⟨h.cells_ hu rfl rfl rfl rfl rfl hB rfl rfl rfl rfl (h.log.upd hu (h.not_v (j:=3) (by decide) rfl)) (h.recs.upd hu (fun q e=>h.not_v (j:=4) (by decide) e)) h.sep hm h1 h2 (h.rows.upd hu (fun q e=>h.not_v (j:=6) (by decide) e)) h.ovl (h.keep_each hu hz) (h.keep_mts hu hz),
  VtStep.mk_ (hu.mono fun q e=>.inl (hz q e)) _ rfl (fun q e=>.inl e) (.inl rfl) (.inl rfl) (fun q e=>.inl e) (fun q e=>.inl e) (fun q e=>.inl e)⟩
theorem vcommit_c (h:VtAt w p v d V o) (hst:StOk V.st) (hf:PutFit d V) (hn:V.n+3<4611686018427387904) (hp:d.pend+600<1000000) (hl:d.lasts.length=500) (hlog:V.st.log<1000000) (hg:LgFit V.lg) (hr:V.rows.length≤24) (hat:PlaceIs V.at_ V.epoch)
 (b:BatM) {ty:TypeId} {ov:Value} (hov:TRow w ty 3 ov (b.ops.map opRow)) (hofar:∀W,Upd (o.mut v) w W→TRow W ty 3 ov (b.ops.map opRow)) (hbs:OpsSmall b.ops) (hbe:b.epoch≤9223372036854775807) :
 Calls Tryz.prog 15 #[.pointer (some ⟨v,0,none⟩),.agg #[.int .i64 b.index,.int .i64 b.epoch,ov]] w fun e w'=>e=.returned (.int .i64 (commitV d V b).2.2)∧∃o',VtAt w' p v (commitV d V b).1 (commitV d V b).2.1 o'∧VtStep w w' v o o':=by
 obtain ⟨A,cap,ob,oo,hov1,hov2,hov3,hov4,hov5⟩:=hov.ops;obtain ⟨c,hc⟩:=eqx w.heap.size;have hone:=hov.one;have H:=Lib.hid (And.intro h (And.intro hst (And.intro hf (And.intro hn (And.intro hp (And.intro hl (And.intro hlog (And.intro hg (And.intro hr hat)))))))));have HV:=Lib.hid (And.intro hov (And.intro hov1 (And.intro hov2 (And.intro hov3 (And.intro hov4 (And.intro hov5 (And.intro hbs (And.intro hbe hone))))))));have HC:=Lib.hid hc;have HOFAR:=Lib.hid hofar;clear h hofar hst hf hn hp hl hlog hg hr hat hov hov1 hov2 hov3 hov4 hov5 hbs hbe hc hone;go_enter Tryz.func15,Tryz.ntmps15
 go_upto_region 1 with fail
 rw [HC.out];generalize hw1:World.alloc _ _=w1;have hB1:Blk w1 c 35 #[.int .i64 b.index,.int .i64 b.epoch,ov]:=by rw [← hw1,← HC.out];exact Blk.new w _ _
 have hU1:Upd (fun _=>False) w w1:=by rw [← hw1];exact (Upd.refl _ w).alloc _
 have H1:=h3k hB1 hU1 (H.out.1.still hU1);have HO:=Lib.hid (off_c (H.out.1.still hU1));clear hB1 hU1 hw1;have hset:commitV d V b=if offV d V then (d,{ V with down:=true },14) else if batErr b.index b.epoch b.ops≠0 then (d,V,batErr b.index b.epoch b.ops) else if b.index≠V.at_+1∨b.epoch<V.epoch then (d,V,1) else
  if doE V.S b.ops≠0 then (d,V,doE V.S b.ops) else
  if 24≤V.rows.length then (if (wholeV d V V.st.m V.S V.at_ V.epoch).2.2≠0 then wholeV d V V.st.m V.S V.at_ V.epoch else
   ((addV (wholeV d V V.st.m V.S V.at_ V.epoch).1 (wholeV d V V.st.m V.S V.at_ V.epoch).2.1 b).1,if (addV (wholeV d V V.st.m V.S V.at_ V.epoch).1 (wholeV d V V.st.m V.S V.at_ V.epoch).2.1 b).2.2=0 then { (addV (wholeV d V V.st.m V.S V.at_ V.epoch).1 (wholeV d V V.st.m V.S V.at_ V.epoch).2.1 b).2.1 with S:=doL V.S b.ops } else (addV (wholeV d V V.st.m V.S V.at_ V.epoch).1 (wholeV d V V.st.m V.S V.at_ V.epoch).2.1 b).2.1,(addV (wholeV d V V.st.m V.S V.at_ V.epoch).1 (wholeV d V V.st.m V.S V.at_ V.epoch).2.1 b).2.2))
  else addV d V b:=rfl
 have HS:=Lib.hid hset;clear hset;have HT1:=Lib.hid (VtStep.mk (o:=o) (o':=o) (v:=v) (H1.out.2.1.mono (fun _ e=>e.elim)) (fun q e=>.inl e));cases hoff:offV d V
 ·rw [hoff] at HS HO
  simp only [Bool.false_eq_true,if_false,forall_const] at HO;clear hoff;by_cases hE:batErr b.index b.epoch b.ops=0
  ·have HE := Lib.hid hE
   obtain ⟨b1,b2,b3,b4,b5⟩:=batErr_zero hE;have HB0:=h5k b1 b2 b3 b4 b5;obtain ⟨ni,hni⟩:∃n:Nat,b.index=n:=⟨b.index.toNat,by omega⟩;obtain ⟨ne,hne⟩:∃n:Nat,b.epoch=n:=⟨b.epoch.toNat,by omega⟩;have hby:=bbytes_ok (w:=w1) (A:=A) (cap:=cap) (b:=ob) (off:=oo) (l:=b.ops) (i:=ni) (ep:=ne) HV.out.2.2.2.2.1 (fun w' hu=>HV.out.2.2.2.2.2.1 w' (fun _=>False) (H1.out.2.1.then hu (fun _ e=>.inl e)) (fun _ _ e=>e)) HV.out.2.2.2.2.2.2.1 (by have:=HV.out.2.2.2.2.2.2.2.1;omega) (by rw [← hni,← hne];exact hE);have hbt:batB ni ne b.ops=batT b:=by unfold batT;rw [hni,hne];rfl
   rw [← HV.out.2.1,← hni,← hne,hbt] at hby;have HBY:=Lib.hid hby;clear hE b1 b2 b3 b4 b5 hby hbt hni hne;go_upto_region 7 with (first
    | (go_at_call 53;refine HO.out.mono ?_;rintro e w2 ⟨rfl,-,-,hw2⟩;subst hw2)
    | (refine wpList_load_all rfl _ _ rfl c rfl _ _ _ H1.out.1 Tryz.underlying35 rfl (by kernel_rfl) ?_)
    | (go_at_call 54;refine HBY.out.mono ?_;rintro e w3 ⟨rfl,hU3⟩;have H3:=Lib.hid hU3;clear hU3))
   have h3:=H1.out.2.2.still H3.out;have hB3:=H1.out.1.upd H3.out (fun e=>e);have hUw3:=H1.out.2.1.then H3.out (fun _ e=>.inl e);have K3:=h4k h3 hB3 hUw3 (HT1.out.still H3.out);have cb0:w3.cell? ⟨c,0,none⟩=some (.int .i64 b.index):=hB3.cell 0;have cb1:w3.cell? ⟨c,1,none⟩=some (.int .i64 b.epoch):=hB3.cell 1;have cb2:w3.cell? ⟨c,2,none⟩=some ov:=hB3.cell 2;have cv0:w3.cell? ⟨v,0,none⟩=some (.pointer (some ⟨o.m,0,none⟩)):=h3.blk.cell 0;have cv1:w3.cell? ⟨v,1,none⟩=some (.int .i64 V.at_):=h3.blk.cell 1;have cv2:w3.cell? ⟨v,2,none⟩=some (.int .i64 V.epoch):=h3.blk.cell 2;have wa:IntKind.i64.wrap (V.at_+1)=V.at_+1:=IntWalk.i64_in _ (by have:=H.out.2.2.2.2.2.2.2.2.2.at0;have:=H.out.2.2.2.2.2.2.2.2.2.at1;omega);clear h3 hB3 hUw3;by_cases hi:b.index=V.at_+1
   ·have hi0 : (b.index != V.at_+1)=false:=by simp [hi]
    have HI:=Lib.hid hi;clear hi;by_cases he:b.epoch<V.epoch
    ·have he0:decide (b.epoch<V.epoch)=true:=by simpa using he
     have HE2:=Lib.hid he;clear he;go_quiet (fail)
     go_wp2_with fail
     go_ret
     rw [HS.out,if_neg (by simp),if_neg (by rw [HE.out];simp),if_pos (.inr HE2.out)]
     exact ⟨rfl,o,K3.out.1.still ((Upd.refl _ _).drewN _),K3.out.2.2.2.still ((Upd.refl _ _).drewN _)⟩
    ·have he0 : decide (b.epoch<V.epoch)=false:=by simpa using he
     have HE2:=Lib.hid he;clear he;have HTW:=Lib.hid (fun n=>otwin_c (K3.out.1.still ((Upd.refl (fun _=>False) w3).drewN n)).map);have HDO:=Lib.hid (fun (W:World) (m2 mb2:Nat) (hU:Upd (fun _=>False) w3 W) (hm:MapAt W m2 mb2 V.S)=>odo_c hm (A:=A) (cap:=cap) (b:=ob) (off:=oo) (l:=b.ops) HV.out.2.2.2.2.1 (fun w' hu=>HV.out.2.2.2.2.2.1 w' (fun _=>False) ((K3.out.2.2.1.then hU (fun _ e=>.inl e)).then hu (fun _ e=>.inl e)) (fun _ _ e=>e)) HV.out.2.2.2.2.2.2.1 HV.out.2.2.2.1);rw [← HV.out.2.1] at HDO;have hrows:(V.rows.length:Int)=(V.rows.length:Int):=rfl;by_cases hD:doE V.S b.ops=0
     ·have HD0:=Lib.hid hD
      rw [hD] at HDO;clear hD hrows;go_quiet (fail)
      go_upto_region 13 with (first
       | (go_at_call 55;refine (HTW.out _).mono ?_;rintro e w5 ⟨m2,mb2,rfl,hm5,hm5a,hm5b,hU5⟩
          have cb25:w5.cell? ⟨c,2,none⟩=some ov:=(K3.out.2.1.upd (((Upd.refl (fun _=>False) w3).drewN _).then hU5 (fun _ e=>.inl e)) (fun e=>e)).cell 2;have H5:=h4k hm5 hm5a hm5b (((Upd.refl (fun _=>False) w3).drewN _).then hU5 (fun _ e=>.inl e));clear hm5 hm5a hm5b hU5)
       | (go_at_call 36;refine (HDO.out _ _ _ H5.out.2.2.2 H5.out.1).mono ?_;rintro e w6 ⟨rfl,hD6⟩
          obtain ⟨mb6,hm6,hm6a,hU6⟩:=hD6.yes HD0.out;have H6:=h3k hm6 hm6a hU6;clear hD6 hm6 hm6a hU6))
      obtain ⟨RA,rcap,hrv,-,-⟩:=K3.out.1.rows.shape;have hU36:Upd (fun _=>False) w3 w6:=H5.out.2.2.2.then H6.out.2.2 (fun q e=>.inr (by have e2:q=m2:=e;have h1:=H5.out.2.1;have e3:(w3.drewN nq).heap.size=w3.heap.size:=rfl;omega));have h6:=K3.out.1.still hU36;have cv3:w6.cell? ⟨v,3,none⟩=some (.slice RA V.rows.length rcap):=by rw [← hrv];exact h6.blk.cell 3
      have hq6:c<w6.heap.size∧m2<w6.heap.size∧mb6<w6.heap.size:=⟨(K3.out.2.1.upd hU36 (fun e=>e)).lt,H6.out.1.lt.1,H6.out.1.lt.2⟩;have hqw:w.heap.size≤c∧w.heap.size≤m2∧w.heap.size≤mb6:=by
       have h1:=HC.out;have h2:=H5.out.2.1;have h3:=H6.out.2.1;have h4:=K3.out.2.2.1.size;have h5:=H5.out.2.2.2.size;have e3:(w3.drewN nq).heap.size=w3.heap.size:=rfl;omega
      have H6A:=h5k h6 hU36 (K3.out.2.1.upd hU36 (fun e=>e)) hq6 hqw;have hov6:TRow w6 ty 3 ov (b.ops.map opRow):=(HV.out.1.still K3.out.2.2.1).still hU36;have HOV6:=Lib.hid hov6;clear hrv hU36 h6 hq6 hqw hov6;by_cases h24:24≤V.rows.length
      ·have h24':(24:Int)≤(V.rows.length:Int):=by omega
       obtain ⟨D5,hD5⟩:∃D,metaRow V.st.m o.mv=D:=⟨_,rfl⟩;have hD52:((vtRow V p o).toList.drop 9).take 5=D5.toList:=by rw [← hD5];rfl
       have hD53:D5.size=5:=by rw [← hD5];rfl
       have HD5:=h3k hD5 hD52 hD53;have HH24:=Lib.hid h24;clear h24 hD5 hD52 hD53;go_upto_region 14 with fail
       have h6d:=H6A.out.1.still (Upd.refl (fun _=>False) w6).drew;have hwst:StOk (V.st.whole V.st.m V.at_ V.epoch):=by
        have hst:=H.out.2.1;refine ⟨hst.right,H.out.2.2.2.2.2.2.2.2.2,?_,?_,hst.key,hst.boot,hst.mn⟩
        ·show 1+V.st.slot % 2≤2;omega
        ·show V.st.log+1≤1000000
         have:=H.out.2.2.2.2.2.2.1;omega
       have hwh:=whole_c h6d V.st.m h6d.mts V.S h6d.map h6d.mbF h6d.mbk (.inl rfl) V.at_ V.epoch hwst H.out.2.2.1 (by have:=H.out.2.2.2.1;omega) (by have:=H.out.2.2.2.2.1;omega) H.out.2.2.2.2.2.1 H.out.2.2.2.2.2.2.1 H.out.2.1.slot;have hwok:=fun e=>wholeV_ok (d:=d) (V:=V) (m:=V.st.m) (x:=V.S) (at_:=V.at_) (ep:=V.epoch) H.out.2.2.2.2.2.2.1 e
       rw [HD5.out.1] at hwh;obtain ⟨Y,hY⟩:=eqx (wholeV d V V.st.m V.S V.at_ V.epoch);rw [hY] at hwh hwok HS;obtain ⟨E1,hE1⟩:∃E,Y.2.2=E:=⟨_,rfl⟩;rw [hE1] at hwh hwok HS;have HWH:=h3k hwh hwok hE1;clear hwh hwok hE1 hY hwst h6d;refine wp_region_noPanic ?_;refine wp_region_T (S:=fun w'=>Blk w' v 117 (vtRow V p o)) (T:=fun i=>i == 21 || i == 22) (by kernel_rfl) ?_;have hS0:Blk w6.drew v 117 (vtRow V p o):=H6A.out.1.blk.drew;refine tk8 0 ?_;simp only [tkS];refine tk8 1 ?_;simp only [tkS];refine tk8 2 ?_;simp only [tkS];refine tk8 3 ?_;simp only [tkS];refine tk8 4 ?_;simp only [tkS];refine wpAnyT_take8 (i:=5) (v:=.agg D5) rfl (by kernel_rfl) (by kernel_rfl) (by kernel_rfl) (by kernel_rfl) (fun _ _ _ h=>h) (takes_load_part rfl (by rfl) _ _ rfl v 9 (by rfl) _ _ D5.toList _ (fun w' hSw=>hSw) (part_get HD5.out.2.1) Tryz.underlying50 rfl (by rw [Array.length_toList,HD5.out.2.2];kernel_rfl)) (by assumption) (by kernel_rfl) ?_
       simp only [tkS];refine tk8 6 ?_;simp only [tkS];refine tk8 7 ?_;simp only [tkS];refine tk8 8 ?_;simp only [tkS];refine tk8 9 ?_;simp only [tkS];refine tk8 10 ?_ rfl (by intro w' hSw;have ck:w'.cell? ⟨v,0,none⟩=some (.pointer (some ⟨o.m,0,none⟩)):=hSw.cell 0;go_split_ands;first | (go_simp;done) | (go_simp;rfl) | rfl)
       simp only [tkS];refine tk8 11 ?_;simp only [tkS];refine tk8 12 ?_;simp only [tkS];refine tk8 13 ?_;simp only [tkS];refine tk8 14 ?_;simp only [tkS];refine tk8 15 ?_ rfl (by intro w' hSw;have ck:w'.cell? ⟨v,1,none⟩=some (.int .i64 V.at_):=hSw.cell 1;go_split_ands;first | (go_simp;done) | (go_simp;rfl) | rfl)
       simp only [tkS];refine tk8 16 ?_;simp only [tkS];refine tk8 17 ?_;simp only [tkS];refine tk8 18 ?_;simp only [tkS];refine tk8 19 ?_;simp only [tkS];refine tk8 20 ?_ rfl (by intro w' hSw;have ck:w'.cell? ⟨v,2,none⟩=some (.int .i64 V.epoch):=hSw.cell 2;go_split_ands;first | (go_simp;done) | (go_simp;rfl) | rfl)
       simp only [tkS];refine wpAnyT_oneT (i:=21) (by kernel_rfl) rfl (by kernel_rfl) (fun KK hKK=>?_);go_simp
       refine HWH.out.1.mono ?_;rintro e w7 ⟨rfl,o7,h7,k7⟩;refine hKK.out _ _ ?_;clear hKK;have H7:=h2k h7 k7;clear h7 k7;refine wpAnyT_oneT (i:=22) (by kernel_rfl) rfl (by kernel_rfl) (fun KK hKK=>?_);go_simp
       refine hKK.out _ _ ?_;clear hKK;refine wpAnyT_done (by kernel_rfl) ?_ _;refine NoPanic.normal ?_;clear hS0;by_cases hz:E1=0
       ·subst hz
        have hok:=HWH.out.2.1 rfl;have hqo:∀q,w.heap.size≤q→¬o.mut v q:=fun q h1 e=>by obtain ⟨i,hi,he⟩:=VtO.mut_cl (o:=o) e;have:=H.out.1.lt hi he;omega
        have HT:=Lib.hid (show VtAt w7 p v Y.1 Y.2.1 o7∧VtStep w w7 v o o7∧∀q,w.heap.size≤q→q<w6.heap.size→¬o7.mut v q from ⟨H7.out.1,((K3.out.2.2.2.still H6A.out.2.1).still (Upd.refl (fun _=>False) w6).drew).trans H7.out.2,fun q h1 h2 e=>(H7.out.2.sub q e).elim (hqo q h1) (fun e=>by have e3:w6.drew.heap.size=w6.heap.size:=rfl;omega)⟩);have HFIN:=Lib.hid (show commitV d V b=addV Y.1 Y.2.1 b by rw [HS.out,if_neg (by simp),if_neg (by rw [HE.out];simp),if_neg (by have h1:=HI.out;have h2:=HE2.out;omega),if_neg (by rw [HD0.out];simp),if_pos HH24.out,if_neg (by simp),addV_same hok.S])
        have HN:=Lib.hid (show Y.2.1.cur≤1048576∧Y.2.1.st.boot<4294967296∧Y.2.1.n<4611686018427387904∧LgFit Y.2.1.lg∧Y.1.pend+40<1000000∧Y.2.1.rows.length≤1000∧Y.2.1.S=V.S from ⟨by rw [hok.cur];exact H.out.2.2.1.cur,by rw [hok.st];show V.st.boot<_;have:=H.out.2.1.boot;omega,by rw [hok.n];have:=H.out.2.2.2.1;omega,hok.lg,by rw [hok.pend];omega,by rw [hok.rows];simp,hok.S⟩)
        have HWZ:=Lib.hid (show w6.heap.size≤w7.heap.size from H7.out.2.upd.size);have HCB:=h2k (H6A.out.2.2.1.drew.upd H7.out.2.upd (hqo c H6A.out.2.2.2.2.1)) H6A.out.2.2.2.2.1;have HMP:=h4k ((H6.out.1.still (Upd.refl (fun _=>False) w6).drew).upd H7.out.2.upd (hqo m2 H6A.out.2.2.2.2.2.1) (hqo mb6 H6A.out.2.2.2.2.2.2)) (Nat.le_refl 0) H6A.out.2.2.2.2.2.1 H6A.out.2.2.2.2.2.2;clear hok hqo;have hX0:∃X,(Y.2.1).wrap sLog (batT b)=X:=⟨_,rfl⟩;obtain ⟨X,hX⟩:=hX0;have hbl:=batT_len HE.out HV.out.2.2.2.2.2.2.2.1;have hXl:(str X).size=X.length:=str_size X;have hX2:sealB (ringK (str masterL).data.toList (Y.2.1).cur) (Y.2.1).cur (Y.2.1).st.boot (Y.2.1).n (str sLog).data.toList (str (batT b)).data.toList=X:=by rw [← hX,str_list,str_list,str_list];rfl
        have hwr:=rwrap_c HT.out.1.ring (by rw [str_size];decide) HN.out.1 HN.out.2.1 HN.out.2.2.1 (str sLog) (str (batT b)) (by decide) (by rw [str_size];omega);rw [hX2] at hwr;have HWR:=Lib.hid hwr;have c8:(w7).cell? ⟨v,8,none⟩=some (.pointer (some ⟨(o7).rb,0,none⟩)):=HT.out.1.blk.cell 8;obtain ⟨R,hR⟩:=eqx (addG Y.1 (Y.2.1).lg (str X));obtain ⟨E,hEE⟩:=eqx R.2.2;have HRE:=h3k hR hEE hX;clear hX hbl hXl hX2 hwr hR hEE;go_upto_region 20 with (first
         | (go_at_call 57;refine HWR.out.mono ?_;rintro e wa ⟨rfl,es,hRg⟩
            have ha:=HT.out.1.ring_ hRg;have c7:wa.cell? ⟨v,7,none⟩=some (.pointer (some ⟨(o7).lb,0,none⟩)):=ha.1.blk.cell 7;have hadd:=Add_any ha.1.disk ha.1.log ha.1.recs ha.1.sep (str X) HN.out.2.2.2.1 HN.out.2.2.2.2.1;have HA:=h3k ha.1 ha.2 hadd;clear ha hadd hRg))
        by_cases h0:E=0
        ·have HE0:=Lib.hid h0
         go_upto_region 23 with (first
          | (go_at_call 58;refine HA.out.2.2.mono ?_;rintro e wb ⟨rfl,hAL⟩
             obtain ⟨F',lv',hb,kb⟩:=HA.out.1.log_ hAL;rw [show (addG Y.1 (Y.2.1).lg (str X)).2.2=0 by rw [HRE.out.1,HRE.out.2.1];exact HE0.out];have HBB:=Lib.hid hb.blk;have HB:=h2k hb kb;clear hb kb hAL))
         have hkk:=HA.out.2.1.trans HB.out.2;have hno:∀q,w.heap.size≤q→q<w6.heap.size→¬VtO.mut { (o7) with ents:=es,F:=F',lv:=lv' } v q:=fun q h1 h2 e=>(hkk.sub q e).elim (HT.out.2.2 q h1 h2) (fun e=>by have:=HWZ.out;omega)
         have HNO:=h2k hno hkk;clear hno hkk;go_upto_region 24 with (first
          | (refine wpList_store_one rfl _ _ _ rfl v 0 (.pointer (some ⟨m2,0,none⟩)) rfl rfl _ _ HBB.out (by simp [vtRow]) rfl (by kernel_rfl) ?_
             intro wc hBc hUc hzc))
         have hkk:=HNO.out.2;have hno:=HNO.out.1;have hUW:Upd ((o7).mut v) (w7) wc:=hkk.upd.then hUc (fun q e=>.inl (.inl e));have hmap:=HMP.out.1.upd hUW (HT.out.2.2 _ HMP.out.2.2.1 H6A.out.2.2.2.1.2.1) (HT.out.2.2 _ HMP.out.2.2.2 H6A.out.2.2.2.1.2.2);have hnb:=hno mb6 HMP.out.2.2.2 H6A.out.2.2.2.1.2.2;have hvc:=HB.out.1.map_ (X:=doL V.S b.ops) (m2:=m2) (mb2:=mb6) hUc hBc hmap (fun e=>hnb (.inr (.inl e))) (fun e=>hnb (.inr (.inr (.inr (.inr (.inr (.inl (.inr (.inl e)))))))));have hovc:TRow wc ty 3 ov (b.ops.map opRow):=HOFAR.out wc (HT.out.2.1.upd.then hUW HT.out.2.1.sub);have hcbc:=HCB.out.1.upd hUW (HT.out.2.2 _ HCB.out.2 H6A.out.2.2.2.1.1);have hdo:=does_c hvc.1 b hovc (by have:=HB0.out.2.2.2.1;omega) HN.out.2.2.2.2.2.1;have HDOES:=Lib.hid hdo;have HCBC:=Lib.hid hcbc;have HVC:=Lib.hid ((((HT.out.2.1.trans HA.out.2.1).trans HB.out.2).trans hvc.2).re (m:=m2) (mb:=mb6) (.inr HMP.out.2.2.2));clear hkk hno hUW hmap hnb hvc hovc hcbc hdo hBc hUc hzc;go_wp2_with (first
          | (refine wpList_load_all rfl _ _ rfl c rfl _ _ _ HCBC.out Tryz.underlying35 rfl (by kernel_rfl) ?_)
          | (go_at_call 60;refine HDOES.out.mono ?_;rintro e w9 ⟨rfl,o9,h9,k9⟩;have H9:=h2k h9 k9;clear h9 k9))
         go_ret
         have hav:addV Y.1 (Y.2.1) b=(R.1,({ (Y.2.1).next with lg:=R.2.1 } : VtM).does b,0):=by
          unfold addV;simp only
          rw [HRE.out.2.2,HRE.out.1,HRE.out.2.1,if_neg (by rw [HE0.out];simp)]
         have h9:=H9.out.1;rw [HRE.out.1] at h9;have hds:({ (Y.2.1).next with lg:=R.2.1 } : VtM).does b = { (Y.2.1).next with lg:=R.2.1,S:=doL V.S b.ops,rows:=(Y.2.1).rows++[b],at_:=b.index,epoch:=b.epoch } := by
          unfold VtM.does VtM.next;first
           | (simp only;done)
           | (simp only;rw [HN.out.2.2.2.2.2.2])
         rw [HFIN.out,hav,hds];exact ⟨rfl,_,h9,HVC.out.trans H9.out.2⟩
        ·have hE0:(E != 0)=true:=by simpa using h0
         have H0:=Lib.hid h0;clear h0;go_wp2_with (first
          | (go_at_call 58;refine HA.out.2.2.mono ?_;rintro e wb ⟨rfl,hAL⟩
             obtain ⟨F',lv',hb,kb⟩:=HA.out.1.log_ hAL;rw [show (addG Y.1 (Y.2.1).lg (str X)).2.2=E by rw [HRE.out.1,HRE.out.2.1]];have HTD:=Lib.hid (told_c hb E);have HB:=Lib.hid kb;clear hb kb hAL)
          | (go_at_call 59;refine HTD.out.mono ?_;rintro e w9 ⟨rfl,h9,k9⟩;have H9:=h2k h9 k9;clear h9 k9))
         go_ret
         have hav:addV Y.1 (Y.2.1) b=(R.1,({ (Y.2.1).next with lg:=R.2.1 } : VtM).told E,E):=by
          unfold addV;simp only
          rw [HRE.out.2.2,HRE.out.1,HRE.out.2.1,if_pos H0.out]
         have h9:=H9.out.1;rw [HRE.out.1] at h9;rw [HFIN.out,hav];exact ⟨rfl,_,h9,((HT.out.2.1.trans HA.out.2.1).trans HB.out).trans H9.out.2⟩
       ·have hE0:(E1 != 0)=true:=by simpa using hz
        have H0:=Lib.hid hz;clear hz;go_wp2_with fail
        go_ret
        rw [HS.out,if_neg (by simp),if_neg (by rw [HE.out];simp),if_neg (by have h1:=HI.out;have h2:=HE2.out;omega),if_neg (by rw [HD0.out];simp),if_pos HH24.out,if_pos H0.out,HWH.out.2.2]
        exact ⟨rfl,o7,H7.out.1,((K3.out.2.2.2.still H6A.out.2.1).still (Upd.refl (fun _=>False) w6).drew).trans H7.out.2⟩
      ·have h24':¬(24:Int)≤(V.rows.length:Int):=by omega
       have HT:=Lib.hid (show VtAt w6 p v d V o∧VtStep w w6 v o o∧∀q,w.heap.size≤q→q<w6.heap.size→¬o.mut v q from ⟨H6A.out.1,K3.out.2.2.2.still H6A.out.2.1,fun q h1 h2 e=>by obtain ⟨i,hi,he⟩:=VtO.mut_cl (o:=o) e;have:=H.out.1.lt hi he;omega⟩);have HFIN:=Lib.hid (show commitV d V b=addV d V b by rw [HS.out,if_neg (by simp),if_neg (by rw [HE.out];simp),if_neg (by have h1:=HI.out;have h2:=HE2.out;omega),if_neg (by rw [HD0.out];simp),if_neg h24])
       have HWZ:=Lib.hid (Nat.le_refl w6.heap.size);have HCB:=h2k H6A.out.2.2.1 H6A.out.2.2.2.2.1;have HMP:=h4k H6.out.1 (Nat.le_refl 0) H6A.out.2.2.2.2.2.1 H6A.out.2.2.2.2.2.2;have HN:=Lib.hid (show V.cur≤1048576∧V.st.boot<4294967296∧V.n<4611686018427387904∧LgFit V.lg∧d.pend+40<1000000∧V.rows.length≤1000∧V.S=V.S from ⟨H.out.2.2.1.cur,by have:=H.out.2.1.boot;omega,H.out.2.2.1.n,H.out.2.2.2.2.2.2.2.1,by have:=H.out.2.2.2.2.1;omega,by have:=H.out.2.2.2.2.2.2.2.2.1;omega,rfl⟩);clear h24;have hX0:∃X,(V).wrap sLog (batT b)=X:=⟨_,rfl⟩;obtain ⟨X,hX⟩:=hX0;have hbl:=batT_len HE.out HV.out.2.2.2.2.2.2.2.1;have hXl:(str X).size=X.length:=str_size X;have hX2:sealB (ringK (str masterL).data.toList (V).cur) (V).cur (V).st.boot (V).n (str sLog).data.toList (str (batT b)).data.toList=X:=by rw [← hX,str_list,str_list,str_list];rfl
       have hwr:=rwrap_c HT.out.1.ring (by rw [str_size];decide) HN.out.1 HN.out.2.1 HN.out.2.2.1 (str sLog) (str (batT b)) (by decide) (by rw [str_size];omega);rw [hX2] at hwr;have HWR:=Lib.hid hwr;have c8:(w6).cell? ⟨v,8,none⟩=some (.pointer (some ⟨(o).rb,0,none⟩)):=HT.out.1.blk.cell 8;obtain ⟨R,hR⟩:=eqx (addG d (V).lg (str X));obtain ⟨E,hEE⟩:=eqx R.2.2;have HRE:=h3k hR hEE hX;clear hX hbl hXl hX2 hwr hR hEE;go_upto_region 20 with (first
        | (go_at_call 57;refine HWR.out.mono ?_;rintro e wa ⟨rfl,es,hRg⟩
           have ha:=HT.out.1.ring_ hRg;have c7:wa.cell? ⟨v,7,none⟩=some (.pointer (some ⟨(o).lb,0,none⟩)):=ha.1.blk.cell 7;have hadd:=Add_any ha.1.disk ha.1.log ha.1.recs ha.1.sep (str X) HN.out.2.2.2.1 HN.out.2.2.2.2.1;have HA:=h3k ha.1 ha.2 hadd;clear ha hadd hRg))
       by_cases h0:E=0
       ·have HE0:=Lib.hid h0
        go_upto_region 23 with (first
         | (go_at_call 58;refine HA.out.2.2.mono ?_;rintro e wb ⟨rfl,hAL⟩
            obtain ⟨F',lv',hb,kb⟩:=HA.out.1.log_ hAL;rw [show (addG d (V).lg (str X)).2.2=0 by rw [HRE.out.1,HRE.out.2.1];exact HE0.out];have HBB:=Lib.hid hb.blk;have HB:=h2k hb kb;clear hb kb hAL))
        have hkk:=HA.out.2.1.trans HB.out.2;have hno:∀q,w.heap.size≤q→q<w6.heap.size→¬VtO.mut { (o) with ents:=es,F:=F',lv:=lv' } v q:=fun q h1 h2 e=>(hkk.sub q e).elim (HT.out.2.2 q h1 h2) (fun e=>by have:=HWZ.out;omega)
        have HNO:=h2k hno hkk;clear hno hkk;go_upto_region 24 with (first
         | (refine wpList_store_one rfl _ _ _ rfl v 0 (.pointer (some ⟨m2,0,none⟩)) rfl rfl _ _ HBB.out (by simp [vtRow]) rfl (by kernel_rfl) ?_
            intro wc hBc hUc hzc))
        have hkk:=HNO.out.2;have hno:=HNO.out.1;have hUW:Upd ((o).mut v) (w6) wc:=hkk.upd.then hUc (fun q e=>.inl (.inl e));have hmap:=HMP.out.1.upd hUW (HT.out.2.2 _ HMP.out.2.2.1 H6A.out.2.2.2.1.2.1) (HT.out.2.2 _ HMP.out.2.2.2 H6A.out.2.2.2.1.2.2);have hnb:=hno mb6 HMP.out.2.2.2 H6A.out.2.2.2.1.2.2;have hvc:=HB.out.1.map_ (X:=doL V.S b.ops) (m2:=m2) (mb2:=mb6) hUc hBc hmap (fun e=>hnb (.inr (.inl e))) (fun e=>hnb (.inr (.inr (.inr (.inr (.inr (.inl (.inr (.inl e)))))))));have hovc:TRow wc ty 3 ov (b.ops.map opRow):=HOFAR.out wc (HT.out.2.1.upd.then hUW HT.out.2.1.sub);have hcbc:=HCB.out.1.upd hUW (HT.out.2.2 _ HCB.out.2 H6A.out.2.2.2.1.1);have hdo:=does_c hvc.1 b hovc (by have:=HB0.out.2.2.2.1;omega) HN.out.2.2.2.2.2.1;have HDOES:=Lib.hid hdo;have HCBC:=Lib.hid hcbc;have HVC:=Lib.hid ((((HT.out.2.1.trans HA.out.2.1).trans HB.out.2).trans hvc.2).re (m:=m2) (mb:=mb6) (.inr HMP.out.2.2.2));clear hkk hno hUW hmap hnb hvc hovc hcbc hdo hBc hUc hzc;go_wp2_with (first
         | (refine wpList_load_all rfl _ _ rfl c rfl _ _ _ HCBC.out Tryz.underlying35 rfl (by kernel_rfl) ?_)
         | (go_at_call 60;refine HDOES.out.mono ?_;rintro e w9 ⟨rfl,o9,h9,k9⟩;have H9:=h2k h9 k9;clear h9 k9))
        go_ret
        have hav:addV d (V) b=(R.1,({ (V).next with lg:=R.2.1 } : VtM).does b,0):=by
         unfold addV;simp only
         rw [HRE.out.2.2,HRE.out.1,HRE.out.2.1,if_neg (by rw [HE0.out];simp)]
        have h9:=H9.out.1;rw [HRE.out.1] at h9;have hds:({ (V).next with lg:=R.2.1 } : VtM).does b = { (V).next with lg:=R.2.1,S:=doL V.S b.ops,rows:=(V).rows++[b],at_:=b.index,epoch:=b.epoch } := by
         unfold VtM.does VtM.next;first
          | (simp only;done)
          | (simp only;rw [HN.out.2.2.2.2.2.2])
        rw [HFIN.out,hav,hds];exact ⟨rfl,_,h9,HVC.out.trans H9.out.2⟩
       ·have hE0:(E != 0)=true:=by simpa using h0
        have H0:=Lib.hid h0;clear h0;go_wp2_with (first
         | (go_at_call 58;refine HA.out.2.2.mono ?_;rintro e wb ⟨rfl,hAL⟩
            obtain ⟨F',lv',hb,kb⟩:=HA.out.1.log_ hAL;rw [show (addG d (V).lg (str X)).2.2=E by rw [HRE.out.1,HRE.out.2.1]];have HTD:=Lib.hid (told_c hb E);have HB:=Lib.hid kb;clear hb kb hAL)
         | (go_at_call 59;refine HTD.out.mono ?_;rintro e w9 ⟨rfl,h9,k9⟩;have H9:=h2k h9 k9;clear h9 k9))
        go_ret
        have hav:addV d (V) b=(R.1,({ (V).next with lg:=R.2.1 } : VtM).told E,E):=by
         unfold addV;simp only
         rw [HRE.out.2.2,HRE.out.1,HRE.out.2.1,if_pos H0.out]
        have h9:=H9.out.1;rw [HRE.out.1] at h9;rw [HFIN.out,hav];exact ⟨rfl,_,h9,((HT.out.2.1.trans HA.out.2.1).trans HB.out).trans H9.out.2⟩
     ·have HD0:=Lib.hid hD
      obtain ⟨E,hEE⟩:=eqx (doE V.S b.ops);have HEE:=Lib.hid hEE;rw [hEE] at hD HS HDO;have hE0:(E != 0)=true:=by simpa using hD
      have HD1:=Lib.hid hD;clear hD hrows hEE;go_quiet (fail)
      go_wp2_with (first
       | (go_at_call 55;refine (HTW.out _).mono ?_;rintro e w5 ⟨m2,mb2,rfl,hm5,hm5a,hm5b,hU5⟩
          have cb25:w5.cell? ⟨c,2,none⟩=some ov:=(K3.out.2.1.upd (((Upd.refl (fun _=>False) w3).drewN _).then hU5 (fun _ e=>.inl e)) (fun e=>e)).cell 2;have H5:=h2k hm5 (((Upd.refl (fun _=>False) w3).drewN _).then hU5 (fun _ e=>.inl e));clear hm5 hm5a hm5b hU5)
       | (go_at_call 36;refine (HDO.out _ _ _ H5.out.2 H5.out.1).mono ?_;rintro e w6 ⟨rfl,hD6⟩
          have H6:=Lib.hid (hD6.no HD0.out);clear hD6))
      go_ret
      rw [HS.out,if_neg (by simp),if_neg (by rw [HE.out];simp),if_neg (by have h1:=HI.out;have h2:=HE2.out;omega),if_pos HD1.out];exact ⟨rfl,o,(K3.out.1.still H5.out.2).still H6.out,(K3.out.2.2.2.still H5.out.2).still H6.out⟩
   ·have hi0:(b.index != V.at_+1)=true:=by simpa using hi
    have HI:=Lib.hid hi;clear hi;go_quiet (fail)
    go_wp2_with fail
    go_ret
    rw [HS.out,if_neg (by simp),if_neg (by rw [HE.out];simp),if_pos (.inl HI.out)]
    exact ⟨rfl,o,K3.out.1.still ((Upd.refl _ _).drewN _),K3.out.2.2.2.still ((Upd.refl _ _).drewN _)⟩
  ·have H0:=Lib.hid hE
   have hby:=bbytes_bad (w:=w1) (A:=A) (cap:=cap) (b:=ob) (off:=oo) (l:=b.ops) (i:=b.index) (ep:=b.epoch) HV.out.2.2.2.2.1 (fun w' hu=>HV.out.2.2.2.2.2.1 w' (fun _=>False) (H1.out.2.1.then hu (fun _ e=>.inl e)) (fun _ _ e=>e)) HV.out.2.2.2.2.2.2.1 HV.out.2.2.2.1 hE;rw [← HV.out.2.1] at hby;obtain ⟨E,hEE⟩:=eqx (batErr b.index b.epoch b.ops);rw [hEE] at hby HS H0 hE;have hE0:(E != 0)=true:=by simpa using hE
   have HBY:=Lib.hid hby;clear hby hEE hE;go_wp2_with (first
    | (go_at_call 53;refine HO.out.mono ?_;rintro e w2 ⟨rfl,-,-,hw2⟩;subst hw2)
    | (refine wpList_load_all rfl _ _ rfl c rfl _ _ _ H1.out.1 Tryz.underlying35 rfl (by kernel_rfl) ?_)
    | (go_at_call 54;refine HBY.out.mono ?_;rintro e w3 ⟨rfl,hU3⟩;have H3:=Lib.hid hU3;clear hU3))
   go_ret
   rw [HS.out,if_neg (by simp),if_pos H0.out];exact ⟨rfl,o,H1.out.2.2.still H3.out,HT1.out.still H3.out⟩
 ·rw [hoff] at HS HO
  simp only [if_true] at HO;go_wp2_with (first
   | (go_at_call 53;refine HO.out.mono ?_;rintro e w2 ⟨rfl,h2,k2,-⟩;have H2:=h2k h2 k2;clear h2 k2))
  go_ret
  rw [HS.out];exact ⟨rfl,o,H2.out.1,HT1.out.trans H2.out.2⟩
end
end
section
open Go Go.RowKit
section
variable {w w':World} {p v:Nat} {d d':Dk} {V V':VtM} {o o':VtO}
theorem vboot_c (h:VtAt w p v d V o) (hb:V.st.boot<4294967296):Calls Tryz.prog 13 #[.pointer (some ⟨v,0,none⟩)] w fun e w'=>e=.returned (.int .i64 (V.st.boot:Int))∧w=w':=by
 have hc:w.cell? ⟨v,19,none⟩=some (.int .u32 (V.st.boot:Int)):=h.blk.cell 19;have hw:IntKind.i64.wrap (V.st.boot:Int)=(V.st.boot:Int):=IntWalk.i64_in _ (by omega);clear h;go_enter Tryz.func13,Tryz.ntmps13
 go_wp2_with fail
 go_ret
 exact ⟨by first | rfl | (rw [hw];rfl),rfl⟩
end
end
section
open Go Go.RowKit
theorem batCells_one {a b:Int} {ov:Value} (h:ov.oneCell'=true):(#[Value.int .i64 a,.int .i64 b,ov]:Array Value).all (·.oneCell')=true:=by
 simp only [List.all_toArray,List.all_cons,List.all_nil,h,Bool.and_true];rfl
section
variable {w w':World} {p v:Nat} {d d':Dk} {V V':VtM} {o o':VtO}
end
end
section
open Go Go.RowKit
def preRow (V:VtM) (p kb m:Nat) (mv rg:Value):Array Value :=
 #[.pointer (some ⟨m,0,none⟩),.int .i64 V.at_,.int .i64 V.epoch,.slice none 0 0,.int .i64 V.prev,.pointer (some ⟨p,0,none⟩),.pointer (some ⟨kb,0,none⟩),.pointer none,rg,
  .int .i64 V.st.m.role,.int .i64 V.st.m.seen,.int .i64 V.st.m.grant,mv,.string (str V.st.m.secret),.int .i64 V.st.at_,.int .i64 V.st.epoch,.int .i64 (V.st.slot:Int),.int .u64 (V.st.log:Int),.int .i64 (V.st.key:Int),.int .u32 (V.st.boot:Int),.bool V.down]
structure VtPre (w:World) (p v:Nat) (d:Dk) (V:VtM) (F:List Nat) (kb m mb:Nat) (mv rg:Value):Prop where
 disk:DiskAt w p d F
 blk:Blk w v 117 (preRow V p kb m mv rg)
 kept:Blk w kb 209 (V.kp.cells p)
 map:MapAt w m mb V.S
 mbF:mb ∉ F
 mts:TRow w 46 2 mv (V.st.m.mounts.map mtRow)
section
variable {w w':World} {p v:Nat} {d d':Dk} {V V':VtM} {F:List Nat} {kb m mb m' mb':Nat} {mv rg mv' rg':Value}
theorem VtPre.vF (h:VtPre w p v d V F kb m mb mv rg):v ∉ F:=fun e=>by
 rcases h.disk.kind e with e | e | e
 ·exact absurd (h.blk.ty.inj e) (by decide)
 ·exact absurd (h.blk.ty.inj e) (by decide)
 ·exact h.blk.ty.no_map e
theorem VtPre.still (h:VtPre w p v d V F kb m mb mv rg) (hu:Upd (fun _=>False) w w'):VtPre w' p v d V F kb m mb mv rg :=
 ⟨h.disk.upd hu (fun _ _ e=>e),h.blk.upd hu (fun e=>e),h.kept.upd hu (fun e=>e),h.map.still hu,h.mbF,h.mts.still hu⟩
theorem VtPre.mv_ne (h:VtPre w p v d V F kb m mb mv rg):m≠v∧mb≠v∧kb≠v:=by
 refine ⟨fun e=>?_,fun e=>?_,fun e=>?_⟩
 ·subst e;exact absurd (h.blk.ty.inj h.map.blk.ty) (by decide)
 ·subst e;exact h.blk.ty.no_map h.map.mp
 ·subst e;exact absurd (h.blk.ty.inj h.kept.ty) (by decide)
theorem VtPre.cells_ (h:VtPre w p v d V F kb m mb mv rg) (hu:Upd (· = v) w w') (hB:Blk w' v 117 (preRow V' p kb m' mv' rg')) (hk:V'.kp=V.kp) (hm:MapAt w' m' mb' V'.S) (hmF:mb' ∉ F) (hmts:TRow w' 46 2 mv' (V'.st.m.mounts.map mtRow)) :
 VtPre w' p v d V' F kb m' mb' mv' rg' :=
 ⟨h.disk.upd hu (fun q hq e=>h.vF ((show q=v from e) ▸ hq)),hB,by rw [hk];exact h.kept.upd hu (fun e=>h.mv_ne.2.2 e),hm,hmF,hmts⟩
theorem VtPre.nums_ (h:VtPre w p v d V F kb m mb mv rg) (hu:Upd (· = v) w w') (hB:Blk w' v 117 (preRow V' p kb m mv rg')) (hk:V'.kp=V.kp) (hS:V'.S=V.S) (hms:V'.st.m.mounts=V.st.m.mounts):VtPre w' p v d V' F kb m mb mv rg' :=
 h.cells_ hu hB hk (by rw [hS];exact h.map.upd hu (fun e=>h.mv_ne.1 e) (fun e=>h.mv_ne.2.1 e)) h.mbF (by
  rw [hms];exact h.mts.upd hu (fun q ht e=>by
   have e2:q=v:=e;subst e2;exact absurd (h.blk.ty.inj ht) (by decide)))
theorem VtPre.ring_ {rb rk:Nat} {ents:List (Int × Nat)} {master:ByteArray} {cur boot n:Nat} (h:VtPre w p v d V F kb m mb mv rg) (hR:RgE (ringOwn rb rk ents) w w rb master cur boot n rk ents) (hrF:rk ∉ F) (hmk:mb≠rk) (hu:Upd (ringOwn rb rk ents) w w'):VtPre w' p v d V F kb m mb mv rg:=by
 refine ⟨h.disk.upd hu (fun q hq e=>?_),h.blk.upd hu (hR.own_not h.blk (by decide) (by decide)),h.kept.upd hu (hR.own_not h.kept (by decide) (by decide)),h.map.upd hu (hR.own_not h.map.blk (by decide) (by decide)) (fun e=>?_),h.mbF,h.mts.upd hu (fun q ht e=>?_)⟩
 ·rcases hR.kind e with f | f | f
  ·rcases h.disk.kind hq with g | g | g
   ·exact absurd (g.inj f) (by decide)
   ·exact absurd (g.inj f) (by decide)
   ·exact f.no_map g
  ·rcases h.disk.kind hq with g | g | g
   ·exact absurd (g.inj f) (by decide)
   ·exact absurd (g.inj f) (by decide)
   ·exact f.no_map g
  ·exact hrF (f ▸ hq)
 ·rcases hR.kind e with f | f | f
  ·exact f.no_map h.map.mp
  ·exact f.no_map h.map.mp
  ·exact hmk f
 ·rcases hR.kind e with f | f | f
  ·exact absurd (ht.inj f) (by decide)
  ·exact absurd (ht.inj f) (by decide)
  ·subst f;exact ht.no_map hR.map.mp
end
def preV (k:Kp) (s:StM) (S0:List PairM):VtM:=⟨S0,s.at_,s.epoch,[],s.epoch,s,false,k,lgv0,s.key,0⟩
end
section
open Go Go.RowKit
structure Recalls (d:Dk) (k:Kp) (s:StM) (S0:List PairM):Prop where
 text:(k.gen=0∧s=stM0∧S0=[])∨(0<k.gen∧∃t,Sealed s.key sSecret s.m.secret t∧k.text=stB s t)
 ok:StOk s
 boot:s.boot+1≤1000000
 slot:(s.slot=0∧S0=[])∨(1≤s.slot∧∃t,Sealed s.key sMap (pairsB S0) t∧slotHas d s.slot t)
 pairs:PairsOk S0
structure Replays (s:StM) (S0:List PairM) (g:Lg) (rows:List BatM) (S:List PairM) (at_ epoch:Int):Prop where
 fit:LgFit g
 glen:g.l.length=rows.length
 recs:∀i (h:i<g.l.length) (h2:i<rows.length),Sealed s.key sLog (batT rows[i]) (g.l[i]).data.toList
 many:rows.length≤24
 rep:replL rows (S0,s.at_,s.epoch)=some (S,at_,epoch)
 eps:∀b ∈ rows,b.epoch≤9223372036854775807
structure DkFit (d:Dk):Prop where
 off:d.off=false
 len:d.lasts.length=500
 pend:d.pend+20<1000000
structure Opens (d:Dk) (V:VtM) (S0:List PairM):Prop where
 fit:DkFit d
 kept:openN d 0 2=some V.kp
 kp:V.kp.seen<18446744073709551616∧V.kp.at_≤1∧V.kp.from_=0
 recalls:Recalls d V.kp V.st S0
 sound:badS d 160=false
 log:openG d 20 320 V.st.log=some V.lg
 log0:1≤V.st.log
 replays:Replays V.st S0 V.lg V.rows V.S V.at_ V.epoch
 prev:V.prev=V.st.epoch
 cur:V.cur=V.st.key
theorem badS_false {d:Dk} : ∀k,(∀i,i<k→(lookL (d.now (340+i)).data.toList).2≠2)→badS d k=false
 | 0,_=>rfl
 | k+1,h=>by rw [badS_succ,badS_false k (fun i hi=>h i (by omega))];simp [h k (by omega)]
theorem VDk.lgfit {d:Dk} {k:Kp} {g:Lg} {s:StM} {S0:List PairM} {rows:List BatM} {c:Nat} (h:VDk d k g s S0 rows c) (hc:c<100000):LgFit g:=by
 obtain ⟨rs,R,hl,-⟩:=h.log;have ho:=hl.opens;exact openG_fit (by rw [h.gplace.1];omega) (by rw [h.gplace.2.1];omega) (by rw [h.gplace.2.2];have:=h.logs;omega) ho
theorem VDk.opens_ {d:Dk} {V:VtM} {S0:List PairM} {c:Nat} (h:VDk d.free V.kp V.lg V.st S0 V.rows c) (hc:c<99000) (ho:d.off=false)
 (h0:V.kp.gen=0→S0=[]) (hrep:replL V.rows (S0,V.st.at_,V.st.epoch)=some (V.S,V.at_,V.epoch)) (hprev:V.prev=V.st.epoch) (hcur:V.cur=V.st.key) (heps:∀b ∈ V.rows,b.epoch≤9223372036854775807) (hmn:V.st.m.seen≤9223372036854775807∧V.st.m.grant≤9223372036854775807):Opens d V S0:=by
 have h1:=h.keys;have h2:=h.boots;have h3:=h.logs;have h4:=h.kseen;have hg:=h.good;obtain ⟨L0,L1,hk⟩:=h.kept;obtain ⟨rs,R,hl,-⟩:=h.log;obtain ⟨g1,g2,g3⟩:=h.gplace;have hkp:=hk.opens;rw [h.kfrom] at hkp;have hlo:=hl.opens;rw [g1,g2,g3] at hlo;refine ⟨⟨ho,hg.len,?_⟩,hkp,⟨by omega,hk.at_,h.kfrom⟩,⟨?_,⟨h.right,h.place,h.slots,by omega,by omega,by omega,hmn⟩,by omega,?_,h.pairs⟩,badS_false 160 h.sound,hlo,by rw [← g3];exact hl.epoch0,⟨h.lgfit (by omega),h.glen,h.recs,h.many,hrep,heps⟩,hprev,hcur⟩
 ·have:d.pend=0:=hg.pend
  omega
 ·rcases h.text with e | e
  ·exact .inl ⟨e.1,e.2,h0 e.1⟩
  ·exact .inr e
 ·rcases h.slot with e | e
  ·exact .inl ⟨e.1,e.2.1⟩
  ·exact .inr e
theorem VtG.opens_ {d:Dk} {V:VtM} {S0:List PairM} {c:Nat} (h:VtG d.free V S0 c) (hc:c<99000) (ho:d.off=false):Opens d V S0 :=
 h.vdk.opens_ hc ho (fun e=>absurd h.gen (by omega)) h.rep h.prev h.cur h.eps h.mn
theorem opens_first:Opens (Dk.fresh 500) V0 [] :=
 VDk.opens_ (d:=Dk.fresh 500) VDk.fresh (by omega) rfl (fun _=>rfl) rfl rfl rfl (by decide) (by decide)
end
section
open Go Go.RowKit
section
variable {w w':World} {p v:Nat} {d d':Dk} {k:Kp} {s:StM} {S0:List PairM} {F:List Nat} {kb m mb rb rk:Nat} {mv:Value} {ents:List (Int × Nat)}
theorem recallMap_c (h:VtPre w p v d (preV k s []) F kb m mb mv (.pointer (some ⟨rb,0,none⟩))) (hR:RgE (ringOwn rb rk ents) w w rb (str masterL) s.key s.boot 0 rk ents) (hrF:rk ∉ F) (hmk:mb≠rk) (hf:DkFit d) (hk:s.key≤1000000) (hs:1≤s.slot∧s.slot≤2) (hp:PairsOk S0) (t:List UInt8) (ht:Sealed s.key sMap (pairsB S0) t) (hh:slotHas d s.slot t) :
 Calls Tryz.prog 124 #[.pointer (some ⟨v,0,none⟩)] w fun e w'=>e=.returned (.int .i64 0)∧∃m' mb' ents',VtPre w' p v d (preV k s S0) F kb m' mb' mv (.pointer (some ⟨rb,0,none⟩))∧RgE (ringOwn rb rk ents') w' w' rb (str masterL) s.key s.boot 0 rk ents'∧mb'≠rk∧w.heap.size≤m'∧w.heap.size≤mb' ∧
  (∀q,ringOwn rb rk ents' q→ringOwn rb rk ents q∨w.heap.size≤q)∧Upd (fun q=>q=v∨ringOwn rb rk ents q) w w':=by
 have hpl:=pairsB_len hp;have htl:=ht.len (by omega);have n2:slotN t≤80:=slotN_le (by omega);have n1:1≤slotN t:=by unfold slotN;omega
 obtain ⟨key,boot,n,k1,k2,k3,k4,k5⟩:=ht;have hrs:=rslot_c h.disk.drew hf.off hf.len s.slot hs.1 hs.2 t hh n1 n2;have hro:=fun (W:World) (hU:Upd (fun _=>False) w W)=>ropen_c (hR.still hU) (by rw [str_size];decide) (by omega) key boot n k1 k3 k4 (str sMap) (by decide) (pairsB S0) (by omega) (str t) (by rw [str_list,str_list,str_list];exact k5)
 have htp:=fun (W:World)=>tpairs_c (w:=W) S0 (fun x hx=>⟨okPath_len (hp.each x hx).1,(hp.each x hx).2⟩) hp.len (str (pairsB S0)) (str_list _)
 have HRS:=Lib.hid hrs;have HRO:=Lib.hid hro;have HTP:=Lib.hid htp;have hof:=ofP_same hp;have hlt:=h.blk.lt;have H:=h7k h hR hrF hmk hp hof hlt;clear h hR hrF hmk hf hk hs hp hh hpl htl n1 n2 k1 k2 k3 k4 k5 hrs hro htp hof hlt;go_enter Tryz.func124,Tryz.ntmps124
 go_upto_region 1 with fail
 refine wp_region_noPanic ?_;refine wp_region_T (S:=fun w'=>w'.cell? ⟨v,5,none⟩=some (.pointer (some ⟨p,0,none⟩))∧w'.cell? ⟨v,16,none⟩=some (.int .i64 (s.slot:Int))) (T:=fun _=>false) (by kernel_rfl) ?_;have hS0:w.drew.cell? ⟨v,5,none⟩=some (.pointer (some ⟨p,0,none⟩))∧w.drew.cell? ⟨v,16,none⟩=some (.int .i64 (s.slot:Int)):=⟨H.out.1.blk.drew.cell 5,H.out.1.blk.drew.cell 16⟩;refine tk8 0 ?_;simp only [tkS];refine tk8 1 ?_;simp only [tkS];refine tk8 2 ?_;simp only [tkS];refine tk8 3 ?_ rfl (by intro w' hSw;have ck:=hSw.1;go_split_ands;first | (go_simp;done) | (go_simp;rfl) | rfl)
 simp only [tkS];refine tk8 4 ?_;simp only [tkS];refine tk8 5 ?_;simp only [tkS];refine tk8 6 ?_;simp only [tkS];refine tk8 7 ?_;simp only [tkS];refine tk8 8 ?_ rfl (by intro w' hSw;have ck:=hSw.2;go_split_ands;first | (go_simp;done) | (go_simp;rfl) | rfl)
 simp only [tkS];refine wpAnyT_one (i:=9) (by kernel_rfl) rfl (fun KK hKK=>?_);go_simp
 refine HRS.out.mono ?_;rintro e w2 ⟨rfl,hU2⟩;have hU:Upd (fun _=>False) w w2:=(Upd.refl _ w).drew.then hU2 (fun _ e=>.inl e);have hB2:=H.out.1.blk.upd hU (fun e=>e);have hS2:w2.cell? ⟨v,5,none⟩=some (.pointer (some ⟨p,0,none⟩))∧w2.cell? ⟨v,16,none⟩=some (.int .i64 (s.slot:Int)):=⟨hB2.cell 5,hB2.cell 16⟩;refine hKK.out _ _ hS2 ?_;have H2:=Lib.hid hU;have c8:w2.cell? ⟨v,8,none⟩=some (.pointer (some ⟨rb,0,none⟩)):=hB2.cell 8;clear hKK hU2 hU hB2;refine tk8 10 ?_;simp only [tkS];refine tk8 11 ?_;simp only [tkS];refine tk8 12 ?_;simp only [tkS];refine tk8 13 ?_;simp only [tkS];refine tk8 14 ?_;simp only [tkS];refine wpAnyT_done (by kernel_rfl) ?_ _;refine NoPanic.normal ?_;clear hS0 hS2;go_upto_region 10 with (first
  | (go_at_call 123;refine (HRO.out _ H2.out).mono ?_;rintro e w3 ⟨rfl,ents',hR3⟩
     have H3:=h2k hR3 (H.out.1.ring_ H.out.2.1 H.out.2.2.1 H.out.2.2.2.1 hR3.upd);clear hR3)
  | (go_at_call 183;refine (HTP.out _).mono ?_;rintro e w4 ⟨pv,rfl,hO4,hn4,hU4⟩
     have H4:=h3k hO4 hn4 hU4;clear hO4 hn4 hU4))
 have hT:=TRow.of_own (cs:=S0.map pairRow) (k:=2) (n:=S0.length) (by have:=H4.out.1;rw [pairsV,List.flatMap_def] at this;exact this) (List.length_map _) (by have:=H.out.2.2.2.2.1.len;omega) (fun c hc=>by obtain ⟨q,-,rfl⟩:=List.mem_map.1 hc;rfl)
 obtain ⟨PA,pcap,pb,po,hpv1,hpv2,hpv3,hpv4,hpv5⟩:=hT.open_;rw [List.length_map] at hpv1 hpv2 hpv3 hpv4;have hoo:=oof_c (w:=w4) (A:=PA) (cap:=pcap) (b:=pb) (off:=po) (l:=S0) hpv4 (fun w' hu i hi=>hpv5 w' (fun _=>False) hu (fun _ _ e=>e) i (pairRow S0[i]) (by simp [hi])) (fun x hx=>by have h1:=okPath_len (H.out.2.2.2.2.1.each x hx).1;have h2:=(H.out.2.2.2.2.1.each x hx).2;omega) (by have:=H.out.2.2.2.2.1.len;omega);rw [← hpv1] at hoo;have HOO:=Lib.hid hoo;clear hT hpv1 hpv2 hpv3 hpv4 hpv5 hoo c8;go_wp2_with (first
  | (go_at_call 75;refine HOO.out.mono ?_;intro e w5 hE5
     obtain ⟨m2,mb2,rfl,hm5,hm5a,hm5b⟩:=hE5.yes (by rw [H.out.2.2.2.2.2.1]);rw [H.out.2.2.2.2.2.1] at hm5;have hU5:=hE5.upd;have h5:=(H3.out.2.still H4.out.2.2).still hU5;have H5:=h5k hm5 hm5a hm5b hU5 h5;have HB5:=Lib.hid h5.blk;clear hm5 hm5a hm5b hU5 h5 hE5)
  | (refine wpList_store_one rfl _ _ _ rfl v 0 (.pointer (some ⟨m2,0,none⟩)) rfl rfl _ _ HB5.out (by simp [preRow]) rfl (by kernel_rfl) ?_
     intro w6 hB6 hU6 hz6;have H6:=h2k hB6 hU6;clear hB6 hU6 hz6))
 go_ret
 have hlt:=H.out.2.2.2.2.2.2;have hz3:=H3.out.1.upd.size;have hz4:=H4.out.2.2.size;have hm5a:=H5.out.2.1;have hm5b:=H5.out.2.2.1;have hvr:¬ringOwn rb rk ents' v:=H3.out.1.own_not H3.out.2.blk (by decide) (by decide);have hR6:=RgE.move ((H3.out.1.still H4.out.2.2).still H5.out.2.2.2.1) H6.out.2 (fun q hq e=>hvr (by rw [← show q=v from e];exact hq));have hrk:rk<w.heap.size:=H.out.2.1.map.lt;have hmF:mb2 ∉ F:=fun e=>by have:=H.out.1.disk.lt _ e;omega
 have hm6:=H5.out.1.upd H6.out.2 (fun e=>by have e2:m2=v:=e;omega) (fun e=>by have e2:mb2=v:=e;omega);have h6:=H5.out.2.2.2.2.cells_ (V':=preV k s S0) H6.out.2 H6.out.1 rfl hm6 hmF (H5.out.2.2.2.2.mts.upd H6.out.2 (fun q ht e=>by
  have e2:q=v:=e;subst e2;exact absurd (HB5.out.ty.inj ht) (by decide)))
 refine ⟨rfl,m2,mb2,ents',h6,hR6,fun e=>by omega,by omega,by omega,H3.out.1.own_is,?_⟩;exact (((H3.out.1.upd.mono (fun q e=>.inl (.inr e))).then H4.out.2.2 (fun _ e=>e.elim)).then H5.out.2.2.2.1 (fun _ e=>e.elim)).then H6.out.2 (fun q e=>.inl (.inl e))
end
end
end Go.Proofs.YtbhjgfibhegddaaGreat
