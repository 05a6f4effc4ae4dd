/-
  Parts of the proof of VaultSpoils: InC, OpnA, OpnB, OpnC, OpnD.
-/
import Derived.Test.YtbhjgfibhegddaaGreatQVaultSpoils19
set_option maxRecDepth 100000
set_option maxHeartbeats 16000000
namespace Go.Proofs.YtbhjgfibhegddaaGreat
section
open Go Go.RowKit Go.ChangeShapes Go.WideShapes Go.ChangeAt Go.Deep
structure ActM where
 do_:UInt8
 b:BatM
 ov:Value
 m:MetaM
 mv:Value
 l:List PairM
 lv:Value
 at_:Int
 ep:Int
def ActM.row (a:ActM):List Value:=[.int .u8 (a.do_.toNat:Int),.int .i64 a.b.index,.int .i64 a.b.epoch,a.ov,.int .i64 a.m.role,.int .i64 a.m.seen,.int .i64 a.m.grant,a.mv,.string (str a.m.secret),a.lv,.int .i64 a.at_,.int .i64 a.ep]
structure ActM.In (w:World) (a:ActM):Prop where
 bat:BatIn w a.ov a.b
 met:MetaIn w a.mv a.m
 prs:PrsIn w a.lv a.l
 at_:i64r a.at_
 ep:i64r a.ep
theorem ActM.In.still {w w':World} {a:ActM} (h:a.In w) (hu:Upd (fun _=>False) w w'):a.In w':=⟨h.bat.still hu,h.met.still hu,h.prs.still hu,h.at_,h.ep⟩
structure IsActs17 (w:World) (v:Value) (l:List ActM):Prop where
 rows:RIn w 12 v (l.map ActM.row)
 each:∀a ∈ l,a.In w
section
variable {H:Type} {enc:TypeId × Value→H} {w:World} {base:Nat} {spare:Nat→Bool} {held:Bool}
theorem fld_of {P:Program} {t:TypeId} {fs:Array Field} {fuel:Nat} {cs:List Value} {x:DataW H × List MemPlace} (ht:P.underlying t=some (.struct fs)) (h:DataW.trod enc P w base spare held fuel t cs=some x)
 (j:Nat) (f:Field) (hj:fs[j]? = some f) (k:Nat) (hk:P.cellsOf f.type=k) (ty:TypeId) (hty:f.type=ty) (o:Nat) (ho:f.offset=o):∃n y,DataW.trod enc P w base spare held n ty ((cs.drop o).take k)=some y:=by
 obtain ⟨xs,n,_,_,hl,hlen,hf⟩:=DataW.trod_struct ht h;have h1:=hf j f hj;have hjl:j<xs.length:=by rw [hlen];exact (Array.getElem?_eq_some_iff.1 hj).1
 rw [hk,hty,ho,List.getElem?_eq_getElem hjl] at h1;exact ⟨n,_,h1⟩
theorem act17_of {fuel:Nat} {cs:List Value} {x:DataW H × List MemPlace} (h:DataW.trod enc Tryz.prog w base spare held fuel 65 cs=some x):∃a:ActM,cs=a.row∧a.In w:=by
 have hU:=Tryz.underlying65;obtain ⟨xs,n,_,_,hl,-,-⟩:=DataW.trod_struct hU h;rw [show Tryz.prog.cellsOf 65=12 by kernel_rfl] at hl;obtain ⟨n0,y0,t0⟩:=fld_of hU h 0 _ rfl 1 kR 5 rfl 0 rfl;obtain ⟨n1,y1,t1⟩:=fld_of hU h 1 _ rfl 3 kR 35 rfl 1 rfl;obtain ⟨n2,y2,t2⟩:=fld_of hU h 2 _ rfl 5 kR 50 rfl 4 rfl;obtain ⟨n3,y3,t3⟩:=fld_of hU h 3 _ rfl 1 kR 56 rfl 9 rfl;obtain ⟨n4,y4,t4⟩:=fld_of hU h 4 _ rfl 1 kR 3 rfl 10 rfl;obtain ⟨n5,y5,t5⟩:=fld_of hU h 5 _ rfl 1 kR 3 rfl 11 rfl;match cs,hl with
 | [c0,c1,c2,c3,c4,c5,c6,c7,c8,c9,c10,c11],_ =>
   simp only [List.drop_succ_cons,List.drop_zero,List.take_succ_cons,List.take_zero] at t0 t1 t2 t3 t4 t5;obtain ⟨k0,q0,_,w0⟩:=DataW.trod_int Tryz.underlying5 t0;obtain ⟨b,ov,q1,w1⟩:=bat_cells t1;obtain ⟨m,mv,q2,w2⟩:=meta_cells t2;obtain ⟨l,w3⟩:=prs_of t3;obtain ⟨k4,q4,_,w4⟩:=DataW.trod_int Tryz.underlying3 t4;obtain ⟨k5,q5,_,w5⟩:=DataW.trod_int Tryz.underlying3 t5;unfold metaRow at q2;simp only [List.cons.injEq,and_true] at q0 q1 q2 q4 q5;obtain ⟨k,rfl⟩:=u8_is w0;obtain ⟨rfl,rfl,rfl⟩:=q1;obtain ⟨rfl,rfl,rfl,rfl,rfl⟩:=q2;subst q0 q4 q5;exact ⟨⟨k,b,c3,m,c7,l,c9,k4,k5⟩,rfl,w1,w2,w3,i64r_of w4,i64r_of w5⟩
theorem acts17_of {fuel:Nat} {v:Value} {x:DataW H × List MemPlace} (h:DataW.trod enc Tryz.prog w base spare held fuel 60 [v]=some x):∃l,IsActs17 w v l:=by
 obtain ⟨cs,h1,h2⟩:=rin_of (k:=12) (fun c=>∃a:ActM,c=a.row∧a.In w) Tryz.underlying60 kR oM (fun n cs y hy=>act17_of hy) h;obtain ⟨l,rfl,hq⟩:=pick_rows h2;exact ⟨l,h1,hq⟩
end
structure ActM.Few (a:ActM):Prop where
 ops:OpsFew a.b.ops
 prs:PrsFew a.l
 met:MetaFew a.m
theorem RIn.open_still {w:World} {k:Nat} {v:Value} {cs:List (List Value)} (h:RIn w k v cs):∃A cap b off,v=.slice A cs.length cap∧cs.length≤cap∧cs.length≤9223372036854775807∧(0<cs.length→A=some ⟨b,off,none⟩) ∧
 ∀w',Upd (fun _=>False) w w'→∀i c,cs[i]? = some c→w'.rangeAt b (off+i*k) c:=by
 obtain ⟨A,cap,h1,h2,h3,h4⟩:=h;by_cases h0:0<cs.length
 ·obtain ⟨b,off,cur,t,fr,e1,e2,e3⟩:=h4 h0
  refine ⟨A,cap,b,off,h1,h2,h3,fun _=>e1,fun w' hu i c hc j u hj=>?_⟩;have e5:=(hu.block b (Array.getElem?_eq_some_iff.1 e2).1 (fun e=>e)).trans e2;rw [cell_of_row w' b _ cur t fr e5];exact e3 i c hc j u hj
 ·refine ⟨A,cap,0,0,h1,h2,h3,fun h=>absurd h h0,fun w' hu i c hc=>?_⟩
  have:=(List.getElem?_eq_some_iff.1 hc).1;omega
def ActsFew (l:List ActM):Prop:=l.length≤60∧∀a ∈ l,a.Few
theorem great17_c {w:World} {v:Value} {l:List ActM} (hA:IsActs17 w v l) :
 Calls Tryz.prog 27 #[v] w fun e w'=>BoolSays (ActsFew l) w e w':=by
 obtain ⟨A,cap,bA,off,rfl,hcap,hm,hA0,hcells⟩:=hA.rows.open_still;rw [List.length_map] at hm hA0 hcap ⊢;have HR:=Lib.hid hcells;have HE:=Lib.hid hA.each;clear hcells hA;go_enter Tryz.func27,Tryz.ntmps27
 by_cases hn:60<l.length
 ·have hn':(60:Int)<(l.length:Int):=oM
  go_wp2_with fail
  go_ret
  exact ⟨true,rfl,Upd.refl _ _,sM⟩
 have hn':¬(60:Int)<(l.length:Int):=oM;go_wp2_with fail
 go_loopw [3] (fun i wr=>∃k:Nat,k≤l.length∧i=.int .i64 k∧Upd (fun _=>False) w wr∧∀j (h:j<l.length),j<k→l[j].Few) (fun i _=>l.length - (intOf i).toNat)
 case atStart=>exact ⟨0,oM,rfl,Upd.refl _ _,fun j h hj=>by omega⟩
 case round =>
  obtain ⟨k,hk,rfl,hu,hall⟩:=hrel;have HALL:=h2k hall hu;clear hall hu;by_cases hlt:k<l.length
  ·obtain rfl:=hA0 oM
   obtain ⟨x,hx⟩:=eqx (l[k]);have hin:∀W,Upd (fun _=>False) w W→x.In W:=fun W hW=>(HE.out x (hx ▸ List.getElem_mem hlt)).still hW
   have hrow:∀W,Upd (fun _=>False) w W→W.rangeAt bA (off+k*12) x.row:=fun W hW=>HR.out W hW k x.row (by rw [List.getElem?_map,List.getElem?_eq_getElem hlt,hx];rfl)
   have cO:wr.cell? ⟨bA,off+k*12+3,none⟩=some x.ov:=hrow wr HALL.out.2 3 _ rfl;have hwk:IntKind.i64.wrap ((k:Int)+1)=(k:Int)+1:=IntWalk.i64_in _ oM;have HX:=h5k hin hrow hx hk hlt;have j1:(k:Int)<(l.length:Int):=oM;clear hin hrow hx;go_wp2_with fail
   refine (greatops_c (HX.out.1 _ HALL.out.2).bat.ops).mono ?_;rintro e w2 ⟨b1,rfl,hU,hq1⟩;have HU2:=Lib.hid (HALL.out.2.then hU wz0);clear hU cO;cases b1
   rotate_left 1
   ·clear hq1
    go_wp2_with fail
    go_ret
    exact ⟨true,rfl,HU2.out,sM⟩
   have HF:=Lib.hid (hq1 rfl);clear hq1;have cL:w2.cell? ⟨bA,off+k*12+9,none⟩=some x.lv:=HX.out.2.1 w2 HU2.out 9 _ rfl;go_wp2_with fail
   refine (greatprs_c (HX.out.1 _ HU2.out).prs).mono ?_;rintro e w3 ⟨b2,rfl,hU,hq2⟩;have HU3:=Lib.hid (HU2.out.then hU wz0);clear hU cL;cases b2
   rotate_left 1
   ·clear hq2
    go_wp2_with fail
    go_ret
    exact ⟨true,rfl,HU3.out,sM⟩
   have HF2:=h2k HF.out (hq2 rfl);clear hq2;obtain ⟨S,hS⟩:=eqx (str x.m.secret);have c4:w3.cell? ⟨bA,off+k*12+4,none⟩=some (.int .i64 x.m.role):=HX.out.2.1 w3 HU3.out 4 _ rfl;have c5:w3.cell? ⟨bA,off+k*12+5,none⟩=some (.int .i64 x.m.seen):=HX.out.2.1 w3 HU3.out 5 _ rfl;have c6:w3.cell? ⟨bA,off+k*12+6,none⟩=some (.int .i64 x.m.grant):=HX.out.2.1 w3 HU3.out 6 _ rfl;have c7:w3.cell? ⟨bA,off+k*12+7,none⟩=some x.mv:=HX.out.2.1 w3 HU3.out 7 _ rfl;have c8:w3.cell? ⟨bA,off+k*12+8,none⟩=some (.string S):=HX.out.2.1 w3 HU3.out 8 _ (by rw [← hS];rfl)
   have HM:Hid (Calls Tryz.prog 38 #[.agg #[.int .i64 x.m.role,.int .i64 x.m.seen,.int .i64 x.m.grant,x.mv,.string S]] w3 fun e w'=>BoolSays (MetaFew x.m) w3 e w'):=by
    have:=greatmeta_c (HX.out.1 _ HU3.out).met;unfold metaRow at this;rw [hS] at this;exact Lib.hid this
   clear hS;go_wp2_with fail
   refine HM.out.mono ?_;rintro e w4 ⟨b3,rfl,hU,hq3⟩;have HU4:=Lib.hid (HU3.out.then hU wz0);clear hU c4 c5 c6 c7 c8;cases b3
   rotate_left 1
   ·clear hq3
    go_wp2_with fail
    go_ret
    exact ⟨true,rfl,HU4.out,sM⟩
   have HF3:=Lib.hid (hq3 rfl);clear hq3;go_wp2_with fail
   go_roundw
   case rel =>
    refine ⟨k+1,oM,sM,HU4.out,fun j h hj=>?_⟩;by_cases e:j=k
    ·subst e
     rw [HX.out.2.2.1];exact ⟨HF2.out.1,HF2.out.2,HF3.out⟩
    ·exact HALL.out.1 j h oM
   case measure=>simp [intOf]<;>omega
  ·have j1:¬((k:Int)<(l.length:Int)):=oM
   go_wp2_with fail
   go_ret
   refine ⟨false,rfl,HALL.out.2,fun _=>⟨oM,fun o ho=>?_⟩⟩;obtain ⟨j,hj,rfl⟩:=List.mem_iff_getElem.1 ho;exact HALL.out.1 j hj oM
end
section
open Go Go.RowKit
section
variable {w w':World} {p v:Nat} {d d':Dk} {k:Kp} {s:StM} {S0:List PairM} {F:List Nat} {kb m mb rb rk:Nat} {mv:Value} {ents:List (Int × Nat)}
theorem recallMap_c (h:VtPre w p v d (preV k s []) F kb m mb mv (.pointer (some ⟨rb,0,none⟩))) (hR:RgE (ringOwn rb rk ents) w w rb (str masterL) s.key s.boot 0 rk ents) (hrF:rk ∉ F) (hmk:mb≠rk) (hf:DkFit d) (hk:s.key≤1000000) (hs:1≤s.slot∧s.slot≤2) (hp:PairsOk S0) (t:List UInt8) (ht:Sealed s.key sMap (pairsB S0) t) (hh:slotHas d s.slot t) :
 Calls Tryz.prog 124 #[.pointer (some ⟨v,0,none⟩)] w fun e w'=>e=.returned (.int .i64 0)∧∃m' mb' ents',VtPre w' p v d (preV k s S0) F kb m' mb' mv (.pointer (some ⟨rb,0,none⟩))∧RgE (ringOwn rb rk ents') w' w' rb (str masterL) s.key s.boot 0 rk ents'∧mb'≠rk∧w.heap.size≤m'∧w.heap.size≤mb' ∧
  (∀q,ringOwn rb rk ents' q→ringOwn rb rk ents q∨w.heap.size≤q)∧Upd (fun q=>q=v∨ringOwn rb rk ents q) w w':=by
 have hpl:=pairsB_len hp;have htl:=ht.len oM;have n2:slotN t≤80:=slotN_le oM;have n1:1≤slotN t:=by unfold slotN;omega
 obtain ⟨key,boot,n,k1,k2,k3,k4,k5⟩:=ht;have hrs:=rslot_c h.disk.drew hf.off hf.len s.slot hs.1 hs.2 t hh n1 n2;have hro:=fun (W:World) (hU:Upd (fun _=>False) w W)=>ropen_c (hR.still hU) (by rw [str_size];decide) oM key boot n k1 k3 k4 (str sMap) dC (pairsB S0) oM (str t) (by rw [str_list,str_list,str_list];exact k5)
 have htp:=fun (W:World)=>tpairs_c (w:=W) S0 (fun x hx=>⟨okPath_len (hp.each x hx).1,(hp.each x hx).2⟩) hp.len (str (pairsB S0)) (str_list _)
 have HRS:=Lib.hid hrs;have HRO:=Lib.hid hro;have HTP:=Lib.hid htp;have hof:=ofP_same hp;have hlt:=h.blk.lt;have H:=h7k h hR hrF hmk hp hof hlt;clear h hR hrF hmk hf hk hs hp hh hpl htl n1 n2 k1 k2 k3 k4 k5 hrs hro htp hof hlt;go_enter Tryz.func124,Tryz.ntmps124
 go_upto_region 1 with fail
 refine wp_region_noPanic ?_;refine wp_region_T (S:=fun w'=>w'.cell? ⟨v,5,none⟩=some (.pointer (some ⟨p,0,none⟩))∧w'.cell? ⟨v,16,none⟩=some (.int .i64 (s.slot:Int))) (T:=fun _=>false) kR ?_;have hS0:w.drew.cell? ⟨v,5,none⟩=some (.pointer (some ⟨p,0,none⟩))∧w.drew.cell? ⟨v,16,none⟩=some (.int .i64 (s.slot:Int)):=⟨H.out.1.blk.drew.cell 5,H.out.1.blk.drew.cell 16⟩;refine tK8 0 ?_;refine tK8 1 ?_;refine tK8 2 ?_;refine tQ8 3 (fun w' hSw=>hSw.1) ?_;refine tK8 4 ?_;refine tK8 5 ?_;refine tK8 6 ?_;refine tK8 7 ?_;refine tQ8 8 (fun w' hSw=>hSw.2) ?_;refine wo1 9 (fun KK hKK=>?_);go_simp
 refine HRS.out.mono ?_;rintro e w2 ⟨rfl,hU2⟩;have hU:Upd (fun _=>False) w w2:=(Upd.refl _ w).drew.then hU2 (fun _ e=>.inl e);have hB2:=H.out.1.blk.upd hU (fun e=>e);have hS2:w2.cell? ⟨v,5,none⟩=some (.pointer (some ⟨p,0,none⟩))∧w2.cell? ⟨v,16,none⟩=some (.int .i64 (s.slot:Int)):=⟨hB2.cell 5,hB2.cell 16⟩;refine hKK.out _ _ hS2 ?_;have H2:=Lib.hid hU;have c8:w2.cell? ⟨v,8,none⟩=some (.pointer (some ⟨rb,0,none⟩)):=hB2.cell 8;clear hKK hU2 hU hB2;refine tK8 10 ?_;refine tK8 11 ?_;refine tK8 12 ?_;refine tK8 13 ?_;refine tK8 14 ?_;refine wdn ?_;refine NoPanic.normal ?_;clear hS0 hS2;go_upto_region 10 with (first
  | (go_at_call 123;refine (HRO.out _ H2.out).mono ?_;rintro e w3 ⟨rfl,ents',hR3⟩
     have H3:=h2k hR3 (H.out.1.ring_ H.out.2.1 H.out.2.2.1 H.out.2.2.2.1 hR3.upd);clear hR3)
  | (go_at_call 183;refine (HTP.out _).mono ?_;rintro e w4 ⟨pv,rfl,hO4,hn4,hU4⟩
     have H4:=h3k hO4 hn4 hU4;clear hO4 hn4 hU4))
 have hT:=TRow.of_own (cs:=S0.map pairRow) (k:=2) (n:=S0.length) (by have:=H4.out.1;rw [pairsV,List.flatMap_def] at this;exact this) (List.length_map _) (oN H.out.2.2.2.2.1.len) (fun c hc=>by obtain ⟨q,-,rfl⟩:=List.mem_map.1 hc;rfl)
 obtain ⟨PA,pcap,pb,po,hpv1,hpv2,hpv3,hpv4,hpv5⟩:=hT.open_;rw [List.length_map] at hpv1 hpv2 hpv3 hpv4;have hoo:=oof_c (w:=w4) (A:=PA) (cap:=pcap) (b:=pb) (off:=po) (l:=S0) hpv4 (fun w' hu i hi=>hpv5 w' (fun _=>False) hu (fun _ _ e=>e) i (pairRow S0[i]) (by simp [hi])) (fun x hx=>by have h1:=okPath_len (H.out.2.2.2.2.1.each x hx).1;have h2:=(H.out.2.2.2.2.1.each x hx).2;omega) (oN H.out.2.2.2.2.1.len);rw [← hpv1] at hoo;have HOO:=Lib.hid hoo;clear hT hpv1 hpv2 hpv3 hpv4 hpv5 hoo c8;go_wp2_with (first
  | (go_at_call 75;refine HOO.out.mono ?_;intro e w5 hE5
     obtain ⟨m2,mb2,rfl,hm5,hm5a,hm5b⟩:=hE5.yes (by rw [H.out.2.2.2.2.2.1]);rw [H.out.2.2.2.2.2.1] at hm5;have hU5:=hE5.upd;have h5:=(H3.out.2.still H4.out.2.2).still hU5;have H5:=h5k hm5 hm5a hm5b hU5 h5;have HB5:=Lib.hid h5.blk;clear hm5 hm5a hm5b hU5 h5 hE5)
  | (refine wpList_store_one rfl _ _ _ rfl v 0 (.pointer (some ⟨m2,0,none⟩)) rfl rfl _ _ HB5.out (by simp [preRow]) rfl kR ?_
     intro w6 hB6 hU6 hz6;have H6:=h2k hB6 hU6;clear hB6 hU6 hz6))
 go_ret
 have hlt:=H.out.2.2.2.2.2.2;have hz3:=H3.out.1.upd.size;have hz4:=H4.out.2.2.size;have hm5a:=H5.out.2.1;have hm5b:=H5.out.2.2.1;have hvr:¬ringOwn rb rk ents' v:=H3.out.1.own_not H3.out.2.blk dC dC;have hR6:=RgE.move ((H3.out.1.still H4.out.2.2).still H5.out.2.2.2.1) H6.out.2 (fun q hq e=>hvr (by rw [← show q=v from e];exact hq));have hrk:rk<w.heap.size:=H.out.2.1.map.lt;have hmF:mb2 ∉ F:=fun e=>by have:=H.out.1.disk.lt _ e;omega
 have hm6:=H5.out.1.upd H6.out.2 (fun e=>by have e2:m2=v:=e;omega) (fun e=>by have e2:mb2=v:=e;omega);have h6:=H5.out.2.2.2.2.cells_ (V':=preV k s S0) H6.out.2 H6.out.1 rfl hm6 hmF (H5.out.2.2.2.2.mts.upd H6.out.2 (fun q ht e=>by
  have e2:q=v:=e;subst e2;exact absurd (HB5.out.ty.inj ht) dC))
 refine ⟨rfl,m2,mb2,ents',h6,hR6,fun e=>by omega,oM,oM,H3.out.1.own_is,?_⟩;exact (((H3.out.1.upd.mono (fun q e=>.inl (.inr e))).then H4.out.2.2 wz0).then H5.out.2.2.2.1 wz0).then H6.out.2 (fun q e=>.inl (.inl e))
end
structure RecLeft17 (w w':World) (p v:Nat) (d:Dk) (k:Kp) (s:StM) (S0:List PairM) (F:List Nat) (kb m mb m' mb' rb rk:Nat) (mv':Value) (ents:List (Int × Nat)):Prop where
 pre:VtPre w' p v d (preV k { s with boot:=s.boot+1 } S0) F kb m' mb' mv' (.pointer (some ⟨rb,0,none⟩))
 ring:RgE (ringOwn rb rk ents) w' w' rb (str masterL) s.key (s.boot+1) 0 rk ents
 rkF:rk ∉ F
 mbk:mb'≠rk
 new:∀q,ringOwn rb rk ents q→w.heap.size≤q
 m:m'=m∨w.heap.size≤m'
 mb:mb'=mb∨w.heap.size≤mb'
 upd:Upd (· = v) w w'
section
variable {w w':World} {p v:Nat} {d d':Dk} {k:Kp} {s:StM} {S0:List PairM} {F:List Nat} {kb m mb:Nat}
theorem recall_none (h:VtPre w p v d (preV k stM0 []) F kb m mb (.slice none 0 0) (.pointer none)) (hq:Recalls d k s S0) (h0:k.gen=0) :
 Calls Tryz.prog 65 #[.pointer (some ⟨v,0,none⟩),.string (str masterL)] w fun e w'=>e=.returned (.int .i64 0)∧∃m' mb' mv' rb rk ents,RecLeft17 w w' p v d k s S0 F kb m mb m' mb' rb rk mv' ents:=by
 obtain ⟨rfl,rfl⟩:s=stM0∧S0=[]:=by
  rcases hq.text with e | e
  ·exact e.2
  ·exact absurd e.1 oM
 obtain ⟨s,hs⟩:=eqx stM0;have hg:=Get_c h.kept;rw [show decide (0<(preV k stM0 []).kp.gen)=false by simp [preV,h0]] at hg;have HG:=Lib.hid hg;have c6:w.cell? ⟨v,6,none⟩=some (.pointer (some ⟨kb,0,none⟩)):=h.blk.cell 6;rw [hs] at hq h ⊢;have H:=Lib.hid h;have HQ:=Lib.hid hq;have HSS:=Lib.hid hs;clear h hq hg h0 hs;go_enter Tryz.func65,Tryz.ntmps65
 go_upto_region 8 with (first
  | (go_at_call 120;refine HG.out.mono ?_;rintro e w1 ⟨rfl,hb1⟩
     have hU1:=Upd.of_below hb1 (fun _=>False);have HX:=h2k (H.out.still hU1) (hU1.mono (G:=fun q=>q=v) wz0);clear hb1 hU1))
 have c19:w1.cell? ⟨v,19,none⟩=some (.int .u32 (s.boot:Int)):=HX.out.1.blk.cell 19;have b0:((s.boot:Int) == 4294967295)=false:=by rw [beq_eq_false_iff_ne];have:=HQ.out.boot;omega
 have b1:IntKind.u32.wrap ((s.boot:Int)+1)=((s.boot+1:Nat):Int):=by rw [IntWalk.u32_in _ (oN HQ.out.boot)];omega
 have HB8:=Lib.hid HX.out.1.blk;go_upto_region 11 with (first
  | (refine wpList_store_one rfl _ _ _ rfl v 19 (.int .u32 ((s.boot+1:Nat):Int)) rfl (by first | rfl | (rw [← b1];rfl)) _ _ HB8.out (by simp [preRow]) rfl kR ?_
     intro wb hBb hUb hzb;have Hb:=h2k hBb hUb;clear hBb hUb hzb))
 clear c19 b0 b1;have hXb:=HX.out.1.nums_ (V' := { preV k s [] with st := { s with boot:=s.boot+1 } }) Hb.out.2 Hb.out.1 rfl rfl rfl;have HXb:=h2k hXb (HX.out.2.then Hb.out.2 (fun q e=>.inl e));have hrn:=rnew_c (str masterL) s.key (s.boot+1) (oN HQ.out.ok.key) wb.drew;have HRN:=Lib.hid hrn;clear hXb hrn;refine wp_region_noPanic ?_;refine wp_region_T (S:=fun w'=>w'.cell? ⟨v,18,none⟩=some (.int .i64 (s.key:Int))∧w'.cell? ⟨v,19,none⟩=some (.int .u32 ((s.boot+1:Nat):Int))) (T:=fun _=>false) kR ?_;have hS0:wb.drew.cell? ⟨v,18,none⟩=some (.int .i64 (s.key:Int))∧wb.drew.cell? ⟨v,19,none⟩=some (.int .u32 ((s.boot+1:Nat):Int)):=⟨HXb.out.1.blk.drew.cell 18,HXb.out.1.blk.drew.cell 19⟩;refine tK8 0 ?_;refine tK8 1 ?_;refine tK8 2 ?_;refine tK8 3 ?_;refine tK8 4 ?_;refine tQ8 5 (fun w' hSw=>hSw.1) ?_;refine tK8 6 ?_;refine tK8 7 ?_;refine tK8 8 ?_;refine tK8 9 ?_;refine tQ8 10 (fun w' hSw=>hSw.2) ?_;refine wo1 11 (fun KK hKK=>?_);go_simp
 refine HRN.out.mono ?_;rintro e wr ⟨rb,rk,rfl,hRr⟩;have hU:Upd (fun _=>False) wb wr:=(Upd.refl _ wb).drew.then hRr.upd (fun _ e=>.inl e);have hXr:=HXb.out.1.still hU;have hS2:wr.cell? ⟨v,18,none⟩=some (.int .i64 (s.key:Int))∧wr.cell? ⟨v,19,none⟩=some (.int .u32 ((s.boot+1:Nat):Int)):=⟨hXr.blk.cell 18,hXr.blk.cell 19⟩;refine hKK.out _ _ hS2 ?_;have HXr:=h4k hXr (HXb.out.2.then hU wz0) hRr hU;have HBr:=Lib.hid hXr.blk;clear hKK hU hXr hRr;refine tK8 12 ?_;refine tK8 13 ?_;refine tK8 14 ?_;refine tK8 15 ?_;refine tK8 16 ?_;refine wdn ?_;refine NoPanic.normal ?_;clear hS0 hS2;go_upto_region 15 with (first
  | (refine wpList_store_one rfl _ _ _ rfl v 8 (.pointer (some ⟨rb,0,none⟩)) rfl rfl _ _ HBr.out (by simp [preRow]) rfl kR ?_
     intro w7 hB7 hU7 hz7;have H7:=h2k hB7 hU7;clear hB7 hU7 hz7))
 have hX7:=HXr.out.1.nums_ (V' := { preV k s [] with st := { s with boot:=s.boot+1 } }) (rg':=.pointer (some ⟨rb,0,none⟩)) H7.out.2 H7.out.1 rfl rfl rfl;have hnew:∀q,ringOwn rb rk [] q→w.heap.size≤q:=fun q hq=>by
  have h1:=(HXr.out.2.2.1.own_is q hq).elim (fun e=>e.elim) id;have h2:=HXb.out.2.size;exact Nat.le_trans h2 h1
 have hvr:∀q,ringOwn rb rk [] q→¬q=v:=fun q hq e=>by
  have h1:=hnew q hq;have h2:=H.out.blk.lt;omega
 have hR7:=RgE.move HXr.out.2.2.1 H7.out.2 hvr;have hrk:=hnew rk (.inr (.inl rfl));have hrF:rk ∉ F:=fun e=>by have:=H.out.disk.lt _ e;omega
 have hmk:mb≠rk:=fun e=>by have:=H.out.map.lt;omega
 have HX7:=h6k hX7 (HXr.out.2.1.then H7.out.2 (fun q e=>.inl e)) hR7 hrF hmk hnew;clear hX7 hnew hvr hR7 hrk hrF hmk;go_wp2_with fail
 go_ret
 exact ⟨rfl,m,mb,_,rb,rk,[],HX7.out.1,HX7.out.2.2.1,HX7.out.2.2.2.1,HX7.out.2.2.2.2.1,HX7.out.2.2.2.2.2,.inl rfl,.inl rfl,HX7.out.2.1⟩
theorem recall_some (h:VtPre w p v d (preV k stM0 []) F kb m mb (.slice none 0 0) (.pointer none)) (hf:DkFit d) (hq:Recalls d k s S0) (h0:0<k.gen) :
 Calls Tryz.prog 65 #[.pointer (some ⟨v,0,none⟩),.string (str masterL)] w fun e w'=>e=.returned (.int .i64 0)∧∃m' mb' mv' rb rk ents,RecLeft17 w w' p v d k s S0 F kb m mb m' mb' rb rk mv' ents:=by
 obtain ⟨t,ht,htx⟩:∃t,Sealed s.key sSecret s.m.secret t∧k.text=stB s t:=by
  rcases hq.text with e | e
  ·exact absurd e.1 oM
  ·exact e.2
 have hsl:s.m.secret.length≤64:=(rightM_ok hq.ok.right).sec;have htl:=(ht.len oM).1;obtain ⟨key,bo,nn,k1,k2,k3,k4,k5⟩:=ht;have hg:=Get_c h.kept;rw [show decide (0<(preV k stM0 []).kp.gen)=true from decide_eq_true h0,show (preV k stM0 []).kp.text=k.text from rfl,htx] at hg;have hvr:=fun W=>vread_c (w:=W) s hq.ok t oM (str (stB s t)) (str_list _)
 have hro:=fun (W:World) (rb rk:Nat) (hR:RgE (ringOwn rb rk []) W W rb (str masterL) s.key (s.boot+1) 0 rk [])=>ropen_c hR (by rw [str_size];decide) (oN hq.ok.key) key bo nn k1 k3 k4 (str sSecret) dC s.m.secret oM (str t) (by rw [str_list,str_list,str_list];exact k5)
 have c6:w.cell? ⟨v,6,none⟩=some (.pointer (some ⟨kb,0,none⟩)):=h.blk.cell 6;have HG:=Lib.hid hg;have HVR:=Lib.hid hvr;have HRO:=Lib.hid hro;have H:=Lib.hid h;have HQ:=Lib.hid hq;have HF:=Lib.hid hf;clear h hq hg h0 hf htx hsl htl k1 k2 k3 k4 k5 hvr hro;go_enter Tryz.func65,Tryz.ntmps65
 go_upto_region 4 with (first
  | (go_at_call 120;refine HG.out.mono ?_;rintro e w1 ⟨rfl,hb1⟩
     have hU1:=Upd.of_below hb1 (fun _=>False);have H1:=h2k (H.out.still hU1) hU1;clear hb1 hU1))
 go_upto_region 8 with (first
  | (go_at_call 121;refine (HVR.out _).mono ?_;rintro e w2 ⟨mv2,rfl,hO2,hn2,hU2⟩
     have hrow:=stRow_one { s with m := { s.m with secret:=[] } } mv2 hO2.one;have hT2:=TRow.of_own (cs:=s.m.mounts.map mtRow) (k:=2) (n:=s.m.mounts.length) (by rw [mtsV,List.flatMap_def] at hO2;exact hO2) (List.length_map _) (oN (rightM_ok HQ.out.ok.right).mts) (fun c hc=>by obtain ⟨q,-,rfl⟩:=List.mem_map.1 hc;rfl)
     have H2:=h4k (H1.out.1.still hU2) (H1.out.2.then hU2 wz0) hT2 hrow;obtain ⟨C,hC⟩:=eqx (stRow { s with m := { s.m with secret:=[] } } mv2);have HC:=Lib.hid hC;rw [hC];clear hO2 hn2 hU2 hrow hT2 hC)
  | (refine wpList_store_all rfl 115 _ _ rfl w2.heap.size C rfl rfl _ _ (Blk.new w2 _ _) (by rw [← HC.out];rfl) (by rw [← HC.out];exact H2.out.2.2.2) (by rw [← HC.out];kernel_rfl) ?_
     intro w3 hB3 hU3 hz3;have hU23:Upd (fun _=>False) w2 w3:=((Upd.refl (fun _=>False) w2).alloc _).then hU3 (fun q e=>.inr (by have e2:q=w2.heap.size:=e;omega));have H3:=h4k (H2.out.1.still hU23) (H2.out.2.1.then hU23 wz0) (H2.out.2.2.1.still hU23) hB3;have hblk:=Lib.hid H3.out.1.blk;have hsz:9+C.size≤(preRow (preV k stM0 []) p kb m (.slice none 0 0) (.pointer none)).size:=by rw [← HC.out];exact Nat.le_of_ble_eq_true rfl
     have hnew:(preRow (preV k stM0 []) p kb m (.slice none 0 0) (.pointer none)).toList.take 9++C.toList++(preRow (preV k stM0 []) p kb m (.slice none 0 0) (.pointer none)).toList.drop (9+C.size)=(preRow { preV k stM0 [] with st := { s with m := { s.m with secret:=[] } } } p kb m mv2 (.pointer none)).toList:=by rw [← HC.out];rfl
     have HN:=h2k hsz hnew;clear hB3 hU3 hz3 hU23 hsz hnew)
  | (refine wlx _ w2.heap.size H3.out.2.2.2 Tryz.underlying115 (by rw [← HC.out];kernel_rfl) ?_)
  | (refine wpList_store_part rfl 115 _ _ rfl v 9 C rfl rfl _ _ (preRow { preV k stM0 [] with st := { s with m := { s.m with secret:=[] } } } p kb m mv2 (.pointer none)) hblk.out HN.out.1 HN.out.2 (by rw [← HC.out];exact H2.out.2.2.2) (by rw [← HC.out];kernel_rfl) ?_
     intro w4 hB4 hU4 hz4;have H4:=h2k hB4 hU4;clear hB4 hU4 hz4))
 have hm4:=H3.out.1.map.upd H4.out.2 (fun e=>H3.out.1.mv_ne.1 e) (fun e=>H3.out.1.mv_ne.2.1 e);have hx4:=H3.out.1.cells_ (V' := { preV k stM0 [] with st := { s with m := { s.m with secret:=[] } } }) H4.out.2 H4.out.1 rfl hm4 H3.out.1.mbF (H3.out.2.2.1.upd H4.out.2 (fun q ht e=>by
  have e2:q=v:=e;subst e2;exact absurd (H3.out.1.blk.ty.inj ht) dC))
 have HX:=h2k hx4 ((H3.out.2.1.mono (G:=fun q=>q=v) wz0).then H4.out.2 (fun q e=>.inl e));clear hm4 hx4;have c19:w4.cell? ⟨v,19,none⟩=some (.int .u32 (s.boot:Int)):=HX.out.1.blk.cell 19;have b0:((s.boot:Int) == 4294967295)=false:=by rw [beq_eq_false_iff_ne];have:=HQ.out.boot;omega
 have b1:IntKind.u32.wrap ((s.boot:Int)+1)=((s.boot+1:Nat):Int):=by rw [IntWalk.u32_in _ (oN HQ.out.boot)];omega
 have HB8:=Lib.hid HX.out.1.blk;go_upto_region 11 with (first
  | (refine wpList_store_one rfl _ _ _ rfl v 19 (.int .u32 ((s.boot+1:Nat):Int)) rfl (by first | rfl | (rw [← b1];rfl)) _ _ HB8.out (by simp [preRow]) rfl kR ?_
     intro wb hBb hUb hzb;have Hb:=h2k hBb hUb;clear hBb hUb hzb))
 clear c19 b0 b1;have hXb:=HX.out.1.nums_ (V' := { preV k stM0 [] with st := { ({ s with m := { s.m with secret:=[] } } : StM) with boot:=s.boot+1 } }) Hb.out.2 Hb.out.1 rfl rfl rfl;have HXb:=h2k hXb (HX.out.2.then Hb.out.2 (fun q e=>.inl e));have hrn:=rnew_c (str masterL) s.key (s.boot+1) (oN HQ.out.ok.key) wb.drew;have HRN:=Lib.hid hrn;clear hXb hrn;refine wp_region_noPanic ?_;refine wp_region_T (S:=fun w'=>w'.cell? ⟨v,18,none⟩=some (.int .i64 (s.key:Int))∧w'.cell? ⟨v,19,none⟩=some (.int .u32 ((s.boot+1:Nat):Int))) (T:=fun _=>false) kR ?_;have hS0:wb.drew.cell? ⟨v,18,none⟩=some (.int .i64 (s.key:Int))∧wb.drew.cell? ⟨v,19,none⟩=some (.int .u32 ((s.boot+1:Nat):Int)):=⟨HXb.out.1.blk.drew.cell 18,HXb.out.1.blk.drew.cell 19⟩;refine tK8 0 ?_;refine tK8 1 ?_;refine tK8 2 ?_;refine tK8 3 ?_;refine tK8 4 ?_;refine tQ8 5 (fun w' hSw=>hSw.1) ?_;refine tK8 6 ?_;refine tK8 7 ?_;refine tK8 8 ?_;refine tK8 9 ?_;refine tQ8 10 (fun w' hSw=>hSw.2) ?_;refine wo1 11 (fun KK hKK=>?_);go_simp
 refine HRN.out.mono ?_;rintro e wr ⟨rb,rk,rfl,hRr⟩;have hU:Upd (fun _=>False) wb wr:=(Upd.refl _ wb).drew.then hRr.upd (fun _ e=>.inl e);have hXr:=HXb.out.1.still hU;have hS2:wr.cell? ⟨v,18,none⟩=some (.int .i64 (s.key:Int))∧wr.cell? ⟨v,19,none⟩=some (.int .u32 ((s.boot+1:Nat):Int)):=⟨hXr.blk.cell 18,hXr.blk.cell 19⟩;refine hKK.out _ _ hS2 ?_;have HXr:=h4k hXr (HXb.out.2.then hU wz0) hRr hU;have HBr:=Lib.hid hXr.blk;clear hKK hU hXr hRr;refine tK8 12 ?_;refine tK8 13 ?_;refine tK8 14 ?_;refine tK8 15 ?_;refine tK8 16 ?_;refine wdn ?_;refine NoPanic.normal ?_;clear hS0 hS2;go_upto_region 15 with (first
  | (refine wpList_store_one rfl _ _ _ rfl v 8 (.pointer (some ⟨rb,0,none⟩)) rfl rfl _ _ HBr.out (by simp [preRow]) rfl kR ?_
     intro w7 hB7 hU7 hz7;have H7:=h2k hB7 hU7;clear hB7 hU7 hz7))
 have hX7:=HXr.out.1.nums_ (V' := { preV k stM0 [] with st := { ({ s with m := { s.m with secret:=[] } } : StM) with boot:=s.boot+1 } }) (rg':=.pointer (some ⟨rb,0,none⟩)) H7.out.2 H7.out.1 rfl rfl rfl;have hnew:∀q,ringOwn rb rk [] q→w.heap.size≤q:=fun q hq=>by
  have h1:=(HXr.out.2.2.1.own_is q hq).elim (fun e=>e.elim) id;have h2:=HXb.out.2.size;exact Nat.le_trans h2 h1
 have hvr:∀q,ringOwn rb rk [] q→¬q=v:=fun q hq e=>by
  have h1:=hnew q hq;have h2:=H.out.blk.lt;omega
 have hR7:=RgE.move HXr.out.2.2.1 H7.out.2 hvr;have hrk:=hnew rk (.inr (.inl rfl));have hrF:rk ∉ F:=fun e=>by have:=H.out.disk.lt _ e;omega
 have hmk:mb≠rk:=fun e=>by have:=H.out.map.lt;omega
 have HX7:=h6k hX7 (HXr.out.2.1.then H7.out.2 (fun q e=>.inl e)) hR7 hrF hmk hnew;clear hX7 hnew hvr hR7 hrk hrF hmk;have HRO2:=Lib.hid (HRO.out w7 rb rk HX7.out.2.2.1);go_upto_region 20 with (first
  | (go_at_call 123;refine HRO2.out.mono ?_;rintro e w8 ⟨rfl,ents,hR8⟩
     have hX8:=HX7.out.1.ring_ HX7.out.2.2.1 HX7.out.2.2.2.1 HX7.out.2.2.2.2.1 hR8.upd;have HB8:=Lib.hid hX8.blk;have HX8:=h2k hX8 hR8;clear hX8 hR8)
  | (refine wpList_store_one rfl _ _ _ rfl v 13 (.string (str s.m.secret)) rfl rfl _ _ HB8.out (by simp [preRow]) rfl kR ?_
     intro w9 hB9 hU9 hz9;have H9:=h2k hB9 hU9;clear hB9 hU9 hz9))
 have hX9:=HX8.out.1.nums_ (V' := { preV k stM0 [] with st := { s with boot:=s.boot+1 } }) (rg':=.pointer (some ⟨rb,0,none⟩)) H9.out.2 H9.out.1 rfl rfl rfl;have hvr:∀q,ringOwn rb rk ents q→¬q=v:=fun q hq e=>HX8.out.2.own_not HX8.out.1.blk dC dC (by rw [← e];exact hq)
 have hR9:=RgE.move HX8.out.2 H9.out.2 hvr;have hnew9:∀q,ringOwn rb rk ents q→w.heap.size≤q:=fun q hq=>by
  rcases HX8.out.2.own_is q hq with e | e
  ·exact HX7.out.2.2.2.2.2 q e
  ·have:=HX7.out.2.1.size;omega
 have hU9:Upd (· = v) w w9:=(HX7.out.2.1.then HX8.out.2.upd (fun q e=>.inr (HX7.out.2.2.2.2.2 q e))).then H9.out.2 (fun q e=>.inl e);obtain ⟨MA,mcap,mbb,mo,hmv1,hmv2,hmv3,hmv4,hmv5⟩:=hX9.mts.mts;have hri:=vright_c (w:=w9) (A:=MA) (cap:=mcap) (b:=mbb) (off:=mo) s.m hmv4 (fun w' hu=>hmv5 w' (fun _=>False) hu (fun _ _ e=>e)) hmv3 hmv2 (fun x hx=>by have:=((rightM_ok HQ.out.ok.right).each x hx).2;omega);rw [← hmv1,HQ.out.ok.right] at hri;have HRI:=Lib.hid hri;have HX9:=h4k hX9 hR9 hnew9 hU9;clear hX9 hvr hR9 hnew9 hU9 hmv1 hmv2 hmv3 hmv4 hmv5 hri;go_upto_region 22 with (first
  | (refine wpList_load_part rfl _ _ rfl v 9 rfl _ _ [.int .i64 s.m.role,.int .i64 s.m.seen,.int .i64 s.m.grant,mv2,.string (str s.m.secret)] _ HX9.out.1.blk (fun j u e=>(by match j,e with | 0,e=>exact e | 1,e=>exact e | 2,e=>exact e | 3,e=>exact e | 4,e=>exact e)) Tryz.underlying50 rfl kR ?_)
  | (go_at_call 41;refine HRI.out.mono ?_;rintro e w11 ⟨rfl,hU11⟩
     have HX11:=h3k (HX9.out.1.still hU11) (HX9.out.2.1.move hU11 (fun _ _ e=>e)) (HX9.out.2.2.2.then hU11 wz0);clear hU11))
 refine wp_region_noPanic ?_;refine wp_region_T (S:=fun w'=>w'.cell? ⟨v,14,none⟩=some (.int .i64 s.at_)∧w'.cell? ⟨v,15,none⟩=some (.int .i64 s.epoch)) (T:=fun _=>false) kR ?_;have hS0:w11.drew.cell? ⟨v,14,none⟩=some (.int .i64 s.at_)∧w11.drew.cell? ⟨v,15,none⟩=some (.int .i64 s.epoch):=⟨HX11.out.1.blk.drew.cell 14,HX11.out.1.blk.drew.cell 15⟩;refine tK8 0 ?_;refine tK8 1 ?_;refine tK8 2 ?_;refine tK8 3 ?_;refine tK8 4 ?_;refine tK8 5 ?_;refine tK8 6 ?_;refine tQ8 7 (fun w' hSw=>hSw.1) ?_;refine tK8 8 ?_;refine tK8 9 ?_;refine tK8 10 ?_;refine tK8 11 ?_;refine tQ8 12 (fun w' hSw=>hSw.2) ?_;refine tK8 13 ?_;refine tK8 14 ?_;refine tK8 15 ?_;refine tK8 16 ?_;refine tQ8 17 (fun w' hSw=>hSw.2) ?_;refine tK8 18 ?_;refine tK8 19 ?_;refine tK8 20 ?_;refine wo1 21 (fun KK hKK=>?_);rw [if_pos (show Region.wanted _ _=true by rfl)];refine wp_store_one _ _ _ rfl v 1 (.int .i64 s.at_) rfl rfl _ _ HX11.out.1.blk.drew (by simp [preRow]) rfl kR (fun w12 hB12 hU12 hz12=>?_);have hS12:w12.cell? ⟨v,14,none⟩=some (.int .i64 s.at_)∧w12.cell? ⟨v,15,none⟩=some (.int .i64 s.epoch):=⟨hB12.cell 14,hB12.cell 15⟩;refine hKK.out _ _ hS12 ?_;clear hKK;simp only [Act.put]
 refine tK8 22 ?_;refine tK8 23 ?_;refine tK8 24 ?_;refine wo1 25 (fun KK hKK=>?_);rw [if_pos (show Region.wanted _ _=true by rfl)];refine wp_store_one _ _ _ rfl v 2 (.int .i64 s.epoch) rfl rfl _ _ hB12 (by simp [preRow]) rfl kR (fun w13 hB13 hU13 hz13=>?_);have hS13:w13.cell? ⟨v,14,none⟩=some (.int .i64 s.at_)∧w13.cell? ⟨v,15,none⟩=some (.int .i64 s.epoch):=⟨hB13.cell 14,hB13.cell 15⟩;refine hKK.out _ _ hS13 ?_;clear hKK;simp only [Act.put];refine tK8 26 ?_;refine tK8 27 ?_;refine tK8 28 ?_;refine wo1 29 (fun KK hKK=>?_);rw [if_pos (show Region.wanted _ _=true by rfl)];refine wp_store_one _ _ _ rfl v 4 (.int .i64 s.epoch) rfl rfl _ _ hB13 (by simp [preRow]) rfl kR (fun w14 hB14 hU14 hz14=>?_);have hS14:w14.cell? ⟨v,14,none⟩=some (.int .i64 s.at_)∧w14.cell? ⟨v,15,none⟩=some (.int .i64 s.epoch):=⟨hB14.cell 14,hB14.cell 15⟩;refine hKK.out _ _ hS14 ?_;clear hKK;simp only [Act.put];refine wdn ?_;refine NoPanic.normal ?_;clear hS0 hS12 hS13 hS14;have hU14:Upd (· = v) w11 w14:=(((Upd.refl (fun q=>q=v) w11).drew.then hU12 (fun q e=>.inl e)).then hU13 (fun q e=>.inl e)).then hU14 (fun q e=>.inl e);have hX14:=HX11.out.1.nums_ (V':=preV k { s with boot:=s.boot+1 } []) (rg':=.pointer (some ⟨rb,0,none⟩)) hU14 hB14 rfl rfl rfl
 have hvr:∀q,ringOwn rb rk ents q→¬q=v:=fun q hq e=>HX11.out.2.1.own_not HX11.out.1.blk dC dC (by rw [← e];exact hq)
 have hR14:=RgE.move HX11.out.2.1 hU14 hvr;have HX14:=h3k hX14 hR14 (HX11.out.2.2.then hU14 (fun q e=>.inl e));have c16:w14.cell? ⟨v,16,none⟩=some (.int .i64 (s.slot:Int)):=hX14.blk.cell 16;clear hX14 hvr hR14 hU12 hU13 hU14 hB12 hB13 hB14 hz12 hz13 hz14;by_cases hsl:s.slot=0
 ·have hs0:((s.slot:Int) == 0)=true:=by rw [hsl];rfl
  have hS0:S0=[]:=by
   rcases HQ.out.slot with e | e
   ·exact e.2
   ·exact absurd e.1 oM
  have HS0:=Lib.hid hS0;clear hsl hS0;go_wp2_with fail
  go_ret
  rw [HS0.out];exact ⟨rfl,m,mb,mv2,rb,rk,ents,HX14.out.1,HX14.out.2.1,HX7.out.2.2.2.1,HX7.out.2.2.2.2.1,HX9.out.2.2.1,.inl rfl,.inl rfl,HX14.out.2.2⟩
 ·have hs0:((s.slot:Int) == 0)=false:=by rw [beq_eq_false_iff_ne];omega
  obtain ⟨h1,u,hu1,hu2⟩:1≤s.slot∧∃t,Sealed s.key sMap (pairsB S0) t∧slotHas d s.slot t:=by
   rcases HQ.out.slot with e | e
   ·exact absurd e.1 hsl
   ·exact e
  have hrm:=recallMap_c (s := { s with boot:=s.boot+1 }) (S0:=S0) HX14.out.1 HX14.out.2.1 HX7.out.2.2.2.1 HX7.out.2.2.2.2.1 HF.out (by have:=HQ.out.ok.key;exact this) ⟨h1,HQ.out.ok.slot⟩ HQ.out.pairs u hu1 hu2;have HRM:=Lib.hid hrm;clear hsl h1 hu1 hu2 hrm;go_wp2_with (first
   | (go_at_call 124;refine HRM.out.mono ?_;rintro e w15 ⟨rfl,m',mb',ents',hx,hr,hmk,hm1,hm2,hnw,hu⟩
      have H15:=h7k hx hr hmk hm1 hm2 hnw hu;clear hx hr hmk hm1 hm2 hnw hu))
  go_ret
  have hz:=HX14.out.2.2.size;refine ⟨rfl,m',mb',mv2,rb,rk,ents',H15.out.1,H15.out.2.1,HX7.out.2.2.2.1,H15.out.2.2.1,fun q hq=>?_,.inr (oN H15.out.2.2.2.1),.inr (oN H15.out.2.2.2.2.1),?_⟩
  ·rcases H15.out.2.2.2.2.2.1 q hq with e | e
   ·exact HX9.out.2.2.1 q e
   ·omega
  ·exact HX14.out.2.2.then H15.out.2.2.2.2.2.2 (fun q e=>e.elim .inl (fun e=>.inr (HX9.out.2.2.1 q e)))
theorem recall_c (h:VtPre w p v d (preV k stM0 []) F kb m mb (.slice none 0 0) (.pointer none)) (hf:DkFit d) (hq:Recalls d k s S0) :
 Calls Tryz.prog 65 #[.pointer (some ⟨v,0,none⟩),.string (str masterL)] w fun e w'=>e=.returned (.int .i64 0)∧∃m' mb' mv' rb rk ents,RecLeft17 w w' p v d k s S0 F kb m mb m' mb' rb rk mv' ents:=by
 by_cases h0:k.gen=0
 ·exact recall_none h hq h0
 ·exact recall_some h hf hq oM
end
theorem replL_append (a b:List BatM) (x:List PairM × Int × Int):replL (a++b) x=(replL a x).bind (replL b):=by
 induction a generalizing x with
 | nil=>rfl
 | cons c r ih =>
   rw [List.cons_append];unfold replL;split
   ·exact ih _
   ·rfl
theorem replL_at {rows:List BatM} {x0 x y:List PairM × Int × Int} {i:Nat} {b:BatM} (h:replL rows x0=some y) (hi:rows[i]? = some b) (hx:replL (rows.take i) x0=some x) :
 batErr b.index b.epoch b.ops=0∧b.index=x.2.1+1∧(doL x.1 b.ops).length≤48∧replL (rows.take (i+1)) x0=some (doL x.1 b.ops,b.index,b.epoch):=by
 have hlt:=(List.getElem?_eq_some_iff.1 hi).1;have hb:=(List.getElem?_eq_some_iff.1 hi).2;have e:rows=rows.take i++b::rows.drop (i+1):=by
  rw [← hb,List.getElem_cons_drop,List.take_append_drop]
 rw [e,replL_append,hx] at h;have h2:replL (b::rows.drop (i+1)) x=some y:=h;unfold replL at h2;split at h2
 ·rename_i hc
  refine ⟨hc.1,hc.2.1,hc.2.2.2,?_⟩;rw [List.take_add_one,hi,replL_append,hx];show replL [b] x=_;unfold replL;rw [if_pos hc];rfl
 ·cases h2
theorem doE_zero {S:List PairM} {i e:Int} {l:List OpM} (h:batErr i e l=0) (h48:(doL S l).length≤48):doE S l=0:=by
 obtain ⟨b1,b2,b3,b4,b5⟩:=batErr_zero h;unfold doE;have h1:batErr 1 1 l=0:=by
  unfold batErr at h ⊢;split at h
  ·cases h
  ·rw [if_neg oM]
   exact h
 rw [if_neg (by rw [h1];simp),if_neg oM]
def repV (g:Lg) (k:Kp) (s:StM) (x:List PairM × Int × Int) (rows:List BatM):VtM:=⟨x.1,x.2.1,x.2.2,rows,s.epoch,s,false,k,g,s.key,0⟩
section
variable {w w':World} {p v:Nat} {d d':Dk} {V V':VtM} {o o':VtO}
theorem VtAt.do_ {X:List PairM} {mb':Nat} (h:VtAt w p v d V o) (hu:Upd (· = o.m) w w') (hm:MapAt w' o.m mb' X) (hn:w.heap.size≤mb'):VtAt w' p v d { V with S:=X } { o with mb:=mb' } := by
 have hno:∀ {j q:Nat},o.cl v j q→¬q=o.m:=fun hq e=>h.not_mut h.map.blk.ty dC (e ▸ VtO.cl_mut hq)
 have hty:∀ {t:TypeId} {q:Nat},Ty w t q→t≠132→¬q=o.m:=fun ht hne e=>hne ((e ▸ ht).inj h.map.blk.ty)
 refine ⟨h.disk.upd hu (fun q hq=>hno (j:=1) hq),h.blk.upd hu (hno (j:=0) rfl),h.kept.upd hu (hno (j:=2) rfl),h.log.upd hu (hno (j:=3) rfl),h.recs.upd hu (fun q e=>hno (j:=4) e),h.sep,h.ring.move hu (fun q e=>hno (j:=5) e),h.rkF,hm,fun e=>?_,fun e=>?_,h.rows.upd hu (fun q e=>hno (j:=6) e),h.ovl,fun i b ov h1 h2=>(h.each i b ov h1 h2).upd hu (fun q ht=>hty ht dC),h.mts.upd hu (fun q ht=>hty ht dC)⟩
 ·have e2:mb' ∈ o.F:=e
  have:=h.lt (i:=1) oM e2;omega
 ·have:=h.lt (i:=5) (q:=o.rk) oM (.inr (.inl rfl))
  have e2:mb'=o.rk:=e;omega
end
structure RepLeft (w w':World) (p v:Nat) (d:Dk) (V:VtM) (F:List Nat) (kb m mb rb rk:Nat) (ents:List (Int × Nat)) (o':VtO):Prop where
 at_:VtAt w' p v d V o'
 upd:Upd (fun q=>q ∈ F∨q=v∨q=kb∨q=m∨ringOwn rb rk ents q) w w'
 sub:∀q,o'.mut v q→q ∈ F∨q=v∨q=kb∨ringOwn rb rk ents q∨w.heap.size≤q
 m:o'.m=m
 mb:o'.mb=mb∨w.heap.size≤o'.mb
section
variable {w w':World} {p v:Nat} {d:Dk} {k:Kp} {s:StM} {S0 S:List PairM} {F:List Nat} {kb m mb rb rk:Nat} {mv:Value} {ents:List (Int × Nat)} {g:Lg} {rows:List BatM} {at_ ep:Int}
theorem replay_c (h:VtPre w p v d (preV k s S0) F kb m mb mv (.pointer (some ⟨rb,0,none⟩))) (hR:RgE (ringOwn rb rk ents) w w rb (str masterL) s.key s.boot 0 rk ents) (hrF:rk ∉ F) (hmk:mb≠rk) (hf:DkFit d) (hok:StOk s) (hlog:1≤s.log) (hg:openG d 20 320 s.log=some g) (hr:Replays s S0 g rows S at_ ep) :
 Calls Tryz.prog 66 #[.pointer (some ⟨v,0,none⟩)] w fun e w'=>e=.returned (.int .i64 0)∧∃o',RepLeft w w' p v d (repV g k s (S,at_,ep) rows) F kb m mb rb rk ents o':=by
 have hop:=openG_on h.disk.drew 20 320 s.log dC (oN hf.len) hlog (oN hok.log) hf.off;rw [hg,show openErrG (some g)=0 from rfl] at hop;have HOP:=Lib.hid hop;have hvm:=h.mv_ne;have hlt:=h.blk.lt;have H:=h6k h hR hrF hmk hvm hlt;have HR:=h2k hr hok;clear h hR hrF hmk hf hok hlog hg hr hop hvm hlt;go_enter Tryz.func66,Tryz.ntmps66
 go_upto_region 1 with fail
 refine wp_region_noPanic ?_;refine wp_region_T (S:=fun w'=>w'.cell? ⟨v,5,none⟩=some (.pointer (some ⟨p,0,none⟩))∧w'.cell? ⟨v,17,none⟩=some (.int .u64 (s.log:Int))) (T:=fun _=>false) kR ?_;have hS0:w.drew.cell? ⟨v,5,none⟩=some (.pointer (some ⟨p,0,none⟩))∧w.drew.cell? ⟨v,17,none⟩=some (.int .u64 (s.log:Int)):=⟨H.out.1.blk.drew.cell 5,H.out.1.blk.drew.cell 17⟩;refine tK8 0 ?_;refine tK8 1 ?_;refine tK8 2 ?_;refine tQ8 3 (fun w' hSw=>hSw.1) ?_;refine tK8 4 ?_;refine tK8 5 ?_;refine tK8 6 ?_;refine tK8 7 ?_;refine tQ8 8 (fun w' hSw=>hSw.2) ?_;refine wo1 9 (fun KK hKK=>?_);go_simp
 refine HOP.out.mono ?_;rintro e w1 ⟨lg,rfl,hG⟩;obtain ⟨lb,lv,rfl,hlB,hlO,hlb0,hlv0⟩:=hG.ok g rfl;have hlb:w.heap.size≤lb:=hlb0;have hlv:∀q,lv.ownBlock=some q→w.heap.size≤q:=hlv0;have hU:Upd (fun _=>False) w w1:=(Upd.refl _ w).drew.then hG.upd (fun _ e=>.inl e);have hX1:=H.out.1.still hU;have hS2:w1.cell? ⟨v,5,none⟩=some (.pointer (some ⟨p,0,none⟩))∧w1.cell? ⟨v,17,none⟩=some (.int .u64 (s.log:Int)):=⟨hX1.blk.cell 5,hX1.blk.cell 17⟩;refine hKK.out _ _ hS2 ?_;have H1:=h6k hX1 hU hlB hlO hlb hlv;have HB1:=Lib.hid hX1.blk;clear hKK hU hX1 hlB hlO hlb hlv hlb0 hlv0 hG;refine tK8 10 ?_;refine tK8 11 ?_;refine tK8 12 ?_;refine tK8 13 ?_;refine tK8 14 ?_;refine wdn ?_;refine NoPanic.normal ?_;clear hS0 hS2;go_upto_region 5 with (first
  | (refine wpList_store_one rfl _ _ _ rfl v 7 (.pointer (some ⟨lb,0,none⟩)) rfl rfl _ _ HB1.out (by simp [preRow]) rfl kR ?_
     intro w2 hB2 hU2 hz2;have H2:=h3k hB2 hU2 hz2;clear hB2 hU2 hz2))
 -- the vault stands
 have hlt:=H.out.2.2.2.2.2;have hlb:w.heap.size≤lb:=H1.out.2.2.2.2.1;have hm2:=H1.out.1.map.upd H2.out.2.1 (fun e=>H.out.2.2.2.2.1.1 e) (fun e=>H.out.2.2.2.2.1.2.1 e);have hk2:=H1.out.1.kept.upd H2.out.2.1 (fun e=>H.out.2.2.2.2.1.2.2 e);have hd2:=H1.out.1.disk.upd H2.out.2.1 (fun q hq e=>H.out.1.vF (e ▸ hq));have hl2:=H1.out.2.2.1.upd H2.out.2.1 (fun e=>by have e2:lb=v:=e;omega);have hlo2:=H1.out.2.2.2.1.upd H2.out.2.1 (fun q hq e=>by have e2:q=v:=e;have:=H1.out.2.2.2.2.2 q hq;omega);have hvr:∀q,ringOwn rb rk ents q→¬q=v:=fun q hq e=>H.out.2.1.own_not H.out.1.blk dC dC (by rw [← e];exact hq)
 have hR2:=RgE.move (H.out.2.1.still H1.out.2.1) H2.out.2.1 hvr;have hmt2:=H1.out.1.mts.upd H2.out.2.1 (fun q ht e=>by
  have e2:q=v:=e;subst e2;exact absurd (HB1.out.ty.inj ht) dC)
 have h2:VtAt w2 p v d (repV g k s (S0,s.at_,s.epoch) []) ⟨F,kb,lb,lv,rb,rk,ents,m,mb,.slice none 0 0,[],mv⟩ :=
  ⟨hd2,H2.out.1,hk2,hl2,hlo2,fun q hq e=>by have h1:=H1.out.2.2.2.2.2 q hq;have h3:=H.out.1.disk.lt _ e;omega,hR2,H.out.2.2.1,hm2,H.out.1.mbF,H.out.2.2.2.1,Own.nil _ _ _,rfl,fun i b ov h1=>by simp [repV] at h1,hmt2⟩
 have hU2:Upd (· = v) w w2:=(H1.out.2.1.mono wz0).then H2.out.2.1 (fun q e=>.inl e);have hsub2:∀q,VtO.mut ⟨F,kb,lb,lv,rb,rk,ents,m,mb,.slice none 0 0,[],mv⟩ v q→q ∈ F∨q=v∨q=kb∨ringOwn rb rk ents q∨w.heap.size≤q:=fun q hq=>by
  rcases hq with e | e | e | e | e | e | e
  ·exact .inr (.inl e)
  ·exact .inl e
  ·exact .inr (.inr (.inl e))
  ·exact .inr (.inr (.inr (.inr (by rw [show q=lb from e];exact hlb))))
  ·exact .inr (.inr (.inr (.inr (H1.out.2.2.2.2.2 q e))))
  ·exact .inr (.inr (.inr (.inl e)))
  ·simp [Value.ownBlock] at e
 obtain ⟨o0,ho0⟩:∃o0:VtO,⟨F,kb,lb,lv,rb,rk,ents,m,mb,.slice none 0 0,[],mv⟩=o0:=⟨_,rfl⟩;have hom:o0.m=m:=by rw [← ho0]
 have homb:o0.mb=mb:=by rw [← ho0]
 have hrec:=records_c (w:=w2) (p:=p) (b:=lb) (g:=g) ⟨lv,hl2,hlo2⟩ (oO HR.out.1.glen HR.out.1.many);rw [ho0] at h2 hsub2;have HREC:=Lib.hid hrec;have HA2:=h5k h2 hU2 hsub2 hom homb;clear hlt hlb hm2 hk2 hd2 hl2 hlo2 hvr hR2 hmt2 h2 hU2 hsub2 hom homb hrec ho0;go_wp2_with (first
  | (go_at_call 125;refine HREC.out.mono ?_;rintro e w3 ⟨rv,rfl,hO3,hU3,hn3⟩
     obtain ⟨RA,rcap,rfl,-,-⟩:=hO3.shape;have H3:=h3k hO3 hU3 hn3;clear hO3 hU3 hn3))
 have hA3:=HA2.out.1.still H3.out.2.1;have hno3:∀q,(Value.slice RA g.l.length rcap).ownBlock=some q→¬o0.mut v q∧q≠m∧q<w3.heap.size:=fun q hq=>by
  have h1:=H3.out.2.2 q hq;refine ⟨fun e=>?_,fun e=>?_,H3.out.1.lt hq⟩
  ·obtain ⟨i,hi,hc⟩:=VtO.mut_cl e
   have:=HA2.out.1.lt hi hc;omega
  ·have:=HA2.out.1.map.lt.1
   rw [HA2.out.2.2.2.1] at this;omega
 have H3A:=h2k hA3 hno3;clear hA3 hno3;go_loopw [6,7,8,9,10,34] (fun _ _ _ _ _ iv wr=>∃(i:Nat) (x:List PairM × Int × Int) (o':VtO),i≤rows.length∧iv=.int .i64 (i:Int)∧replL (rows.take i) (S0,s.at_,s.epoch)=some x∧VtAt wr p v d (repV g k s x (rows.take i)) o'∧o'.m=m∧(o'.mb=mb∨w.heap.size≤o'.mb)∧Upd (fun q=>o0.mut v q∨q=m) w3 wr∧(∀q,o'.mut v q→o0.mut v q∨w3.heap.size≤q)) (fun _ _ _ _ _ iv _=>rows.length - (intOf iv).toNat)
 case atStart=>exact ⟨0,(S0,s.at_,s.epoch),o0,oM,rfl,rfl,H3A.out.1,HA2.out.2.2.2.1,.inl HA2.out.2.2.2.2,Upd.refl _ _,fun q e=>.inl e⟩
 case round =>
  obtain ⟨i,x,o',hi,rfl,hx,hA,hm,hmb,hU,hsub⟩:=hrel;have hgl:g.l.length=rows.length:=HR.out.1.glen;by_cases hlt:i<rows.length
  ·obtain ⟨b,hb⟩:∃b,rows[i]? = some b:=⟨_,List.getElem?_eq_getElem hlt⟩
   obtain ⟨q1,q2,q3,q4⟩:=replL_at HR.out.1.rep hb hx;have hbe:=HR.out.1.eps b (List.mem_of_getElem? hb);have hE0:=doE_zero (S:=x.1) q1 q3;obtain ⟨b1,b2,b3,b4,b5⟩:=batErr_zero q1;have hbx:-9223372036854775808≤x.2.1+1∧x.2.1+1<9223372036854775808:=oM;obtain ⟨ni,hni⟩:∃n:Nat,b.index=n:=⟨b.index.toNat,oM⟩;obtain ⟨ne,hne⟩:∃n:Nat,b.epoch=n:=⟨b.epoch.toNat,oM⟩;have hgi:i<g.l.length:=oM;have hsl:=HR.out.1.recs i hgi hlt;rw [show rows[i]=b from (List.getElem?_eq_some_iff.1 hb).2] at hsl;obtain ⟨key,bo,nn,k1,k2,k3,k4,k5⟩:=hsl;have hbl:=batT_len q1 hbe;obtain ⟨R,hRR⟩:=eqx (g.l[i]);rw [hRR] at k5;have hro:=ropen_c hA.ring (by rw [str_size];decide) (by have:=HR.out.2.key;show s.key≤_;omega) key bo nn k1 k3 k4 (str sLog) dC (batT b) oM R (by rw [str_list,str_list];exact k5);have hbr:=fun W=>bread_c (l:=b.ops) (i:=ni) (ep:=ne) oM (by rw [← hni,← hne];exact q1) (str (batT b)) (by rw [str_list];unfold batT;rw [hni,hne];rfl) W
   rw [← hni,← hne] at hbr;obtain ⟨gb,gcap,hgv,-,-⟩:=(H3.out.1).head oM;have hown:=H3.out.1.upd hU (fun q hq e=>e.elim (H3A.out.2 q hq).1 (H3A.out.2 q hq).2.1);injection hgv with e1 e2 e3;subst e1;subst e3;clear e2;have hcell:wr.cell? ⟨gb,i,none⟩=some (.string R):=by
    rw [hown.cellAt i oM,strs,List.getElem?_map,List.getElem?_eq_getElem hgi,hRR];rfl
   have j1:(i:Int)<(g.l.length:Int):=oM;have hwk:IntKind.i64.wrap ((i:Int)+1)=(i:Int)+1:=IntWalk.i64_in _ (oN HR.out.1.many);have hcv8:wr.cell? ⟨v,8,none⟩=some (.pointer (some ⟨o'.rb,0,none⟩)):=hA.blk.cell 8;have HRO:=Lib.hid hro;have HBR:=Lib.hid hbr;have HX:=h8k hA hm hmb hU hsub hi hlt hx;have HQ:=Lib.hid (And.intro q2 (And.intro q4 (And.intro hE0 (And.intro b5 (And.intro hni (And.intro hne (And.intro q3 (And.intro b4 (And.intro hb hbx)))))))));clear hA hm hmb hU hsub hi hlt hx q1 q2 q3 q4 hbe hE0 b1 b2 b3 b4 b5 hni hne hgi k1 k2 k3 k4 k5 hbl hRR hro hbr hown hb hgl;go_upto_region 11 with (first
    | (go_at_call 123;refine HRO.out.mono ?_;rintro e wa ⟨rfl,es,hRg⟩
       have ha:=HX.out.1.ring_ hRg;have Ha:=h2k ha.1 ha.2;clear ha hRg))
   clear hcell hcv8;go_upto_region 14 with (first
    | (go_at_call 126;refine (HBR.out _).mono ?_;rintro e wb ⟨ov,rfl,hOb,hnb,hUb⟩
       have hT:=TRow.of_own (cs:=b.ops.map opRow) (k:=3) (n:=b.ops.length) (by rw [opsV,List.flatMap_def] at hOb;exact hOb) (List.length_map _) (oN HQ.out.2.2.2.2.2.2.2.1) (fun c hc=>by obtain ⟨q,-,rfl⟩:=List.mem_map.1 hc;rfl)
       have hone:=hOb.one;have Hb:=h4k (Ha.out.1.still hUb) hUb hT hone;obtain ⟨c,hc⟩:=eqx wb.heap.size;have HC:=Lib.hid hc;clear hOb hnb hUb hT hone hc)
    | (refine wsl 35 wb.heap.size (batRow b.index b.epoch ov) (Blk.new wb _ _) (batCells_one Hb.out.2.2.2) ?_
       intro wc hBc hUc hzc;have hUbc:Upd (fun _=>False) wb wc:=((Upd.refl (fun _=>False) wb).alloc _).then hUc (fun q e=>.inr (by have e2:q=wb.heap.size:=e;omega));have Hc:=h4k (Hb.out.1.still hUbc) hUbc (Hb.out.2.2.1.still hUbc) hBc;clear hUbc hBc hUc hzc))
   rw [HC.out] at Hc ⊢;have cb0:wc.cell? ⟨c,0,none⟩=some (.int .i64 b.index):=Hc.out.2.2.2.cell 0;have cv1:wc.cell? ⟨v,1,none⟩=some (.int .i64 x.2.1):=Hc.out.1.blk.cell 1;have hwi:IntKind.i64.wrap (x.2.1+1)=b.index:=by
    rw [← HQ.out.1];exact IntWalk.i64_in _ (by have h1:=HQ.out.1;omega)
   go_quiet (fail)
   go_upto_region 16 with fail
   generalize hwd:World.drewN wc _=wd;have hUcd:Upd (fun _=>False) wc wd:=by rw [← hwd];exact (Upd.refl _ wc).drewN _
   obtain ⟨OA,ocap,ob,oo,hov1,hov2,hov3,hov4,hov5⟩:=Hc.out.2.2.1.ops;have hAd:=Hc.out.1.still hUcd;have hBd:=Hc.out.2.2.2.upd hUcd (fun e=>e);have hTd:=Hc.out.2.2.1.still hUcd;have hdo:=odo_c (hAd.map.still (Upd.refl (fun _=>False) wd).drew) (A:=OA) (cap:=ocap) (b:=ob) (off:=oo) (l:=b.ops) hov4 (fun w' hu=>hov5 w' (fun _=>False) (hUcd.drew.then hu (fun _ e=>.inl e)) (fun _ _ e=>e)) (fun o ho=>by obtain ⟨-,e1,-,e2,-⟩:=opErr_zero (HQ.out.2.2.2.1 o ho);have:=okPath_len e1;omega) hov3;have HDO:=Lib.hid hdo;have HD:=h5k hAd hBd hTd hUcd hov1;clear cb0 cv1 hwi hAd hBd hTd hdo hov1 hov2 hov3 hov4 hov5 hUcd hwd;refine wp_region_noPanic ?_;refine wp_region_T (S:=fun w'=>w'.cell? ⟨v,0,none⟩=some (.pointer (some ⟨o'.m,0,none⟩))∧w'.cell? ⟨c,2,none⟩=some (.slice OA b.ops.length ocap)) (T:=fun _=>false) kR ?_;have hS0:wd.drew.cell? ⟨v,0,none⟩=some (.pointer (some ⟨o'.m,0,none⟩))∧wd.drew.cell? ⟨c,2,none⟩=some (.slice OA b.ops.length ocap):=⟨HD.out.1.blk.drew.cell 0,by rw [← HD.out.2.2.2.2];exact HD.out.2.1.drew.cell 2⟩;refine tK8 0 ?_;refine tK8 1 ?_;refine tK8 2 ?_
   refine tK8 3 ?_;refine tQ8 4 (fun w' hSw=>hSw.1) ?_;refine tK8 5 ?_;refine tQ8 6 (fun w' hSw=>hSw.2) ?_;refine wo1 7 (fun KK hKK=>?_);go_simp
   refine HDO.out.mono ?_;rintro e we ⟨rfl,hDE⟩;obtain ⟨mb2,hm2,hmn2,hU2⟩:=hDE.yes HQ.out.2.2.1;rw [show doE (repV g k s x (rows.take i)).S b.ops=0 from HQ.out.2.2.1];have hUde:Upd (· = o'.m) wd we:=((Upd.refl (fun q=>q=o'.m) wd).drew).then hU2 (fun q e=>.inl e);have hAe:=HD.out.1.do_ hUde hm2 hmn2;have hBe:=HD.out.2.1.upd hUde (fun e=>absurd (HD.out.2.1.ty.inj ((show c=o'.m from e) ▸ HD.out.1.map.blk.ty)) dC);have hTe:=HD.out.2.2.1.upd hUde (fun q ht e=>absurd (ht.inj ((show q=o'.m from e) ▸ HD.out.1.map.blk.ty)) dC);have hS2:we.cell? ⟨v,0,none⟩=some (.pointer (some ⟨o'.m,0,none⟩))∧we.cell? ⟨c,2,none⟩=some (.slice OA b.ops.length ocap):=⟨hAe.blk.cell 0,by rw [← HD.out.2.2.2.2];exact hBe.cell 2⟩;refine hKK.out _ _ hS2 ?_;have HE:=h3k hAe hBe hTe;have HM:=h3k hmn2 hm2 hUde;clear hKK hAe hBe hTe hUde hm2 hmn2 hU2 hDE;refine tK8 8 ?_;refine wdn ?_;refine NoPanic.normal ?_;clear hS0 hS2;have hdm:=does_m HE.out.1 b HE.out.2.2 (oN HQ.out.2.2.2.2.2.2.2.1) (by show (rows.take i).length≤1000;rw [List.length_take];have:=HR.out.1.many;omega);have HDM:=Lib.hid hdm;clear hdm;go_upto_region 20 with (first
    | (refine wll _ c HE.out.2.1 Tryz.underlying35 ?_)
    | (go_at_call 60;refine HDM.out.mono ?_;rintro e w9 ⟨rfl,o9,h9,k9,e1,e2,e3⟩
       have H9:=h5k h9 k9 e1 e2 e3;clear h9 k9 e1 e2 e3))
   go_wp2_with fail
   go_roundw
   case rel =>
    have hA:=HX.out.1;have hm:o'.m=m:=HX.out.2.1;have hs1:=HX.out.2.2.2.1.size;have hsw:w.heap.size≤w3.heap.size:=by have h1:=HA2.out.2.1.size;have h2:=H3.out.2.1.size;omega
    have hs2:=Ha.out.2.upd.size;have hs3:=Hb.out.2.1.size;have hs4:=Hc.out.2.1.size;have hs5:=HD.out.2.2.2.1.size;have hs6:=HM.out.2.2.size;have hUa:Upd (fun q=>o0.mut v q∨q=m) w3 wa:=HX.out.2.2.2.1.then Ha.out.2.upd (fun q e=>(HX.out.2.2.2.2.1 q e).imp .inl id);have hUd:Upd (fun q=>o0.mut v q∨q=m) w3 wd:=((hUa.then Hb.out.2.1 wz0).then Hc.out.2.1 wz0).then HD.out.2.2.2.1 wz0;have hUe:Upd (fun q=>o0.mut v q∨q=m) w3 we:=hUd.then HM.out.2.2 (fun q e=>.inl (.inr (by rw [← hm];exact e)));have hsubA:∀q,VtO.mut { o' with ents:=es } v q→o0.mut v q∨w3.heap.size≤q:=fun q hq=>by
     rcases Ha.out.2.sub q hq with e | e
     ·exact HX.out.2.2.2.2.1 q e
     ·exact .inr oM
    have hUz:=hUe.then H9.out.2.1.upd (fun q e=>(hsubA q e).imp .inl id);have h9:VtAt w9 p v d (repV g k s (doL x.1 b.ops,b.index,b.epoch) (rows.take (i+1))) o9:=by
     have h9:=H9.out.1;rw [List.take_add_one,HQ.out.2.2.2.2.2.2.2.2.1];exact h9
    refine ⟨i+1,(doL x.1 b.ops,b.index,b.epoch),o9,by have:=HX.out.2.2.2.2.2.2.1;omega,sM,HQ.out.2.1,h9,by rw [H9.out.2.2.1];exact hm,?_,hUz,fun q hq=>?_⟩
    ·right
     rw [H9.out.2.2.2.1];have h0:wd.heap.size≤mb2:=HM.out.1;show w.heap.size≤mb2;omega
    ·rcases H9.out.2.1.sub q hq with e | e
     ·exact hsubA q e
     ·have:=hUe.size
      exact .inr oM
   case measure=>have:=HX.out.2.2.2.2.2.2.1;simp [intOf]<;>omega
  ·obtain rfl:i=rows.length:=oM
   rw [List.take_length] at hx hA;have j1:¬((rows.length:Int)<(g.l.length:Int)):=oM;have hxx:x=(S,at_,ep):=by
    have h1:=HR.out.1.rep;rw [hx] at h1;exact Option.some.inj h1
   have HX:=h6k hA hm hmb hU hsub hxx;clear hA hm hmb hU hsub hx hxx hi hlt hgl;go_wp2_with fail
   go_ret
   have hA:=HX.out.1;rw [HX.out.2.2.2.2.2] at hA;have hsw:w.heap.size≤w3.heap.size:=by have h1:=HA2.out.2.1.size;have h2:=H3.out.2.1.size;omega
   refine ⟨rfl,o',hA,?_,fun q hq=>?_,HX.out.2.1,HX.out.2.2.1⟩
   ·refine (((HA2.out.2.1.mono (fun q e=>.inl (.inr (.inl e)))).then H3.out.2.1 wz0).then HX.out.2.2.2.1 (fun q e=>?_))
    rcases e with e | e
    ·rcases HA2.out.2.2.1 q e with f | f | f | f | f
     ·exact .inl (.inl f)
     ·exact .inl (.inr (.inl f))
     ·exact .inl (.inr (.inr (.inl f)))
     ·exact .inl (.inr (.inr (.inr (.inr f))))
     ·exact .inr f
    ·exact .inl (.inr (.inr (.inr (.inl e))))
   ·rcases HX.out.2.2.2.2.1 q hq with e | e
    ·exact HA2.out.2.2.1 q e
    ·exact .inr (.inr (.inr (.inr oM)))
theorem replay_bad (h:VtPre w p v d (preV k s S0) F kb m mb mv (.pointer (some ⟨rb,0,none⟩))) (hf:DkFit d) (hok:StOk s) (hlog:1≤s.log) (hg:openG d 20 320 s.log=none) :
 Calls Tryz.prog 66 #[.pointer (some ⟨v,0,none⟩)] w fun e w'=>e=.returned (.int .i64 9)∧Upd (fun _=>False) w w':=by
 have hop:=openG_on h.disk.drew 20 320 s.log dC (oN hf.len) hlog (oN hok.log) hf.off;rw [hg,show openErrG none=9 from rfl] at hop;have HOP:=Lib.hid hop;have H:=Lib.hid h;clear h hf hok hlog hg hop;go_enter Tryz.func66,Tryz.ntmps66
 go_upto_region 1 with fail
 refine wp_region_noPanic ?_;refine wp_region_T (S:=fun w'=>w'.cell? ⟨v,5,none⟩=some (.pointer (some ⟨p,0,none⟩))∧w'.cell? ⟨v,17,none⟩=some (.int .u64 (s.log:Int))) (T:=fun _=>false) kR ?_;have hS0:w.drew.cell? ⟨v,5,none⟩=some (.pointer (some ⟨p,0,none⟩))∧w.drew.cell? ⟨v,17,none⟩=some (.int .u64 (s.log:Int)):=⟨H.out.blk.drew.cell 5,H.out.blk.drew.cell 17⟩;refine tK8 0 ?_;refine tK8 1 ?_;refine tK8 2 ?_;refine tQ8 3 (fun w' hSw=>hSw.1) ?_;refine tK8 4 ?_;refine tK8 5 ?_;refine tK8 6 ?_;refine tK8 7 ?_;refine tQ8 8 (fun w' hSw=>hSw.2) ?_;refine wo1 9 (fun KK hKK=>?_);go_simp
 refine HOP.out.mono ?_;rintro e w1 ⟨lg,rfl,hG⟩;have hU:Upd (fun _=>False) w w1:=(Upd.refl _ w).drew.then hG.upd (fun _ e=>.inl e);have hX1:=H.out.still hU;have hS2:w1.cell? ⟨v,5,none⟩=some (.pointer (some ⟨p,0,none⟩))∧w1.cell? ⟨v,17,none⟩=some (.int .u64 (s.log:Int)):=⟨hX1.blk.cell 5,hX1.blk.cell 17⟩;refine hKK.out _ _ hS2 ?_;have H1:=Lib.hid hU;clear hKK hU hX1 hG;refine tK8 10 ?_;refine tK8 11 ?_;refine tK8 12 ?_;refine tK8 13 ?_;refine tK8 14 ?_;refine wdn ?_;refine NoPanic.normal ?_;clear hS0 hS2;go_wp2_with fail
 go_ret
 exact ⟨rfl,H1.out⟩
end
abbrev st0Row:Array Value:=#[.int .i64 0,.int .i64 0,.int .i64 0,.slice none 0 0,.string ⟨#[]⟩,.int .i64 0,.int .i64 0,.int .i64 0,.int .u64 1,.int .i64 0,.int .u32 0]
abbrev vt0Row (p kb:Nat):Array Value:=#[.pointer none,.int .i64 0,.int .i64 0,.slice none 0 0,.int .i64 0,.pointer (some ⟨p,0,none⟩),.pointer (some ⟨kb,0,none⟩),.pointer none,.pointer none,
 .int .i64 0,.int .i64 0,.int .i64 0,.slice none 0 0,.string ⟨#[]⟩,.int .i64 0,.int .i64 0,.int .i64 0,.int .u64 1,.int .i64 0,.int .u32 0,.bool false]
theorem built_st:Tryz.prog.built 115 [(4,.int .u64 1)]=some st0Row:=kR
theorem built_vt (p kb:Nat):Tryz.prog.built 117 [(1,.pointer (some ⟨p,0,none⟩)),(2,.pointer (some ⟨kb,0,none⟩)),(5,.agg st0Row)]=some (vt0Row p kb):=kR
structure OpenLeft17 (w w':World) (p v:Nat) (d:Dk) (V:VtM) (F:List Nat) (o:VtO):Prop where
 at_:VtAt w' p v d V o
 upd:Upd (· ∈ F) w w'
 sub:∀q,o.mut v q→q ∈ F∨w.heap.size≤q
 v:w.heap.size≤v
 mb:w.heap.size≤o.mb
structure Opened17 (w w':World) (p:Nat) (F:List Nat) (R:Dk × VtM × Int) (e:Ending):Prop where
 yes:R.2.2=0→∃v o,e=.returned (.tuple #[.pointer (some ⟨v,0,none⟩),.int .i64 0])∧OpenLeft17 w w' p v R.1 R.2.1 F o
 no:R.2.2≠0→e=.returned (.tuple #[.pointer none,.int .i64 R.2.2])∧∃F',Left w w' p R.1 F F'
theorem Replays.boot {s:StM} {S0 S:List PairM} {g:Lg} {rows:List BatM} {a e:Int} (h:Replays s S0 g rows S a e) (n:Nat):Replays { s with boot:=n } S0 g rows S a e:=⟨h.fit,h.glen,h.recs,h.many,h.rep,h.eps⟩
theorem StOk.boot_ {s:StM} (h:StOk s) {n:Nat} (hn:n≤1000000):StOk { s with boot:=n } := ⟨h.right,h.place,h.slot,h.log,h.key,hn,h.mn⟩
section
variable {w w':World} {p v:Nat} {d:Dk} {k:Kp} {s:StM} {S0 S:List PairM} {F:List Nat} {kb m mb rb rk:Nat} {mv:Value} {ents:List (Int × Nat)} {g:Lg} {rows:List BatM} {V:VtM}
theorem vopen_bad (hD:DiskAt w p d F) (hf:DkFit d) (hb:badS d 160=true) (S:Value):Calls Tryz.prog 16 #[.pointer (some ⟨p,0,none⟩),S] w fun e w'=>e=.returned (.tuple #[.pointer none,.int .i64 9])∧Upd (fun _=>False) w w':=by
 have hdn:=down_c hD;rw [hf.off] at hdn;have hsc:=sectors_c hD;rw [hf.len] at hsc;have hsp:=spoilt_c hD hf.off (by rw [hf.len];omega) (fun i hi=>hD.wf.now_size (by rw [hf.len];exact hi));rw [hb] at hsp;have HDN:=Lib.hid hdn;have HSC:=Lib.hid hsc;have HSP:=Lib.hid hsp;clear hdn hsc hsp;clear hD hf hb;go_enter Tryz.func16,Tryz.ntmps16
 go_wp2_with (first
  | (go_at_call 33;refine HDN.out.mono ?_;rintro e w1 ⟨rfl,rfl⟩)
  | (go_at_call 61;refine HSC.out.mono ?_;rintro e w1 ⟨rfl,rfl⟩)
  | (go_at_call 62;refine HSP.out.mono ?_;rintro e w1 ⟨rfl,hU1⟩
     have HU1:=Lib.hid hU1;clear hU1))
 go_ret2
 exact ⟨rfl,HU1.out⟩
theorem vopen_kept (hD:DiskAt w p d F) (hf:DkFit d) (hb:badS d 160=false) (hk:openN d 0 2=none) (S:Value):Calls Tryz.prog 16 #[.pointer (some ⟨p,0,none⟩),S] w fun e w'=>e=.returned (.tuple #[.pointer none,.int .i64 9])∧Upd (fun _=>False) w w':=by
 have hdn:=down_c hD;rw [hf.off] at hdn;have hsc:=sectors_c hD;rw [hf.len] at hsc;have hsp:=spoilt_c hD hf.off (by rw [hf.len];omega) (fun i hi=>hD.wf.now_size (by rw [hf.len];exact hi));rw [hb] at hsp;have HDN:=Lib.hid hdn;have HSC:=Lib.hid hsc;have HSP:=Lib.hid hsp;clear hdn hsc hsp;go_enter Tryz.func16,Tryz.ntmps16
 go_upto_region 12 with (first
  | (go_at_call 33;refine HDN.out.mono ?_;rintro e w1 ⟨rfl,rfl⟩)
  | (go_at_call 61;refine HSC.out.mono ?_;rintro e w1 ⟨rfl,rfl⟩)
  | (go_at_call 62;refine HSP.out.mono ?_;rintro e w1 ⟨rfl,hU1⟩
     have HU1:=Lib.hid hU1;clear hU1))
 have hop:=Open_on (hD.upd HU1.out (fun _ _ e=>e)) 0 (by rw [hf.len];omega) hf.off;rw [hk] at hop;have HOP:=Lib.hid hop;clear hop;clear hD hf hb hk;go_wp2_with (first
  | (go_at_call 63;refine HOP.out.mono ?_;rintro e w2 ⟨kv,rfl,hO⟩
     have H2:=Lib.hid (HU1.out.then hO.upd wz0);clear hO))
 go_ret2
 exact ⟨rfl,H2.out⟩
theorem zz15 {P:Prop} (h:P:=by
 have hF:∀q ∈ F,q<w.heap.size:=fun q hq=>HZ.out.1.lt q hq
 refine ⟨HZ.out.1.upd hUw5 (fun _ _ e=>e),H5.out.1,(H3.out.2.2.1.upd H4.out.2.2.2 (fun e=>e)).upd H5.out.2.1 (fun e=>hkv e),H4.out.1.upd H5.out.2.1 (fun e=>by have e2:m=v:=e;omega) (fun e=>by have e2:mb=v:=e;omega),fun e=>by have:=hF _ e;omega,?_⟩;exact TRow.of_own (n:=0) (cs:=[]) (Own.nil _ _ _) rfl oM sM):P:=h
theorem vopen_log (hD:DiskAt w p d F) (hf:DkFit d) (hb:badS d 160=false) (hk:openN d 0 2=some k) (hq:Recalls d k s S0) (hlog:1≤s.log) (hg:openG d 20 320 s.log=none):Calls Tryz.prog 16 #[.pointer (some ⟨p,0,none⟩),.string (str masterL)] w fun e w'=>e=.returned (.tuple #[.pointer none,.int .i64 9])∧Upd (fun _=>False) w w':=by
 have hdn:=down_c hD;rw [hf.off] at hdn;have hsc:=sectors_c hD;rw [hf.len] at hsc;have hsp:=spoilt_c hD hf.off (by rw [hf.len];omega) (fun i hi=>hD.wf.now_size (by rw [hf.len];exact hi));rw [hb] at hsp;have HDN:=Lib.hid hdn;have HSC:=Lib.hid hsc;have HSP:=Lib.hid hsp;clear hdn hsc hsp;go_enter Tryz.func16,Tryz.ntmps16
 go_upto_region 12 with (first
  | (go_at_call 33;refine HDN.out.mono ?_;rintro e w1 ⟨rfl,rfl⟩)
  | (go_at_call 61;refine HSC.out.mono ?_;rintro e w1 ⟨rfl,rfl⟩)
  | (go_at_call 62;refine HSP.out.mono ?_;rintro e w1 ⟨rfl,hU1⟩
     have HU1:=Lib.hid hU1;clear hU1))
 have hop:=Open_on (hD.upd HU1.out (fun _ _ e=>e)) 0 (by rw [hf.len];omega) hf.off;rw [hk] at hop;have HOP:=Lib.hid hop;clear hop;have HZ:=h3k hD hf hq;have HRPL:=Lib.hid (fun (W:World) (m mb:Nat) (mv:Value) (rb rk v kb:Nat) (ents:List (Int × Nat)) (h:VtPre W p v d (preV k { s with boot:=s.boot+1 } S0) F kb m mb mv (.pointer (some ⟨rb,0,none⟩))) (_:RgE (ringOwn rb rk ents) W W rb (str masterL) s.key (s.boot+1) 0 rk ents) (_:rk ∉ F) (_:mb≠rk)=>replay_bad h hf (hq.ok.boot_ hq.boot) hlog hg);clear hD hf hb hk hq hlog hg;go_upto_region 16 with (first
  | (go_at_call 63;refine HOP.out.mono ?_;rintro e w2 ⟨kv,rfl,hO⟩
     obtain ⟨kb,rfl,hkB,hkb⟩:=hO.ok _ rfl;have H2:=h4k (HU1.out.then hO.upd wz0) hkB hkb (HZ.out.1.upd (HU1.out.then hO.upd wz0) (fun _ _ e=>e));have HB1:=Lib.hid (built_vt p kb);clear hO hkB hkb)
  | (refine wpList_build_is rfl _ _ rfl [(4,.int .u64 1)] _ (by first | rfl | kernel_rfl) built_st ?_)
  | (refine wpList_build_is rfl _ _ rfl [(1,.pointer (some ⟨p,0,none⟩)),(2,.pointer (some ⟨kb,0,none⟩)),(5,.agg st0Row)] _ (by first | rfl | kernel_rfl) HB1.out ?_))
 obtain ⟨v,hv⟩:=eqx w2.heap.size;rw [hv];generalize hw3:World.alloc _ _=w3;have hB3:Blk w3 v 117 (vt0Row p kb):=by rw [← hw3,← hv];exact Blk.new w2 _ _
 have hU3:Upd (fun _=>False) w2 w3:=by rw [← hw3];exact (Upd.refl _ w2).alloc _
 have hs3:w3.heap.size=v+1:=by rw [← hw3,← hv];exact World.size_alloc _ _
 have H3:=h6k hB3 (H2.out.1.then hU3 wz0) (H2.out.2.1.upd hU3 (fun e=>e)) (H2.out.2.2.2.upd hU3 (fun _ _ e=>e)) hv hs3;have HON:=Lib.hid (onew_c w3);clear hB3 hU3 hs3 hv hw3;go_upto_region 17 with (first
  | (go_at_call 64;refine HON.out.mono ?_;rintro e w4 ⟨m,mb,rfl,hm4,hm4a,hm4b,hU4⟩
     have H4:=h4k hm4 hm4a hm4b hU4;have HB4:=Lib.hid (H3.out.1.upd hU4 (fun e=>e));clear hm4 hm4a hm4b hU4)
  | (refine wpList_store_one rfl _ _ _ rfl v 0 (.pointer (some ⟨m,0,none⟩)) rfl rfl _ _ HB4.out (by simp [vt0Row]) rfl kR ?_
     intro w5 hB5 hU5 hz5;have H5:=h3k hB5 hU5 hz5;clear hB5 hU5 hz5))
 have hvw:w.heap.size≤v:=by have:=H2.out.1.size;have:=H3.out.2.2.2.2.1;omega
 have hkw:w.heap.size≤kb:=by have:=HU1.out.size;have:=H2.out.2.2.1;omega
 have hkv:kb≠v:=by have:=H2.out.2.1.lt;have:=H3.out.2.2.2.2.1;omega
 have hmv:v<m∧v<mb:=by have:=H4.out.2.1;have:=H4.out.2.2.1;have:=H3.out.2.2.2.2.2;omega
 have hUw5:Upd (fun _=>False) w w5:=(H3.out.2.1.then H4.out.2.2.2 wz0).then H5.out.2.1 (fun q e=>.inr (by have e2:q=v:=e;omega));have h5:VtPre w5 p v d (preV k stM0 []) F kb m mb (.slice none 0 0) (.pointer none):=by
  exact zz15
 have HX5:=h5k h5 hUw5 hvw hkw hmv;have HRC:=Lib.hid (recall_c h5 HZ.out.2.1 HZ.out.2.2);clear hvw hkw hkv hmv hUw5 h5;go_wp2_with (first
  | (go_at_call 65;refine HRC.out.mono ?_;rintro e w6 ⟨rfl,m',mb',mv',rb,rk,ents,hL⟩
     have HL:=Lib.hid hL;have HRP:=Lib.hid (HRPL.out w6 m' mb' mv' rb rk v kb ents hL.pre hL.ring hL.rkF hL.mbk);clear hL)
  | (go_at_call 66;refine HRP.out.mono ?_;rintro e w7 ⟨rfl,hU7⟩
     have H7:=Lib.hid hU7;clear hU7))
 go_ret2
 exact ⟨rfl,(HX5.out.2.1.then HL.out.upd (fun q e=>.inr (by have e2:q=v:=e;have:=HX5.out.2.2.1;omega))).then H7.out wz0⟩
theorem vopen_c (hD:DiskAt w p d F) (ho:Opens d V S0) :
 Calls Tryz.prog 16 #[.pointer (some ⟨p,0,none⟩),.string (str masterL)] w fun e w'=>Opened17 w w' p F (openV d V) e:=by
 have hag:V.again=repV V.lg V.kp { V.st with boot:=V.st.boot+1 } (V.S,V.at_,V.epoch) V.rows:=by
  unfold VtM.again repV;rw [ho.prev,ho.cur]
 obtain ⟨k,hkk⟩:=eqx V.kp;obtain ⟨s,hss⟩:=eqx V.st;have hkept:=ho.kept;have hq:=ho.recalls;rw [hkk] at hkept hq;rw [hss] at hq;have hkp:=ho.kp;rw [hkk] at hkp;have hbt:=hq.boot;have hrep:=ho.replays;have hlg:=ho.log;have hl0:=ho.log0;rw [hss] at hrep hlg hl0;have hf:=ho.fit;have hb:=ho.sound;have hdn:=down_c hD;rw [hf.off] at hdn;have hsc:=sectors_c hD;rw [hf.len] at hsc;have hsp:=spoilt_c hD hf.off (by rw [hf.len];omega) (fun i hi=>hD.wf.now_size (by rw [hf.len];exact hi));rw [hb] at hsp;have HDN:=Lib.hid hdn;have HSC:=Lib.hid hsc;have HSP:=Lib.hid hsp;clear hdn hsc hsp;go_enter Tryz.func16,Tryz.ntmps16
 go_upto_region 12 with (first
  | (go_at_call 33;refine HDN.out.mono ?_;rintro e w1 ⟨rfl,rfl⟩)
  | (go_at_call 61;refine HSC.out.mono ?_;rintro e w1 ⟨rfl,rfl⟩)
  | (go_at_call 62;refine HSP.out.mono ?_;rintro e w1 ⟨rfl,hU1⟩
     have HU1:=Lib.hid hU1;clear hU1))
 have hop:=Open_on (hD.upd HU1.out (fun _ _ e=>e)) 0 (by rw [hf.len];omega) hf.off;rw [hkept] at hop;have HOP:=Lib.hid hop;clear hop;have HZ:=h3k hD hf hq;have HRPL:=Lib.hid (fun (W:World) (m mb:Nat) (mv:Value) (rb rk v kb:Nat) (ents:List (Int × Nat)) (h:VtPre W p v d (preV k { s with boot:=s.boot+1 } S0) F kb m mb mv (.pointer (some ⟨rb,0,none⟩))) (h1:RgE (ringOwn rb rk ents) W W rb (str masterL) s.key (s.boot+1) 0 rk ents) (h2:rk ∉ F) (h3:mb≠rk)=>replay_c h h1 h2 h3 hf (hq.ok.boot_ hq.boot) hl0 hlg (hrep.boot (s.boot+1)));rw [hkk,hss] at hag;have HAG:=h4k hag hkp hss (hq.ok.boot_ hq.boot);clear hD ho hf hb hkept hq hl0 hlg hrep hkk hss hag hkp hbt;go_upto_region 16 with (first
  | (go_at_call 63;refine HOP.out.mono ?_;rintro e w2 ⟨kv,rfl,hO⟩
     obtain ⟨kb,rfl,hkB,hkb⟩:=hO.ok _ rfl;have H2:=h4k (HU1.out.then hO.upd wz0) hkB hkb (HZ.out.1.upd (HU1.out.then hO.upd wz0) (fun _ _ e=>e));have HB1:=Lib.hid (built_vt p kb);clear hO hkB hkb)
  | (refine wpList_build_is rfl _ _ rfl [(4,.int .u64 1)] _ (by first | rfl | kernel_rfl) built_st ?_)
  | (refine wpList_build_is rfl _ _ rfl [(1,.pointer (some ⟨p,0,none⟩)),(2,.pointer (some ⟨kb,0,none⟩)),(5,.agg st0Row)] _ (by first | rfl | kernel_rfl) HB1.out ?_))
 obtain ⟨v,hv⟩:=eqx w2.heap.size;rw [hv];generalize hw3:World.alloc _ _=w3;have hB3:Blk w3 v 117 (vt0Row p kb):=by rw [← hw3,← hv];exact Blk.new w2 _ _
 have hU3:Upd (fun _=>False) w2 w3:=by rw [← hw3];exact (Upd.refl _ w2).alloc _
 have hs3:w3.heap.size=v+1:=by rw [← hw3,← hv];exact World.size_alloc _ _
 have H3:=h6k hB3 (H2.out.1.then hU3 wz0) (H2.out.2.1.upd hU3 (fun e=>e)) (H2.out.2.2.2.upd hU3 (fun _ _ e=>e)) hv hs3;have HON:=Lib.hid (onew_c w3);clear hB3 hU3 hs3 hv hw3;go_upto_region 17 with (first
  | (go_at_call 64;refine HON.out.mono ?_;rintro e w4 ⟨m,mb,rfl,hm4,hm4a,hm4b,hU4⟩
     have H4:=h4k hm4 hm4a hm4b hU4;have HB4:=Lib.hid (H3.out.1.upd hU4 (fun e=>e));clear hm4 hm4a hm4b hU4)
  | (refine wpList_store_one rfl _ _ _ rfl v 0 (.pointer (some ⟨m,0,none⟩)) rfl rfl _ _ HB4.out (by simp [vt0Row]) rfl kR ?_
     intro w5 hB5 hU5 hz5;have H5:=h3k hB5 hU5 hz5;clear hB5 hU5 hz5))
 have hvw:w.heap.size≤v:=by have:=H2.out.1.size;have:=H3.out.2.2.2.2.1;omega
 have hkw:w.heap.size≤kb:=by have:=HU1.out.size;have:=H2.out.2.2.1;omega
 have hkv:kb≠v:=by have:=H2.out.2.1.lt;have:=H3.out.2.2.2.2.1;omega
 have hmv:v<m∧v<mb:=by have:=H4.out.2.1;have:=H4.out.2.2.1;have:=H3.out.2.2.2.2.2;omega
 have hUw5:Upd (fun _=>False) w w5:=(H3.out.2.1.then H4.out.2.2.2 wz0).then H5.out.2.1 (fun q e=>.inr (by have e2:q=v:=e;omega));have h5:VtPre w5 p v d (preV k stM0 []) F kb m mb (.slice none 0 0) (.pointer none):=by
  exact zz15
 have HX5:=h5k h5 hUw5 hvw hkw hmv;have HRC:=Lib.hid (recall_c h5 HZ.out.2.1 HZ.out.2.2);clear hvw hkw hkv hmv hUw5 h5;go_upto_region 23 with (first
  | (go_at_call 65;refine HRC.out.mono ?_;rintro e w6 ⟨rfl,m',mb',mv',rb,rk,ents,hL⟩
     have HL:=Lib.hid hL;have HRP:=Lib.hid (HRPL.out w6 m' mb' mv' rb rk v kb ents hL.pre hL.ring hL.rkF hL.mbk);clear hL)
  | (go_at_call 66;refine HRP.out.mono ?_;rintro e w7 ⟨rfl,o7,h7⟩
     have H7:=Lib.hid h7;clear h7))
 obtain ⟨W,hW⟩:=eqx V.again;have hWr:repV V.lg k { s with boot:=s.boot+1 } (V.S,V.at_,V.epoch) V.rows=W:=by rw [← hW,HAG.out.1]
 have hst : { s with boot:=s.boot+1 } = W.st:=by rw [← hWr];rfl
 have h7:=H7.out.at_;rw [hWr] at h7;have hpc:=put_c h7 W.st (by rw [← hst];exact HAG.out.2.2.2) h7.mts rfl (by rw [← hWr];have:=HZ.out.2.2.ok.key;show s.key≤_;omega) (by rw [← hWr];show 0<_;omega) (by rw [← hWr];exact HAG.out.2.1.1) (by rw [← hWr];exact HAG.out.2.1.2.1) (by rw [← hWr];show k.from_≤_;rw [HAG.out.2.1.2.2];omega) HZ.out.2.1.pend;obtain ⟨R,hR⟩:=eqx (openV d V);have hRp:putV d W W.st=R:=by rw [← hR,← hW];rfl
 rw [hRp] at hpc;obtain ⟨E,hE⟩:=eqx R.2.2;have hU7:Upd (· ∈ F) w w7:=(((HX5.out.2.1.mono wz0).then HL.out.upd (fun q e=>.inr (by have e2:q=v:=e;have:=HX5.out.2.2.1;omega)))).then H7.out.upd (fun q e=>by
  have h1:=HX5.out.2.1.size;rcases e with e | e | e | e | e
  ·exact .inl e
  ·exact .inr (oN HX5.out.2.2.1)
  ·exact .inr (oN HX5.out.2.2.2.1)
  ·refine .inr ?_
   rcases HL.out.m with f | f
   ·have:=HX5.out.2.2.2.2.1;have:=HX5.out.2.2.1;omega
   ·omega
  ·exact .inr (oN (HL.out.new q e)))
 have hsub7:∀q,o7.mut v q→q ∈ F∨w.heap.size≤q:=fun q hq=>by
  have h1:=HX5.out.2.1.size;have h2:=HL.out.upd.size;rcases H7.out.sub q hq with e | e | e | e | e
  ·exact .inl e
  ·exact .inr (oN HX5.out.2.2.1)
  ·exact .inr (oN HX5.out.2.2.2.1)
  ·exact .inr (oN (HL.out.new q e))
  ·exact .inr oM
 rw [hE] at hpc;have HPC:=Lib.hid hpc;have HE:=h2k hR hE;have HV7:=h3k h7 hU7 hsub7;have hload:=fun (j:Nat) (u:Value) (hj:[Value.int .i64 W.st.m.role,.int .i64 W.st.m.seen,.int .i64 W.st.m.grant,o7.mv,.string (str W.st.m.secret),.int .i64 W.st.at_,.int .i64 W.st.epoch,.int .i64 (W.st.slot:Int),.int .u64 (W.st.log:Int),.int .i64 (W.st.key:Int),.int .u32 (W.st.boot:Int)][j]? = some u)=>part_get (cs:=vtRow W p o7) (i:=9) (n:=11) rfl j u hj
 have HLD:=Lib.hid hload;clear hst hWr h7 hpc hRp hU7 hsub7 hR hload;by_cases h0:E=0
 ·subst h0
  clear hE;go_wp2_with (first
   | (refine wpList_load_part rfl _ _ rfl v 9 rfl _ _ [Value.int .i64 W.st.m.role,.int .i64 W.st.m.seen,.int .i64 W.st.m.grant,o7.mv,.string (str W.st.m.secret),.int .i64 W.st.at_,.int .i64 W.st.epoch,.int .i64 (W.st.slot:Int),.int .u64 (W.st.log:Int),.int .i64 (W.st.key:Int),.int .u32 (W.st.boot:Int)] _ HV7.out.1.blk HLD.out Tryz.underlying115 rfl kR ?_)
   | (go_at_call 67;refine HPC.out.mono ?_;rintro e w8 ⟨rfl,o8,h8,k8⟩
      have H8:=h2k h8 k8;clear h8 k8))
  go_ret2
  rw [HE.out.1];have hmb8:w.heap.size≤o8.mb:=by
   have h1:=HX5.out.2.1.size;have h2:=HL.out.upd.size;have h3:=HV7.out.2.1.size;have h4:=HX5.out.2.2.1;have h5:=HX5.out.2.2.2.2.2;rcases H8.out.2.mbs with e | e
   ·rcases H7.out.mb with f | f
    ·rcases HL.out.mb with g | g
     ·omega
     ·omega
    ·omega
   ·omega
  refine ⟨fun _=>⟨v,o8,rfl,H8.out.1,?_,fun q hq=>?_,HX5.out.2.2.1,hmb8⟩,fun e=>absurd HE.out.2 e⟩
  ·exact HV7.out.2.1.then H8.out.2.upd (fun q hq=>HV7.out.2.2 q hq)
  ·rcases H8.out.2.sub q hq with e | e
   ·exact HV7.out.2.2 q e
   ·exact .inr (oN HV7.out.2.1.size)
 ·have hE0:(E != 0)=true:=by simpa using h0
  have H0:=Lib.hid h0;clear hE h0;go_wp2_with (first
   | (refine wpList_load_part rfl _ _ rfl v 9 rfl _ _ [Value.int .i64 W.st.m.role,.int .i64 W.st.m.seen,.int .i64 W.st.m.grant,o7.mv,.string (str W.st.m.secret),.int .i64 W.st.at_,.int .i64 W.st.epoch,.int .i64 (W.st.slot:Int),.int .u64 (W.st.log:Int),.int .i64 (W.st.key:Int),.int .u32 (W.st.boot:Int)] _ HV7.out.1.blk HLD.out Tryz.underlying115 rfl kR ?_)
   | (go_at_call 67;refine HPC.out.mono ?_;rintro e w8 ⟨rfl,o8,h8,k8⟩
      have H8:=h2k h8 k8;clear h8 k8))
  go_ret2
  rw [HE.out.1];refine ⟨fun e=>absurd e (by rw [HE.out.2];exact H0.out),fun _=>⟨by rw [HE.out.2];rfl,o8.F,H8.out.1.disk,?_,fun q hq=>?_⟩⟩
  ·exact HV7.out.2.1.then H8.out.2.upd (fun q hq=>HV7.out.2.2 q hq)
  ·rcases H8.out.2.sub q (.inr (.inl hq)) with e | e
   ·exact HV7.out.2.2 q e
   ·exact .inr (oN HV7.out.2.1.size)
end
end
end Go.Proofs.YtbhjgfibhegddaaGreat
