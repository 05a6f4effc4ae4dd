/-
  Parts of the proof of VaultKnown: WVaultKnown, Facts.
-/
import Derived.Test.YtbhjgfibhegddaaGreatQVaultKnown20
import Derived.ProofKit
import Derived.Test.YtbhjgfibhegddaaGreatRows
set_option maxRecDepth 100000
set_option maxHeartbeats 16000000
namespace Go.Proofs.YtbhjgfibhegddaaGreat
section
open Go Go.RowKit
def mK:MetaM:=⟨2,7,0,[⟨[97,112,112],true⟩],List.replicate 64 115⟩
def mL:MetaM := { mK with secret:=List.replicate 65 115 }
def R1v:RvM:=⟨metaM0,[([97,112,112,47,97],[49])],1,1,[batW],0,0⟩
def R2v:RvM := { R1v with at_:=2,rows:=[batW,⟨2,1,[]⟩] }
def R3v:RvM := { R2v with at_:=3,epoch:=2,rows:=[batW,⟨2,1,[]⟩,⟨3,2,[]⟩] }
def R4v:RvM:=⟨mK,[],0,0,[],0,0⟩
theorem kn1:commitR R0 batW=(R1v,0):=rfl
theorem kn2:commitR R1v ⟨3,1,[]⟩=(R1v,1):=rfl
theorem kn3:commitR R1v ⟨2,1,[]⟩=(R2v,0):=rfl
theorem kn4:commitR R2v ⟨3,2,[]⟩=(R3v,0):=rfl
theorem kn5:commitR R3v ⟨4,1,[]⟩=(R3v,1):=rfl
theorem kn6:installR R3v mK [] 0 0=(R4v,0):=by
 unfold installR;rw [if_neg (by decide +kernel),if_neg (by decide +kernel)];rfl
def kR:Nat→RvM
 | 0=>R4v
 | k+1=>(commitR (kR k) ⟨(k:Int)+1,3,[]⟩).1
theorem kR_ok:∀k:Fin 25,(commitR (kR k.val) ⟨(k.val:Int)+1,3,[]⟩).2=0:=by decide +kernel
theorem kR_end:((kR 25).rows.map (·.index),(kR 25).prev,(kR 25).rows.length)=([25],3,1):=by decide +kernel
theorem setR_bad {v:RvM} {m:MetaM} (h:rightM m=false):setR v m=(v,1):=if_pos h
theorem setR_ok {v:RvM} {m:MetaM} (h:rightM m=true):setR v m=({ v with m:=m },0):=if_neg (by rw [h];simp)
theorem inR_bad {v:RvM} {m:MetaM} {l:List PairM} {a e:Int} (h:placeOk a e=false):installR v m l a e=(v,1):=if_pos (.inr h)
theorem inR_of {v:RvM} {m:MetaM} {l:List PairM} {a e:Int} (h1:rightM m=true) (h2:placeOk a e=true) (h3:(ofP l).2=1):installR v m l a e=(v,1):=by
 unfold installR;rw [if_neg (by rw [h1,h2];simp),if_pos (by rw [h3];decide),h3]
theorem fld0 (mv:Value):∀W:World,Sem.run Tryz.prog (Instr.field 50 (.agg (metaRow mK mv)) 0) W=.ok (.int .i64 2) W:=fun W=>by kernel_rfl
theorem fld1 (mv:Value):∀W:World,Sem.run Tryz.prog (Instr.field 50 (.agg (metaRow mK mv)) 1) W=.ok (.int .i64 7) W:=fun W=>by kernel_rfl
theorem fld3 (mv:Value):∀W:World,Sem.run Tryz.prog (Instr.field 50 (.agg (metaRow mK mv)) 3) W=.ok mv W:=fun W=>by kernel_rfl
theorem fld4 (mv:Value):∀W:World,Sem.run Tryz.prog (Instr.field 50 (.agg (metaRow mK mv)) 4) W=.ok (.string (str mK.secret)) W:=fun W=>by kernel_rfl
theorem repS:repB 115 64=str mK.secret:=by decide +kernel
theorem longS:str mK.secret++⟨#[115]⟩=str (List.replicate 65 115):=by decide +kernel
theorem VtAt.own_ {w w':World} {p v:Nat} {d:Dk} {V:VtM} {o:VtO} {q:Nat} {t:TypeId} {cs:Array Value} (h:VtAt w p v d V o) (hB:Blk w q t cs) (hn:t ∉ vtTypes) (n1:t≠132) (n2:t≠32) (n3:t≠46) (hu:Upd (· = q) w w'):VtAt w' p v d V o:=by
 have hno:∀ {j r:Nat},o.cl v j r→¬r=q:=fun hr e=>h.not_mut hB.ty hn (e ▸ VtO.cl_mut hr)
 have hty:∀ {t':TypeId} {r:Nat},Ty w t' r→t≠t'→¬r=q:=fun ht hne e=>hne (hB.ty.inj (e ▸ ht))
 exact ⟨h.disk.upd hu (fun r hr=>hno (j:=1) hr),h.blk.upd hu (hno (j:=0) rfl),h.kept.upd hu (hno (j:=2) rfl),h.log.upd hu (hno (j:=3) rfl),h.recs.upd hu (fun r e=>hno (j:=4) e),h.sep,h.ring.move hu (fun r e=>hno (j:=5) e),h.rkF,h.map.upd hu (hty h.map.blk.ty n1) (fun e=>hB.ty.no_map (e ▸ h.map.mp)),h.mbF,h.mbk,h.rows.upd hu (fun r e=>hno (j:=6) e),h.ovl,fun i b ov h1 h2=>(h.each i b ov h1 h2).upd hu (fun r ht=>hty ht n2),h.mts.upd hu (fun r ht=>hty ht n3)⟩
theorem VlW.own_ {w0 w w':World} {p v:Nat} {R:RvM} {boot c:Nat} {q:Nat} {t:TypeId} {cs:Array Value} (h:VlW w0 w p v R boot c) (hB:Blk w q t cs) (hn:t ∉ vtTypes) (n1:t≠132) (n2:t≠32) (n3:t≠46) (hq:w0.heap.size≤q) (hu:Upd (· = q) w w'):VlW w0 w' p v R boot c:=by
 obtain ⟨M,d,V,o,S0,hx,e⟩:=h;exact ⟨M,d,V,o,S0,⟨hx.at_.own_ hB hn n1 n2 n3 hu,hx.g,hx.low,hx.upd.then hu (fun r hr=>.inr (by rw [show r=q from hr];exact hq))⟩,e⟩
theorem trow_A (w:World):TRow (w.alloc (.cells #[.string ⟨#[65]⟩,.bool false] 46)) 46 2 (.slice (some ⟨w.heap.size,0,none⟩) 1 1) (([⟨[65],false⟩]:List MtM).map mtRow) :=
 TRow.new (n:=1) rfl (by omega) (by
  intro i c h j u hj;match i,h with
  | 0,h =>
    cases h
    match j,hj with
    | 0,hj=>exact hj
    | 1,hj=>exact hj
    | n+2,hj=>simp [mtRow] at hj
  | n+1,h=>simp at h)
theorem trow_P (w:World):TRow (w.alloc (.cells #[.string ⟨#[97,112,112]⟩,.string ⟨#[]⟩] 55)) 55 2 (.slice (some ⟨w.heap.size,0,none⟩) 1 1) (([([97,112,112],[])]:List PairM).map pairRow) :=
 TRow.new (n:=1) rfl (by omega) (by
  intro i c h j u hj;match i,h with
  | 0,h =>
    cases h
    match j,hj with
    | 0,hj=>exact hj
    | 1,hj=>exact hj
    | n+2,hj=>simp [pairRow] at hj
  | n+1,h=>simp at h)
theorem trow_W (w:World):TRow (w.alloc (.cells #[.int .u8 1,.string ⟨#[97,112,112,47,97]⟩,.string ⟨#[49]⟩] 32)) 32 3 (.slice (some ⟨w.heap.size,0,none⟩) 1 1) (batW.ops.map opRow) :=
 TRow.new (n:=1) rfl (by omega) (by
  intro i c h j u hj;match i,h with
  | 0,h =>
    cases h
    match j,hj with
    | 0,hj=>exact hj
    | 1,hj=>exact hj
    | 2,hj=>exact hj
    | n+3,hj=>simp [opRow] at hj
  | n+1,h=>simp [batW] at h)
theorem bats_one {w:World} {x:Value} {l:List BatM} {ovs:List Value} (h:BatsAt w x l ovs) (hl:l.map (·.index)=[25]):∃g cap,x=.slice (some ⟨g,0,none⟩) 1 cap∧w.cell? ⟨g,0,none⟩=some (.int .i64 25):=by
 match l,ovs,h,hl with
 | [b],[o],h,hl =>
   obtain ⟨g,cap,rfl,-,-⟩:=h.own.head (by simp);refine ⟨g,cap,rfl,?_⟩;have:=h.own.cellAt 0 (by simp);rw [this];simp only [List.map_cons,List.map_nil,List.cons.injEq,and_true] at hl;show some (Value.int .i64 b.index)=_;rw [hl]
 | [b],[],h,hl=>exact absurd h.len (by simp)
 | [b],_::_::_,h,hl=>exact absurd h.len (by simp)
 | [],_,h,hl=>simp at hl
 | _::_::_,_,h,hl=>simp at hl
theorem opsW:OpsSmall batW.ops:=by intro o ho;simp [batW] at ho;subst ho;decide
theorem walk_VaultKnown (w:World):Calls Tryz.prog 3 #[] w fun e w'=>e=.returned (.bool true)∧Upd (fun _=>False) w w':=by
 have HF:=Lib.hid (fresh_17 w);go_enter Tryz.func3,Tryz.ntmps3
 go_upto_region 6 with (first
  | (go_at_call 11;refine HF.out.mono ?_;rintro e w1 ⟨p,v,rfl,hV⟩
     have H1:=Lib.hid hV;clear hV)
  | (go_at_call 12;refine H1.out.place.mono ?_;rintro e w2 ⟨rfl,hV,-⟩
     rw [show R0.at_=0 from rfl,show R0.epoch=0 from rfl];have H2:=Lib.hid hV;clear hV)
  | (go_at_call 13;refine (H2.out.boot_ (by omega)).mono ?_;rintro e w3 ⟨rfl,rfl⟩)
  | (go_at_call 14;refine H2.out.key.mono ?_;rintro e w3 ⟨rfl,rfl⟩
     rw [show ((R0.key:Nat):Int)=0 from rfl]))
 go_upto_region 7 with (first
  | (go_at_call 15
     have hu:=(Upd.refl (fun _=>False) w2).alloc (.cells #[.int .u8 1,.string ⟨#[97,112,112,47,97]⟩,.string ⟨#[49]⟩] 32);refine ((H2.out.still hu).commit (by omega) batW (trow_W w2) (.inl (by decide)) opsW (by decide)).mono ?_;rintro e w4 ⟨rfl,hV,-⟩;rw [kn1] at hV ⊢;have H4:=Lib.hid hV;clear hu hV))
 go_upto_region 8 with (first
  | (go_at_call 15
     refine (H4.out.commit (by omega) ⟨3,1,[]⟩ (TRow.nil _ 32 _) (.inl (by decide)) (fun o ho=>by simp at ho) (by decide)).mono ?_;rintro e w5 ⟨rfl,hV,-⟩;rw [kn2] at hV ⊢;have H5:=Lib.hid hV;clear hV))
 go_upto_region 9 with (first
  | (go_at_call 15
     refine (H5.out.commit (by omega) ⟨2,1,[]⟩ (TRow.nil _ 32 _) (.inl (by decide)) (fun o ho=>by simp at ho) (by decide)).mono ?_;rintro e w6 ⟨rfl,hV,-⟩;rw [kn3] at hV ⊢;have H6:=Lib.hid hV;clear hV))
 go_upto_region 10 with (first
  | (go_at_call 15
     refine (H6.out.commit (by omega) ⟨3,2,[]⟩ (TRow.nil _ 32 _) (.inl (by decide)) (fun o ho=>by simp at ho) (by decide)).mono ?_;rintro e w7 ⟨rfl,hV,-⟩;rw [kn4] at hV ⊢;have H7:=Lib.hid hV;clear hV))
 go_upto_region 11 with (first
  | (go_at_call 15
     refine (H7.out.commit (by omega) ⟨4,1,[]⟩ (TRow.nil _ 32 _) (.inl (by decide)) (fun o ho=>by simp at ho) (by decide)).mono ?_;rintro e w8 ⟨rfl,hV,-⟩;rw [kn5] at hV ⊢;have H8:=Lib.hid hV;clear hV))
 go_upto_region 18 with (first
  | (go_at_call 16;refine (H8.out.open_ (by omega)).mono ?_;rintro e w9 ⟨u,rfl,hV,-⟩
     have H9:=Lib.hid hV;clear hV)
  | (go_at_call 12;refine H9.out.place.mono ?_;rintro e wa ⟨rfl,hV,-⟩
     rw [show R3v.at_=3 from rfl,show R3v.epoch=2 from rfl];have Ha:=Lib.hid hV;clear hV)
  | (go_at_call 17;refine Ha.out.batches.mono ?_;rintro e wb ⟨x,ovs,rfl,hB,-,hV,-⟩
     obtain ⟨Ax,capx,rfl,-,-⟩:=hB.own.shape;rw [show R3v.rows.length=3 from rfl,show R3v.prev=0 from rfl];have Hb:=Lib.hid hV;clear hV hB)
  | (go_at_call 18;refine Hb.out.map_.mono ?_;rintro e wc ⟨m,mb,rfl,hm,-,-,hV,-⟩
     have Hc:=h2k hV hm;clear hV hm)
  | (go_at_call 19;refine (oget_c Hc.out.2 ⟨#[97,112,112,47,97]⟩).mono ?_;rintro e wd ⟨rfl,rfl⟩
     rw [show getV R3v.S (⟨#[97,112,112,47,97]⟩:ByteArray).data.toList=.tuple #[.string ⟨#[49]⟩,.bool true] from rfl])
  | (go_at_call 13;refine (Hc.out.1.boot_ (by omega)).mono ?_;rintro e wd ⟨rfl,rfl⟩))
 have HR:=Lib.hid (fun W=>rep_c 115 64 W (by omega));rw [repS] at HR
 -- a meta,in a block of the law's own
 go_upto_region 19 with (first
  | (go_at_call 20;refine (HR.out _).mono ?_;rintro e we ⟨rfl,hU⟩
     have He:=Lib.hid hU;clear hU))
 obtain ⟨g,hg⟩:=eqx wc.heap.size;obtain ⟨c,hc⟩:=eqx we.heap.size;have hT0:TRow (wc.alloc (.cells #[.string ⟨#[97,112,112]⟩,.bool true] 46)) 46 2 (.slice (some ⟨g,0,none⟩) 1 1) (mK.mounts.map mtRow):=by
  rw [← hg];refine TRow.new (n:=1) rfl (by omega) (fun i c h j u hj=>?_);match i,h with
  | 0,h =>
    cases h
    match j,hj with
    | 0,hj=>exact hj
    | 1,hj=>exact hj
    | n+2,hj=>simp [mtRow] at hj
  | n+1,h=>simp [mK] at h
 have HG:=h2k hg hc;rw [hg,hc];generalize hw14:World.alloc we _=wf;have hMB:Blk wf c 50 (metaRow mK (.slice (some ⟨g,0,none⟩) 1 1)):=by rw [← hw14,← HG.out.2];exact Blk.new we _ _
 have hUf:Upd (fun _=>False) we wf:=by rw [← hw14];exact (Upd.refl _ we).alloc _
 have Hf:=Lib.hid (((Hc.out.1.still ((Upd.refl (fun _=>False) wc).alloc _)).still He.out).still hUf);have HMB:=Lib.hid hMB;have HT:=Lib.hid ((hT0.still He.out).still hUf);have hrm:rightM mK=true:=by decide +kernel
 have HRM:=Lib.hid hrm;clear hT0 hg hc hw14 hMB hUf hrm;go_upto_region 20 with (first
  | (refine wpList_load_all rfl _ _ rfl c rfl _ _ _ HMB.out Tryz.underlying50 rfl (by kernel_rfl) ?_)
  | (go_at_call 21
     refine (Hf.out.install (by omega) mK HT.out (by decide) (by decide +kernel) [] (TRow.nil wf 55 2) (by simp) 0 0 (by decide)).mono ?_;rintro e wg ⟨rfl,hV,hU⟩;rw [kn6] at hV ⊢;have Hg:=Lib.hid hV;have HMB:=Lib.hid (HMB.out.vt hU (by decide));have HT:=Lib.hid (HT.out.vt hU (by decide));clear hV hU))
 go_upto_region 25 with (first
  | (go_at_call 12;refine Hg.out.place.mono ?_;rintro e wh ⟨rfl,hV,hU⟩
     rw [show R4v.at_=0 from rfl,show R4v.epoch=0 from rfl];have Hh:=Lib.hid hV;have HMB:=Lib.hid (HMB.out.upd hU (fun e=>e));have HT:=Lib.hid (HT.out.still hU);clear hV hU)
  | (go_at_call 17;refine Hh.out.batches.mono ?_;rintro e wi ⟨x,ovs,rfl,hB,-,hV,hU⟩
     obtain ⟨Ay,capy,rfl,-,-⟩:=hB.own.shape;rw [show R4v.rows.length=0 from rfl];have Hi:=Lib.hid hV;have HMB:=Lib.hid (HMB.out.upd hU (fun e=>e));have HT:=Lib.hid (HT.out.still hU);clear hV hU hB)
  | (go_at_call 16;refine (Hi.out.open_ (by omega)).mono ?_;rintro e w14 ⟨u2,rfl,hV,hU⟩
     have H14:=Lib.hid hV;have HMB:=Lib.hid (HMB.out.vt hU (by decide));have HT:=Lib.hid (HT.out.vt hU (by decide));clear hV hU))
 refine wp_region_noPanic ?_;refine wp_region_T (S:=fun w'=>Blk w' c 50 (metaRow mK (.slice (some ⟨g,0,none⟩) 1 1))) (T:=fun _=>false) (by kernel_rfl) ?_;have hSm0:Blk w14.drew c 50 (metaRow mK (.slice (some ⟨g,0,none⟩) 1 1)):=HMB.out.drew;have HVm0:=Lib.hid (H14.out.still (Upd.refl (fun _=>False) w14).drew);have HUm0:=Lib.hid (Upd.refl (fun _=>False) w14).drew;refine tk8 0 ?_;simp only [tkS];refine tk8 1 ?_;simp only [tkS];refine tk8 2 ?_;simp only [tkS];refine tk8 3 ?_;simp only [tkS];refine tk8 4 ?_;simp only [tkS];refine tk8 5 ?_;simp only [tkS];refine tk8 6 ?_;simp only [tkS];refine tk8 7 ?_;simp only [tkS];refine tk8 8 ?_;simp only [tkS];refine tk8 9 ?_;simp only [tkS];refine tk8 10 ?_;simp only [tkS];refine tk8 11 ?_;simp only [tkS];refine tk8 12 ?_;simp only [tkS];refine wpAnyT_one (i:=13) (by kernel_rfl) rfl (fun KK hKK=>?_);go_simp
 refine (HVm0.out.meta_).mono ?_;rintro e wm1 ⟨mv1,rfl,hT,hV,hU⟩;obtain ⟨A1,cap1,-,-,hmv1,-⟩:=hT.open_;rw [show (R4v.m.mounts.map mtRow).length=1 from rfl] at hmv1;subst hmv1;rw [show R4v.m=mK from rfl];have HVm1:=Lib.hid hV;have hSm1:Blk wm1 c 50 (metaRow mK (.slice (some ⟨g,0,none⟩) 1 1)):=hSm0.upd hU (fun e=>e);have HUm1:=Lib.hid (HUm0.out.then hU (fun _ e=>e.elim));have HFL:=h4k (fld0 (.slice A1 1 cap1)) (fld1 (.slice A1 1 cap1)) (fld3 (.slice A1 1 cap1)) (fld4 (.slice A1 1 cap1));refine hKK.out _ _ hSm1 ?_;clear hKK hT hV hU;refine tk8 14 ?_ rfl (by intro w' hSw;have hf:=HFL.out.1;go_split_ands;first | (go_simp;done) | (go_simp;rfl) | rfl)
 simp only [tkS];refine tk8 15 ?_;simp only [tkS];refine tk8 16 ?_;simp only [tkS];refine tk8 17 ?_;simp only [tkS];refine tk8 18 ?_;simp only [tkS];refine wpAnyT_one (i:=19) (by kernel_rfl) rfl (fun KK hKK=>?_);go_simp
 refine (HVm1.out.meta_).mono ?_;rintro e wm2 ⟨mv2,rfl,hT,hV,hU⟩;obtain ⟨A2,cap2,-,-,hmv2,-⟩:=hT.open_;rw [show (R4v.m.mounts.map mtRow).length=1 from rfl] at hmv2;subst hmv2;rw [show R4v.m=mK from rfl];have HVm2:=Lib.hid hV;have hSm2:Blk wm2 c 50 (metaRow mK (.slice (some ⟨g,0,none⟩) 1 1)):=hSm1.upd hU (fun e=>e);have HUm2:=Lib.hid (HUm1.out.then hU (fun _ e=>e.elim));have HFL:=h4k (fld0 (.slice A2 1 cap2)) (fld1 (.slice A2 1 cap2)) (fld3 (.slice A2 1 cap2)) (fld4 (.slice A2 1 cap2));refine hKK.out _ _ hSm2 ?_;clear hKK hT hV hU;refine tk8 20 ?_ rfl (by intro w' hSw;have hf:=HFL.out.2.1;go_split_ands;first | (go_simp;done) | (go_simp;rfl) | rfl)
 simp only [tkS];refine tk8 21 ?_;simp only [tkS];refine tk8 22 ?_;simp only [tkS];refine tk8 23 ?_;simp only [tkS];refine tk8 24 ?_;simp only [tkS];refine wpAnyT_one (i:=25) (by kernel_rfl) rfl (fun KK hKK=>?_);go_simp
 refine (HVm2.out.meta_).mono ?_;rintro e wm3 ⟨mv3,rfl,hT,hV,hU⟩;obtain ⟨A3,cap3,-,-,hmv3,-⟩:=hT.open_;rw [show (R4v.m.mounts.map mtRow).length=1 from rfl] at hmv3;subst hmv3;rw [show R4v.m=mK from rfl];have HVm3:=Lib.hid hV;have hSm3:Blk wm3 c 50 (metaRow mK (.slice (some ⟨g,0,none⟩) 1 1)):=hSm2.upd hU (fun e=>e);have HUm3:=Lib.hid (HUm2.out.then hU (fun _ e=>e.elim));have HFL:=h4k (fld0 (.slice A3 1 cap3)) (fld1 (.slice A3 1 cap3)) (fld3 (.slice A3 1 cap3)) (fld4 (.slice A3 1 cap3));refine hKK.out _ _ hSm3 ?_;clear hKK hT hV hU;refine tk8 26 ?_ rfl (by intro w' hSw;have hf:=HFL.out.2.2.1;go_split_ands;first | (go_simp;done) | (go_simp;rfl) | rfl)
 simp only [tkS];refine tk8 27 ?_;simp only [tkS];refine tk8 28 ?_;simp only [tkS];refine tk8 29 ?_;simp only [tkS];refine tk8 30 ?_;simp only [tkS];refine tk8 31 ?_;simp only [tkS];refine tk8 34 ?_;simp only [tkS];refine tk8 35 ?_ rfl (by intro w' hSw;have ck:=hSw.cell 4;go_split_ands;first | (go_simp;done) | (go_simp;rfl) | rfl)
 simp only [tkS];refine wpAnyT_one (i:=32) (by kernel_rfl) rfl (fun KK hKK=>?_);go_simp
 refine (HVm3.out.meta_).mono ?_;rintro e wm4 ⟨mv4,rfl,hT,hV,hU⟩;obtain ⟨A4,cap4,-,-,hmv4,-⟩:=hT.open_;rw [show (R4v.m.mounts.map mtRow).length=1 from rfl] at hmv4;subst hmv4;rw [show R4v.m=mK from rfl];have HVm4:=Lib.hid hV;have hSm4:Blk wm4 c 50 (metaRow mK (.slice (some ⟨g,0,none⟩) 1 1)):=hSm3.upd hU (fun e=>e);have HUm4:=Lib.hid (HUm3.out.then hU (fun _ e=>e.elim));have HFL:=h4k (fld0 (.slice A4 1 cap4)) (fld1 (.slice A4 1 cap4)) (fld3 (.slice A4 1 cap4)) (fld4 (.slice A4 1 cap4));refine hKK.out _ _ hSm4 ?_;clear hKK hT hV hU;refine tk8 33 ?_ rfl (by intro w' hSw;have hf:=HFL.out.2.2.2;go_split_ands;first | (go_simp;done) | (go_simp;rfl) | rfl)
 simp only [tkS];refine tk8 36 ?_;simp only [tkS];refine tk8 37 ?_;simp only [tkS];refine tk8 38 ?_;simp only [tkS];refine tk8 39 ?_;simp only [tkS];refine wpAnyT_one (i:=40) (by kernel_rfl) rfl (fun KK hKK=>?_);go_simp
 refine (HVm4.out.map_).mono ?_;rintro e wm5 ⟨m5,mb5,rfl,hm,-,-,hV,hU⟩;have HVm5:=h2k hV hm;have hSm5:Blk wm5 c 50 (metaRow mK (.slice (some ⟨g,0,none⟩) 1 1)):=hSm4.upd hU (fun e=>e);have HUm5:=Lib.hid (HUm4.out.then hU (fun _ e=>e.elim));refine hKK.out _ _ hSm5 ?_;clear hKK hm hV hU;refine wpAnyT_one (i:=41) (by kernel_rfl) rfl (fun KK hKK=>?_);go_simp
 refine (olen_c HVm5.out.2).mono ?_;rintro e wm6 ⟨rfl,hU⟩;rw [show ((R4v.S.length:Nat):Int)=0 from rfl];have HVm6:=Lib.hid (HVm5.out.1.still hU);have hSm6:Blk wm6 c 50 (metaRow mK (.slice (some ⟨g,0,none⟩) 1 1)):=hSm5.upd hU (fun e=>e);have HUm6:=Lib.hid (HUm5.out.then hU (fun _ e=>e.elim));refine hKK.out _ _ hSm6 ?_;clear hKK hU;refine tk8 42 ?_;simp only [tkS];refine tk8 43 ?_;simp only [tkS];refine tk8 44 ?_;simp only [tkS];refine wpAnyT_done (by kernel_rfl) ?_ _;refine NoPanic.normal ?_;have HMBx:=Lib.hid hSm6;have HTx:=Lib.hid ((HT.out.still HUm6.out));clear hSm0 hSm1 hSm2 hSm3 hSm4 hSm5 hSm6;have HMB:=HMBx;have HT:=HTx;go_upto_region 27 with fail
 go_loopw [24] (fun iv wr=>∃k:Nat,k≤25∧iv=.int .i64 ((k:Int)+1)∧VlW w wr p u2 (kR k) 3 (21+3*k)∧Blk wr c 50 (metaRow mK (.slice (some ⟨g,0,none⟩) 1 1))∧TRow wr 46 2 (.slice (some ⟨g,0,none⟩) 1 1) (mK.mounts.map mtRow)) (fun iv _=>26 - (intOf iv).toNat)
 case atStart=>exact ⟨0,by omega,rfl,HVm6.out,HMB.out,HT.out⟩
 case round =>
  obtain ⟨k,hk,rfl,hV,hB,hT⟩:=hrel;have HK:=h4k hV hB hT hk;clear hV hB hT;by_cases hlt:k<25
  ·have j1:(k:Int)+1≤25:=by omega
   have hok:=kR_ok ⟨k,hlt⟩;have hwk:IntKind.i64.wrap ((k:Int)+1+1)=((k+1:Nat):Int)+1:=by rw [IntWalk.i64_in _ (by omega)];omega
   have HOK:=Lib.hid hok;clear hok;go_wp2_with (first
    | (go_at_call 15
       refine (HK.out.1.commit (by omega) ⟨(k:Int)+1,3,[]⟩ (TRow.nil _ 32 _) (.inl (by decide)) (fun o ho=>by simp at ho) (by show (3:Int)≤_;omega)).mono ?_;rintro e w2 ⟨rfl,hV,hU⟩;rw [show (commitR (kR k) ⟨(k:Int)+1,3,[]⟩).2=0 from HOK.out];have HK2:=h3k hV (HK.out.2.1.vt hU (by decide)) (HK.out.2.2.1.vt hU (by decide));clear hV hU))
   go_roundw
   case rel=>exact ⟨k+1,by omega,by simp,HK2.out.1,HK2.out.2.1,HK2.out.2.2⟩
   case measure=>simp [intOf]<;>omega
  ·obtain rfl:k=25:=by omega
   have j1:¬((25:Nat):Int)+1≤25:=by omega
   have HMB:=Lib.hid HK.out.2.1;have HT:=Lib.hid HK.out.2.2.1;have HX:=Lib.hid HK.out.1;clear hlt hk;go_upto_region 32 with (first
    | (go_at_call 17;refine HX.out.batches.mono ?_;rintro e wj ⟨x,ovs,rfl,hB,-,hV,hU⟩
       obtain ⟨gj,capj,rfl,hcj⟩:=bats_one hB (congrArg Prod.fst kR_end);rw [show (kR 25).prev=3 from congrArg (fun x=>x.2.1) kR_end];have cj:wj.cell? ⟨gj,0,none⟩=some (.int .i64 25):=hcj;have Hj:=Lib.hid hV;have HMB:=Lib.hid (HMB.out.upd hU (fun e=>e));have HMBj:=HMB;have HT:=Lib.hid (HT.out.still hU);clear hV hU hB hcj))
   obtain ⟨c2,hc2⟩:=eqx wj.heap.size;have HC2:=Lib.hid hc2;clear hc2;go_upto_region 34 with (first
    | (refine wpList_load_all rfl _ _ rfl c rfl _ _ _ HMB.out Tryz.underlying50 rfl (by kernel_rfl) ?_)
    | (refine wpList_store_all rfl 50 _ _ rfl wj.heap.size (metaRow mK (.slice (some ⟨g,0,none⟩) 1 1)) rfl rfl _ _ (Blk.new wj _ _) rfl (metaCells_one _ _ _ rfl rfl) (by kernel_rfl) ?_
       intro wk hBk hUk hzk;have hUjk:Upd (fun _=>False) wj wk:=((Upd.refl (fun _=>False) wj).alloc _).then hUk (fun q e=>.inr (by have e2:q=wj.heap.size:=e;omega));have Hk:=h2k (Hj.out.still hUjk) hBk;have HMB:=Lib.hid (HMB.out.upd hUjk (fun e=>e));have HT:=Lib.hid (HT.out.still hUjk);clear hBk hUk hzk hUjk))
   rw [HC2.out] at Hk ⊢;have q4:wk.cell? ⟨c2,4,none⟩=some (.string (str mK.secret)):=Hk.out.2.cell 4;have hcat:(9223372036854775807<(str mK.secret).size+(⟨#[115]⟩:ByteArray).size)=False:=by
    rw [show (str mK.secret).size=64 from by decide +kernel];exact eq_false (by decide)
   go_upto_region 35 with (first
    | (refine wpList_store_one rfl _ _ _ rfl c2 4 (.string (str mK.secret++⟨#[115]⟩)) rfl rfl _ _ Hk.out.2 (by simp [metaRow]) rfl (by kernel_rfl) ?_
       intro wl hBl hUl hzl;rw [show (metaRow mK (.slice (some ⟨g,0,none⟩) 1 1)).setIfInBounds 4 (.string (str mK.secret++⟨#[115]⟩))=metaRow mL (.slice (some ⟨g,0,none⟩) 1 1) from by rw [longS];rfl] at hBl
       have HL0:=h3k hBl hUl hzl;clear hBl hUl hzl))
   clear q4 hcat;have hL:=Hk.out.1.own_ Hk.out.2 (by decide) (by decide) (by decide) (by decide) (by rw [← HC2.out];exact Hj.out.upd.size) HL0.out.2.1;have hne:c≠c2:=by have h1:=Hj.out.upd.size;have h2:=HC2.out;have h3:=HG.out.2;exact fun e=>by have:=HMBj.out.lt;omega
   have HMB:=Lib.hid (HMB.out.upd HL0.out.2.1 (fun e=>hne e));have HT:=Lib.hid (HT.out.upd HL0.out.2.1 (fun r ht e=>absurd (ht.inj ((show r=c2 from e) ▸ Hk.out.2.ty)) (by decide)));have HL:=h2k hL HL0.out.1;clear hL hne;go_upto_region 36 with (first
    | (go_at_call 24
       refine (Hwr_.out.set_ (by omega) metaM0 (TRow.nil wr_ 46 2) (by decide) (by decide +kernel)).mono ?_;rintro e ws ⟨rfl,hV,hU⟩;rw [setR_ok (by decide)] at hV ⊢;have Hws:=Lib.hid hV;have HMB:=Lib.hid (HMB.out.vt hU (by decide));have HT:=Lib.hid (HT.out.vt hU (by decide));have m0:ws.cell? ⟨c,0,none⟩=some (.int .i64 2):=HMB.out.cell 0;have m1:ws.cell? ⟨c,1,none⟩=some (.int .i64 7):=HMB.out.cell 1;have m2:ws.cell? ⟨c,2,none⟩=some (.int .i64 0):=HMB.out.cell 2;have m3:ws.cell? ⟨c,3,none⟩=some (.slice (some ⟨g,0,none⟩) 1 1):=HMB.out.cell 3;have m4:ws.cell? ⟨c,4,none⟩=some (.string (str mK.secret)):=HMB.out.cell 4;clear hV hU)
    | (go_at_call 21
       refine ((Hwq.out.still ((Upd.refl (fun _=>False) wq).alloc (.cells #[.string ⟨#[97,112,112]⟩,.string ⟨#[]⟩] 55))).install (by omega) mK (HT.out.still ((Upd.refl (fun _=>False) wq).alloc (.cells #[.string ⟨#[97,112,112]⟩,.string ⟨#[]⟩] 55))) (by decide) (by decide +kernel) [([97,112,112],[])] (trow_P wq) (by decide) 1 1 (by decide)).mono ?_;rintro e wr_ ⟨rfl,hV,hU⟩;rw [inR_of (by decide +kernel) (by decide) (by decide +kernel)] at hV ⊢;have Hwr_:=Lib.hid hV;have HMB:=Lib.hid ((HMB.out.alloc _).vt hU (by decide));have HT:=Lib.hid ((HT.out.still ((Upd.refl (fun _=>False) wq).alloc (.cells #[.string ⟨#[97,112,112]⟩,.string ⟨#[]⟩] 55))).vt hU (by decide));have m0:wr_.cell? ⟨c,0,none⟩=some (.int .i64 2):=HMB.out.cell 0;have m1:wr_.cell? ⟨c,1,none⟩=some (.int .i64 7):=HMB.out.cell 1;have m2:wr_.cell? ⟨c,2,none⟩=some (.int .i64 0):=HMB.out.cell 2;have m3:wr_.cell? ⟨c,3,none⟩=some (.slice (some ⟨g,0,none⟩) 1 1):=HMB.out.cell 3;have m4:wr_.cell? ⟨c,4,none⟩=some (.string (str mK.secret)):=HMB.out.cell 4;clear hV hU)
    | (go_at_call 21
       refine (Hwp_.out.install (by omega) mK (HT.out) (by decide) (by decide +kernel) [] (TRow.nil wp_ 55 2) (by decide) 0 1 (by decide)).mono ?_;rintro e wq ⟨rfl,hV,hU⟩;rw [inR_bad (by decide)] at hV ⊢;have Hwq:=Lib.hid hV;have HMB:=Lib.hid (HMB.out.vt hU (by decide));have HT:=Lib.hid (HT.out.vt hU (by decide));have m0:wq.cell? ⟨c,0,none⟩=some (.int .i64 2):=HMB.out.cell 0;have m1:wq.cell? ⟨c,1,none⟩=some (.int .i64 7):=HMB.out.cell 1;have m2:wq.cell? ⟨c,2,none⟩=some (.int .i64 0):=HMB.out.cell 2;have m3:wq.cell? ⟨c,3,none⟩=some (.slice (some ⟨g,0,none⟩) 1 1):=HMB.out.cell 3;have m4:wq.cell? ⟨c,4,none⟩=some (.string (str mK.secret)):=HMB.out.cell 4;clear hV hU)
    | (go_at_call 21
       refine (Hwo.out.install (by omega) mK (HT.out) (by decide) (by decide +kernel) [] (TRow.nil wo 55 2) (by decide) 1 0 (by decide)).mono ?_;rintro e wp_ ⟨rfl,hV,hU⟩;rw [inR_bad (by decide)] at hV ⊢;have Hwp_:=Lib.hid hV;have HMB:=Lib.hid (HMB.out.vt hU (by decide));have HT:=Lib.hid (HT.out.vt hU (by decide));have m0:wp_.cell? ⟨c,0,none⟩=some (.int .i64 2):=HMB.out.cell 0;have m1:wp_.cell? ⟨c,1,none⟩=some (.int .i64 7):=HMB.out.cell 1;have m2:wp_.cell? ⟨c,2,none⟩=some (.int .i64 0):=HMB.out.cell 2;have m3:wp_.cell? ⟨c,3,none⟩=some (.slice (some ⟨g,0,none⟩) 1 1):=HMB.out.cell 3;have m4:wp_.cell? ⟨c,4,none⟩=some (.string (str mK.secret)):=HMB.out.cell 4;clear hV hU)
    | (go_at_call 24
       refine ((Hwn.out.still ((Upd.refl (fun _=>False) wn).alloc (.cells #[.string ⟨#[65]⟩,.bool false] 46))).set_ (by omega) ⟨0,0,0,[⟨[65],false⟩],[]⟩ (trow_A wn) (by decide) (by decide +kernel)).mono ?_;rintro e wo ⟨rfl,hV,hU⟩;rw [setR_bad (by decide +kernel)] at hV ⊢;have Hwo:=Lib.hid hV;have HMB:=Lib.hid ((HMB.out.alloc _).vt hU (by decide));have HT:=Lib.hid ((HT.out.still ((Upd.refl (fun _=>False) wn).alloc (.cells #[.string ⟨#[65]⟩,.bool false] 46))).vt hU (by decide));have m0:wo.cell? ⟨c,0,none⟩=some (.int .i64 2):=HMB.out.cell 0;have m1:wo.cell? ⟨c,1,none⟩=some (.int .i64 7):=HMB.out.cell 1;have m2:wo.cell? ⟨c,2,none⟩=some (.int .i64 0):=HMB.out.cell 2;have m3:wo.cell? ⟨c,3,none⟩=some (.slice (some ⟨g,0,none⟩) 1 1):=HMB.out.cell 3;have m4:wo.cell? ⟨c,4,none⟩=some (.string (str mK.secret)):=HMB.out.cell 4;clear hV hU)
    | (go_at_call 24
       refine (Hwm.out.set_ (by omega) ⟨4,0,0,[],[]⟩ (TRow.nil wm 46 2) (by decide) (by decide +kernel)).mono ?_;rintro e wn ⟨rfl,hV,hU⟩;rw [setR_bad (by decide +kernel)] at hV ⊢;have Hwn:=Lib.hid hV;have HMB:=Lib.hid (HMB.out.vt hU (by decide));have HT:=Lib.hid (HT.out.vt hU (by decide));have m0:wn.cell? ⟨c,0,none⟩=some (.int .i64 2):=HMB.out.cell 0;have m1:wn.cell? ⟨c,1,none⟩=some (.int .i64 7):=HMB.out.cell 1;have m2:wn.cell? ⟨c,2,none⟩=some (.int .i64 0):=HMB.out.cell 2;have m3:wn.cell? ⟨c,3,none⟩=some (.slice (some ⟨g,0,none⟩) 1 1):=HMB.out.cell 3;have m4:wn.cell? ⟨c,4,none⟩=some (.string (str mK.secret)):=HMB.out.cell 4;clear hV hU)
    | (go_at_call 24
       refine (HL.out.1.set_ (by omega) mL HT.out (by decide) (by decide +kernel)).mono ?_;rintro e wm ⟨rfl,hV,hU⟩;rw [setR_bad (by decide +kernel)] at hV ⊢;have Hwm:=Lib.hid hV;have HMB:=Lib.hid (HMB.out.vt hU (by decide));have HT:=Lib.hid (HT.out.vt hU (by decide));have m0:wm.cell? ⟨c,0,none⟩=some (.int .i64 2):=HMB.out.cell 0;have m1:wm.cell? ⟨c,1,none⟩=some (.int .i64 7):=HMB.out.cell 1;have m2:wm.cell? ⟨c,2,none⟩=some (.int .i64 0):=HMB.out.cell 2;have m3:wm.cell? ⟨c,3,none⟩=some (.slice (some ⟨g,0,none⟩) 1 1):=HMB.out.cell 3;have m4:wm.cell? ⟨c,4,none⟩=some (.string (str mK.secret)):=HMB.out.cell 4;clear hV hU)
    | (refine wpList_load_all rfl _ _ rfl c2 rfl _ _ _ HL.out.2 Tryz.underlying50 rfl (by kernel_rfl) ?_))
   have HN:=Lib.hid (New_c 499 ws (by omega) (by omega));go_upto_region 37 with (first
    | (go_at_call 25;refine HN.out.mono ?_;rintro e wt ⟨pf,Ff,rfl,hD,hU,-⟩
       have Ht:=h2k (Hws.out.still hU) (vopen_few hD rfl (by rw [(fresh_lens 499).2];omega) (.string (str masterL)));clear hD hU))
   go_upto_region 38 with (first
    | (go_at_call 16;refine Ht.out.2.mono ?_;rintro e wu ⟨rfl,rfl⟩))
   go_upto_region 39 with (first
    | (go_at_call 16;refine (vopen_nil wt (.string (str masterL))).mono ?_;rintro e wu ⟨rfl,rfl⟩))
   have HE:=Lib.hid Ht.out.1.upd;go_wp2_with (first
    | (go_at_call 26;refine (wakes_17 _).mono ?_;rintro e w9 ⟨rfl,hU⟩;have HE:=Lib.hid (HE.out.then hU (fun _ e=>e.elim));clear hU))
   go_ret
   exact ⟨rfl,HE.out⟩
end
section
open Go Go.ChangeShapes Go.WideShapes Go.ChangeAt Go.RowKit Go.Proofs.YtbhjgfibhegddaaGreat
theorem common1:laidOutB Tryz.pinned.checked.prog=true:=by kernel_rfl
theorem common2:mapsRowed Tryz.pinned.checked.prog=true:=by kernel_rfl
theorem common6:(Tryz.pinned.checked.prog.stops == [])=true:=by kernel_rfl
theorem common8:(Tryz.pinned.checked.prog.stopKnobs == [])=true:=by kernel_rfl
theorem common22:(Rows.vaultMetasRow.plainKeys == Tryz.pinned.checked.prog.plainKeys)=true:=by kernel_rfl
theorem common24:Tryz.pinned.checked.prog.stopsHeard=true:=by kernel_rfl
theorem common25:Tryz.pinned.checked.prog.mayEnter=true:=by kernel_rfl
theorem common26:(Rows.vaultMetasRow.lifted == Tryz.pinned.checked.prog.liftsFinal)=true:=by kernel_rfl
theorem common27:(Tryz.pinned.checked.prog.make == some Rows.vaultMetasRow.make)=true:=by kernel_rfl
theorem and_mk {a b:Bool} (ha:a=true) (hb:b=true):(a && b)=true:=by rw [ha,hb];rfl
end
end Go.Proofs.YtbhjgfibhegddaaGreat
