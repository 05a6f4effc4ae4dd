/-
  Parts of the proof of VaultMetas: VatV, VatW, VatX, VatY, OpnP, OpnA, OpnB.
-/
import Derived.Test.YtbhjgfibhegddaaGreatQVaultMetas20
set_option maxRecDepth 100000
set_option maxHeartbeats 16000000
namespace Go.Proofs.YtbhjgfibhegddaaGreat
section
open Go Go.RowKit
section
variable {w w' : World} {p v : Nat} {d d' : Dk} {V V' : VtM} {o o' : VtO}
theorem addV_same {d : Dk} {V : VtM} {b : BatM} {X : List PairM} (h : V.S = X) : ((addV d V b).1, (if (addV d V b).2.2 = 0 then { (addV d V b).2.1 with S := doL X b.ops } else (addV d V b).2.1), (addV d V b).2.2) = addV d V b := by
 subst h;unfold addV;simp only
 obtain ⟨R, hR⟩ : ∃ R, addG d V.lg (str (V.wrap sLog (batT b))) = R := ⟨_, rfl⟩;rw [hR];by_cases h1 : R.2.2 = 0
 ·simp [h1, VtM.does, VtM.next]
 ·simp [h1]
theorem VtAt.map_ (h : VtAt w p v d V o) (hu : Upd (· = v) w w') {X : List PairM} {m2 mb2 : Nat} (hB : Blk w' v 117 (vtRow V p { o with m := m2 })) (hm : MapAt w' m2 mb2 X) (h1 : mb2 ∉ o.F) (h2 : mb2 ≠ o.rk) :
 VtAt w' p v d { V with S := X } { o with m := m2, mb := mb2 } ∧ VtStep w w' v o { o with m := m2, mb := mb2 } := by
 have hz : ∀ q, q = v → o.mut v q := fun q e => .inl e
 exact ⟨h.cells_ hu rfl rfl rfl rfl rfl hB rfl rfl rfl rfl (h.log.upd hu (h.not_v (j := 3) (by decide) rfl)) (h.recs.upd hu (fun q e => h.not_v (j := 4) (by decide) e)) h.sep hm h1 h2 (h.rows.upd hu (fun q e => h.not_v (j := 6) (by decide) e)) h.ovl (h.keep_each hu hz) (h.keep_mts hu hz),
  VtStep.mk_ (hu.mono fun q e => .inl (hz q e)) _ rfl (fun q e => .inl e) (.inl rfl) (.inl rfl) (fun q e => .inl e) (fun q e => .inl e) (fun q e => .inl e)⟩
theorem vcommit_c (h : VtAt w p v d V o) (hst : StOk V.st) (hf : PutFit d V) (hn : V.n + 3 < 4611686018427387904) (hp : d.pend + 600 < 1000000) (hl : d.lasts.length = 500) (hlog : V.st.log < 1000000) (hg : LgFit V.lg) (hr : V.rows.length ≤ 24) (hat : PlaceIs V.at_ V.epoch)
 (b : BatM) {ty : TypeId} {ov : Value} (hov : TRow w ty 3 ov (b.ops.map opRow)) (hofar : ∀ W, Upd (o.mut v) w W → TRow W ty 3 ov (b.ops.map opRow)) (hbs : OpsSmall b.ops) (hbe : b.epoch ≤ 9223372036854775807) :
 Calls Tryz.prog 15 #[.pointer (some ⟨v, 0, none⟩), .agg #[.int .i64 b.index, .int .i64 b.epoch, ov]] w fun e w' => e = .returned (.int .i64 (commitV d V b).2.2) ∧ ∃ o', VtAt w' p v (commitV d V b).1 (commitV d V b).2.1 o' ∧ VtStep w w' v o o' := by
 obtain ⟨A, cap, ob, oo, hov1, hov2, hov3, hov4, hov5⟩ := hov.ops;obtain ⟨c, hc⟩ : ∃ c, w.heap.size = c := ⟨_, rfl⟩;have hone := hov.one;have H := Lib.hid (And.intro h (And.intro hst (And.intro hf (And.intro hn (And.intro hp (And.intro hl (And.intro hlog (And.intro hg (And.intro hr hat)))))))));have HV := Lib.hid (And.intro hov (And.intro hov1 (And.intro hov2 (And.intro hov3 (And.intro hov4 (And.intro hov5 (And.intro hbs (And.intro hbe hone))))))));have HC := Lib.hid hc;have HOFAR := Lib.hid hofar;clear h hofar hst hf hn hp hl hlog hg hr hat hov hov1 hov2 hov3 hov4 hov5 hbs hbe hc hone;go_enter Tryz.func15, Tryz.ntmps15
 go_upto_region 1 with fail
 rw [HC.out];generalize hw1 : World.alloc _ _ = w1;have hB1 : Blk w1 c 35 #[.int .i64 b.index, .int .i64 b.epoch, ov] := by rw [← hw1, ← HC.out]; exact Blk.new w _ _
 have hU1 : Upd (fun _ => False) w w1 := by rw [← hw1]; exact (Upd.refl _ w).alloc _
 have H1 := Lib.hid (And.intro hB1 (And.intro hU1 (H.out.1.still hU1)));have HO := Lib.hid (off_c (H.out.1.still hU1));clear hB1 hU1 hw1;have hset : commitV d V b = if offV d V then (d, { V with down := true }, 14) else if batErr b.index b.epoch b.ops ≠ 0 then (d, V, batErr b.index b.epoch b.ops) else if b.index ≠ V.at_ + 1 ∨ b.epoch < V.epoch then (d, V, 1) else
  if doE V.S b.ops ≠ 0 then (d, V, doE V.S b.ops) else
  if 24 ≤ V.rows.length then (if (wholeV d V V.st.m V.S V.at_ V.epoch).2.2 ≠ 0 then wholeV d V V.st.m V.S V.at_ V.epoch else
   ((addV (wholeV d V V.st.m V.S V.at_ V.epoch).1 (wholeV d V V.st.m V.S V.at_ V.epoch).2.1 b).1, if (addV (wholeV d V V.st.m V.S V.at_ V.epoch).1 (wholeV d V V.st.m V.S V.at_ V.epoch).2.1 b).2.2 = 0 then { (addV (wholeV d V V.st.m V.S V.at_ V.epoch).1 (wholeV d V V.st.m V.S V.at_ V.epoch).2.1 b).2.1 with S := doL V.S b.ops } else (addV (wholeV d V V.st.m V.S V.at_ V.epoch).1 (wholeV d V V.st.m V.S V.at_ V.epoch).2.1 b).2.1, (addV (wholeV d V V.st.m V.S V.at_ V.epoch).1 (wholeV d V V.st.m V.S V.at_ V.epoch).2.1 b).2.2))
  else addV d V b := rfl
 have HS := Lib.hid hset;clear hset;have HT1 := Lib.hid (VtStep.mk (o := o) (o' := o) (v := v) (H1.out.2.1.mono (fun _ e => e.elim)) (fun q e => .inl e));cases hoff : offV d V
 ·rw [hoff] at HS HO
  simp only [Bool.false_eq_true, if_false, forall_const] at HO;clear hoff;by_cases hE : batErr b.index b.epoch b.ops = 0
  ·have HE := Lib.hid hE
   obtain ⟨b1, b2, b3, b4, b5⟩ := batErr_zero hE;have HB0 := Lib.hid (And.intro b1 (And.intro b2 (And.intro b3 (And.intro b4 b5))));obtain ⟨ni, hni⟩ : ∃ n : Nat, b.index = n := ⟨b.index.toNat, by omega⟩;obtain ⟨ne, hne⟩ : ∃ n : Nat, b.epoch = n := ⟨b.epoch.toNat, by omega⟩;have hby := bbytes_ok (w := w1) (A := A) (cap := cap) (b := ob) (off := oo) (l := b.ops) (i := ni) (ep := ne) HV.out.2.2.2.2.1 (fun w' hu => HV.out.2.2.2.2.2.1 w' (fun _ => False) (H1.out.2.1.then hu (fun _ e => .inl e)) (fun _ _ e => e)) HV.out.2.2.2.2.2.2.1 (by have := HV.out.2.2.2.2.2.2.2.1; omega) (by rw [← hni, ← hne]; exact hE);have hbt : batB ni ne b.ops = batT b := by unfold batT; rw [hni, hne]; rfl
   rw [← HV.out.2.1, ← hni, ← hne, hbt] at hby;have HBY := Lib.hid hby;clear hE b1 b2 b3 b4 b5 hby hbt hni hne;go_upto_region 7 with (first
    | (go_at_call 53; refine HO.out.mono ?_; rintro e w2 ⟨rfl, -, -, hw2⟩; subst hw2)
    | (refine wpList_load_all rfl _ _ rfl c rfl _ _ _ H1.out.1 Tryz.underlying35 rfl (by kernel_rfl) ?_)
    | (go_at_call 54; refine HBY.out.mono ?_; rintro e w3 ⟨rfl, hU3⟩; have H3 := Lib.hid hU3; clear hU3))
   have h3 := H1.out.2.2.still H3.out;have hB3 := H1.out.1.upd H3.out (fun e => e);have hUw3 := H1.out.2.1.then H3.out (fun _ e => .inl e);have K3 := Lib.hid (And.intro h3 (And.intro hB3 (And.intro hUw3 (HT1.out.still H3.out))));have cb0 : w3.cell? ⟨c, 0, none⟩ = some (.int .i64 b.index) := hB3.cell 0;have cb1 : w3.cell? ⟨c, 1, none⟩ = some (.int .i64 b.epoch) := hB3.cell 1;have cb2 : w3.cell? ⟨c, 2, none⟩ = some ov := hB3.cell 2;have cv0 : w3.cell? ⟨v, 0, none⟩ = some (.pointer (some ⟨o.m, 0, none⟩)) := h3.blk.cell 0;have cv1 : w3.cell? ⟨v, 1, none⟩ = some (.int .i64 V.at_) := h3.blk.cell 1;have cv2 : w3.cell? ⟨v, 2, none⟩ = some (.int .i64 V.epoch) := h3.blk.cell 2;have wa : IntKind.i64.wrap (V.at_ + 1) = V.at_ + 1 := IntWalk.i64_in _ (by have := H.out.2.2.2.2.2.2.2.2.2.at0; have := H.out.2.2.2.2.2.2.2.2.2.at1; omega);clear h3 hB3 hUw3;by_cases hi : b.index = V.at_ + 1
   ·have hi0 : (b.index != V.at_ + 1) = false := by simp [hi]
    have HI := Lib.hid hi;clear hi;by_cases he : b.epoch < V.epoch
    ·have he0 : decide (b.epoch < V.epoch) = true := by simpa using he
     have HE2 := Lib.hid he;clear he;go_quiet (fail)
     go_wp2_with fail
     go_ret
     rw [HS.out, if_neg (by simp), if_neg (by rw [HE.out]; simp), if_pos (.inr HE2.out)]
     exact ⟨rfl, o, K3.out.1.still ((Upd.refl _ _).drewN _), K3.out.2.2.2.still ((Upd.refl _ _).drewN _)⟩
    ·have he0 : decide (b.epoch < V.epoch) = false := by simpa using he
     have HE2 := Lib.hid he;clear he;have HTW := Lib.hid (fun n => otwin_c (K3.out.1.still ((Upd.refl (fun _ => False) w3).drewN n)).map);have HDO := Lib.hid (fun (W : World) (m2 mb2 : Nat) (hU : Upd (fun _ => False) w3 W) (hm : MapAt W m2 mb2 V.S) => odo_c hm (A := A) (cap := cap) (b := ob) (off := oo) (l := b.ops) HV.out.2.2.2.2.1 (fun w' hu => HV.out.2.2.2.2.2.1 w' (fun _ => False) ((K3.out.2.2.1.then hU (fun _ e => .inl e)).then hu (fun _ e => .inl e)) (fun _ _ e => e)) HV.out.2.2.2.2.2.2.1 HV.out.2.2.2.1);rw [← HV.out.2.1] at HDO;have hrows : (V.rows.length : Int) = (V.rows.length : Int) := rfl;by_cases hD : doE V.S b.ops = 0
     ·have HD0 := Lib.hid hD
      rw [hD] at HDO;clear hD hrows;go_quiet (fail)
      go_upto_region 13 with (first
       | (go_at_call 55; refine (HTW.out _).mono ?_; rintro e w5 ⟨m2, mb2, rfl, hm5, hm5a, hm5b, hU5⟩
          have cb25 : w5.cell? ⟨c, 2, none⟩ = some ov := (K3.out.2.1.upd (((Upd.refl (fun _ => False) w3).drewN _).then hU5 (fun _ e => .inl e)) (fun e => e)).cell 2;have H5 := Lib.hid (And.intro hm5 (And.intro hm5a (And.intro hm5b (((Upd.refl (fun _ => False) w3).drewN _).then hU5 (fun _ e => .inl e)))));clear hm5 hm5a hm5b hU5)
       | (go_at_call 36; refine (HDO.out _ _ _ H5.out.2.2.2 H5.out.1).mono ?_; rintro e w6 ⟨rfl, hD6⟩
          obtain ⟨mb6, hm6, hm6a, hU6⟩ := hD6.yes HD0.out;have H6 := Lib.hid (And.intro hm6 (And.intro hm6a hU6));clear hD6 hm6 hm6a hU6))
      obtain ⟨RA, rcap, hrv, -, -⟩ := K3.out.1.rows.shape;have hU36 : Upd (fun _ => False) w3 w6 := H5.out.2.2.2.then H6.out.2.2 (fun q e => .inr (by have e2 : q = m2 := e; have h1 := H5.out.2.1; have e3 : (w3.drewN nq).heap.size = w3.heap.size := rfl; omega));have h6 := K3.out.1.still hU36;have cv3 : w6.cell? ⟨v, 3, none⟩ = some (.slice RA V.rows.length rcap) := by rw [← hrv]; exact h6.blk.cell 3
      have hq6 : c < w6.heap.size ∧ m2 < w6.heap.size ∧ mb6 < w6.heap.size := ⟨(K3.out.2.1.upd hU36 (fun e => e)).lt, H6.out.1.lt.1, H6.out.1.lt.2⟩;have hqw : w.heap.size ≤ c ∧ w.heap.size ≤ m2 ∧ w.heap.size ≤ mb6 := by
       have h1 := HC.out;have h2 := H5.out.2.1;have h3 := H6.out.2.1;have h4 := K3.out.2.2.1.size;have h5 := H5.out.2.2.2.size;have e3 : (w3.drewN nq).heap.size = w3.heap.size := rfl;omega
      have H6A := Lib.hid (And.intro h6 (And.intro hU36 (And.intro (K3.out.2.1.upd hU36 (fun e => e)) (And.intro hq6 hqw))));have hov6 : TRow w6 ty 3 ov (b.ops.map opRow) := (HV.out.1.still K3.out.2.2.1).still hU36;have HOV6 := Lib.hid hov6;clear hrv hU36 h6 hq6 hqw hov6;by_cases h24 : 24 ≤ V.rows.length
      ·have h24' : (24 : Int) ≤ (V.rows.length : Int) := by omega
       obtain ⟨D5, hD5⟩ : ∃ D, metaRow V.st.m o.mv = D := ⟨_, rfl⟩;have hD52 : ((vtRow V p o).toList.drop 9).take 5 = D5.toList := by rw [← hD5]; rfl
       have hD53 : D5.size = 5 := by rw [← hD5]; rfl
       have HD5 := Lib.hid (And.intro hD5 (And.intro hD52 hD53));have HH24 := Lib.hid h24;clear h24 hD5 hD52 hD53;go_upto_region 14 with fail
       have h6d := H6A.out.1.still (Upd.refl (fun _ => False) w6).drew;have hwst : StOk (V.st.whole V.st.m V.at_ V.epoch) := by
        have hst := H.out.2.1;refine ⟨hst.right, H.out.2.2.2.2.2.2.2.2.2, ?_, ?_, hst.key, hst.boot, hst.mn⟩
        ·show 1 + V.st.slot % 2 ≤ 2; omega
        ·show V.st.log + 1 ≤ 1000000
         have := H.out.2.2.2.2.2.2.1;omega
       have hwh := whole_c h6d V.st.m h6d.mts V.S h6d.map h6d.mbF h6d.mbk V.at_ V.epoch hwst H.out.2.2.1 (by have := H.out.2.2.2.1; omega) (by have := H.out.2.2.2.2.1; omega) H.out.2.2.2.2.2.1 H.out.2.2.2.2.2.2.1 H.out.2.1.slot;have hwok := fun e => wholeV_ok (d := d) (V := V) (m := V.st.m) (x := V.S) (at_ := V.at_) (ep := V.epoch) H.out.2.2.2.2.2.2.1 e
       rw [HD5.out.1] at hwh;obtain ⟨Y, hY⟩ : ∃ Y, wholeV d V V.st.m V.S V.at_ V.epoch = Y := ⟨_, rfl⟩;rw [hY] at hwh hwok HS;obtain ⟨E1, hE1⟩ : ∃ E, Y.2.2 = E := ⟨_, rfl⟩;rw [hE1] at hwh hwok HS;have HWH := Lib.hid (And.intro hwh (And.intro hwok hE1));clear hwh hwok hE1 hY hwst h6d;refine wp_region_noPanic ?_;refine wp_region_T (S := fun w' => Blk w' v 117 (vtRow V p o)) (T := fun i => i == 21 || i == 22) (by kernel_rfl) ?_;have hS0 : Blk w6.drew v 117 (vtRow V p o) := H6A.out.1.blk.drew;refine tk8 0 ?_;simp only [tkS];refine tk8 1 ?_;simp only [tkS];refine tk8 2 ?_;simp only [tkS];refine tk8 3 ?_;simp only [tkS];refine tk8 4 ?_;simp only [tkS];refine wpAnyT_take8 (i := 5) (v := .agg D5) rfl (by kernel_rfl) (by kernel_rfl) (by kernel_rfl) (by kernel_rfl) (fun _ _ _ h => h) (takes_load_part rfl (by rfl) _ _ rfl v 9 (by rfl) _ _ D5.toList _ (fun w' hSw => hSw) (part_get HD5.out.2.1) Tryz.underlying50 rfl (by rw [Array.length_toList, HD5.out.2.2]; kernel_rfl)) (by assumption) (by kernel_rfl) ?_
       simp only [tkS];refine tk8 6 ?_;simp only [tkS];refine tk8 7 ?_;simp only [tkS];refine tk8 8 ?_;simp only [tkS];refine tk8 9 ?_;simp only [tkS];refine tk8 10 ?_ rfl (by intro w' hSw; have ck : w'.cell? ⟨v, 0, none⟩ = some (.pointer (some ⟨o.m, 0, none⟩)) := hSw.cell 0; go_split_ands; first | (go_simp; done) | (go_simp; rfl) | rfl)
       simp only [tkS];refine tk8 11 ?_;simp only [tkS];refine tk8 12 ?_;simp only [tkS];refine tk8 13 ?_;simp only [tkS];refine tk8 14 ?_;simp only [tkS];refine tk8 15 ?_ rfl (by intro w' hSw; have ck : w'.cell? ⟨v, 1, none⟩ = some (.int .i64 V.at_) := hSw.cell 1; go_split_ands; first | (go_simp; done) | (go_simp; rfl) | rfl)
       simp only [tkS];refine tk8 16 ?_;simp only [tkS];refine tk8 17 ?_;simp only [tkS];refine tk8 18 ?_;simp only [tkS];refine tk8 19 ?_;simp only [tkS];refine tk8 20 ?_ rfl (by intro w' hSw; have ck : w'.cell? ⟨v, 2, none⟩ = some (.int .i64 V.epoch) := hSw.cell 2; go_split_ands; first | (go_simp; done) | (go_simp; rfl) | rfl)
       simp only [tkS];refine wpAnyT_oneT (i := 21) (by kernel_rfl) rfl (by kernel_rfl) (fun KK hKK => ?_);go_simp
       refine HWH.out.1.mono ?_;rintro e w7 ⟨rfl, o7, h7, k7⟩;refine hKK.out _ _ ?_;clear hKK;have H7 := Lib.hid (And.intro h7 k7);clear h7 k7;refine wpAnyT_oneT (i := 22) (by kernel_rfl) rfl (by kernel_rfl) (fun KK hKK => ?_);go_simp
       refine hKK.out _ _ ?_;clear hKK;refine wpAnyT_done (by kernel_rfl) ?_ _;refine NoPanic.normal ?_;clear hS0;by_cases hz : E1 = 0
       ·subst hz
        have hok := HWH.out.2.1 rfl;have hqo : ∀ q, w.heap.size ≤ q → ¬ o.mut v q := fun q h1 e => by obtain ⟨i, hi, he⟩ := VtO.mut_cl (o := o) e; have := H.out.1.lt hi he; omega
        have HT := Lib.hid (show VtAt w7 p v Y.1 Y.2.1 o7 ∧ VtStep w w7 v o o7 ∧ ∀ q, w.heap.size ≤ q → q < w6.heap.size → ¬ o7.mut v q from ⟨H7.out.1, ((K3.out.2.2.2.still H6A.out.2.1).still (Upd.refl (fun _ => False) w6).drew).trans H7.out.2, fun q h1 h2 e => (H7.out.2.sub q e).elim (hqo q h1) (fun e => by have e3 : w6.drew.heap.size = w6.heap.size := rfl; omega)⟩);have HFIN := Lib.hid (show commitV d V b = addV Y.1 Y.2.1 b by rw [HS.out, if_neg (by simp), if_neg (by rw [HE.out]; simp), if_neg (by have h1 := HI.out; have h2 := HE2.out; omega), if_neg (by rw [HD0.out]; simp), if_pos HH24.out, if_neg (by simp), addV_same hok.S])
        have HN := Lib.hid (show Y.2.1.cur ≤ 1048576 ∧ Y.2.1.st.boot < 4294967296 ∧ Y.2.1.n < 4611686018427387904 ∧ LgFit Y.2.1.lg ∧ Y.1.pend + 40 < 1000000 ∧ Y.2.1.rows.length ≤ 1000 ∧ Y.2.1.S = V.S from ⟨by rw [hok.cur]; exact H.out.2.2.1.cur, by rw [hok.st]; show V.st.boot < _; have := H.out.2.1.boot; omega, by rw [hok.n]; have := H.out.2.2.2.1; omega, hok.lg, by rw [hok.pend]; omega, by rw [hok.rows]; simp, hok.S⟩)
        have HWZ := Lib.hid (show w6.heap.size ≤ w7.heap.size from H7.out.2.upd.size);have HCB := Lib.hid (And.intro (H6A.out.2.2.1.drew.upd H7.out.2.upd (hqo c H6A.out.2.2.2.2.1)) H6A.out.2.2.2.2.1);have HMP := Lib.hid (And.intro ((H6.out.1.still (Upd.refl (fun _ => False) w6).drew).upd H7.out.2.upd (hqo m2 H6A.out.2.2.2.2.2.1) (hqo mb6 H6A.out.2.2.2.2.2.2)) (And.intro (Nat.le_refl 0) (And.intro H6A.out.2.2.2.2.2.1 H6A.out.2.2.2.2.2.2)));clear hok hqo;have hX0 : ∃ X, (Y.2.1).wrap sLog (batT b) = X := ⟨_, rfl⟩;obtain ⟨X, hX⟩ := hX0;have hbl := batT_len HE.out HV.out.2.2.2.2.2.2.2.1;have hXl : (str X).size = X.length := str_size X;have hX2 : sealB (ringK (str masterL).data.toList (Y.2.1).cur) (Y.2.1).cur (Y.2.1).st.boot (Y.2.1).n (str sLog).data.toList (str (batT b)).data.toList = X := by rw [← hX, str_list, str_list, str_list]; rfl
        have hwr := rwrap_c HT.out.1.ring (by rw [str_size]; decide) HN.out.1 HN.out.2.1 HN.out.2.2.1 (str sLog) (str (batT b)) (by decide) (by rw [str_size]; omega);rw [hX2] at hwr;have HWR := Lib.hid hwr;have c8 : (w7).cell? ⟨v, 8, none⟩ = some (.pointer (some ⟨(o7).rb, 0, none⟩)) := HT.out.1.blk.cell 8;obtain ⟨R, hR⟩ : ∃ R, addG Y.1 (Y.2.1).lg (str X) = R := ⟨_, rfl⟩;obtain ⟨E, hEE⟩ : ∃ E, R.2.2 = E := ⟨_, rfl⟩;have HRE := Lib.hid (And.intro hR (And.intro hEE hX));clear hX hbl hXl hX2 hwr hR hEE;go_upto_region 20 with (first
         | (go_at_call 57; refine HWR.out.mono ?_; rintro e wa ⟨rfl, es, hRg⟩
            have ha := HT.out.1.ring_ hRg;have c7 : wa.cell? ⟨v, 7, none⟩ = some (.pointer (some ⟨(o7).lb, 0, none⟩)) := ha.1.blk.cell 7;have hadd := Add_any ha.1.disk ha.1.log ha.1.recs ha.1.sep (str X) HN.out.2.2.2.1 HN.out.2.2.2.2.1;have HA := Lib.hid (And.intro ha.1 (And.intro ha.2 hadd));clear ha hadd hRg))
        by_cases h0 : E = 0
        ·have HE0 := Lib.hid h0
         go_upto_region 23 with (first
          | (go_at_call 58; refine HA.out.2.2.mono ?_; rintro e wb ⟨rfl, hAL⟩
             obtain ⟨F', lv', hb, kb⟩ := HA.out.1.log_ hAL;rw [show (addG Y.1 (Y.2.1).lg (str X)).2.2 = 0 by rw [HRE.out.1, HRE.out.2.1]; exact HE0.out];have HBB := Lib.hid hb.blk;have HB := Lib.hid (And.intro hb kb);clear hb kb hAL))
         have hkk := HA.out.2.1.trans HB.out.2;have hno : ∀ q, w.heap.size ≤ q → q < w6.heap.size → ¬ VtO.mut { (o7) with ents := es, F := F', lv := lv' } v q := fun q h1 h2 e => (hkk.sub q e).elim (HT.out.2.2 q h1 h2) (fun e => by have := HWZ.out; omega)
         have HNO := Lib.hid (And.intro hno hkk);clear hno hkk;go_upto_region 24 with (first
          | (refine wpList_store_one rfl _ _ _ rfl v 0 (.pointer (some ⟨m2, 0, none⟩)) rfl rfl _ _ HBB.out (by simp [vtRow]) rfl (by kernel_rfl) ?_
             intro wc hBc hUc hzc))
         have hkk := HNO.out.2;have hno := HNO.out.1;have hUW : Upd ((o7).mut v) (w7) wc := hkk.upd.then hUc (fun q e => .inl (.inl e));have hmap := HMP.out.1.upd hUW (HT.out.2.2 _ HMP.out.2.2.1 H6A.out.2.2.2.1.2.1) (HT.out.2.2 _ HMP.out.2.2.2 H6A.out.2.2.2.1.2.2);have hnb := hno mb6 HMP.out.2.2.2 H6A.out.2.2.2.1.2.2;have hvc := HB.out.1.map_ (X := doL V.S b.ops) (m2 := m2) (mb2 := mb6) hUc hBc hmap (fun e => hnb (.inr (.inl e))) (fun e => hnb (.inr (.inr (.inr (.inr (.inr (.inl (.inr (.inl e)))))))));have hovc : TRow wc ty 3 ov (b.ops.map opRow) := HOFAR.out wc (HT.out.2.1.upd.then hUW HT.out.2.1.sub);have hcbc := HCB.out.1.upd hUW (HT.out.2.2 _ HCB.out.2 H6A.out.2.2.2.1.1);have hdo := does_c hvc.1 b hovc (by have := HB0.out.2.2.2.1; omega) HN.out.2.2.2.2.2.1;have HDOES := Lib.hid hdo;have HCBC := Lib.hid hcbc;have HVC := Lib.hid (((HT.out.2.1.trans HA.out.2.1).trans HB.out.2).trans hvc.2);clear hkk hno hUW hmap hnb hvc hovc hcbc hdo hBc hUc hzc;go_wp2_with (first
          | (refine wpList_load_all rfl _ _ rfl c rfl _ _ _ HCBC.out Tryz.underlying35 rfl (by kernel_rfl) ?_)
          | (go_at_call 60; refine HDOES.out.mono ?_; rintro e w9 ⟨rfl, o9, h9, k9⟩; have H9 := Lib.hid (And.intro h9 k9); clear h9 k9))
         go_ret
         have hav : addV Y.1 (Y.2.1) b = (R.1, ({ (Y.2.1).next with lg := R.2.1 } : VtM).does b, 0) := by
          unfold addV;simp only
          rw [HRE.out.2.2, HRE.out.1, HRE.out.2.1, if_neg (by rw [HE0.out]; simp)]
         have h9 := H9.out.1;rw [HRE.out.1] at h9;have hds : ({ (Y.2.1).next with lg := R.2.1 } : VtM).does b = { (Y.2.1).next with lg := R.2.1, S := doL V.S b.ops, rows := (Y.2.1).rows ++ [b], at_ := b.index, epoch := b.epoch } := by
          unfold VtM.does VtM.next;first
           | (simp only; done)
           | (simp only; rw [HN.out.2.2.2.2.2.2])
         rw [HFIN.out, hav, hds];exact ⟨rfl, _, h9, HVC.out.trans H9.out.2⟩
        ·have hE0 : (E != 0) = true := by simpa using h0
         have H0 := Lib.hid h0;clear h0;go_wp2_with (first
          | (go_at_call 58; refine HA.out.2.2.mono ?_; rintro e wb ⟨rfl, hAL⟩
             obtain ⟨F', lv', hb, kb⟩ := HA.out.1.log_ hAL;rw [show (addG Y.1 (Y.2.1).lg (str X)).2.2 = E by rw [HRE.out.1, HRE.out.2.1]];have HTD := Lib.hid (told_c hb E);have HB := Lib.hid kb;clear hb kb hAL)
          | (go_at_call 59; refine HTD.out.mono ?_; rintro e w9 ⟨rfl, h9, k9⟩; have H9 := Lib.hid (And.intro h9 k9); clear h9 k9))
         go_ret
         have hav : addV Y.1 (Y.2.1) b = (R.1, ({ (Y.2.1).next with lg := R.2.1 } : VtM).told E, E) := by
          unfold addV;simp only
          rw [HRE.out.2.2, HRE.out.1, HRE.out.2.1, if_pos H0.out]
         have h9 := H9.out.1;rw [HRE.out.1] at h9;rw [HFIN.out, hav];exact ⟨rfl, _, h9, ((HT.out.2.1.trans HA.out.2.1).trans HB.out).trans H9.out.2⟩
       ·have hE0 : (E1 != 0) = true := by simpa using hz
        have H0 := Lib.hid hz;clear hz;go_wp2_with fail
        go_ret
        rw [HS.out, if_neg (by simp), if_neg (by rw [HE.out]; simp), if_neg (by have h1 := HI.out; have h2 := HE2.out; omega), if_neg (by rw [HD0.out]; simp), if_pos HH24.out, if_pos H0.out, HWH.out.2.2]
        exact ⟨rfl, o7, H7.out.1, ((K3.out.2.2.2.still H6A.out.2.1).still (Upd.refl (fun _ => False) w6).drew).trans H7.out.2⟩
      ·have h24' : ¬ (24 : Int) ≤ (V.rows.length : Int) := by omega
       have HT := Lib.hid (show VtAt w6 p v d V o ∧ VtStep w w6 v o o ∧ ∀ q, w.heap.size ≤ q → q < w6.heap.size → ¬ o.mut v q from ⟨H6A.out.1, K3.out.2.2.2.still H6A.out.2.1, fun q h1 h2 e => by obtain ⟨i, hi, he⟩ := VtO.mut_cl (o := o) e; have := H.out.1.lt hi he; omega⟩);have HFIN := Lib.hid (show commitV d V b = addV d V b by rw [HS.out, if_neg (by simp), if_neg (by rw [HE.out]; simp), if_neg (by have h1 := HI.out; have h2 := HE2.out; omega), if_neg (by rw [HD0.out]; simp), if_neg h24])
       have HWZ := Lib.hid (Nat.le_refl w6.heap.size);have HCB := Lib.hid (And.intro H6A.out.2.2.1 H6A.out.2.2.2.2.1);have HMP := Lib.hid (And.intro H6.out.1 (And.intro (Nat.le_refl 0) (And.intro H6A.out.2.2.2.2.2.1 H6A.out.2.2.2.2.2.2)));have HN := Lib.hid (show V.cur ≤ 1048576 ∧ V.st.boot < 4294967296 ∧ V.n < 4611686018427387904 ∧ LgFit V.lg ∧ d.pend + 40 < 1000000 ∧ V.rows.length ≤ 1000 ∧ V.S = V.S from ⟨H.out.2.2.1.cur, by have := H.out.2.1.boot; omega, H.out.2.2.1.n, H.out.2.2.2.2.2.2.2.1, by have := H.out.2.2.2.2.1; omega, by have := H.out.2.2.2.2.2.2.2.2.1; omega, rfl⟩);clear h24;have hX0 : ∃ X, (V).wrap sLog (batT b) = X := ⟨_, rfl⟩;obtain ⟨X, hX⟩ := hX0;have hbl := batT_len HE.out HV.out.2.2.2.2.2.2.2.1;have hXl : (str X).size = X.length := str_size X;have hX2 : sealB (ringK (str masterL).data.toList (V).cur) (V).cur (V).st.boot (V).n (str sLog).data.toList (str (batT b)).data.toList = X := by rw [← hX, str_list, str_list, str_list]; rfl
       have hwr := rwrap_c HT.out.1.ring (by rw [str_size]; decide) HN.out.1 HN.out.2.1 HN.out.2.2.1 (str sLog) (str (batT b)) (by decide) (by rw [str_size]; omega);rw [hX2] at hwr;have HWR := Lib.hid hwr;have c8 : (w6).cell? ⟨v, 8, none⟩ = some (.pointer (some ⟨(o).rb, 0, none⟩)) := HT.out.1.blk.cell 8;obtain ⟨R, hR⟩ : ∃ R, addG d (V).lg (str X) = R := ⟨_, rfl⟩;obtain ⟨E, hEE⟩ : ∃ E, R.2.2 = E := ⟨_, rfl⟩;have HRE := Lib.hid (And.intro hR (And.intro hEE hX));clear hX hbl hXl hX2 hwr hR hEE;go_upto_region 20 with (first
        | (go_at_call 57; refine HWR.out.mono ?_; rintro e wa ⟨rfl, es, hRg⟩
           have ha := HT.out.1.ring_ hRg;have c7 : wa.cell? ⟨v, 7, none⟩ = some (.pointer (some ⟨(o).lb, 0, none⟩)) := ha.1.blk.cell 7;have hadd := Add_any ha.1.disk ha.1.log ha.1.recs ha.1.sep (str X) HN.out.2.2.2.1 HN.out.2.2.2.2.1;have HA := Lib.hid (And.intro ha.1 (And.intro ha.2 hadd));clear ha hadd hRg))
       by_cases h0 : E = 0
       ·have HE0 := Lib.hid h0
        go_upto_region 23 with (first
         | (go_at_call 58; refine HA.out.2.2.mono ?_; rintro e wb ⟨rfl, hAL⟩
            obtain ⟨F', lv', hb, kb⟩ := HA.out.1.log_ hAL;rw [show (addG d (V).lg (str X)).2.2 = 0 by rw [HRE.out.1, HRE.out.2.1]; exact HE0.out];have HBB := Lib.hid hb.blk;have HB := Lib.hid (And.intro hb kb);clear hb kb hAL))
        have hkk := HA.out.2.1.trans HB.out.2;have hno : ∀ q, w.heap.size ≤ q → q < w6.heap.size → ¬ VtO.mut { (o) with ents := es, F := F', lv := lv' } v q := fun q h1 h2 e => (hkk.sub q e).elim (HT.out.2.2 q h1 h2) (fun e => by have := HWZ.out; omega)
        have HNO := Lib.hid (And.intro hno hkk);clear hno hkk;go_upto_region 24 with (first
         | (refine wpList_store_one rfl _ _ _ rfl v 0 (.pointer (some ⟨m2, 0, none⟩)) rfl rfl _ _ HBB.out (by simp [vtRow]) rfl (by kernel_rfl) ?_
            intro wc hBc hUc hzc))
        have hkk := HNO.out.2;have hno := HNO.out.1;have hUW : Upd ((o).mut v) (w6) wc := hkk.upd.then hUc (fun q e => .inl (.inl e));have hmap := HMP.out.1.upd hUW (HT.out.2.2 _ HMP.out.2.2.1 H6A.out.2.2.2.1.2.1) (HT.out.2.2 _ HMP.out.2.2.2 H6A.out.2.2.2.1.2.2);have hnb := hno mb6 HMP.out.2.2.2 H6A.out.2.2.2.1.2.2;have hvc := HB.out.1.map_ (X := doL V.S b.ops) (m2 := m2) (mb2 := mb6) hUc hBc hmap (fun e => hnb (.inr (.inl e))) (fun e => hnb (.inr (.inr (.inr (.inr (.inr (.inl (.inr (.inl e)))))))));have hovc : TRow wc ty 3 ov (b.ops.map opRow) := HOFAR.out wc (HT.out.2.1.upd.then hUW HT.out.2.1.sub);have hcbc := HCB.out.1.upd hUW (HT.out.2.2 _ HCB.out.2 H6A.out.2.2.2.1.1);have hdo := does_c hvc.1 b hovc (by have := HB0.out.2.2.2.1; omega) HN.out.2.2.2.2.2.1;have HDOES := Lib.hid hdo;have HCBC := Lib.hid hcbc;have HVC := Lib.hid (((HT.out.2.1.trans HA.out.2.1).trans HB.out.2).trans hvc.2);clear hkk hno hUW hmap hnb hvc hovc hcbc hdo hBc hUc hzc;go_wp2_with (first
         | (refine wpList_load_all rfl _ _ rfl c rfl _ _ _ HCBC.out Tryz.underlying35 rfl (by kernel_rfl) ?_)
         | (go_at_call 60; refine HDOES.out.mono ?_; rintro e w9 ⟨rfl, o9, h9, k9⟩; have H9 := Lib.hid (And.intro h9 k9); clear h9 k9))
        go_ret
        have hav : addV d (V) b = (R.1, ({ (V).next with lg := R.2.1 } : VtM).does b, 0) := by
         unfold addV;simp only
         rw [HRE.out.2.2, HRE.out.1, HRE.out.2.1, if_neg (by rw [HE0.out]; simp)]
        have h9 := H9.out.1;rw [HRE.out.1] at h9;have hds : ({ (V).next with lg := R.2.1 } : VtM).does b = { (V).next with lg := R.2.1, S := doL V.S b.ops, rows := (V).rows ++ [b], at_ := b.index, epoch := b.epoch } := by
         unfold VtM.does VtM.next;first
          | (simp only; done)
          | (simp only; rw [HN.out.2.2.2.2.2.2])
        rw [HFIN.out, hav, hds];exact ⟨rfl, _, h9, HVC.out.trans H9.out.2⟩
       ·have hE0 : (E != 0) = true := by simpa using h0
        have H0 := Lib.hid h0;clear h0;go_wp2_with (first
         | (go_at_call 58; refine HA.out.2.2.mono ?_; rintro e wb ⟨rfl, hAL⟩
            obtain ⟨F', lv', hb, kb⟩ := HA.out.1.log_ hAL;rw [show (addG d (V).lg (str X)).2.2 = E by rw [HRE.out.1, HRE.out.2.1]];have HTD := Lib.hid (told_c hb E);have HB := Lib.hid kb;clear hb kb hAL)
         | (go_at_call 59; refine HTD.out.mono ?_; rintro e w9 ⟨rfl, h9, k9⟩; have H9 := Lib.hid (And.intro h9 k9); clear h9 k9))
        go_ret
        have hav : addV d (V) b = (R.1, ({ (V).next with lg := R.2.1 } : VtM).told E, E) := by
         unfold addV;simp only
         rw [HRE.out.2.2, HRE.out.1, HRE.out.2.1, if_pos H0.out]
        have h9 := H9.out.1;rw [HRE.out.1] at h9;rw [HFIN.out, hav];exact ⟨rfl, _, h9, ((HT.out.2.1.trans HA.out.2.1).trans HB.out).trans H9.out.2⟩
     ·have HD0 := Lib.hid hD
      obtain ⟨E, hEE⟩ : ∃ E, doE V.S b.ops = E := ⟨_, rfl⟩;have HEE := Lib.hid hEE;rw [hEE] at hD HS HDO;have hE0 : (E != 0) = true := by simpa using hD
      have HD1 := Lib.hid hD;clear hD hrows hEE;go_quiet (fail)
      go_wp2_with (first
       | (go_at_call 55; refine (HTW.out _).mono ?_; rintro e w5 ⟨m2, mb2, rfl, hm5, hm5a, hm5b, hU5⟩
          have cb25 : w5.cell? ⟨c, 2, none⟩ = some ov := (K3.out.2.1.upd (((Upd.refl (fun _ => False) w3).drewN _).then hU5 (fun _ e => .inl e)) (fun e => e)).cell 2;have H5 := Lib.hid (And.intro hm5 (((Upd.refl (fun _ => False) w3).drewN _).then hU5 (fun _ e => .inl e)));clear hm5 hm5a hm5b hU5)
       | (go_at_call 36; refine (HDO.out _ _ _ H5.out.2 H5.out.1).mono ?_; rintro e w6 ⟨rfl, hD6⟩
          have H6 := Lib.hid (hD6.no HD0.out);clear hD6))
      go_ret
      rw [HS.out, if_neg (by simp), if_neg (by rw [HE.out]; simp), if_neg (by have h1 := HI.out; have h2 := HE2.out; omega), if_pos HD1.out];exact ⟨rfl, o, (K3.out.1.still H5.out.2).still H6.out, (K3.out.2.2.2.still H5.out.2).still H6.out⟩
   ·have hi0 : (b.index != V.at_ + 1) = true := by simpa using hi
    have HI := Lib.hid hi;clear hi;go_quiet (fail)
    go_wp2_with fail
    go_ret
    rw [HS.out, if_neg (by simp), if_neg (by rw [HE.out]; simp), if_pos (.inl HI.out)]
    exact ⟨rfl, o, K3.out.1.still ((Upd.refl _ _).drewN _), K3.out.2.2.2.still ((Upd.refl _ _).drewN _)⟩
  ·have H0 := Lib.hid hE
   have hby := bbytes_bad (w := w1) (A := A) (cap := cap) (b := ob) (off := oo) (l := b.ops) (i := b.index) (ep := b.epoch) HV.out.2.2.2.2.1 (fun w' hu => HV.out.2.2.2.2.2.1 w' (fun _ => False) (H1.out.2.1.then hu (fun _ e => .inl e)) (fun _ _ e => e)) HV.out.2.2.2.2.2.2.1 HV.out.2.2.2.1 hE;rw [← HV.out.2.1] at hby;obtain ⟨E, hEE⟩ : ∃ E, batErr b.index b.epoch b.ops = E := ⟨_, rfl⟩;rw [hEE] at hby HS H0 hE;have hE0 : (E != 0) = true := by simpa using hE
   have HBY := Lib.hid hby;clear hby hEE hE;go_wp2_with (first
    | (go_at_call 53; refine HO.out.mono ?_; rintro e w2 ⟨rfl, -, -, hw2⟩; subst hw2)
    | (refine wpList_load_all rfl _ _ rfl c rfl _ _ _ H1.out.1 Tryz.underlying35 rfl (by kernel_rfl) ?_)
    | (go_at_call 54; refine HBY.out.mono ?_; rintro e w3 ⟨rfl, hU3⟩; have H3 := Lib.hid hU3; clear hU3))
   go_ret
   rw [HS.out, if_neg (by simp), if_pos H0.out];exact ⟨rfl, o, H1.out.2.2.still H3.out, HT1.out.still H3.out⟩
 ·rw [hoff] at HS HO
  simp only [if_true] at HO;go_wp2_with (first
   | (go_at_call 53; refine HO.out.mono ?_; rintro e w2 ⟨rfl, h2, k2, -⟩; have H2 := Lib.hid (And.intro h2 k2); clear h2 k2))
  go_ret
  rw [HS.out];exact ⟨rfl, o, H2.out.1, HT1.out.trans H2.out.2⟩
end
end
section
open Go Go.RowKit
section
variable {w w' : World} {p v : Nat} {d d' : Dk} {V V' : VtM} {o o' : VtO}
theorem vboot_c (h : VtAt w p v d V o) (hb : V.st.boot < 4294967296) : Calls Tryz.prog 13 #[.pointer (some ⟨v, 0, none⟩)] w fun e w' => e = .returned (.int .i64 (V.st.boot : Int)) ∧ w = w' := by
 have hc : w.cell? ⟨v, 19, none⟩ = some (.int .u32 (V.st.boot : Int)) := h.blk.cell 19;have hw : IntKind.i64.wrap (V.st.boot : Int) = (V.st.boot : Int) := IntWalk.i64_in _ (by omega);clear h;go_enter Tryz.func13, Tryz.ntmps13
 go_wp2_with fail
 go_ret
 exact ⟨by first | rfl | (rw [hw]; rfl), rfl⟩
end
end
section
open Go Go.RowKit
theorem batCells_one {a b : Int} {ov : Value} (h : ov.oneCell' = true) : (#[Value.int .i64 a, .int .i64 b, ov] : Array Value).all (·.oneCell') = true := by
 simp only [List.all_toArray, List.all_cons, List.all_nil, h, Bool.and_true];rfl
section
variable {w w' : World} {p v : Nat} {d d' : Dk} {V V' : VtM} {o o' : VtO}
end
end
section
open Go Go.RowKit
def preRow (V : VtM) (p kb m : Nat) (mv rg : Value) : Array Value :=
 #[.pointer (some ⟨m, 0, none⟩), .int .i64 V.at_, .int .i64 V.epoch, .slice none 0 0, .int .i64 V.prev, .pointer (some ⟨p, 0, none⟩), .pointer (some ⟨kb, 0, none⟩), .pointer none, rg,
  .int .i64 V.st.m.role, .int .i64 V.st.m.seen, .int .i64 V.st.m.grant, mv, .string (str V.st.m.secret), .int .i64 V.st.at_, .int .i64 V.st.epoch, .int .i64 (V.st.slot : Int), .int .u64 (V.st.log : Int), .int .i64 (V.st.key : Int), .int .u32 (V.st.boot : Int), .bool V.down]
structure VtPre (w : World) (p v : Nat) (d : Dk) (V : VtM) (F : List Nat) (kb m mb : Nat) (mv rg : Value) : Prop where
 disk : DiskAt w p d F
 blk : Blk w v 117 (preRow V p kb m mv rg)
 kept : Blk w kb 209 (V.kp.cells p)
 map : MapAt w m mb V.S
 mbF : mb ∉ F
 mts : TRow w 46 2 mv (V.st.m.mounts.map mtRow)
section
variable {w w' : World} {p v : Nat} {d d' : Dk} {V V' : VtM} {F : List Nat} {kb m mb m' mb' : Nat} {mv rg mv' rg' : Value}
theorem VtPre.vF (h : VtPre w p v d V F kb m mb mv rg) : v ∉ F := fun e => by
 rcases h.disk.kind e with e | e | e
 ·exact absurd (h.blk.ty.inj e) (by decide)
 ·exact absurd (h.blk.ty.inj e) (by decide)
 ·exact h.blk.ty.no_map e
theorem VtPre.still (h : VtPre w p v d V F kb m mb mv rg) (hu : Upd (fun _ => False) w w') : VtPre w' p v d V F kb m mb mv rg :=
 ⟨h.disk.upd hu (fun _ _ e => e), h.blk.upd hu (fun e => e), h.kept.upd hu (fun e => e), h.map.still hu, h.mbF, h.mts.still hu⟩
theorem VtPre.mv_ne (h : VtPre w p v d V F kb m mb mv rg) : m ≠ v ∧ mb ≠ v ∧ kb ≠ v := by
 refine ⟨fun e => ?_, fun e => ?_, fun e => ?_⟩
 ·subst e; exact absurd (h.blk.ty.inj h.map.blk.ty) (by decide)
 ·subst e; exact h.blk.ty.no_map h.map.mp
 ·subst e; exact absurd (h.blk.ty.inj h.kept.ty) (by decide)
theorem VtPre.cells_ (h : VtPre w p v d V F kb m mb mv rg) (hu : Upd (· = v) w w') (hB : Blk w' v 117 (preRow V' p kb m' mv' rg')) (hk : V'.kp = V.kp) (hm : MapAt w' m' mb' V'.S) (hmF : mb' ∉ F) (hmts : TRow w' 46 2 mv' (V'.st.m.mounts.map mtRow)) :
 VtPre w' p v d V' F kb m' mb' mv' rg' :=
 ⟨h.disk.upd hu (fun q hq e => h.vF ((show q = v from e) ▸ hq)), hB, by rw [hk]; exact h.kept.upd hu (fun e => h.mv_ne.2.2 e), hm, hmF, hmts⟩
theorem VtPre.nums_ (h : VtPre w p v d V F kb m mb mv rg) (hu : Upd (· = v) w w') (hB : Blk w' v 117 (preRow V' p kb m mv rg')) (hk : V'.kp = V.kp) (hS : V'.S = V.S) (hms : V'.st.m.mounts = V.st.m.mounts) : VtPre w' p v d V' F kb m mb mv rg' :=
 h.cells_ hu hB hk (by rw [hS]; exact h.map.upd hu (fun e => h.mv_ne.1 e) (fun e => h.mv_ne.2.1 e)) h.mbF (by
  rw [hms];exact h.mts.upd hu (fun q ht e => by
   have e2 : q = v := e;subst e2;exact absurd (h.blk.ty.inj ht) (by decide)))
theorem VtPre.ring_ {rb rk : Nat} {ents : List (Int × Nat)} {master : ByteArray} {cur boot n : Nat} (h : VtPre w p v d V F kb m mb mv rg) (hR : RgE (ringOwn rb rk ents) w w rb master cur boot n rk ents) (hrF : rk ∉ F) (hmk : mb ≠ rk) (hu : Upd (ringOwn rb rk ents) w w') : VtPre w' p v d V F kb m mb mv rg := by
 refine ⟨h.disk.upd hu (fun q hq e => ?_), h.blk.upd hu (hR.own_not h.blk (by decide) (by decide)), h.kept.upd hu (hR.own_not h.kept (by decide) (by decide)), h.map.upd hu (hR.own_not h.map.blk (by decide) (by decide)) (fun e => ?_), h.mbF, h.mts.upd hu (fun q ht e => ?_)⟩
 ·rcases hR.kind e with f | f | f
  ·rcases h.disk.kind hq with g | g | g
   ·exact absurd (g.inj f) (by decide)
   ·exact absurd (g.inj f) (by decide)
   ·exact f.no_map g
  ·rcases h.disk.kind hq with g | g | g
   ·exact absurd (g.inj f) (by decide)
   ·exact absurd (g.inj f) (by decide)
   ·exact f.no_map g
  ·exact hrF (f ▸ hq)
 ·rcases hR.kind e with f | f | f
  ·exact f.no_map h.map.mp
  ·exact f.no_map h.map.mp
  ·exact hmk f
 ·rcases hR.kind e with f | f | f
  ·exact absurd (ht.inj f) (by decide)
  ·exact absurd (ht.inj f) (by decide)
  ·subst f; exact ht.no_map hR.map.mp
end
def preV (k : Kp) (s : StM) (S0 : List PairM) : VtM := ⟨S0, s.at_, s.epoch, [], s.epoch, s, false, k, lgv0, s.key, 0⟩
end
section
open Go Go.RowKit
structure Recalls (d : Dk) (k : Kp) (s : StM) (S0 : List PairM) : Prop where
 text : (k.gen = 0 ∧ s = stM0 ∧ S0 = []) ∨ (0 < k.gen ∧ ∃ t, Sealed s.key sSecret s.m.secret t ∧ k.text = stB s t)
 ok : StOk s
 boot : s.boot + 1 ≤ 1000000
 slot : (s.slot = 0 ∧ S0 = []) ∨ (1 ≤ s.slot ∧ ∃ t, Sealed s.key sMap (pairsB S0) t ∧ slotHas d s.slot t)
 pairs : PairsOk S0
structure Replays (s : StM) (S0 : List PairM) (g : Lg) (rows : List BatM) (S : List PairM) (at_ epoch : Int) : Prop where
 fit : LgFit g
 glen : g.l.length = rows.length
 recs : ∀ i (h : i < g.l.length) (h2 : i < rows.length), Sealed s.key sLog (batT rows[i]) (g.l[i]).data.toList
 many : rows.length ≤ 24
 rep : replL rows (S0, s.at_, s.epoch) = some (S, at_, epoch)
 eps : ∀ b ∈ rows, b.epoch ≤ 9223372036854775807
structure DkFit (d : Dk) : Prop where
 off : d.off = false
 len : d.lasts.length = 500
 pend : d.pend + 20 < 1000000
structure Opens (d : Dk) (V : VtM) (S0 : List PairM) : Prop where
 fit : DkFit d
 kept : openN d 0 2 = some V.kp
 kp : V.kp.seen < 18446744073709551616 ∧ V.kp.at_ ≤ 1 ∧ V.kp.from_ = 0
 recalls : Recalls d V.kp V.st S0
 sound : badS d 160 = false
 log : openG d 20 320 V.st.log = some V.lg
 log0 : 1 ≤ V.st.log
 replays : Replays V.st S0 V.lg V.rows V.S V.at_ V.epoch
 prev : V.prev = V.st.epoch
 cur : V.cur = V.st.key
theorem badS_false {d : Dk} : ∀ k, (∀ i, i < k → (lookL (d.now (340 + i)).data.toList).2 ≠ 2) → badS d k = false
 | 0, _ => rfl
 | k + 1, h => by rw [badS_succ, badS_false k (fun i hi => h i (by omega))]; simp [h k (by omega)]
theorem VDk.lgfit {d : Dk} {k : Kp} {g : Lg} {s : StM} {S0 : List PairM} {rows : List BatM} {c : Nat} (h : VDk d k g s S0 rows c) (hc : c < 100000) : LgFit g := by
 obtain ⟨rs, R, hl, -⟩ := h.log;have ho := hl.opens;exact openG_fit (by rw [h.gplace.1]; omega) (by rw [h.gplace.2.1]; omega) (by rw [h.gplace.2.2]; have := h.logs; omega) ho
theorem VDk.opens_ {d : Dk} {V : VtM} {S0 : List PairM} {c : Nat} (h : VDk d.free V.kp V.lg V.st S0 V.rows c) (hc : c < 99000) (ho : d.off = false)
 (h0 : V.kp.gen = 0 → S0 = []) (hrep : replL V.rows (S0, V.st.at_, V.st.epoch) = some (V.S, V.at_, V.epoch)) (hprev : V.prev = V.st.epoch) (hcur : V.cur = V.st.key) (heps : ∀ b ∈ V.rows, b.epoch ≤ 9223372036854775807) (hmn : V.st.m.seen ≤ 9223372036854775807 ∧ V.st.m.grant ≤ 9223372036854775807) : Opens d V S0 := by
 have h1 := h.keys; have h2 := h.boots; have h3 := h.logs; have h4 := h.kseen;have hg := h.good;obtain ⟨L0, L1, hk⟩ := h.kept;obtain ⟨rs, R, hl, -⟩ := h.log;obtain ⟨g1, g2, g3⟩ := h.gplace;have hkp := hk.opens;rw [h.kfrom] at hkp;have hlo := hl.opens;rw [g1, g2, g3] at hlo;refine ⟨⟨ho, hg.len, ?_⟩, hkp, ⟨by omega, hk.at_, h.kfrom⟩, ⟨?_, ⟨h.right, h.place, h.slots, by omega, by omega, by omega, hmn⟩, by omega, ?_, h.pairs⟩, badS_false 160 h.sound, hlo, by rw [← g3]; exact hl.epoch0, ⟨h.lgfit (by omega), h.glen, h.recs, h.many, hrep, heps⟩, hprev, hcur⟩
 ·have : d.pend = 0 := hg.pend
  omega
 ·rcases h.text with e | e
  ·exact .inl ⟨e.1, e.2, h0 e.1⟩
  ·exact .inr e
 ·rcases h.slot with e | e
  ·exact .inl ⟨e.1, e.2.1⟩
  ·exact .inr e
theorem VtG.opens_ {d : Dk} {V : VtM} {S0 : List PairM} {c : Nat} (h : VtG d.free V S0 c) (hc : c < 99000) (ho : d.off = false) : Opens d V S0 :=
 h.vdk.opens_ hc ho (fun e => absurd h.gen (by omega)) h.rep h.prev h.cur h.eps h.mn
theorem opens_first : Opens (Dk.fresh 500) V0 [] :=
 VDk.opens_ (d := Dk.fresh 500) VDk.fresh (by omega) rfl (fun _ => rfl) rfl rfl rfl (by decide) (by decide)
end
section
open Go Go.RowKit
section
variable {w w' : World} {p v : Nat} {d d' : Dk} {k : Kp} {s : StM} {S0 : List PairM} {F : List Nat} {kb m mb rb rk : Nat} {mv : Value} {ents : List (Int × Nat)}
theorem recallMap_c (h : VtPre w p v d (preV k s []) F kb m mb mv (.pointer (some ⟨rb, 0, none⟩))) (hR : RgE (ringOwn rb rk ents) w w rb (str masterL) s.key s.boot 0 rk ents) (hrF : rk ∉ F) (hmk : mb ≠ rk) (hf : DkFit d) (hk : s.key ≤ 1000000) (hs : 1 ≤ s.slot ∧ s.slot ≤ 2) (hp : PairsOk S0) (t : List UInt8) (ht : Sealed s.key sMap (pairsB S0) t) (hh : slotHas d s.slot t) :
 Calls Tryz.prog 124 #[.pointer (some ⟨v, 0, none⟩)] w fun e w' => e = .returned (.int .i64 0) ∧ ∃ m' mb' ents', VtPre w' p v d (preV k s S0) F kb m' mb' mv (.pointer (some ⟨rb, 0, none⟩)) ∧ RgE (ringOwn rb rk ents') w' w' rb (str masterL) s.key s.boot 0 rk ents' ∧ mb' ≠ rk ∧ w.heap.size ≤ m' ∧ w.heap.size ≤ mb' ∧
  (∀ q, ringOwn rb rk ents' q → ringOwn rb rk ents q ∨ w.heap.size ≤ q) ∧ Upd (fun q => q = v ∨ ringOwn rb rk ents q) w w' := by
 have hpl := pairsB_len hp;have htl := ht.len (by omega);have n2 : slotN t ≤ 80 := slotN_le (by omega);have n1 : 1 ≤ slotN t := by unfold slotN; omega
 obtain ⟨key, boot, n, k1, k2, k3, k4, k5⟩ := ht;have hrs := rslot_c h.disk.drew hf.off hf.len s.slot hs.1 hs.2 t hh n1 n2;have hro := fun (W : World) (hU : Upd (fun _ => False) w W) => ropen_c (hR.still hU) (by rw [str_size]; decide) (by omega) key boot n k1 k3 k4 (str sMap) (by decide) (pairsB S0) (by omega) (str t) (by rw [str_list, str_list, str_list]; exact k5)
 have htp := fun (W : World) => tpairs_c (w := W) S0 (fun x hx => ⟨okPath_len (hp.each x hx).1, (hp.each x hx).2⟩) hp.len (str (pairsB S0)) (str_list _)
 have HRS := Lib.hid hrs;have HRO := Lib.hid hro;have HTP := Lib.hid htp;have hof := ofP_same hp;have hlt := h.blk.lt;have H := Lib.hid (And.intro h (And.intro hR (And.intro hrF (And.intro hmk (And.intro hp (And.intro hof hlt))))));clear h hR hrF hmk hf hk hs hp hh hpl htl n1 n2 k1 k2 k3 k4 k5 hrs hro htp hof hlt;go_enter Tryz.func124, Tryz.ntmps124
 go_upto_region 1 with fail
 refine wp_region_noPanic ?_;refine wp_region_T (S := fun w' => w'.cell? ⟨v, 5, none⟩ = some (.pointer (some ⟨p, 0, none⟩)) ∧ w'.cell? ⟨v, 16, none⟩ = some (.int .i64 (s.slot : Int))) (T := fun _ => false) (by kernel_rfl) ?_;have hS0 : w.drew.cell? ⟨v, 5, none⟩ = some (.pointer (some ⟨p, 0, none⟩)) ∧ w.drew.cell? ⟨v, 16, none⟩ = some (.int .i64 (s.slot : Int)) := ⟨H.out.1.blk.drew.cell 5, H.out.1.blk.drew.cell 16⟩;refine tk8 0 ?_;simp only [tkS];refine tk8 1 ?_;simp only [tkS];refine tk8 2 ?_;simp only [tkS];refine tk8 3 ?_ rfl (by intro w' hSw; have ck := hSw.1; go_split_ands; first | (go_simp; done) | (go_simp; rfl) | rfl)
 simp only [tkS];refine tk8 4 ?_;simp only [tkS];refine tk8 5 ?_;simp only [tkS];refine tk8 6 ?_;simp only [tkS];refine tk8 7 ?_;simp only [tkS];refine tk8 8 ?_ rfl (by intro w' hSw; have ck := hSw.2; go_split_ands; first | (go_simp; done) | (go_simp; rfl) | rfl)
 simp only [tkS];refine wpAnyT_one (i := 9) (by kernel_rfl) rfl (fun KK hKK => ?_);go_simp
 refine HRS.out.mono ?_;rintro e w2 ⟨rfl, hU2⟩;have hU : Upd (fun _ => False) w w2 := (Upd.refl _ w).drew.then hU2 (fun _ e => .inl e);have hB2 := H.out.1.blk.upd hU (fun e => e);have hS2 : w2.cell? ⟨v, 5, none⟩ = some (.pointer (some ⟨p, 0, none⟩)) ∧ w2.cell? ⟨v, 16, none⟩ = some (.int .i64 (s.slot : Int)) := ⟨hB2.cell 5, hB2.cell 16⟩;refine hKK.out _ _ hS2 ?_;have H2 := Lib.hid hU;have c8 : w2.cell? ⟨v, 8, none⟩ = some (.pointer (some ⟨rb, 0, none⟩)) := hB2.cell 8;clear hKK hU2 hU hB2;refine tk8 10 ?_;simp only [tkS];refine tk8 11 ?_;simp only [tkS];refine tk8 12 ?_;simp only [tkS];refine tk8 13 ?_;simp only [tkS];refine tk8 14 ?_;simp only [tkS];refine wpAnyT_done (by kernel_rfl) ?_ _;refine NoPanic.normal ?_;clear hS0 hS2;go_upto_region 10 with (first
  | (go_at_call 123; refine (HRO.out _ H2.out).mono ?_; rintro e w3 ⟨rfl, ents', hR3⟩
     have H3 := Lib.hid (And.intro hR3 (H.out.1.ring_ H.out.2.1 H.out.2.2.1 H.out.2.2.2.1 hR3.upd));clear hR3)
  | (go_at_call 183; refine (HTP.out _).mono ?_; rintro e w4 ⟨pv, rfl, hO4, hn4, hU4⟩
     have H4 := Lib.hid (And.intro hO4 (And.intro hn4 hU4));clear hO4 hn4 hU4))
 have hT := TRow.of_own (cs := S0.map pairRow) (k := 2) (n := S0.length) (by have := H4.out.1; rw [pairsV, List.flatMap_def] at this; exact this) (List.length_map _) (by have := H.out.2.2.2.2.1.len; omega) (fun c hc => by obtain ⟨q, -, rfl⟩ := List.mem_map.1 hc; rfl)
 obtain ⟨PA, pcap, pb, po, hpv1, hpv2, hpv3, hpv4, hpv5⟩ := hT.open_;rw [List.length_map] at hpv1 hpv2 hpv3 hpv4;have hoo := oof_c (w := w4) (A := PA) (cap := pcap) (b := pb) (off := po) (l := S0) hpv4 (fun w' hu i hi => hpv5 w' (fun _ => False) hu (fun _ _ e => e) i (pairRow S0[i]) (by simp [hi])) (fun x hx => by have h1 := okPath_len (H.out.2.2.2.2.1.each x hx).1; have h2 := (H.out.2.2.2.2.1.each x hx).2; omega) (by have := H.out.2.2.2.2.1.len; omega);rw [← hpv1] at hoo;have HOO := Lib.hid hoo;clear hT hpv1 hpv2 hpv3 hpv4 hpv5 hoo c8;go_wp2_with (first
  | (go_at_call 75; refine HOO.out.mono ?_; intro e w5 hE5
     obtain ⟨m2, mb2, rfl, hm5, hm5a, hm5b⟩ := hE5.yes (by rw [H.out.2.2.2.2.2.1]);rw [H.out.2.2.2.2.2.1] at hm5;have hU5 := hE5.upd;have h5 := (H3.out.2.still H4.out.2.2).still hU5;have H5 := Lib.hid (And.intro hm5 (And.intro hm5a (And.intro hm5b (And.intro hU5 h5))));have HB5 := Lib.hid h5.blk;clear hm5 hm5a hm5b hU5 h5 hE5)
  | (refine wpList_store_one rfl _ _ _ rfl v 0 (.pointer (some ⟨m2, 0, none⟩)) rfl rfl _ _ HB5.out (by simp [preRow]) rfl (by kernel_rfl) ?_
     intro w6 hB6 hU6 hz6;have H6 := Lib.hid (And.intro hB6 hU6);clear hB6 hU6 hz6))
 go_ret
 have hlt := H.out.2.2.2.2.2.2;have hz3 := H3.out.1.upd.size;have hz4 := H4.out.2.2.size;have hm5a := H5.out.2.1;have hm5b := H5.out.2.2.1;have hvr : ¬ ringOwn rb rk ents' v := H3.out.1.own_not H3.out.2.blk (by decide) (by decide);have hR6 := RgE.move ((H3.out.1.still H4.out.2.2).still H5.out.2.2.2.1) H6.out.2 (fun q hq e => hvr (by rw [← show q = v from e]; exact hq));have hrk : rk < w.heap.size := H.out.2.1.map.lt;have hmF : mb2 ∉ F := fun e => by have := H.out.1.disk.lt _ e; omega
 have hm6 := H5.out.1.upd H6.out.2 (fun e => by have e2 : m2 = v := e; omega) (fun e => by have e2 : mb2 = v := e; omega);have h6 := H5.out.2.2.2.2.cells_ (V' := preV k s S0) H6.out.2 H6.out.1 rfl hm6 hmF (H5.out.2.2.2.2.mts.upd H6.out.2 (fun q ht e => by
  have e2 : q = v := e;subst e2;exact absurd (HB5.out.ty.inj ht) (by decide)))
 refine ⟨rfl, m2, mb2, ents', h6, hR6, fun e => by omega, by omega, by omega, H3.out.1.own_is, ?_⟩;exact (((H3.out.1.upd.mono (fun q e => .inl (.inr e))).then H4.out.2.2 (fun _ e => e.elim)).then H5.out.2.2.2.1 (fun _ e => e.elim)).then H6.out.2 (fun q e => .inl (.inl e))
end
end
section
open Go Go.RowKit
structure RecLeft17 (w w' : World) (p v : Nat) (d : Dk) (k : Kp) (s : StM) (S0 : List PairM) (F : List Nat) (kb m mb m' mb' rb rk : Nat) (mv' : Value) (ents : List (Int × Nat)) : Prop where
 pre : VtPre w' p v d (preV k { s with boot := s.boot + 1 } S0) F kb m' mb' mv' (.pointer (some ⟨rb, 0, none⟩))
 ring : RgE (ringOwn rb rk ents) w' w' rb (str masterL) s.key (s.boot + 1) 0 rk ents
 rkF : rk ∉ F
 mbk : mb' ≠ rk
 new : ∀ q, ringOwn rb rk ents q → w.heap.size ≤ q
 m : m' = m ∨ w.heap.size ≤ m'
 mb : mb' = mb ∨ w.heap.size ≤ mb'
 upd : Upd (· = v) w w'
section
variable {w w' : World} {p v : Nat} {d d' : Dk} {k : Kp} {s : StM} {S0 : List PairM} {F : List Nat} {kb m mb : Nat}
theorem recall_none (h : VtPre w p v d (preV k stM0 []) F kb m mb (.slice none 0 0) (.pointer none)) (hq : Recalls d k s S0) (h0 : k.gen = 0) :
 Calls Tryz.prog 65 #[.pointer (some ⟨v, 0, none⟩), .string (str masterL)] w fun e w' => e = .returned (.int .i64 0) ∧ ∃ m' mb' mv' rb rk ents, RecLeft17 w w' p v d k s S0 F kb m mb m' mb' rb rk mv' ents := by
 obtain ⟨rfl, rfl⟩ : s = stM0 ∧ S0 = [] := by
  rcases hq.text with e | e
  ·exact e.2
  ·exact absurd e.1 (by omega)
 obtain ⟨s, hs⟩ : ∃ s, stM0 = s := ⟨_, rfl⟩;have hg := Get_c h.kept;rw [show decide (0 < (preV k stM0 []).kp.gen) = false by simp [preV, h0]] at hg;have HG := Lib.hid hg;have c6 : w.cell? ⟨v, 6, none⟩ = some (.pointer (some ⟨kb, 0, none⟩)) := h.blk.cell 6;rw [hs] at hq h ⊢;have H := Lib.hid h;have HQ := Lib.hid hq;have HSS := Lib.hid hs;clear h hq hg h0 hs;go_enter Tryz.func65, Tryz.ntmps65
 go_upto_region 8 with (first
  | (go_at_call 120; refine HG.out.mono ?_; rintro e w1 ⟨rfl, hb1⟩
     have hU1 := Upd.of_below hb1 (fun _ => False);have HX := Lib.hid (And.intro (H.out.still hU1) (hU1.mono (G := fun q => q = v) (fun _ e => e.elim)));clear hb1 hU1))
 have c19 : w1.cell? ⟨v, 19, none⟩ = some (.int .u32 (s.boot : Int)) := HX.out.1.blk.cell 19;have b0 : ((s.boot : Int) == 4294967295) = false := by rw [beq_eq_false_iff_ne]; have := HQ.out.boot; omega
 have b1 : IntKind.u32.wrap ((s.boot : Int) + 1) = ((s.boot + 1 : Nat) : Int) := by rw [IntWalk.u32_in _ (by have := HQ.out.boot; omega)]; omega
 have HB8 := Lib.hid HX.out.1.blk;go_upto_region 11 with (first
  | (refine wpList_store_one rfl _ _ _ rfl v 19 (.int .u32 ((s.boot + 1 : Nat) : Int)) rfl (by first | rfl | (rw [← b1]; rfl)) _ _ HB8.out (by simp [preRow]) rfl (by kernel_rfl) ?_
     intro wb hBb hUb hzb;have Hb := Lib.hid (And.intro hBb hUb);clear hBb hUb hzb))
 clear c19 b0 b1;have hXb := HX.out.1.nums_ (V' := { preV k s [] with st := { s with boot := s.boot + 1 } }) Hb.out.2 Hb.out.1 rfl rfl rfl;have HXb := Lib.hid (And.intro hXb (HX.out.2.then Hb.out.2 (fun q e => .inl e)));have hrn := rnew_c (str masterL) s.key (s.boot + 1) (by have := HQ.out.ok.key; omega) wb.drew;have HRN := Lib.hid hrn;clear hXb hrn;refine wp_region_noPanic ?_;refine wp_region_T (S := fun w' => w'.cell? ⟨v, 18, none⟩ = some (.int .i64 (s.key : Int)) ∧ w'.cell? ⟨v, 19, none⟩ = some (.int .u32 ((s.boot + 1 : Nat) : Int))) (T := fun _ => false) (by kernel_rfl) ?_;have hS0 : wb.drew.cell? ⟨v, 18, none⟩ = some (.int .i64 (s.key : Int)) ∧ wb.drew.cell? ⟨v, 19, none⟩ = some (.int .u32 ((s.boot + 1 : Nat) : Int)) := ⟨HXb.out.1.blk.drew.cell 18, HXb.out.1.blk.drew.cell 19⟩;refine tk8 0 ?_;simp only [tkS];refine tk8 1 ?_;simp only [tkS];refine tk8 2 ?_;simp only [tkS];refine tk8 3 ?_;simp only [tkS];refine tk8 4 ?_;simp only [tkS];refine tk8 5 ?_ rfl (by intro w' hSw; have ck := hSw.1; go_split_ands; first | (go_simp; done) | (go_simp; rfl) | rfl)
 simp only [tkS];refine tk8 6 ?_;simp only [tkS];refine tk8 7 ?_;simp only [tkS];refine tk8 8 ?_;simp only [tkS];refine tk8 9 ?_;simp only [tkS];refine tk8 10 ?_ rfl (by intro w' hSw; have ck := hSw.2; go_split_ands; first | (go_simp; done) | (go_simp; rfl) | rfl)
 simp only [tkS];refine wpAnyT_one (i := 11) (by kernel_rfl) rfl (fun KK hKK => ?_);go_simp
 refine HRN.out.mono ?_;rintro e wr ⟨rb, rk, rfl, hRr⟩;have hU : Upd (fun _ => False) wb wr := (Upd.refl _ wb).drew.then hRr.upd (fun _ e => .inl e);have hXr := HXb.out.1.still hU;have hS2 : wr.cell? ⟨v, 18, none⟩ = some (.int .i64 (s.key : Int)) ∧ wr.cell? ⟨v, 19, none⟩ = some (.int .u32 ((s.boot + 1 : Nat) : Int)) := ⟨hXr.blk.cell 18, hXr.blk.cell 19⟩;refine hKK.out _ _ hS2 ?_;have HXr := Lib.hid (And.intro hXr (And.intro (HXb.out.2.then hU (fun _ e => e.elim)) (And.intro hRr hU)));have HBr := Lib.hid hXr.blk;clear hKK hU hXr hRr;refine tk8 12 ?_;simp only [tkS];refine tk8 13 ?_;simp only [tkS];refine tk8 14 ?_;simp only [tkS];refine tk8 15 ?_;simp only [tkS];refine tk8 16 ?_;simp only [tkS];refine wpAnyT_done (by kernel_rfl) ?_ _;refine NoPanic.normal ?_;clear hS0 hS2;go_upto_region 15 with (first
  | (refine wpList_store_one rfl _ _ _ rfl v 8 (.pointer (some ⟨rb, 0, none⟩)) rfl rfl _ _ HBr.out (by simp [preRow]) rfl (by kernel_rfl) ?_
     intro w7 hB7 hU7 hz7;have H7 := Lib.hid (And.intro hB7 hU7);clear hB7 hU7 hz7))
 have hX7 := HXr.out.1.nums_ (V' := { preV k s [] with st := { s with boot := s.boot + 1 } }) (rg' := .pointer (some ⟨rb, 0, none⟩)) H7.out.2 H7.out.1 rfl rfl rfl;have hnew : ∀ q, ringOwn rb rk [] q → w.heap.size ≤ q := fun q hq => by
  have h1 := (HXr.out.2.2.1.own_is q hq).elim (fun e => e.elim) id;have h2 := HXb.out.2.size;exact Nat.le_trans h2 h1
 have hvr : ∀ q, ringOwn rb rk [] q → ¬ q = v := fun q hq e => by
  have h1 := hnew q hq;have h2 := H.out.blk.lt;omega
 have hR7 := RgE.move HXr.out.2.2.1 H7.out.2 hvr;have hrk := hnew rk (.inr (.inl rfl));have hrF : rk ∉ F := fun e => by have := H.out.disk.lt _ e; omega
 have hmk : mb ≠ rk := fun e => by have := H.out.map.lt; omega
 have HX7 := Lib.hid (And.intro hX7 (And.intro (HXr.out.2.1.then H7.out.2 (fun q e => .inl e)) (And.intro hR7 (And.intro hrF (And.intro hmk hnew)))));clear hX7 hnew hvr hR7 hrk hrF hmk;go_wp2_with fail
 go_ret
 exact ⟨rfl, m, mb, _, rb, rk, [], HX7.out.1, HX7.out.2.2.1, HX7.out.2.2.2.1, HX7.out.2.2.2.2.1, HX7.out.2.2.2.2.2, .inl rfl, .inl rfl, HX7.out.2.1⟩
theorem recall_some (h : VtPre w p v d (preV k stM0 []) F kb m mb (.slice none 0 0) (.pointer none)) (hf : DkFit d) (hq : Recalls d k s S0) (h0 : 0 < k.gen) :
 Calls Tryz.prog 65 #[.pointer (some ⟨v, 0, none⟩), .string (str masterL)] w fun e w' => e = .returned (.int .i64 0) ∧ ∃ m' mb' mv' rb rk ents, RecLeft17 w w' p v d k s S0 F kb m mb m' mb' rb rk mv' ents := by
 obtain ⟨t, ht, htx⟩ : ∃ t, Sealed s.key sSecret s.m.secret t ∧ k.text = stB s t := by
  rcases hq.text with e | e
  ·exact absurd e.1 (by omega)
  ·exact e.2
 have hsl : s.m.secret.length ≤ 64 := (rightM_ok hq.ok.right).sec;have htl := (ht.len (by omega)).1;obtain ⟨key, bo, nn, k1, k2, k3, k4, k5⟩ := ht;have hg := Get_c h.kept;rw [show decide (0 < (preV k stM0 []).kp.gen) = true from decide_eq_true h0, show (preV k stM0 []).kp.text = k.text from rfl, htx] at hg;have hvr := fun W => vread_c (w := W) s hq.ok t (by omega) (str (stB s t)) (str_list _)
 have hro := fun (W : World) (rb rk : Nat) (hR : RgE (ringOwn rb rk []) W W rb (str masterL) s.key (s.boot + 1) 0 rk []) => ropen_c hR (by rw [str_size]; decide) (by have := hq.ok.key; omega) key bo nn k1 k3 k4 (str sSecret) (by decide) s.m.secret (by omega) (str t) (by rw [str_list, str_list, str_list]; exact k5)
 have c6 : w.cell? ⟨v, 6, none⟩ = some (.pointer (some ⟨kb, 0, none⟩)) := h.blk.cell 6;have HG := Lib.hid hg;have HVR := Lib.hid hvr;have HRO := Lib.hid hro;have H := Lib.hid h;have HQ := Lib.hid hq;have HF := Lib.hid hf;clear h hq hg h0 hf htx hsl htl k1 k2 k3 k4 k5 hvr hro;go_enter Tryz.func65, Tryz.ntmps65
 go_upto_region 4 with (first
  | (go_at_call 120; refine HG.out.mono ?_; rintro e w1 ⟨rfl, hb1⟩
     have hU1 := Upd.of_below hb1 (fun _ => False);have H1 := Lib.hid (And.intro (H.out.still hU1) hU1);clear hb1 hU1))
 go_upto_region 8 with (first
  | (go_at_call 121; refine (HVR.out _).mono ?_; rintro e w2 ⟨mv2, rfl, hO2, hn2, hU2⟩
     have hrow := stRow_one { s with m := { s.m with secret := [] } } mv2 hO2.one;have hT2 := TRow.of_own (cs := s.m.mounts.map mtRow) (k := 2) (n := s.m.mounts.length) (by rw [mtsV, List.flatMap_def] at hO2; exact hO2) (List.length_map _) (by have := (rightM_ok HQ.out.ok.right).mts; omega) (fun c hc => by obtain ⟨q, -, rfl⟩ := List.mem_map.1 hc; rfl)
     have H2 := Lib.hid (And.intro (H1.out.1.still hU2) (And.intro (H1.out.2.then hU2 (fun _ e => e.elim)) (And.intro hT2 hrow)));obtain ⟨C, hC⟩ : ∃ C, stRow { s with m := { s.m with secret := [] } } mv2 = C := ⟨_, rfl⟩;have HC := Lib.hid hC;rw [hC];clear hO2 hn2 hU2 hrow hT2 hC)
  | (refine wpList_store_all rfl 115 _ _ rfl w2.heap.size C rfl rfl _ _ (Blk.new w2 _ _) (by rw [← HC.out]; rfl) (by rw [← HC.out]; exact H2.out.2.2.2) (by rw [← HC.out]; kernel_rfl) ?_
     intro w3 hB3 hU3 hz3;have hU23 : Upd (fun _ => False) w2 w3 := ((Upd.refl (fun _ => False) w2).alloc _).then hU3 (fun q e => .inr (by have e2 : q = w2.heap.size := e; omega));have H3 := Lib.hid (And.intro (H2.out.1.still hU23) (And.intro (H2.out.2.1.then hU23 (fun _ e => e.elim)) (And.intro (H2.out.2.2.1.still hU23) hB3)));have hblk := Lib.hid H3.out.1.blk;have hsz : 9 + C.size ≤ (preRow (preV k stM0 []) p kb m (.slice none 0 0) (.pointer none)).size := by rw [← HC.out]; exact Nat.le_of_ble_eq_true rfl
     have hnew : (preRow (preV k stM0 []) p kb m (.slice none 0 0) (.pointer none)).toList.take 9 ++ C.toList ++ (preRow (preV k stM0 []) p kb m (.slice none 0 0) (.pointer none)).toList.drop (9 + C.size) = (preRow { preV k stM0 [] with st := { s with m := { s.m with secret := [] } } } p kb m mv2 (.pointer none)).toList := by rw [← HC.out]; rfl
     have HN := Lib.hid (And.intro hsz hnew);clear hB3 hU3 hz3 hU23 hsz hnew)
  | (refine wpList_load_all rfl _ _ rfl w2.heap.size rfl _ _ _ H3.out.2.2.2 Tryz.underlying115 rfl (by rw [← HC.out]; kernel_rfl) ?_)
  | (refine wpList_store_part rfl 115 _ _ rfl v 9 C rfl rfl _ _ (preRow { preV k stM0 [] with st := { s with m := { s.m with secret := [] } } } p kb m mv2 (.pointer none)) hblk.out HN.out.1 HN.out.2 (by rw [← HC.out]; exact H2.out.2.2.2) (by rw [← HC.out]; kernel_rfl) ?_
     intro w4 hB4 hU4 hz4;have H4 := Lib.hid (And.intro hB4 hU4);clear hB4 hU4 hz4))
 have hm4 := H3.out.1.map.upd H4.out.2 (fun e => H3.out.1.mv_ne.1 e) (fun e => H3.out.1.mv_ne.2.1 e);have hx4 := H3.out.1.cells_ (V' := { preV k stM0 [] with st := { s with m := { s.m with secret := [] } } }) H4.out.2 H4.out.1 rfl hm4 H3.out.1.mbF (H3.out.2.2.1.upd H4.out.2 (fun q ht e => by
  have e2 : q = v := e;subst e2;exact absurd (H3.out.1.blk.ty.inj ht) (by decide)))
 have HX := Lib.hid (And.intro hx4 ((H3.out.2.1.mono (G := fun q => q = v) (fun _ e => e.elim)).then H4.out.2 (fun q e => .inl e)));clear hm4 hx4;have c19 : w4.cell? ⟨v, 19, none⟩ = some (.int .u32 (s.boot : Int)) := HX.out.1.blk.cell 19;have b0 : ((s.boot : Int) == 4294967295) = false := by rw [beq_eq_false_iff_ne]; have := HQ.out.boot; omega
 have b1 : IntKind.u32.wrap ((s.boot : Int) + 1) = ((s.boot + 1 : Nat) : Int) := by rw [IntWalk.u32_in _ (by have := HQ.out.boot; omega)]; omega
 have HB8 := Lib.hid HX.out.1.blk;go_upto_region 11 with (first
  | (refine wpList_store_one rfl _ _ _ rfl v 19 (.int .u32 ((s.boot + 1 : Nat) : Int)) rfl (by first | rfl | (rw [← b1]; rfl)) _ _ HB8.out (by simp [preRow]) rfl (by kernel_rfl) ?_
     intro wb hBb hUb hzb;have Hb := Lib.hid (And.intro hBb hUb);clear hBb hUb hzb))
 clear c19 b0 b1;have hXb := HX.out.1.nums_ (V' := { preV k stM0 [] with st := { ({ s with m := { s.m with secret := [] } } : StM) with boot := s.boot + 1 } }) Hb.out.2 Hb.out.1 rfl rfl rfl;have HXb := Lib.hid (And.intro hXb (HX.out.2.then Hb.out.2 (fun q e => .inl e)));have hrn := rnew_c (str masterL) s.key (s.boot + 1) (by have := HQ.out.ok.key; omega) wb.drew;have HRN := Lib.hid hrn;clear hXb hrn;refine wp_region_noPanic ?_;refine wp_region_T (S := fun w' => w'.cell? ⟨v, 18, none⟩ = some (.int .i64 (s.key : Int)) ∧ w'.cell? ⟨v, 19, none⟩ = some (.int .u32 ((s.boot + 1 : Nat) : Int))) (T := fun _ => false) (by kernel_rfl) ?_;have hS0 : wb.drew.cell? ⟨v, 18, none⟩ = some (.int .i64 (s.key : Int)) ∧ wb.drew.cell? ⟨v, 19, none⟩ = some (.int .u32 ((s.boot + 1 : Nat) : Int)) := ⟨HXb.out.1.blk.drew.cell 18, HXb.out.1.blk.drew.cell 19⟩;refine tk8 0 ?_;simp only [tkS];refine tk8 1 ?_;simp only [tkS];refine tk8 2 ?_;simp only [tkS];refine tk8 3 ?_;simp only [tkS];refine tk8 4 ?_;simp only [tkS];refine tk8 5 ?_ rfl (by intro w' hSw; have ck := hSw.1; go_split_ands; first | (go_simp; done) | (go_simp; rfl) | rfl)
 simp only [tkS];refine tk8 6 ?_;simp only [tkS];refine tk8 7 ?_;simp only [tkS];refine tk8 8 ?_;simp only [tkS];refine tk8 9 ?_;simp only [tkS];refine tk8 10 ?_ rfl (by intro w' hSw; have ck := hSw.2; go_split_ands; first | (go_simp; done) | (go_simp; rfl) | rfl)
 simp only [tkS];refine wpAnyT_one (i := 11) (by kernel_rfl) rfl (fun KK hKK => ?_);go_simp
 refine HRN.out.mono ?_;rintro e wr ⟨rb, rk, rfl, hRr⟩;have hU : Upd (fun _ => False) wb wr := (Upd.refl _ wb).drew.then hRr.upd (fun _ e => .inl e);have hXr := HXb.out.1.still hU;have hS2 : wr.cell? ⟨v, 18, none⟩ = some (.int .i64 (s.key : Int)) ∧ wr.cell? ⟨v, 19, none⟩ = some (.int .u32 ((s.boot + 1 : Nat) : Int)) := ⟨hXr.blk.cell 18, hXr.blk.cell 19⟩;refine hKK.out _ _ hS2 ?_;have HXr := Lib.hid (And.intro hXr (And.intro (HXb.out.2.then hU (fun _ e => e.elim)) (And.intro hRr hU)));have HBr := Lib.hid hXr.blk;clear hKK hU hXr hRr;refine tk8 12 ?_;simp only [tkS];refine tk8 13 ?_;simp only [tkS];refine tk8 14 ?_;simp only [tkS];refine tk8 15 ?_;simp only [tkS];refine tk8 16 ?_;simp only [tkS];refine wpAnyT_done (by kernel_rfl) ?_ _;refine NoPanic.normal ?_;clear hS0 hS2;go_upto_region 15 with (first
  | (refine wpList_store_one rfl _ _ _ rfl v 8 (.pointer (some ⟨rb, 0, none⟩)) rfl rfl _ _ HBr.out (by simp [preRow]) rfl (by kernel_rfl) ?_
     intro w7 hB7 hU7 hz7;have H7 := Lib.hid (And.intro hB7 hU7);clear hB7 hU7 hz7))
 have hX7 := HXr.out.1.nums_ (V' := { preV k stM0 [] with st := { ({ s with m := { s.m with secret := [] } } : StM) with boot := s.boot + 1 } }) (rg' := .pointer (some ⟨rb, 0, none⟩)) H7.out.2 H7.out.1 rfl rfl rfl;have hnew : ∀ q, ringOwn rb rk [] q → w.heap.size ≤ q := fun q hq => by
  have h1 := (HXr.out.2.2.1.own_is q hq).elim (fun e => e.elim) id;have h2 := HXb.out.2.size;exact Nat.le_trans h2 h1
 have hvr : ∀ q, ringOwn rb rk [] q → ¬ q = v := fun q hq e => by
  have h1 := hnew q hq;have h2 := H.out.blk.lt;omega
 have hR7 := RgE.move HXr.out.2.2.1 H7.out.2 hvr;have hrk := hnew rk (.inr (.inl rfl));have hrF : rk ∉ F := fun e => by have := H.out.disk.lt _ e; omega
 have hmk : mb ≠ rk := fun e => by have := H.out.map.lt; omega
 have HX7 := Lib.hid (And.intro hX7 (And.intro (HXr.out.2.1.then H7.out.2 (fun q e => .inl e)) (And.intro hR7 (And.intro hrF (And.intro hmk hnew)))));clear hX7 hnew hvr hR7 hrk hrF hmk;have HRO2 := Lib.hid (HRO.out w7 rb rk HX7.out.2.2.1);go_upto_region 20 with (first
  | (go_at_call 123; refine HRO2.out.mono ?_; rintro e w8 ⟨rfl, ents, hR8⟩
     have hX8 := HX7.out.1.ring_ HX7.out.2.2.1 HX7.out.2.2.2.1 HX7.out.2.2.2.2.1 hR8.upd;have HB8 := Lib.hid hX8.blk;have HX8 := Lib.hid (And.intro hX8 hR8);clear hX8 hR8)
  | (refine wpList_store_one rfl _ _ _ rfl v 13 (.string (str s.m.secret)) rfl rfl _ _ HB8.out (by simp [preRow]) rfl (by kernel_rfl) ?_
     intro w9 hB9 hU9 hz9;have H9 := Lib.hid (And.intro hB9 hU9);clear hB9 hU9 hz9))
 have hX9 := HX8.out.1.nums_ (V' := { preV k stM0 [] with st := { s with boot := s.boot + 1 } }) (rg' := .pointer (some ⟨rb, 0, none⟩)) H9.out.2 H9.out.1 rfl rfl rfl;have hvr : ∀ q, ringOwn rb rk ents q → ¬ q = v := fun q hq e => HX8.out.2.own_not HX8.out.1.blk (by decide) (by decide) (by rw [← e]; exact hq)
 have hR9 := RgE.move HX8.out.2 H9.out.2 hvr;have hnew9 : ∀ q, ringOwn rb rk ents q → w.heap.size ≤ q := fun q hq => by
  rcases HX8.out.2.own_is q hq with e | e
  ·exact HX7.out.2.2.2.2.2 q e
  ·have := HX7.out.2.1.size; omega
 have hU9 : Upd (· = v) w w9 := (HX7.out.2.1.then HX8.out.2.upd (fun q e => .inr (HX7.out.2.2.2.2.2 q e))).then H9.out.2 (fun q e => .inl e);obtain ⟨MA, mcap, mbb, mo, hmv1, hmv2, hmv3, hmv4, hmv5⟩ := hX9.mts.mts;have hri := vright_c (w := w9) (A := MA) (cap := mcap) (b := mbb) (off := mo) s.m hmv4 (fun w' hu => hmv5 w' (fun _ => False) hu (fun _ _ e => e)) hmv3 hmv2 (fun x hx => by have := ((rightM_ok HQ.out.ok.right).each x hx).2; omega);rw [← hmv1, HQ.out.ok.right] at hri;have HRI := Lib.hid hri;have HX9 := Lib.hid (And.intro hX9 (And.intro hR9 (And.intro hnew9 hU9)));clear hX9 hvr hR9 hnew9 hU9 hmv1 hmv2 hmv3 hmv4 hmv5 hri;go_upto_region 22 with (first
  | (refine wpList_load_part rfl _ _ rfl v 9 rfl _ _ [.int .i64 s.m.role, .int .i64 s.m.seen, .int .i64 s.m.grant, mv2, .string (str s.m.secret)] _ HX9.out.1.blk (fun j u e => (by match j, e with | 0, e => exact e | 1, e => exact e | 2, e => exact e | 3, e => exact e | 4, e => exact e)) Tryz.underlying50 rfl (by kernel_rfl) ?_)
  | (go_at_call 41; refine HRI.out.mono ?_; rintro e w11 ⟨rfl, hU11⟩
     have HX11 := Lib.hid (And.intro (HX9.out.1.still hU11) (And.intro (HX9.out.2.1.move hU11 (fun _ _ e => e)) (HX9.out.2.2.2.then hU11 (fun _ e => e.elim))));clear hU11))
 refine wp_region_noPanic ?_;refine wp_region_T (S := fun w' => w'.cell? ⟨v, 14, none⟩ = some (.int .i64 s.at_) ∧ w'.cell? ⟨v, 15, none⟩ = some (.int .i64 s.epoch)) (T := fun _ => false) (by kernel_rfl) ?_;have hS0 : w11.drew.cell? ⟨v, 14, none⟩ = some (.int .i64 s.at_) ∧ w11.drew.cell? ⟨v, 15, none⟩ = some (.int .i64 s.epoch) := ⟨HX11.out.1.blk.drew.cell 14, HX11.out.1.blk.drew.cell 15⟩;refine tk8 0 ?_;simp only [tkS];refine tk8 1 ?_;simp only [tkS];refine tk8 2 ?_;simp only [tkS];refine tk8 3 ?_;simp only [tkS];refine tk8 4 ?_;simp only [tkS];refine tk8 5 ?_;simp only [tkS];refine tk8 6 ?_;simp only [tkS];refine tk8 7 ?_ rfl (by intro w' hSw; have ck := hSw.1; go_split_ands; first | (go_simp; done) | (go_simp; rfl) | rfl)
 simp only [tkS];refine tk8 8 ?_;simp only [tkS];refine tk8 9 ?_;simp only [tkS];refine tk8 10 ?_;simp only [tkS];refine tk8 11 ?_;simp only [tkS];refine tk8 12 ?_ rfl (by intro w' hSw; have ck := hSw.2; go_split_ands; first | (go_simp; done) | (go_simp; rfl) | rfl)
 simp only [tkS];refine tk8 13 ?_;simp only [tkS];refine tk8 14 ?_;simp only [tkS];refine tk8 15 ?_;simp only [tkS];refine tk8 16 ?_;simp only [tkS];refine tk8 17 ?_ rfl (by intro w' hSw; have ck := hSw.2; go_split_ands; first | (go_simp; done) | (go_simp; rfl) | rfl)
 simp only [tkS];refine tk8 18 ?_;simp only [tkS];refine tk8 19 ?_;simp only [tkS];refine tk8 20 ?_;simp only [tkS];refine wpAnyT_one (i := 21) (by kernel_rfl) rfl (fun KK hKK => ?_);rw [if_pos (show Region.wanted _ _ = true by rfl)];refine wp_store_one _ _ _ rfl v 1 (.int .i64 s.at_) rfl rfl _ _ HX11.out.1.blk.drew (by simp [preRow]) rfl (by kernel_rfl) (fun w12 hB12 hU12 hz12 => ?_);have hS12 : w12.cell? ⟨v, 14, none⟩ = some (.int .i64 s.at_) ∧ w12.cell? ⟨v, 15, none⟩ = some (.int .i64 s.epoch) := ⟨hB12.cell 14, hB12.cell 15⟩;refine hKK.out _ _ hS12 ?_;clear hKK;simp only [Act.put];refine tk8 22 ?_;simp only [tkS];refine tk8 23 ?_;simp only [tkS];refine tk8 24 ?_;simp only [tkS];refine wpAnyT_one (i := 25) (by kernel_rfl) rfl (fun KK hKK => ?_);rw [if_pos (show Region.wanted _ _ = true by rfl)];refine wp_store_one _ _ _ rfl v 2 (.int .i64 s.epoch) rfl rfl _ _ hB12 (by simp [preRow]) rfl (by kernel_rfl) (fun w13 hB13 hU13 hz13 => ?_);have hS13 : w13.cell? ⟨v, 14, none⟩ = some (.int .i64 s.at_) ∧ w13.cell? ⟨v, 15, none⟩ = some (.int .i64 s.epoch) := ⟨hB13.cell 14, hB13.cell 15⟩;refine hKK.out _ _ hS13 ?_;clear hKK;simp only [Act.put];refine tk8 26 ?_;simp only [tkS];refine tk8 27 ?_
 simp only [tkS];refine tk8 28 ?_;simp only [tkS];refine wpAnyT_one (i := 29) (by kernel_rfl) rfl (fun KK hKK => ?_);rw [if_pos (show Region.wanted _ _ = true by rfl)];refine wp_store_one _ _ _ rfl v 4 (.int .i64 s.epoch) rfl rfl _ _ hB13 (by simp [preRow]) rfl (by kernel_rfl) (fun w14 hB14 hU14 hz14 => ?_);have hS14 : w14.cell? ⟨v, 14, none⟩ = some (.int .i64 s.at_) ∧ w14.cell? ⟨v, 15, none⟩ = some (.int .i64 s.epoch) := ⟨hB14.cell 14, hB14.cell 15⟩;refine hKK.out _ _ hS14 ?_;clear hKK;simp only [Act.put];refine wpAnyT_done (by kernel_rfl) ?_ _;refine NoPanic.normal ?_;clear hS0 hS12 hS13 hS14;have hU14 : Upd (· = v) w11 w14 := (((Upd.refl (fun q => q = v) w11).drew.then hU12 (fun q e => .inl e)).then hU13 (fun q e => .inl e)).then hU14 (fun q e => .inl e);have hX14 := HX11.out.1.nums_ (V' := preV k { s with boot := s.boot + 1 } []) (rg' := .pointer (some ⟨rb, 0, none⟩)) hU14 hB14 rfl rfl rfl;have hvr : ∀ q, ringOwn rb rk ents q → ¬ q = v := fun q hq e => HX11.out.2.1.own_not HX11.out.1.blk (by decide) (by decide) (by rw [← e]; exact hq)
 have hR14 := RgE.move HX11.out.2.1 hU14 hvr;have HX14 := Lib.hid (And.intro hX14 (And.intro hR14 (HX11.out.2.2.then hU14 (fun q e => .inl e))));have c16 : w14.cell? ⟨v, 16, none⟩ = some (.int .i64 (s.slot : Int)) := hX14.blk.cell 16;clear hX14 hvr hR14 hU12 hU13 hU14 hB12 hB13 hB14 hz12 hz13 hz14;by_cases hsl : s.slot = 0
 ·have hs0 : ((s.slot : Int) == 0) = true := by rw [hsl]; rfl
  have hS0 : S0 = [] := by
   rcases HQ.out.slot with e | e
   ·exact e.2
   ·exact absurd e.1 (by omega)
  have HS0 := Lib.hid hS0;clear hsl hS0;go_wp2_with fail
  go_ret
  rw [HS0.out];exact ⟨rfl, m, mb, mv2, rb, rk, ents, HX14.out.1, HX14.out.2.1, HX7.out.2.2.2.1, HX7.out.2.2.2.2.1, HX9.out.2.2.1, .inl rfl, .inl rfl, HX14.out.2.2⟩
 ·have hs0 : ((s.slot : Int) == 0) = false := by rw [beq_eq_false_iff_ne]; omega
  obtain ⟨h1, u, hu1, hu2⟩ : 1 ≤ s.slot ∧ ∃ t, Sealed s.key sMap (pairsB S0) t ∧ slotHas d s.slot t := by
   rcases HQ.out.slot with e | e
   ·exact absurd e.1 hsl
   ·exact e
  have hrm := recallMap_c (s := { s with boot := s.boot + 1 }) (S0 := S0) HX14.out.1 HX14.out.2.1 HX7.out.2.2.2.1 HX7.out.2.2.2.2.1 HF.out (by have := HQ.out.ok.key; exact this) ⟨h1, HQ.out.ok.slot⟩ HQ.out.pairs u hu1 hu2;have HRM := Lib.hid hrm;clear hsl h1 hu1 hu2 hrm;go_wp2_with (first
   | (go_at_call 124; refine HRM.out.mono ?_; rintro e w15 ⟨rfl, m', mb', ents', hx, hr, hmk, hm1, hm2, hnw, hu⟩
      have H15 := Lib.hid (And.intro hx (And.intro hr (And.intro hmk (And.intro hm1 (And.intro hm2 (And.intro hnw hu))))));clear hx hr hmk hm1 hm2 hnw hu))
  go_ret
  have hz := HX14.out.2.2.size;refine ⟨rfl, m', mb', mv2, rb, rk, ents', H15.out.1, H15.out.2.1, HX7.out.2.2.2.1, H15.out.2.2.1, fun q hq => ?_, .inr (by have := H15.out.2.2.2.1; omega), .inr (by have := H15.out.2.2.2.2.1; omega), ?_⟩
  ·rcases H15.out.2.2.2.2.2.1 q hq with e | e
   ·exact HX9.out.2.2.1 q e
   ·omega
  ·exact HX14.out.2.2.then H15.out.2.2.2.2.2.2 (fun q e => e.elim .inl (fun e => .inr (HX9.out.2.2.1 q e)))
theorem recall_c (h : VtPre w p v d (preV k stM0 []) F kb m mb (.slice none 0 0) (.pointer none)) (hf : DkFit d) (hq : Recalls d k s S0) :
 Calls Tryz.prog 65 #[.pointer (some ⟨v, 0, none⟩), .string (str masterL)] w fun e w' => e = .returned (.int .i64 0) ∧ ∃ m' mb' mv' rb rk ents, RecLeft17 w w' p v d k s S0 F kb m mb m' mb' rb rk mv' ents := by
 by_cases h0 : k.gen = 0
 ·exact recall_none h hq h0
 ·exact recall_some h hf hq (by omega)
end
end
end Go.Proofs.YtbhjgfibhegddaaGreat
