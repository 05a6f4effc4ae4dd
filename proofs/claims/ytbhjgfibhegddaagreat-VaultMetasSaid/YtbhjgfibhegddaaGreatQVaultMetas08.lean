/-
  Parts of the proof of VaultMetas: AesE, Seal, SealB.
-/
import Derived.Test.YtbhjgfibhegddaaGreatQVaultMetas07
set_option maxRecDepth 100000
set_option maxHeartbeats 16000000
namespace Go.Proofs.YtbhjgfibhegddaaGreat
section
open Go Go.RowKit
theorem bytesV_put (l : List UInt8) (j : Nat) (b : UInt8) : (bytesV l).set j (.int .u8 (b.toNat : Int)) = bytesV (l.set j b) := by simp [bytesV, List.map_set]
theorem bytesV_get (l : List UInt8) (i : Nat) (h : i < l.length) : (bytesV l)[i]? = some (.int .u8 ((l.getD i 0).toNat : Int)) := by simp [bytesV, h]
theorem stream_all (key nonce text : List UInt8) : fillAt (fun i => text.getD i 0 ^^^ streamAt key nonce i) text text.length = streamL key nonce text := by
 rw [fillAt_all _ _ _ rfl];unfold streamL;refine List.ext_getElem (by simp) fun i h1 h2 => ?_
 have h3 : i < text.length := by simpa using h1
 rw [List.getElem_map, List.getElem_range, List.getElem_mapIdx, List.getD_eq_getElem?_getD, List.getElem?_eq_getElem h3];rfl
def strN (key nonce text : List UInt8) (k : Nat) : List UInt8 := fillAt (fun i => text.getD i 0 ^^^ streamAt key nonce i) text k
theorem stream_c (key nonce : List UInt8) (text : ByteArray) (w : World) (hk : key.length = 32) (hn : nonce.length = 12) (ht : text.size ≤ 100000) :
 Calls Tryz.prog 210 #[.agg (arrB key), .agg (arrB nonce), .string text] w fun e w' => e = .returned (.string (str (streamL key nonce text.data.toList))) ∧ Upd (fun _ => False) w w' := by
 obtain ⟨g, hg⟩ : ∃ g, w.heap.size = g := ⟨_, rfl⟩;have HG := Lib.hid hg;obtain ⟨O, hO⟩ : ∃ O, streamL key nonce text.data.toList = O := ⟨_, rfl⟩;rw [hO];have HO := Lib.hid (And.intro hO (And.intro hk hn));clear hO hk hn;go_enter Tryz.func210, Tryz.ntmps210
 go_upto_region 1 with (fail)
 generalize hw2 : World.alloc _ _ = w2;have hB2 : Blk w2 g 194 (arrB key) := by rw [← hw2, ← hg]; exact (Blk.new w _ _).alloc _
 have hC2 : Blk w2 (g + 1) 312 (arrB nonce) := by
  have h := Blk.new (w.alloc (.cells (arrB key) 194)) 312 (arrB nonce);rw [World.size_alloc, hg] at h;rw [← hw2];exact h
 have hU2 : Upd (fun _ => False) w w2 := by rw [← hw2]; exact ((Upd.refl _ w).alloc _).alloc _
 have HW2 := Lib.hid (And.intro hB2 (And.intro hC2 hU2));clear hB2 hC2 hU2 hw2 hg;go_wp2_with (first
  | (go_at_call 245
     refine (schedule_c key HO.out.2.1 w2).mono ?_;rintro e w3 ⟨c, rfl, hB3, hc3, hU3⟩;have HB3 := Lib.hid (And.intro hB3 (And.intro hc3 hU3));clear hB3 hc3 hU3;obtain ⟨v4, w4, hcv, ho4, hU4, hob4, hsz4⟩ := run_to_bytes w3 text (by unfold maxLen; omega);obtain ⟨A4, cap4, rfl, hA4, hA5⟩ := ho4.shape;have HB4 := Lib.hid (And.intro ho4 (And.intro hU4 hob4));clear ho4 hU4 hob4 hsz4 hA4 hA5)
  | (refine wpList_load_all rfl _ _ rfl g rfl _ _ _ HW2.out.1 Tryz.underlying194 rfl (by rw [arrB_size, HO.out.2.1]; kernel_rfl) ?_))
 obtain ⟨gb, hgb⟩ : ∃ gb, w3.heap.size = gb := ⟨_, rfl⟩;have hcw : Blk w4 c 361 (arrB (schedL key ++ boxL)) := HB3.out.1.upd HB4.out.2.1 (fun e => e);have hnw : Blk w4 (g + 1) 312 (arrB nonce) := HW2.out.2.1.upd (HB3.out.2.2.then HB4.out.2.1 (fun _ e => e.elim)) (fun e => e);have hcb : c ≠ gb := by have := HB3.out.1.lt; omega
 have hnb : g + 1 ≠ gb := by have := (HW2.out.2.1.upd HB3.out.2.2 (fun e => e)).lt; omega
 have hob : (Value.slice A4 text.size cap4).ownBlock = some gb := by rw [← hgb]; exact HB4.out.2.2
 have hu4 : Upd (fun _ => False) w w4 := (HW2.out.2.2.then HB3.out.2.2 (fun _ e => e.elim)).then HB4.out.2.1 (fun _ e => e.elim);have hgl : w.heap.size ≤ gb := by rw [← hgb]; exact (HW2.out.2.2.then HB3.out.2.2 (fun _ e => e.elim)).size
 have HD := Lib.hid (And.intro hcw (And.intro hnw (And.intro hcb (And.intro hnb (And.intro hob (And.intro hu4 hgl))))));obtain ⟨L, hL⟩ : ∃ L, text.size = L := ⟨_, rfl⟩;have HL := Lib.hid hL;have ht2 : text.data.toList.length = L := hL;have HT2 := Lib.hid ht2;rw [hL] at HD ht HB4;rw [hL];clear hcw hnw hcb hnb hob hu4 hgl hgb hL ht2;go_loopw [9] (fun u wr => ∃ m k : Nat, u = .int .i64 ((16 * m : Nat) : Int) ∧ k = min (16 * m) L ∧ m ≤ 10000 ∧ Own wr 5 1 (.slice A4 L cap4) L (bytesV (strN key nonce text.data.toList k)) ∧ Upd (fun q => q = gb) w4 wr) (fun u _ => 200000 - (intOf u).toNat)
 case atStart => exact ⟨0, 0, rfl, by simp, by omega, by simpa [strN, fillAt] using HB4.out.1, Upd.refl _ _⟩
 case round =>
  obtain ⟨m, k, rfl, hk, hm, ho, hu⟩ := hrel;by_cases hlt : 16 * m < L
  ·obtain rfl : k = 16 * m := by omega
   obtain rfl : A4 = some ⟨gb, 0, none⟩ := by
    obtain ⟨gg, cc, e, -, -⟩ := ho.head (by omega);injection e with e1 e2 e3;subst e1;have := Option.some.inj (show some gg = some gb from HD.out.2.2.2.2.1);rw [this]
   obtain ⟨at_, hat⟩ : ∃ a, 16 * m = a := ⟨_, rfl⟩;rw [hat] at ho hlt ⊢;have HAT := Lib.hid hat;have HO2 := Lib.hid (And.intro ho hu);obtain ⟨n, hn⟩ : ∃ n, wr.heap.size = n := ⟨_, rfl⟩;have HN := Lib.hid hn;have i1 : (at_ : Int) < (L : Int) := by omega
   clear hk ho hu hn hat;go_upto_region 7 with (fail)
   rw [HN.out];generalize hwq : World.alloc _ _ = wq;have hBq : Blk wq n 339 (arrB (List.replicate 16 0)) := by rw [← hwq, ← HN.out]; exact Blk.new wr _ _
   have hUq : Upd (fun q => q = gb) w4 wq := by rw [← hwq]; exact HO2.out.2.alloc _
   have hOq : Own wq 5 1 (.slice (some ⟨gb, 0, none⟩) L cap4) L (bytesV (strN key nonce text.data.toList at_)) := by rw [← hwq]; exact HO2.out.1.alloc _
   have hnb : n ≠ gb := fun e => by have := HO2.out.1.lt HD.out.2.2.2.2.1; have := HN.out; omega
   have hn4 : w4.heap.size ≤ n := by rw [← HN.out]; exact HO2.out.2.size
   have HQ := Lib.hid (And.intro hBq (And.intro hUq (And.intro hOq (And.intro hnb hn4))));clear hBq hUq hOq hnb hn4 hwq;go_still_tail 2, (by kernel_rfl)
   change wpList _ _ _ _ _ wq.drew;go_wp2_with fail
   have hnq : Blk wq.drew (g + 1) 312 (arrB nonce) := (HD.out.2.1.upd HQ.out.2.1 HD.out.2.2.2.1).drew;have hnl := HO.out.2.2;obtain ⟨W7, r7, hcp7, hB7, hU7, hz7⟩ := copy_bytes (off := 0) (n := 16) (cap := 16) (l := nonce) HQ.out.1.drew (v := .slice (some ⟨g + 1, 0, none⟩) 12 12) ⟨_, 12, by rw [hnl], by omega, by unfold maxLen; omega, fun _ => ⟨g + 1, 0, rfl, hnq.lt, fun i hi => by rw [Nat.zero_add]; exact hnq.cellB i hi⟩⟩ (by omega) (by rw [List.length_replicate]; omega);rw [show (List.replicate 16 (0 : UInt8)).take 0 ++ nonce ++ (List.replicate 16 (0 : UInt8)).drop (0 + nonce.length) = nonce ++ List.replicate 4 0 by rw [List.take_zero, List.nil_append, Nat.zero_add, hnl, List.drop_replicate]] at hB7;have H7 := Lib.hid (And.intro hB7 ((Upd.refl (fun q => q = n) wq).drew.then hU7 (fun q e => .inl e)));rw [hcp7];clear hnq hnl hcp7 hB7 hU7 hz7;go_wp2_with fail
   have HDV := Lib.hid (show at_ / 16 = m by have := HAT.out; omega);have e1 : ((at_ : Int) / 16) = (m : Int) := by have := HAT.out; omega
   have e2 : IntKind.i64.wrap (m : Int) = (m : Int) := IntWalk.i64_in _ (by omega);have e3 : IntKind.u64.wrap (m : Int) = (m : Int) := u64_wrap m (by omega);refine wp_region_noPanic ?_;refine wp_region_T (S := fun w' => Upd (fun _ => False) W7 w') (T := fun k => k == 5) (by kernel_rfl) ?_;have hS0 := (Upd.refl (fun _ => False) W7).drew;refine tk 0 ?_;simp only [tkS];refine wpAnyT_takeW (i := 1) (v := .int .i64 (at_ : Int)) rfl (by kernel_rfl) (by kernel_rfl) (by kernel_rfl) (by kernel_rfl) (fun _ _ _ h => h) (takes_yield rfl (Or.inl ⟨by rfl, ?_⟩)) (by first | exact Or.inr (by assumption) | exact Or.inl (by kernel_rfl)) ?_
   ·intro w' hSw; go_simp
   simp only [tkS];refine tk 2 ?_;simp only [tkS];refine tk 3 ?_;simp only [tkS];refine wpAnyT_one (i := 4) (by kernel_rfl) rfl (fun K hK => ?_);go_simp
   clear e1 e2 e3;refine (putBig_aes (.slice none 0 0) 0 [] m 4 _ (Own.nil _ _ _) (by decide) (by decide)).mono ?_;rintro e w12 ⟨v12, rfl, ho12, hU12, hl12⟩;rw [Nat.zero_add, List.nil_append] at ho12;have hu12 : Upd (fun _ => False) W7.drew w12 := hU12.mono (fun b hb => by simp [Value.ownBlock] at hb);have hS1 := hS0.then hu12 (fun _ e => e.elim);refine hK.out _ _ hS1 ?_;have hby := BytesAt.of_own ho12;have hnl := HO.out.2.2;have hlb := beB_len m 4;obtain ⟨W, rv, hcp, hB13, hU13, hz13⟩ := copy_bytes (off := 12) (n := 4) (cap := 4) (l := beB m 4) (H7.out.1.upd hS1 (fun e => e)) hby (by omega) (by rw [List.length_append, List.length_replicate]; omega);rw [show (nonce ++ List.replicate 4 (0 : UInt8)).take 12 ++ beB m 4 ++ (nonce ++ List.replicate 4 (0 : UInt8)).drop (12 + (beB m 4).length) = nonce ++ beB m 4 by
    rw [hlb, List.take_append_of_le_length (by omega), List.take_of_length_le (by omega), List.drop_of_length_le (by rw [List.length_append, List.length_replicate]; omega), List.append_nil]] at hB13
   obtain ⟨A12, c12, rfl, -, -⟩ := ho12.shape;clear hK;refine wpAnyT_oneT (i := 5) (by kernel_rfl) rfl (by kernel_rfl) (fun K hK => ?_);refine step_copy_run (by rfl) _ _ _ _ (by rfl) (by rfl) (by rfl) hcp ?_;refine hK.out _ _ ?_;obtain ⟨IN, hIN⟩ : ∃ I, nonce ++ beB m 4 = I := ⟨_, rfl⟩;have hINl : IN.length = 16 := by rw [← hIN, List.length_append, hlb]; omega
   rw [hIN] at hB13;have hnb := HQ.out.2.2.2.1;have hn4 := HQ.out.2.2.2.2;have hu13 : Upd (fun q => q = gb) w4 W := ((HQ.out.2.1.then H7.out.2 (fun q e => .inr (by have e2 : q = n := e; omega))).then hS1 (fun _ e => e.elim)).then hU13 (fun q e => .inr (by have e2 : q = n := e; omega));have hv13 : Upd (fun q => q ≠ gb) wq W := ((H7.out.2.mono (G := fun q => q ≠ gb) (fun q e => .inl (by have e2 : q = n := e; omega))).then hS1 (fun _ e => e.elim)).then hU13 (fun q e => .inl (by have e2 : q = n := e; omega));have HE := Lib.hid (And.intro hB13 (And.intro hu13 (And.intro hIN hINl)));have HV := Lib.hid hv13;clear hnb hn4 hv13;clear hK hcp hB13 hU13 hz13 hS1 hS0 hby ho12 hU12 hl12 hu12 hnl hlb hIN hINl hu13;refine wpAnyT_done (by kernel_rfl) ?_ _;refine NoPanic.normal ?_;obtain ⟨OUT, hOUT⟩ : ∃ o, blockL key IN = o := ⟨_, rfl⟩;have hOUTl : OUT.length = 16 := by rw [← hOUT]; exact blockL_len _ _
   have hcW : Blk W c 361 (arrB (schedL key ++ boxL)) := HD.out.1.upd HE.out.2.1 HD.out.2.2.1;have hbk := block_c hcW (schedL_len HO.out.2.1) IN HE.out.2.2.2;rw [show roundK (schedL key) 14 IN = OUT from hOUT] at hbk;have HBK := Lib.hid hbk;have HOUT := Lib.hid (And.intro hOUT hOUTl);clear hOUT hOUTl hcW hbk;go_upto_region 10 with (first
    | (go_at_call 247
       refine HBK.out.mono ?_;rintro e w14 ⟨rfl, hU14⟩;have HU14 := Lib.hid hU14;clear hU14)
    | (show wpList _ _ _ (⟨none, _, _, _, _, _⟩ :: _) _ _
       refine wpList_store_all rfl 339 _ _ rfl w14.heap.size (arrB OUT) rfl rfl 339 _ (Blk.new w14 _ _) (by rw [arrB_size, HOUT.out.2]; rfl) (arrB_one _) (by rw [arrB_size, HOUT.out.2]; kernel_rfl) ?_
       intro w15 hB15 hU15 hz15)
    | (refine wpList_load_all rfl _ _ rfl n rfl _ _ _ HE.out.1 Tryz.underlying339 rfl (by rw [arrB_size, HE.out.2.2.2]; kernel_rfl) ?_))
   have hgb14 : gb < w14.heap.size := by
    have h1 := HB4.out.1.lt HD.out.2.2.2.2.1;have h2 := HE.out.2.1.size;have h3 := HU14.out.size;omega
   have hu15 : Upd (fun q => q = gb) w4 w15 := ((HE.out.2.1.then HU14.out (fun _ e => e.elim)).alloc _).then hU15 (fun q e => .inr (by have e2 : q = w14.heap.size := e; have := HE.out.2.1.size; have := HU14.out.size; omega));have hv15 : Upd (fun q => q ≠ gb) wq w15 := ((HV.out.then HU14.out (fun _ e => e.elim)).alloc _).then hU15 (fun q e => .inl (by have e2 : q = w14.heap.size := e; omega));have ho15 : Own w15 5 1 (.slice (some ⟨gb, 0, none⟩) L cap4) L (bytesV (strN key nonce text.data.toList at_)) := HQ.out.2.2.1.upd hv15 (fun q hq e => e (Option.some.inj (hq.symm.trans HD.out.2.2.2.2.1)));obtain ⟨no, hno⟩ : ∃ no, w14.heap.size = no := ⟨_, rfl⟩;rw [hno] at hB15 hgb14 ⊢;have hnob : no ≠ gb := by omega
   clear hgb14 hv15;have HF := Lib.hid (And.intro hB15 (And.intro hu15 (And.intro hnob ho15)));clear hB15 hU15 hz15 hu15 hnob ho15 hno;obtain ⟨q, hq⟩ : ∃ q, min 16 (L - at_) = q := ⟨_, rfl⟩;have hmin : min (16 : Int) ((L : Int) - (at_ : Int)) = (q : Int) := by omega
   have HQ2 := Lib.hid hq;clear hq;go_wp2_with fail
   clear hmin;go_loopw [12, 40] (fun _ u wr => ∃ j : Nat, j ≤ q ∧ u = .int .i64 (j : Int) ∧ Own wr 5 1 (.slice (some ⟨gb, 0, none⟩) L cap4) L (bytesV (strN key nonce text.data.toList (at_ + j))) ∧ Upd (fun q => q = gb) w4 wr ∧ Blk wr no 339 (arrB OUT)) (fun _ u _ => 20 - (intOf u).toNat)
   case atStart => exact ⟨0, by omega, rfl, HF.out.2.2.2, HF.out.2.1, HF.out.1⟩
   case round =>
    obtain ⟨j, hj, rfl, ho, hu, hB⟩ := hrel;have hq := HQ2.out;by_cases hlt2 : j < q
    ·obtain ⟨si, hsi⟩ : ∃ si, at_ + j = si := ⟨_, rfl⟩
     have htl := HT2.out;have hsl : (strN key nonce text.data.toList si).length = L := by unfold strN; rw [fillAt_len _ _ _ (by omega)]; exact htl
     have hc1 := ho.cellAt si (by omega);have hf := ho.frozenAt si (by omega);rw [hsi] at hc1 ho;have hgt : (strN key nonce text.data.toList si).getD si 0 = text.data.toList.getD si 0 := fillAt_get _ _ _;rw [bytesV_get _ _ (by omega), hgt] at hc1;have hc2 := hB.cellB j (by rw [HOUT.out.2]; omega);have hst := fillAt_step (fun i => text.data.toList.getD i 0 ^^^ streamAt key nonce i) text.data.toList si (by omega);have hsa : streamAt key nonce si = OUT.getD j 0 := by
      have hat := HAT.out;unfold streamAt;rw [show si / 16 = m by omega, show si % 16 = j by omega, HE.out.2.2.1, HOUT.out.1]
     simp only [hsa] at hst;obtain ⟨x, hx⟩ : ∃ x, text.data.toList.getD si 0 = x := ⟨_, rfl⟩;obtain ⟨y, hy⟩ : ∃ y, OUT.getD j 0 = y := ⟨_, rfl⟩;rw [hx] at hc1 hst;rw [hy] at hc2 hst;obtain ⟨z, hz⟩ : ∃ z, x ^^^ y = z := ⟨_, rfl⟩;rw [hz] at hst;have hxy := xorB x y;rw [hz] at hxy;have hs2 := ho.stored si (.int .u8 (z.toNat : Int));rw [bytesV_put, show (strN key nonce text.data.toList si).set si z = strN key nonce text.data.toList (si + 1) from hst] at hs2;have HS := Lib.hid (And.intro hs2 (And.intro hu (And.intro hB hsi)));have j1 : (j : Int) < 16 := by omega
     have j2 : (si : Int) < (L : Int) := by omega
     have j3 : (0 : Int) ≤ (si : Int) := by omega
     have j4 : (j : Int) < (q : Int) := by omega
     have e1 : IntKind.i64.wrap ((at_ : Int) + (j : Int)) = (si : Int) := by rw [IntWalk.i64_in _ (by omega)]; omega
     clear ho hu hB hq hsi htl hsl hgt hst hsa hx hy hz hs2;go_wp2_with fail
     go_still_tail 11, (by kernel_rfl)
     change wpList _ _ _ _ _ (World.drew _);go_wp2_with fail
     clear e1;go_roundw
     case rel =>
      refine ⟨j + 1, by omega, by go_num, ?_, ?_, ?_⟩
      ·rw [show at_ + (j + 1) = si + 1 by have := HS.out.2.2.2; omega]
       exact HS.out.1.drew
      ·exact (HS.out.2.1.setCell (p := ⟨gb, si, none⟩) (.inl rfl) _).drew
      ·exact (HS.out.2.2.1.far (p := ⟨gb, si, none⟩) HF.out.2.2.1 _).drew
     case measure => simp [intOf] <;> omega
    ·obtain rfl : j = q := by omega
     have HS := Lib.hid (And.intro ho hu);have HQ3 := Lib.hid (show (at_ : Int) + 16 = ((16 * (m + 1) : Nat) : Int) ∧ at_ + j = min (16 * (m + 1)) L from ⟨by have := HAT.out; omega, by have := HAT.out; omega⟩);clear ho hu hB hj hq;go_wp2_with fail
     go_roundw
     case rel => exact ⟨m + 1, at_ + j, by rw [← HQ3.out.1], HQ3.out.2, by have := HAT.out; omega, HS.out.1, HS.out.2⟩
     case measure => simp [intOf] <;> omega
  ·have htl := HT2.out
   have hkL : k = text.data.toList.length := by omega
   rw [hkL] at ho;rw [show strN key nonce text.data.toList text.data.toList.length = O from (stream_all key nonce _).trans HO.out.1] at ho;have hcv2 := run_to_string ho;have HU := Lib.hid (HD.out.2.2.2.2.2.1.then hu (fun q e => .inr (by have e2 : q = gb := e; have := HD.out.2.2.2.2.2.2; omega)));clear ho hu hkL htl hk hm;go_wp2_with fail
   go_ret
   exact ⟨rfl, HU.out⟩
end
section
open Go Go.RowKit
section
variable {P : Program} {ops : Array Oper} {Q : Exit → Act → World → Prop} {S : World → Prop}
theorem takes_load_all {i : Nat} {o : Oper} {a : Act} (hi : ops[i]? = some o) (hw : Region.wanted o (yielded ops a.tmps) = true) (ty : TypeId) (x : Operand) (ho : o.op = .load ty x) (g : Nat) (hx : a.eval x = .pointer (some ⟨g, 0, none⟩))
 (t : TypeId) (cs : Array Value) (d : TypeDesc) (hS : ∀ w, S w → Blk w g t cs) (hu : P.underlying ty = some d) (hd : d.isRow = true) (hz : (P.info? ty).map (·.size) = some cs.size) : Takes P ops Q S i o (.agg cs) a := by
 have h := yieldsIf_load_mid (P := P) (ops := ops) (S := S) hw ty x ho g 0 hx cs.toList d (fun w h => (hS w h).range 0 _ (fun j v e => by rw [Nat.zero_add]; simpa using e)) hu hd (by simpa using hz)
 exact takes_yield hi (by simpa using h)
end
structure EnvM where
 key : Nat
 boot : Nat
 n : Nat
 data : List UInt8
 tag : List UInt8
structure EnvOk (x : EnvM) : Prop where
 key : x.key ≤ 1048576
 boot : x.boot < 4294967296
 n : x.n < 18446744073709551616
 data : x.data.length ≤ 8192
 tag : x.tag.length = 32
def EnvM.row (x : EnvM) : Array Value := ([Value.int .i64 (x.key : Int), .int .u32 (x.boot : Int), .int .u64 (x.n : Int), .string (str x.data)] ++ bytesV x.tag).toArray
theorem EnvM.row_one (x : EnvM) : x.row.all (·.oneCell') = true := by simp [EnvM.row, bytesV, Value.oneCell']
theorem EnvM.row_size {x : EnvM} (h : x.tag.length = 32) : x.row.size = 36 := by simp [EnvM.row, bytesV, h]
theorem EnvM.cells {w : World} {g : Nat} {t : TypeId} {x : EnvM} (h : Blk w g t x.row) : w.cell? ⟨g, 0, none⟩ = some (.int .i64 (x.key : Int)) ∧ w.cell? ⟨g, 1, none⟩ = some (.int .u32 (x.boot : Int)) ∧ w.cell? ⟨g, 2, none⟩ = some (.int .u64 (x.n : Int)) ∧ w.cell? ⟨g, 3, none⟩ = some (.string (str x.data)) :=
 ⟨h.cell 0, h.cell 1, h.cell 2, h.cell 3⟩
theorem EnvM.tagAt {w : World} {g : Nat} {t : TypeId} {x : EnvM} (h : Blk w g t x.row) (i : Nat) (hi : i < x.tag.length) : w.cell? ⟨g, 4 + i, none⟩ = some (.int .u8 ((x.tag.getD i 0).toNat : Int)) := by
 rw [h.cell];unfold EnvM.row;rw [List.getElem?_toArray, List.getElem?_append_right (by simp)];rw [show 4 + i - [Value.int .i64 (x.key : Int), .int .u32 (x.boot : Int), .int .u64 (x.n : Int), .string (str x.data)].length = i by simp];exact bytesV_get _ _ hi
theorem sright_c (x : EnvM) (hx : EnvOk x) (w : World) : Calls Tryz.prog 162 #[.agg x.row] w fun e w' => e = .returned (.bool true) ∧ Upd (fun _ => False) w w' := by
 have k1 : (x.key : Int) ≤ 1048576 := by have := hx.key; omega
 have k0 : (0 : Int) ≤ (x.key : Int) := by omega
 have hs : (str x.data).size = x.data.length := str_size _;have k3 : (x.data.length : Int) ≤ 8192 := by have := hx.data; omega
 obtain ⟨D, hD⟩ : ∃ D, str x.data = D := ⟨_, rfl⟩;rw [hD] at hs;have k4 : (D.size : Int) ≤ 8192 := by omega
 obtain ⟨K, hK⟩ : ∃ K : Int, (x.key : Int) = K := ⟨_, rfl⟩;rw [hK] at k1 k0;have HH := Lib.hid (And.intro hD hK);clear hD hK hx hs k3;go_enter Tryz.func162, Tryz.ntmps162
 go_upto_region 1 with (fail)
 generalize hw2 : World.alloc _ _ = w2;have hB : Blk w2 w.heap.size 191 x.row := by rw [← hw2]; exact Blk.new w _ _
 have hU : Upd (fun _ => False) w w2 := by rw [← hw2]; exact (Upd.refl _ w).alloc _
 obtain ⟨c0, -, -, c3⟩ := EnvM.cells hB;rw [HH.out.1] at c3;rw [HH.out.2] at c0;have HU := Lib.hid hU;clear hB hU hw2;go_wp2_with fail
 go_ret
 exact ⟨rfl, HU.out⟩
theorem numbers_s (x : EnvM) (hx : EnvOk x) {F : Nat → Prop} {w0 w : World} {o : Nat} {l : List UInt8} (h : OutQ F w0 w o l) (hl : l.length ≤ 1000) :
 Calls Tryz.prog 168 #[.pointer (some ⟨o, 0, none⟩), .agg x.row] w fun e w' => e = .returned (.tuple #[]) ∧ OutQ F w0 w' o (l ++ numbersB x.key x.boot x.n) := by
 have hk := hx.key;have hb := hx.boot;have hn := hx.n;have s1 := size_u64 (n := x.key) (by omega);have s2 := size_u64 (n := x.boot) (by omega);have HO := Lib.hid h;obtain ⟨K, hK⟩ : ∃ K : Nat, x.key = K := ⟨_, rfl⟩;obtain ⟨B, hB⟩ : ∃ K : Nat, x.boot = K := ⟨_, rfl⟩;obtain ⟨N, hN⟩ : ∃ K : Nat, x.n = K := ⟨_, rfl⟩;rw [hK] at hk s1 ⊢;rw [hB] at hb s2 ⊢;rw [hN] at hn ⊢;have k1 : (K : Int) ≤ 1048576 := by omega
 have b1 : (B : Int) < 4294967296 := by omega
 have HKB := Lib.hid (And.intro hK (And.intro hB hN));have HE := Lib.hid (show l ++ putN K ++ putN B ++ putN N = l ++ numbersB K B N by unfold numbersB; simp only [List.append_assoc]);have HL := Lib.hid (show (l ++ putN K).length ≤ 900000 ∧ (l ++ putN K ++ putN B).length ≤ 900000 by simp only [List.length_append, putN_len]; omega);have HN := Lib.hid (And.intro hk (And.intro hb hn));clear h hx hk hb hn s1 s2 hK hB hN;go_enter Tryz.func168, Tryz.ntmps168
 go_upto_region 1 with (fail)
 generalize hw2 : World.alloc _ _ = w2;obtain ⟨g, hg⟩ : ∃ g, w.heap.size = g := ⟨_, rfl⟩;rw [hg];have hB : Blk w2 g 191 x.row := by rw [← hw2, ← hg]; exact Blk.new w _ _
 have hO : OutQ F w0 w2 o l := HO.out.still (by rw [← hw2]; exact (Upd.refl _ w).alloc _);obtain ⟨G, hO2, hGF, hG⟩ := hO.here;have hgG : ¬ G g := hG g _ _ hB (by decide) (by decide);obtain ⟨c0, -, -, -⟩ := EnvM.cells hB;rw [HKB.out.1] at c0;have HB := Lib.hid (And.intro hB (And.intro hO (And.intro hO2 (And.intro hGF hgG))));clear hB hO hw2 hg hO2 hGF hG hgG;go_wp2_with fail
 refine (onum_q HB.out.2.2.1 K (by have := HN.out.1; omega) (by omega)).mono ?_;rintro e w3 ⟨rfl, h3⟩;obtain ⟨-, c1, -, -⟩ := EnvM.cells (HB.out.1.upd h3.upd HB.out.2.2.2.2);rw [HKB.out.2.1] at c1;have H3 := Lib.hid h3;clear h3 c0;go_wp2_with fail
 refine (onum_q H3.out B (by have := HN.out.2.1; omega) HL.out.1).mono ?_;rintro e w4 ⟨rfl, h4⟩;obtain ⟨-, -, c2, -⟩ := EnvM.cells (HB.out.1.upd h4.upd HB.out.2.2.2.2);rw [HKB.out.2.2] at c2;have H4 := Lib.hid h4;clear h4 c1;go_wp2_with fail
 refine (onum_q H4.out N HN.out.2.2 HL.out.2).mono ?_;rintro e w5 ⟨rfl, h5⟩;have H5 := Lib.hid (HB.out.2.1.back HB.out.2.2.2.1 h5);clear h5 c2;go_wp2_with fail
 go_end0
 rw [← HE.out];exact ⟨rfl, H5.out⟩
theorem sstream_c (k : List UInt8) (hk : k.length = 32) (x : EnvM) (hx : EnvOk x) (text : ByteArray) (ht : text.size ≤ 8192) (w : World) :
 Calls Tryz.prog 163 #[.agg (arrB k), .agg x.row, .string text] w fun e w' => e = .returned (.string (str (dataL k x.boot x.n text.data.toList))) ∧ Upd (fun _ => False) w w' := by
 obtain ⟨B, hB⟩ : ∃ K : Nat, x.boot = K := ⟨_, rfl⟩;obtain ⟨N, hN⟩ : ∃ K : Nat, x.n = K := ⟨_, rfl⟩;have hb := hx.boot;have hn := hx.n;obtain ⟨E, hE⟩ : ∃ E, tagL k [101, 110, 99] = E := ⟨_, rfl⟩;have hEl : E.length = 32 := by rw [← hE]; exact tagL_len _ _
 obtain ⟨NO, hNO⟩ : ∃ n, beB B 4 ++ beB N 8 = n := ⟨_, rfl⟩;have hNl : NO.length = 12 := by rw [← hNO, List.length_append, beB_len, beB_len]
 obtain ⟨O, hO⟩ : ∃ O, streamL E NO text.data.toList = O := ⟨_, rfl⟩;have hd : dataL k x.boot x.n text.data.toList = O := by unfold dataL; rw [hB, hN, hE, hNO, hO]
 rw [hd];rw [hB] at hb;rw [hN] at hn;have hmk := fun W => mkey_c k (str [101, 110, 99]) W hk (by rw [str_size]; simp)
 rw [str_list, hE] at hmk;have HMK := Lib.hid hmk;have HST := Lib.hid (fun W => stream_c E NO text W hEl hNl (by omega));rw [hO] at HST;have HX := Lib.hid (And.intro hB (And.intro hN (And.intro hNO (And.intro hNl (And.intro hk hEl)))));have b1 : (B : Int) < 4294967296 := by omega
 have b2 : B < 4294967296 := by omega
 have HN2 := Lib.hid hn;clear hB hN hb hn hE hEl hNO hNl hO hd hmk hx;obtain ⟨g, hg⟩ : ∃ g, w.heap.size = g := ⟨_, rfl⟩;have HG := Lib.hid hg;go_enter Tryz.func163, Tryz.ntmps163
 go_upto_region 2 with (fail)
 generalize hw2 : World.alloc _ _ = w2;have hB2 : Blk w2 g 194 (arrB k) := by rw [← hw2, ← hg]; exact ((Blk.new w _ _).alloc _).alloc _
 have hC2 : Blk w2 (g + 1) 191 x.row := by
  have h := (Blk.new (w.alloc (.cells (arrB k) 194)) 191 x.row).alloc (.cells (arrB (List.replicate 12 0)) 312);rw [World.size_alloc, hg] at h;rw [← hw2];exact h
 have hD2 : Blk w2 (g + 1 + 1) 312 (arrB (List.replicate 12 0)) := by
  have h := Blk.new ((w.alloc (.cells (arrB k) 194)).alloc (.cells x.row 191)) 312 (arrB (List.replicate 12 0));rw [World.size_alloc, World.size_alloc, hg] at h;rw [← hw2];exact h
 have hU2 : Upd (fun _ => False) w w2 := by rw [← hw2]; exact (((Upd.refl _ w).alloc _).alloc _).alloc _
 have HW2 := Lib.hid (And.intro hB2 (And.intro hC2 (And.intro hD2 hU2)));clear hB2 hC2 hD2 hU2 hw2 hg;have e1 : IntKind.u64.wrap (B : Int) = (B : Int) := u64_wrap B (by omega);refine wp_region_noPanic ?_;refine wp_region_T (S := fun w' => Upd (fun _ => False) w2 w') (T := fun k => k == 8) (by kernel_rfl) ?_;have hS0 := (Upd.refl (fun _ => False) w2).drew;refine tk8 0 ?_ rfl (by intro w' hSw; obtain ⟨-, hc1, hc2, -⟩ := EnvM.cells (HW2.out.2.1.upd hSw (fun e => e)); rw [HX.out.1] at hc1; rw [HX.out.2.1] at hc2; go_split_ands; first | (go_simp; done) | (go_simp; rfl) | rfl)
 simp only [tkS];refine tk8 1 ?_ rfl (by intro w' hSw; obtain ⟨-, hc1, hc2, -⟩ := EnvM.cells (HW2.out.2.1.upd hSw (fun e => e)); rw [HX.out.1] at hc1; rw [HX.out.2.1] at hc2; go_split_ands; first | (go_simp; done) | (go_simp; rfl) | rfl)
 simp only [tkS];refine tk8 2 ?_ rfl (by intro w' hSw; obtain ⟨-, hc1, hc2, -⟩ := EnvM.cells (HW2.out.2.1.upd hSw (fun e => e)); rw [HX.out.1] at hc1; rw [HX.out.2.1] at hc2; go_split_ands; first | (go_simp; done) | (go_simp; rfl) | rfl)
 simp only [tkS];refine tk8 3 ?_ rfl (by intro w' hSw; obtain ⟨-, hc1, hc2, -⟩ := EnvM.cells (HW2.out.2.1.upd hSw (fun e => e)); rw [HX.out.1] at hc1; rw [HX.out.2.1] at hc2; go_split_ands; first | (go_simp; done) | (go_simp; rfl) | rfl)
 simp only [tkS];refine tk8 5 ?_ rfl (by intro w' hSw; obtain ⟨-, hc1, hc2, -⟩ := EnvM.cells (HW2.out.2.1.upd hSw (fun e => e)); rw [HX.out.1] at hc1; rw [HX.out.2.1] at hc2; go_split_ands; first | (go_simp; done) | (go_simp; rfl) | rfl)
 simp only [tkS];refine tk8 6 ?_ rfl (by intro w' hSw; obtain ⟨-, hc1, hc2, -⟩ := EnvM.cells (HW2.out.2.1.upd hSw (fun e => e)); rw [HX.out.1] at hc1; rw [HX.out.2.1] at hc2; go_split_ands; first | (go_simp; done) | (go_simp; rfl) | rfl)
 simp only [tkS];refine wpAnyT_one (i := 4) (by kernel_rfl) rfl (fun K hK => ?_);go_simp
 clear e1;refine (putBig_seal (.slice none 0 0) 0 [] B 4 _ (Own.nil _ _ _) (by decide) (by decide)).mono ?_;rintro e w3 ⟨v3, rfl, ho3, hU3, hl3⟩;rw [Nat.zero_add, List.nil_append] at ho3;have hu3 : Upd (fun _ => False) w2.drew w3 := hU3.mono (fun b hb => by simp [Value.ownBlock] at hb);have hS3 := hS0.then hu3 (fun _ e => e.elim);have hnew3 : ∀ q, v3.ownBlock = some q → w2.heap.size ≤ q := by
  intro q hq;rcases hl3 with e | ⟨q2, e, h2⟩
  ·rw [e] at hq; simp [Value.ownBlock] at hq
  ·rw [e] at hq; have := Option.some.inj hq; have h3 : w2.drew.heap.size = w2.heap.size := rfl; omega
 refine hK.out _ _ hS3 ?_;clear hK;refine wpAnyT_one (i := 7) (by kernel_rfl) rfl (fun K hK => ?_);go_simp
 refine (putBig_seal v3 4 _ N 8 w3 ho3 (by decide) (by decide)).mono ?_;rintro e w4 ⟨v4, rfl, ho4, hU4, hl4⟩;have hS4 : Upd (fun _ => False) w2 w4 := hS3.then hU4 (fun q hq => .inr (hnew3 q hq));refine hK.out _ _ hS4 ?_;clear hK;rw [← bytesV_app, HX.out.2.2.1] at ho4;have hby := BytesAt.of_own ho4;have hnl := HX.out.2.2.2.1;obtain ⟨W, rv, hcp, hB5, hU5, hz5⟩ := copy_bytes (off := 0) (n := 12) (cap := 12) (l := NO) (HW2.out.2.2.1.upd hS4 (fun e => e)) hby (by omega) (by rw [List.length_replicate]; omega);rw [show (List.replicate 12 (0 : UInt8)).take 0 ++ NO ++ (List.replicate 12 (0 : UInt8)).drop (0 + NO.length) = NO by rw [List.take_zero, List.nil_append, List.drop_of_length_le (by rw [List.length_replicate]; omega), List.append_nil]] at hB5;obtain ⟨A4, c4, rfl, -, -⟩ := ho4.shape;refine wpAnyT_oneT (i := 8) (by kernel_rfl) rfl (by kernel_rfl) (fun K hK => ?_);refine step_copy_run (by rfl) _ _ _ _ (by rfl) (by rfl) (by rfl) hcp ?_;refine hK.out _ _ ?_;have hkW : Blk W g 194 (arrB k) := (HW2.out.1.upd hS4 (fun e => e)).upd hU5 (by omega);have hUW : Upd (fun _ => False) w W := (HW2.out.2.2.2.then hS4 (fun _ e => e.elim)).then hU5 (fun q e => .inr (by have e2 : q = g + 1 + 1 := e; have := HG.out; omega))
 have HW := Lib.hid (And.intro hkW (And.intro hB5 hUW));clear hK hcp hB5 hU5 hz5 hS0 hS3 hS4 hby ho3 ho4 hU3 hU4 hl3 hl4 hu3 hnew3 hnl hkW hUW;refine wpAnyT_done (by kernel_rfl) ?_ _;refine NoPanic.normal ?_;go_upto_region 3 with (fail)
 refine wp_region_noPanic ?_;refine wp_region_T (S := fun w' => Upd (fun _ => False) W w') (T := fun _ => false) (by kernel_rfl) ?_;have hS0 := (Upd.refl (fun _ => False) W).drew;refine wpAnyT_take8 (i := 0) (v := .agg (arrB k)) rfl (by kernel_rfl) (by kernel_rfl) (by kernel_rfl) (by kernel_rfl) (fun _ _ _ h => h) (takes_load_all rfl (by rfl) _ _ rfl g (by rfl) _ _ _ (fun w' hSw => HW.out.1.upd hSw (fun e => e)) Tryz.underlying194 rfl (by rw [arrB_size, HX.out.2.2.2.2.1]; kernel_rfl)) (by assumption) (by kernel_rfl) ?_
 simp only [tkS];refine wpAnyT_take8 (i := 2) (v := .agg (arrB NO)) rfl (by kernel_rfl) (by kernel_rfl) (by kernel_rfl) (by kernel_rfl) (fun _ _ _ h => h) (takes_load_all rfl (by rfl) _ _ rfl (g + 1 + 1) (by rfl) _ _ _ (fun w' hSw => HW.out.2.1.upd hSw (fun e => e)) Tryz.underlying312 rfl (by rw [arrB_size, HX.out.2.2.2.1]; kernel_rfl)) (by assumption) (by kernel_rfl) ?_
 simp only [tkS];refine tk8 3 ?_;simp only [tkS];refine wpAnyT_one (i := 1) (by kernel_rfl) rfl (fun K hK => ?_);go_simp
 refine (HMK.out _).mono ?_;rintro e w6 ⟨rfl, hU6⟩;have hS6 := hS0.then hU6 (fun _ e => e.elim);refine hK.out _ _ hS6 ?_;clear hK hU6;refine wpAnyT_one (i := 4) (by kernel_rfl) rfl (fun K hK => ?_);go_simp
 refine (HST.out _).mono ?_;rintro e w7 ⟨rfl, hU7⟩;have hS7 := hS6.then hU7 (fun _ e => e.elim);refine hK.out _ _ hS7 ?_;clear hK hU7;refine tk8 5 ?_;simp only [tkS];refine wpAnyT_done (by kernel_rfl) ?_ _;refine NoPanic.normal ?_;have HF := Lib.hid (HW.out.2.2.then hS7 (fun _ e => e.elim));clear hS0 hS6 hS7;go_wp2_with fail
 go_ret
 exact ⟨rfl, HF.out⟩
end
section
open Go Go.RowKit
theorem stag_c (k : List UInt8) (hk : k.length = 32) (x : EnvM) (hx : EnvOk x) (about : ByteArray) (ha : about.size ≤ 1000) (w : World) :
 Calls Tryz.prog 164 #[.agg (arrB k), .agg x.row, .string about] w fun e w' => e = .returned (.agg (arrB (stampL k x.key x.boot x.n about.data.toList x.data))) ∧ Upd (fun _ => False) w w' := by
 have hkk := hx.key;have hb := hx.boot;have hn := hx.n;have hd := hx.data;have s1 := size_u64 (n := x.key) (by omega);have s2 := size_u64 (n := x.boot) (by omega);have s3 := size_u64 hn;have s4 := size_u64 (n := about.size) (by omega);have s5 := size_u64 (n := x.data.length) (by omega);obtain ⟨D, hD⟩ : ∃ D, str x.data = D := ⟨_, rfl⟩;have hDl : D.data.toList = x.data := by rw [← hD, str_list]
 have hDs : D.size = x.data.length := by rw [← hD, str_size]
 obtain ⟨N, hN⟩ : ∃ N, numbersB x.key x.boot x.n = N := ⟨_, rfl⟩;have hNl : N.length ≤ 30 := by rw [← hN]; unfold numbersB; simp only [List.length_append, putN_len]; omega
 have hTl : (N ++ textN about.data.toList).length ≤ 2000 := by rw [List.length_append, textN_len]; show N.length + (sizeN about.size + about.size) ≤ 2000; omega
 obtain ⟨T, hT⟩ : ∃ T, N ++ textN about.data.toList ++ textN D.data.toList = T := ⟨_, rfl⟩;have hTs : T.length ≤ 20000 := by rw [← hT, List.length_append, hDl, textN_len]; omega
 obtain ⟨E, hE⟩ : ∃ E, tagL k [109, 97, 99] = E := ⟨_, rfl⟩;have hEl : E.length = 32 := by rw [← hE]; exact tagL_len _ _
 obtain ⟨O, hO⟩ : ∃ O, tagL E T = O := ⟨_, rfl⟩;have hOl : O.length = 32 := by rw [← hO]; exact tagL_len _ _
 have hst : stampL k x.key x.boot x.n about.data.toList x.data = O := by unfold stampL; rw [hE, hN, ← hO, ← hT, hDl, List.append_assoc]
 rw [hst];have hmk := fun W => mkey_c k (str [109, 97, 99]) W hk (by rw [str_size]; simp)
 rw [str_list, hE] at hmk;have htg := fun W => tag_c (str E) (str T) W (by rw [str_size]; omega) (by rw [str_size]; omega)
 rw [str_list, str_list, hO] at htg;have HMK := Lib.hid hmk;have HTG := Lib.hid htg;have HX := Lib.hid (And.intro hD (And.intro hDs (And.intro hN (And.intro hNl (And.intro hTl (And.intro hT (And.intro hEl (And.intro hOl (And.intro hk (And.intro hd hx))))))))));have HSZ := Lib.hid (EnvM.row_size hx.tag);clear hkk hb hn hd s1 s2 s3 s4 s5 hD hDl hDs hN hNl hTl hT hTs hE hEl hO hOl hst hmk htg hk hx;obtain ⟨g, hg⟩ : ∃ g, w.heap.size = g := ⟨_, rfl⟩;have HG := Lib.hid hg;go_enter Tryz.func164, Tryz.ntmps164
 go_upto_region 1 with (fail)
 generalize hw2 : World.alloc _ _ = w2;have hB2 : Blk w2 g 194 (arrB k) := by rw [← hw2, ← hg]; exact ((Blk.new w _ _).alloc _).alloc _
 have hC2 : Blk w2 (g + 1) 191 x.row := by
  have h := (Blk.new (w.alloc (.cells (arrB k) 194)) 191 x.row).alloc (.cells (arrB (List.replicate 32 0)) 189);rw [World.size_alloc, hg] at h;rw [← hw2];exact h
 have hD2 : Blk w2 (g + 1 + 1) 189 (arrB (List.replicate 32 0)) := by
  have h := Blk.new ((w.alloc (.cells (arrB k) 194)).alloc (.cells x.row 191)) 189 (arrB (List.replicate 32 0));rw [World.size_alloc, World.size_alloc, hg] at h;rw [← hw2];exact h
 have hU2 : Upd (fun _ => False) w w2 := by rw [← hw2]; exact (((Upd.refl _ w).alloc _).alloc _).alloc _
 obtain ⟨o, ho⟩ : ∃ o, w2.heap.size = o := ⟨_, rfl⟩;have HW2 := Lib.hid (And.intro hB2 (And.intro hC2 (And.intro hD2 hU2)));clear hB2 hC2 hD2 hU2 hw2 hg;go_upto_region 2 with (fail)
 generalize hw3 : World.alloc _ _ = w3;have hO3 : OutQ (fun _ => False) w2 w3 o [] := by rw [← hw3, ← ho]; exact OutQ.start w2
 have HO3 := Lib.hid hO3;clear hO3 hw3 ho;go_upto_region 6 with (first
  | (go_at_call 168
     refine (numbers_s x HX.out.2.2.2.2.2.2.2.2.2.2 HO3.out (by simp)).mono ?_;rintro e w4 ⟨rfl, h4⟩;rw [List.nil_append, HX.out.2.2.1] at h4;have H4 := Lib.hid h4;clear h4)
  | (go_at_call 100
     refine (otext_q H4.out about (by omega) (by have := HX.out.2.2.2.1; omega)).mono ?_;rintro e w5 ⟨rfl, h5⟩;obtain ⟨-, -, -, c3⟩ := EnvM.cells (HW2.out.2.1.upd h5.upd (fun e => e));rw [HX.out.1] at c3;have H5 := Lib.hid h5;clear h5;go_wp2_with fail
     refine (otext_q H5.out D (by rw [HX.out.2.1]; have := HX.out.2.2.2.2.2.2.2.2.2.1; omega) (by have := HX.out.2.2.2.2.1; omega)).mono ?_;rintro e w6 ⟨rfl, h6⟩;rw [HX.out.2.2.2.2.2.1] at h6;have H6 := Lib.hid h6;clear h6 c3)
  | (refine wpList_load_all rfl _ _ rfl g rfl _ _ _ (HW2.out.1.upd H6.out.upd (fun e => e)) Tryz.underlying194 rfl (by rw [arrB_size, HX.out.2.2.2.2.2.2.2.2.1]; kernel_rfl) ?_)
  | (refine wpList_load_all rfl _ _ rfl (g + 1) rfl _ _ _ (HW2.out.2.1.upd HO3.out.upd (fun e => e)) Tryz.underlying191 rfl (by rw [HSZ.out]; kernel_rfl) ?_)
  | (go_at_call 211
     refine (HMK.out _).mono ?_;rintro e w7 ⟨rfl, h7⟩;have H7 := Lib.hid (H6.out.still h7);clear h7)
  | (refine wpList_store_all rfl 194 _ _ rfl w7.heap.size (arrB E) rfl rfl 194 _ (Blk.new w7 _ _) (by rw [arrB_size, HX.out.2.2.2.2.2.2.1]; rfl) (arrB_one _) (by rw [arrB_size, HX.out.2.2.2.2.2.2.1]; kernel_rfl) ?_
     intro w8 hB8 hU8 hz8))
 obtain ⟨q8, hq8⟩ : ∃ q, w7.heap.size = q := ⟨_, rfl⟩;have hu8 : Upd (fun _ => False) w7 w8 := ((Upd.refl (fun _ => False) w7).alloc _).then hU8 (fun q hq => .inr (by omega));rw [hq8] at hB8 ⊢;have h8 := H7.out.still hu8;have HW8 := Lib.hid (And.intro h8 (And.intro hB8 ((HW2.out.2.2.1.upd h8.upd (fun e => e)))));clear hU8 hz8 hu8 hq8 hB8 h8;refine wp_region_noPanic ?_;refine wp_region_T (S := fun w' => Upd (fun _ => False) w8 w') (T := fun k => k == 4) (by kernel_rfl) ?_;have hS0 := (Upd.refl (fun _ => False) w8).drew;refine tk8 0 ?_ rfl (by intro w' hSw; have hcv := conv_arr (HW8.out.2.1.upd hSw (fun e => e)) 32 32 HX.out.2.2.2.2.2.2.1; go_split_ands; first | (go_simp; done) | (go_simp; rfl) | rfl)
 simp only [tkS];refine tk8 1 ?_ rfl (by intro w' hSw; have hcv := conv_arr (HW8.out.2.1.upd hSw (fun e => e)) 32 32 HX.out.2.2.2.2.2.2.1; go_split_ands; first | (go_simp; done) | (go_simp; rfl) | rfl)
 simp only [tkS];refine wpAnyT_one (i := 2) (by kernel_rfl) rfl (fun K hK => ?_);go_simp
 refine (ostring_q (HW8.out.1.still hS0)).mono ?_;rintro e w9 ⟨rfl, rfl⟩;refine hK.out _ _ hS0 ?_;clear hK;refine wpAnyT_one (i := 3) (by kernel_rfl) rfl (fun K hK => ?_);go_simp
 refine (HTG.out _).mono ?_;rintro e w10 ⟨rfl, hU10⟩;have hS10 := hS0.then hU10 (fun _ e => e.elim);refine hK.out _ _ hS10 ?_;clear hK hU10;refine wpAnyT_oneT (i := 4) (by kernel_rfl) rfl (by kernel_rfl) (fun K hK => ?_);refine step_store_all (by rfl) 189 _ _ (by rfl) (g + 1 + 1) (arrB O) (by rfl) (by rfl) _ _ (HW8.out.2.2.upd hS10 (fun e => e)) (by rw [arrB_size, arrB_size, HX.out.2.2.2.2.2.2.2.1]; rfl) (arrB_one _) (by rw [arrB_size, HX.out.2.2.2.2.2.2.2.1]; kernel_rfl) ?_
 intro w11 hB11 hU11 hz11;refine hK.out _ _ ?_;refine wpAnyT_done (by kernel_rfl) ?_ _;refine NoPanic.normal ?_;have hfin : Upd (fun _ => False) w w11 := ((HW2.out.2.2.2.then HW8.out.1.upd (fun _ e => e.elim)).then hS10 (fun _ e => e.elim)).then hU11 (fun q hq => .inr (by have e2 : q = g + 1 + 1 := hq; have := HG.out; omega));have HF := Lib.hid (And.intro hfin hB11);clear hfin hB11 hU11 hz11 hK hS0 hS10;go_wp2_with fail
 refine bodyPost_ret (results_cell_row rfl _ _ (g + 1 + 1) _ _ _ _ rfl HF.out.2 Tryz.underlying189 rfl (by rw [arrB_size, HX.out.2.2.2.2.2.2.2.1]; kernel_rfl)) rfl ⟨rfl, HF.out.1⟩
end
end Go.Proofs.YtbhjgfibhegddaaGreat
