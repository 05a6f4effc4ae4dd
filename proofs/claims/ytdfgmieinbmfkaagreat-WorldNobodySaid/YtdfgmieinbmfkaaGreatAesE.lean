/-
  Package aes: a text, each byte xored with the stream's.
-/
import Derived.Test.YtdfgmieinbmfkaaGreatAesD
namespace Go.Proofs.YtdfgmieinbmfkaaGreat
open Go Go.RowKit

theorem bytesV_put (l : List UInt8) (j : Nat) (b : UInt8) : (bytesV l).set j (.int .u8 (b.toNat : Int)) = bytesV (l.set j b) := by simp [bytesV, List.map_set]
theorem bytesV_get (l : List UInt8) (i : Nat) (h : i < l.length) : (bytesV l)[i]? = some (.int .u8 ((l.getD i 0).toNat : Int)) := by simp [bytesV, h]
theorem stream_all (key nonce text : List UInt8) : fillAt (fun i => text.getD i 0 ^^^ streamAt key nonce i) text text.length = streamL key nonce text := by
  rw [fillAt_all _ _ _ rfl]
  unfold streamL
  refine List.ext_getElem (by simp) fun i h1 h2 => ?_
  have h3 : i < text.length := by simpa using h1
  rw [List.getElem_map, List.getElem_range, List.getElem_mapIdx, List.getD_eq_getElem?_getD, List.getElem?_eq_getElem h3]
  rfl
/-- What is xored behind so many blocks. -/
def strN (key nonce text : List UInt8) (k : Nat) : List UInt8 := fillAt (fun i => text.getD i 0 ^^^ streamAt key nonce i) text k
set_option maxRecDepth 100000 in
set_option maxHeartbeats 4000000 in
theorem stream_c (key nonce : List UInt8) (text : ByteArray) (w : World) (hk : key.length = 32) (hn : nonce.length = 12) (ht : text.size ≤ 100000) :
    Calls Tryz.prog 293 #[.agg (arrB key), .agg (arrB nonce), .string text] w fun e w' => e = .returned (.string (str (streamL key nonce text.data.toList))) ∧ Upd (fun _ => False) w w' := by
  obtain ⟨g, hg⟩ : ∃ g, w.heap.size = g := ⟨_, rfl⟩
  have HG := Lib.hid hg
  obtain ⟨O, hO⟩ : ∃ O, streamL key nonce text.data.toList = O := ⟨_, rfl⟩
  rw [hO]
  have HO := Lib.hid (And.intro hO (And.intro hk hn))
  clear hO hk hn
  go_enter Tryz.func293, Tryz.ntmps293
  go_upto_region 1 with (fail)
  generalize hw2 : World.alloc _ _ = w2
  have hB2 : Blk w2 g 139 (arrB key) := by rw [← hw2, ← hg]; exact (Blk.new w _ _).alloc _
  have hC2 : Blk w2 (g + 1) 370 (arrB nonce) := by
    have h := Blk.new (w.alloc (.cells (arrB key) 139)) 370 (arrB nonce)
    rw [World.size_alloc, hg] at h
    rw [← hw2]
    exact h
  have hU2 : Upd (fun _ => False) w w2 := by rw [← hw2]; exact ((Upd.refl _ w).alloc _).alloc _
  have HW2 := Lib.hid (And.intro hB2 (And.intro hC2 hU2))
  clear hB2 hC2 hU2 hw2 hg
  go_wp2_with (first
    | (go_at_call 376
       refine (schedule_c key HO.out.2.1 w2).mono ?_
       rintro e w3 ⟨c, rfl, hB3, hc3, hU3⟩
       have HB3 := Lib.hid (And.intro hB3 (And.intro hc3 hU3))
       clear hB3 hc3 hU3
       obtain ⟨v4, w4, hcv, ho4, hU4, hob4, hsz4⟩ := run_to_bytes w3 text (by unfold maxLen; omega)
       obtain ⟨A4, cap4, rfl, hA4, hA5⟩ := ho4.shape
       have HB4 := Lib.hid (And.intro ho4 (And.intro hU4 hob4))
       clear ho4 hU4 hob4 hsz4 hA4 hA5)
    | (refine wpList_load_all rfl _ _ rfl g rfl _ _ _ HW2.out.1 Tryz.underlying139 rfl (by rw [arrB_size, HO.out.2.1]; kernel_rfl) ?_))
  obtain ⟨gb, hgb⟩ : ∃ gb, w3.heap.size = gb := ⟨_, rfl⟩
  have hcw : Blk w4 c 557 (arrB (schedL key ++ boxL)) := HB3.out.1.upd HB4.out.2.1 (fun e => e)
  have hnw : Blk w4 (g + 1) 370 (arrB nonce) := HW2.out.2.1.upd (HB3.out.2.2.then HB4.out.2.1 (fun _ e => e.elim)) (fun e => e)
  have hcb : c ≠ gb := by have := HB3.out.1.lt; omega
  have hnb : g + 1 ≠ gb := by have := (HW2.out.2.1.upd HB3.out.2.2 (fun e => e)).lt; omega
  have hob : (Value.slice A4 text.size cap4).ownBlock = some gb := by rw [← hgb]; exact HB4.out.2.2
  have hu4 : Upd (fun _ => False) w w4 := (HW2.out.2.2.then HB3.out.2.2 (fun _ e => e.elim)).then HB4.out.2.1 (fun _ e => e.elim)
  have hgl : w.heap.size ≤ gb := by rw [← hgb]; exact (HW2.out.2.2.then HB3.out.2.2 (fun _ e => e.elim)).size
  have HD := Lib.hid (And.intro hcw (And.intro hnw (And.intro hcb (And.intro hnb (And.intro hob (And.intro hu4 hgl))))))
  obtain ⟨L, hL⟩ : ∃ L, text.size = L := ⟨_, rfl⟩
  have HL := Lib.hid hL
  have ht2 : text.data.toList.length = L := hL
  have HT2 := Lib.hid ht2
  rw [hL] at HD ht HB4
  rw [hL]
  clear hcw hnw hcb hnb hob hu4 hgl hgb hL ht2
  go_loopw [9] (fun u wr => ∃ m k : Nat, u = .int .i64 ((16 * m : Nat) : Int) ∧ k = min (16 * m) L ∧ m ≤ 10000 ∧ Own wr 5 1 (.slice A4 L cap4) L (bytesV (strN key nonce text.data.toList k)) ∧ Upd (fun q => q = gb) w4 wr) (fun u _ => 200000 - (intOf u).toNat)
  case atStart => exact ⟨0, 0, rfl, by simp, by omega, by simpa [strN, fillAt] using HB4.out.1, Upd.refl _ _⟩
  case round =>
    obtain ⟨m, k, rfl, hk, hm, ho, hu⟩ := hrel
    by_cases hlt : 16 * m < L
    · obtain rfl : k = 16 * m := by omega
      obtain rfl : A4 = some ⟨gb, 0, none⟩ := by
        obtain ⟨gg, cc, e, -, -⟩ := ho.head (by omega)
        injection e with e1 e2 e3
        subst e1
        have := Option.some.inj (show some gg = some gb from HD.out.2.2.2.2.1)
        rw [this]
      obtain ⟨at_, hat⟩ : ∃ a, 16 * m = a := ⟨_, rfl⟩
      rw [hat] at ho hlt ⊢
      have HAT := Lib.hid hat
      have HO2 := Lib.hid (And.intro ho hu)
      obtain ⟨n, hn⟩ : ∃ n, wr.heap.size = n := ⟨_, rfl⟩
      have HN := Lib.hid hn
      have i1 : (at_ : Int) < (L : Int) := by omega
      clear hk ho hu hn hat
      go_upto_region 7 with (fail)
      rw [HN.out]
      generalize hwq : World.alloc _ _ = wq
      have hBq : Blk wq n 483 (arrB (List.replicate 16 0)) := by rw [← hwq, ← HN.out]; exact Blk.new wr _ _
      have hUq : Upd (fun q => q = gb) w4 wq := by rw [← hwq]; exact HO2.out.2.alloc _
      have hOq : Own wq 5 1 (.slice (some ⟨gb, 0, none⟩) L cap4) L (bytesV (strN key nonce text.data.toList at_)) := by rw [← hwq]; exact HO2.out.1.alloc _
      have hnb : n ≠ gb := fun e => by have := HO2.out.1.lt HD.out.2.2.2.2.1; have := HN.out; omega
      have hn4 : w4.heap.size ≤ n := by rw [← HN.out]; exact HO2.out.2.size
      have HQ := Lib.hid (And.intro hBq (And.intro hUq (And.intro hOq (And.intro hnb hn4))))
      clear hBq hUq hOq hnb hn4 hwq
      go_still_tail 2, (by kernel_rfl)
      change wpList _ _ _ _ _ wq.drew
      go_wp2_with fail
      have hnq : Blk wq.drew (g + 1) 370 (arrB nonce) := (HD.out.2.1.upd HQ.out.2.1 HD.out.2.2.2.1).drew
      have hnl := HO.out.2.2
      obtain ⟨W7, r7, hcp7, hB7, hU7, hz7⟩ := copy_bytes (off := 0) (n := 16) (cap := 16) (l := nonce) HQ.out.1.drew (v := .slice (some ⟨g + 1, 0, none⟩) 12 12) ⟨_, 12, by rw [hnl], by omega, by unfold maxLen; omega, fun _ => ⟨g + 1, 0, rfl, hnq.lt, fun i hi => by rw [Nat.zero_add]; exact hnq.cellB i hi⟩⟩ (by omega) (by rw [List.length_replicate]; omega)
      rw [show (List.replicate 16 (0 : UInt8)).take 0 ++ nonce ++ (List.replicate 16 (0 : UInt8)).drop (0 + nonce.length) = nonce ++ List.replicate 4 0 by rw [List.take_zero, List.nil_append, Nat.zero_add, hnl, List.drop_replicate]] at hB7
      have H7 := Lib.hid (And.intro hB7 ((Upd.refl (fun q => q = n) wq).drew.then hU7 (fun q e => .inl e)))
      rw [hcp7]
      clear hnq hnl hcp7 hB7 hU7 hz7
      go_wp2_with fail
      have HDV := Lib.hid (show at_ / 16 = m by have := HAT.out; omega)
      have e1 : ((at_ : Int) / 16) = (m : Int) := by have := HAT.out; omega
      have e2 : IntKind.i64.wrap (m : Int) = (m : Int) := IntWalk.i64_in _ (by omega)
      have e3 : IntKind.u64.wrap (m : Int) = (m : Int) := u64_wrap m (by omega)
      refine wp_region_noPanic ?_
      refine wp_region_T (S := fun w' => Upd (fun _ => False) W7 w') (T := fun k => k == 5) (by kernel_rfl) ?_
      have hS0 := (Upd.refl (fun _ => False) W7).drew
      refine wpAnyT_take (i := 0) (v := ?_) rfl (by kernel_rfl) (by kernel_rfl) (by kernel_rfl) (by kernel_rfl) (fun _ _ _ h => h) (takes_yield rfl (Or.inl ⟨by rfl, ?_⟩)) (by assumption) (by kernel_rfl) ?_
      rotate_left 1
      · intro w' hSw; go_split_ands; first | (go_simp; done) | (go_simp; rfl) | rfl
      simp only [Act.put, List.getElem_toArray, List.getElem_cons_zero, List.setIfInBounds_toArray, List.set_cons_zero, List.set_cons_succ]
      refine wpAnyT_takeW (i := 1) (v := .int .i64 (at_ : Int)) rfl (by kernel_rfl) (by kernel_rfl) (by kernel_rfl) (by kernel_rfl) (fun _ _ _ h => h) (takes_yield rfl (Or.inl ⟨by rfl, ?_⟩)) (by first | exact Or.inr (by assumption) | exact Or.inl (by kernel_rfl)) ?_
      · intro w' hSw; go_simp
      simp only [Act.put, List.getElem_toArray, List.getElem_cons_zero, List.getElem_cons_succ, List.setIfInBounds_toArray, List.set_cons_zero, List.set_cons_succ]
      refine wpAnyT_take (i := 2) (v := ?_) rfl (by kernel_rfl) (by kernel_rfl) (by kernel_rfl) (by kernel_rfl) (fun _ _ _ h => h) (takes_yield rfl (Or.inl ⟨by rfl, ?_⟩)) (by assumption) (by kernel_rfl) ?_
      rotate_left 1
      · intro w' hSw; go_split_ands; first | (go_simp; done) | (go_simp; rfl) | rfl
      simp only [Act.put, List.getElem_toArray, List.getElem_cons_zero, List.getElem_cons_succ, List.setIfInBounds_toArray, List.set_cons_zero, List.set_cons_succ]
      refine wpAnyT_take (i := 3) (v := ?_) rfl (by kernel_rfl) (by kernel_rfl) (by kernel_rfl) (by kernel_rfl) (fun _ _ _ h => h) (takes_yield rfl (Or.inl ⟨by rfl, ?_⟩)) (by assumption) (by kernel_rfl) ?_
      rotate_left 1
      · intro w' hSw; go_split_ands; first | (go_simp; done) | (go_simp; rfl) | rfl
      simp only [Act.put, List.getElem_toArray, List.getElem_cons_zero, List.getElem_cons_succ, List.setIfInBounds_toArray, List.set_cons_zero, List.set_cons_succ]
      refine wpAnyT_one (i := 4) (by kernel_rfl) rfl (fun K hK => ?_)
      go_simp
      clear e1 e2 e3
      refine (putBig_aes (.slice none 0 0) 0 [] m 4 _ (Own.nil _ _ _) (by decide) (by decide)).mono ?_
      rintro e w12 ⟨v12, rfl, ho12, hU12, hl12⟩
      rw [Nat.zero_add, List.nil_append] at ho12
      have hu12 : Upd (fun _ => False) W7.drew w12 := hU12.mono (fun b hb => by simp [Value.ownBlock] at hb)
      have hS1 := hS0.then hu12 (fun _ e => e.elim)
      refine hK.out _ _ hS1 ?_
      have hby := BytesAt.of_own ho12
      have hnl := HO.out.2.2
      have hlb := beB_len m 4
      obtain ⟨W, rv, hcp, hB13, hU13, hz13⟩ := copy_bytes (off := 12) (n := 4) (cap := 4) (l := beB m 4) (H7.out.1.upd hS1 (fun e => e)) hby (by omega) (by rw [List.length_append, List.length_replicate]; omega)
      rw [show (nonce ++ List.replicate 4 (0 : UInt8)).take 12 ++ beB m 4 ++ (nonce ++ List.replicate 4 (0 : UInt8)).drop (12 + (beB m 4).length) = nonce ++ beB m 4 by
        rw [hlb, List.take_append_of_le_length (by omega), List.take_of_length_le (by omega), List.drop_of_length_le (by rw [List.length_append, List.length_replicate]; omega), List.append_nil]] at hB13
      obtain ⟨A12, c12, rfl, -, -⟩ := ho12.shape
      clear hK
      refine wpAnyT_oneT (i := 5) (by kernel_rfl) rfl (by kernel_rfl) (fun K hK => ?_)
      refine step_copy_run (by rfl) _ _ _ _ (by rfl) (by rfl) (by rfl) hcp ?_
      refine hK.out _ _ ?_
      obtain ⟨IN, hIN⟩ : ∃ I, nonce ++ beB m 4 = I := ⟨_, rfl⟩
      have hINl : IN.length = 16 := by rw [← hIN, List.length_append, hlb]; omega
      rw [hIN] at hB13
      have hnb := HQ.out.2.2.2.1
      have hn4 := HQ.out.2.2.2.2
      have hu13 : Upd (fun q => q = gb) w4 W := ((HQ.out.2.1.then H7.out.2 (fun q e => .inr (by have e2 : q = n := e; omega))).then hS1 (fun _ e => e.elim)).then hU13 (fun q e => .inr (by have e2 : q = n := e; omega))
      have hv13 : Upd (fun q => q ≠ gb) wq W := ((H7.out.2.mono (G := fun q => q ≠ gb) (fun q e => .inl (by have e2 : q = n := e; omega))).then hS1 (fun _ e => e.elim)).then hU13 (fun q e => .inl (by have e2 : q = n := e; omega))
      have HE := Lib.hid (And.intro hB13 (And.intro hu13 (And.intro hIN hINl)))
      have HV := Lib.hid hv13
      clear hnb hn4 hv13
      clear hK hcp hB13 hU13 hz13 hS1 hS0 hby ho12 hU12 hl12 hu12 hnl hlb hIN hINl hu13
      refine wpAnyT_done (by kernel_rfl) ?_ _
      refine NoPanic.normal ?_
      obtain ⟨OUT, hOUT⟩ : ∃ o, blockL key IN = o := ⟨_, rfl⟩
      have hOUTl : OUT.length = 16 := by rw [← hOUT]; exact blockL_len _ _
      have hcW : Blk W c 557 (arrB (schedL key ++ boxL)) := HD.out.1.upd HE.out.2.1 HD.out.2.2.1
      have hbk := block_c hcW (schedL_len HO.out.2.1) IN HE.out.2.2.2
      rw [show roundK (schedL key) 14 IN = OUT from hOUT] at hbk
      have HBK := Lib.hid hbk
      have HOUT := Lib.hid (And.intro hOUT hOUTl)
      clear hOUT hOUTl hcW hbk
      go_upto_region 10 with (first
        | (go_at_call 378
           refine HBK.out.mono ?_
           rintro e w14 ⟨rfl, hU14⟩
           have HU14 := Lib.hid hU14
           clear hU14)
        | (show wpList _ _ _ (⟨none, _, _, _, _, _⟩ :: _) _ _
           refine wpList_store_all rfl 483 _ _ rfl w14.heap.size (arrB OUT) rfl rfl 483 _ (Blk.new w14 _ _) (by rw [arrB_size, HOUT.out.2]; rfl) (arrB_one _) (by rw [arrB_size, HOUT.out.2]; kernel_rfl) ?_
           intro w15 hB15 hU15 hz15)
        | (refine wpList_load_all rfl _ _ rfl n rfl _ _ _ HE.out.1 Tryz.underlying483 rfl (by rw [arrB_size, HE.out.2.2.2]; kernel_rfl) ?_))
      have hgb14 : gb < w14.heap.size := by
        have h1 := HB4.out.1.lt HD.out.2.2.2.2.1
        have h2 := HE.out.2.1.size
        have h3 := HU14.out.size
        omega
      have hu15 : Upd (fun q => q = gb) w4 w15 := ((HE.out.2.1.then HU14.out (fun _ e => e.elim)).alloc _).then hU15 (fun q e => .inr (by have e2 : q = w14.heap.size := e; have := HE.out.2.1.size; have := HU14.out.size; omega))
      have hv15 : Upd (fun q => q ≠ gb) wq w15 := ((HV.out.then HU14.out (fun _ e => e.elim)).alloc _).then hU15 (fun q e => .inl (by have e2 : q = w14.heap.size := e; omega))
      have ho15 : Own w15 5 1 (.slice (some ⟨gb, 0, none⟩) L cap4) L (bytesV (strN key nonce text.data.toList at_)) := HQ.out.2.2.1.upd hv15 (fun q hq e => e (Option.some.inj (hq.symm.trans HD.out.2.2.2.2.1)))
      obtain ⟨no, hno⟩ : ∃ no, w14.heap.size = no := ⟨_, rfl⟩
      rw [hno] at hB15 hgb14 ⊢
      have hnob : no ≠ gb := by omega
      clear hgb14 hv15
      have HF := Lib.hid (And.intro hB15 (And.intro hu15 (And.intro hnob ho15)))
      clear hB15 hU15 hz15 hu15 hnob ho15 hno
      obtain ⟨q, hq⟩ : ∃ q, min 16 (L - at_) = q := ⟨_, rfl⟩
      have hmin : min (16 : Int) ((L : Int) - (at_ : Int)) = (q : Int) := by omega
      have HQ2 := Lib.hid hq
      clear hq
      go_wp2_with fail
      clear hmin
      go_loopw [12, 40] (fun _ u wr => ∃ j : Nat, j ≤ q ∧ u = .int .i64 (j : Int) ∧ Own wr 5 1 (.slice (some ⟨gb, 0, none⟩) L cap4) L (bytesV (strN key nonce text.data.toList (at_ + j))) ∧ Upd (fun q => q = gb) w4 wr ∧ Blk wr no 483 (arrB OUT)) (fun _ u _ => 20 - (intOf u).toNat)
      case atStart => exact ⟨0, by omega, rfl, HF.out.2.2.2, HF.out.2.1, HF.out.1⟩
      case round =>
        obtain ⟨j, hj, rfl, ho, hu, hB⟩ := hrel
        have hq := HQ2.out
        by_cases hlt2 : j < q
        · obtain ⟨si, hsi⟩ : ∃ si, at_ + j = si := ⟨_, rfl⟩
          have htl := HT2.out
          have hsl : (strN key nonce text.data.toList si).length = L := by unfold strN; rw [fillAt_len _ _ _ (by omega)]; exact htl
          have hc1 := ho.cellAt si (by omega)
          have hf := ho.frozenAt si (by omega)
          rw [hsi] at hc1 ho
          have hgt : (strN key nonce text.data.toList si).getD si 0 = text.data.toList.getD si 0 := fillAt_get _ _ _
          rw [bytesV_get _ _ (by omega), hgt] at hc1
          have hc2 := hB.cellB j (by rw [HOUT.out.2]; omega)
          have hst := fillAt_step (fun i => text.data.toList.getD i 0 ^^^ streamAt key nonce i) text.data.toList si (by omega)
          have hsa : streamAt key nonce si = OUT.getD j 0 := by
            have hat := HAT.out
            unfold streamAt
            rw [show si / 16 = m by omega, show si % 16 = j by omega, HE.out.2.2.1, HOUT.out.1]
          simp only [hsa] at hst
          obtain ⟨x, hx⟩ : ∃ x, text.data.toList.getD si 0 = x := ⟨_, rfl⟩
          obtain ⟨y, hy⟩ : ∃ y, OUT.getD j 0 = y := ⟨_, rfl⟩
          rw [hx] at hc1 hst
          rw [hy] at hc2 hst
          obtain ⟨z, hz⟩ : ∃ z, x ^^^ y = z := ⟨_, rfl⟩
          rw [hz] at hst
          have hxy := xorB x y
          rw [hz] at hxy
          have hs2 := ho.stored si (.int .u8 (z.toNat : Int))
          rw [bytesV_put, show (strN key nonce text.data.toList si).set si z = strN key nonce text.data.toList (si + 1) from hst] at hs2
          have HS := Lib.hid (And.intro hs2 (And.intro hu (And.intro hB hsi)))
          have j1 : (j : Int) < 16 := by omega
          have j2 : (si : Int) < (L : Int) := by omega
          have j3 : (0 : Int) ≤ (si : Int) := by omega
          have j4 : (j : Int) < (q : Int) := by omega
          have e1 : IntKind.i64.wrap ((at_ : Int) + (j : Int)) = (si : Int) := by rw [IntWalk.i64_in _ (by omega)]; omega
          clear ho hu hB hq hsi htl hsl hgt hst hsa hx hy hz hs2
          go_wp2_with fail
          go_still_tail 11, (by kernel_rfl)
          change wpList _ _ _ _ _ (World.drew _)
          go_wp2_with fail
          clear e1
          go_roundw
          case rel =>
            refine ⟨j + 1, by omega, by go_num, ?_, ?_, ?_⟩
            · rw [show at_ + (j + 1) = si + 1 by have := HS.out.2.2.2; omega]
              exact HS.out.1.drew
            · exact (HS.out.2.1.setCell (p := ⟨gb, si, none⟩) (.inl rfl) _).drew
            · exact (HS.out.2.2.1.far (p := ⟨gb, si, none⟩) HF.out.2.2.1 _).drew
          case measure => simp [intOf] <;> omega
        · obtain rfl : j = q := by omega
          have HS := Lib.hid (And.intro ho hu)
          have HQ3 := Lib.hid (show (at_ : Int) + 16 = ((16 * (m + 1) : Nat) : Int) ∧ at_ + j = min (16 * (m + 1)) L from ⟨by have := HAT.out; omega, by have := HAT.out; omega⟩)
          clear ho hu hB hj hq
          go_wp2_with fail
          go_roundw
          case rel => exact ⟨m + 1, at_ + j, by rw [← HQ3.out.1], HQ3.out.2, by have := HAT.out; omega, HS.out.1, HS.out.2⟩
          case measure => simp [intOf] <;> omega
    · have htl := HT2.out
      have hkL : k = text.data.toList.length := by omega
      rw [hkL] at ho
      rw [show strN key nonce text.data.toList text.data.toList.length = O from (stream_all key nonce _).trans HO.out.1] at ho
      have hcv2 := run_to_string ho
      have HU := Lib.hid (HD.out.2.2.2.2.2.1.then hu (fun q e => .inr (by have e2 : q = gb := e; have := HD.out.2.2.2.2.2.2; omega)))
      clear ho hu hkL htl hk hm
      go_wp2_with fail
      go_ret
      exact ⟨rfl, HU.out⟩
end Go.Proofs.YtdfgmieinbmfkaaGreat
