/-
  LogOpens: the walk.
-/
import Derived.Test.YtpfbgmfkeofefaaGreatLaw10
import Derived.Test.YtpfbgmfkeofefaaGreatGiven10
import Derived.Test.YtpfbgmfkeofefaaGreatSector10
namespace Go.Proofs.YtpfbgmfkeofefaaGreat
open Go Go.RowKit

set_option maxRecDepth 100000 in
set_option maxHeartbeats 3200000 in
theorem walk_LogOpens {v : Value} {e0 : Int} {l : List Given10} {t : ByteArray} (w : World) (hA : IsGiven10 w v l) (h1 : (Lit.int .u64 e0).wf = true) (hb : t.size ≤ maxLen) :
    Calls Tryz.prog 4 #[v, .int .u64 e0, .string t] w fun e w' => e = .returned (.bool true) ∧ Upd (fun _ => False) w w' := by
  unfold maxLen at hb
  obtain ⟨ep, rfl, hep⟩ := u64_nat h1
  have HW := Lib.hid (awake_10 w)
  obtain ⟨A, cap, bA, off, rfl, hml, hA0, hcells, hok⟩ := hA.open_
  have HC := Lib.hid (And.intro hcells hok)
  have hA0' := Lib.hid hA0
  clear hA hcells hok hA0 h1
  by_cases h40 : 40 < l.length
  · go_enter Tryz.func4, Tryz.ntmps4
    go_wp2_with fail
    refine HW.out.mono ?_
    rintro e w1 ⟨rfl, hU1⟩
    have HU1 := Lib.hid hU1
    clear hU1 HW
    go_wp2_with fail
    go_ret
    exact ⟨rfl, HU1.out⟩
  by_cases h1 : l.length < 1
  · go_enter Tryz.func4, Tryz.ntmps4
    go_wp2_with fail
    refine HW.out.mono ?_
    rintro e w1 ⟨rfl, hU1⟩
    have HU1 := Lib.hid hU1
    clear hU1 HW
    go_wp2_with fail
    go_ret
    exact ⟨rfl, HU1.out⟩
  by_cases h2000 : 2000 < t.size
  · go_enter Tryz.func4, Tryz.ntmps4
    go_wp2_with fail
    refine HW.out.mono ?_
    rintro e w1 ⟨rfl, hU1⟩
    have HU1 := Lib.hid hU1
    clear hU1 HW
    go_wp2_with fail
    go_ret
    exact ⟨rfl, HU1.out⟩
  go_enter Tryz.func4, Tryz.ntmps4
  go_wp2_with fail
  refine HW.out.mono ?_
  rintro e w1 ⟨rfl, hU1⟩
  have HU1 := Lib.hid hU1
  clear hU1 HW
  go_wp2_with fail
  refine (new_x (Dks.none_ w1) (l.length : Int) l.length rfl (by omega) (by omega)).mono ?_
  rintro e w2 ⟨p, rfl, hD⟩
  have H2 : Hid (Dks w1 w2 [(p, Dk.fresh l.length)]) := hD
  clear hD
  go_upto_region 6 with fail
  go_upto_region 7 with (first
    | (go_at_call 10
       refine (rnew_c l.length w2 (by omega) (by omega)).mono ?_
       rintro e w3 ⟨vl, rfl, hR3, hU3, hf3⟩
       have H3 := Lib.hid (And.intro hR3 (And.intro hU3 hf3))
       clear hR3 hU3 hf3)
    | (refine wpList_store_all rfl 33 _ _ rfl w3.heap.size #[vl, .slice none 0 0, .int .i64 (-1), .bool false] rfl rfl _ _ (Blk.new w3 _ _) rfl (row_one _ _ H3.out.1.lasts.one rfl _ _) (by kernel_rfl) ?_
       intro w4 hB4 hU4 hs4
       have H4 := Lib.hid (And.intro hB4 hU4)
       clear hB4 hU4 hs4))
  have hX3 : DksX w1 w3 [(p, Dk.fresh l.length)] (RgX vl (.slice none 0 0) (.slice none 0 0)) := (DksX.of H2.out).turn H3.out.2.1 (fun q hq => .inr (by
      rcases hq with (h | h) | h
      · exact ⟨H3.out.2.2 q h, H3.out.1.lasts.lt h⟩
      · simp [Value.ownBlock] at h
      · simp [Value.ownBlock] at h))
  have hs3 : Side10 w1 w3 vl (.slice none 0 0) (Dk.fresh l.length) ⟨List.replicate l.length zeros64, [], -1, false⟩ (.slice none 0 0) [] := ⟨fun q hq => (hX3.low q hq).1, H3.out.1, RdIs.fresh l.length, Own.nil _ _ _⟩
  have hg1 := hX3.upd.size
  have hX4 := (hX3.still ((Upd.refl _ w3).alloc (.cells zeroRd 33))).off (Blk.new w3 _ _) (by decide) (by decide) hg1 H4.out.2
  have hs4 := (hs3.still ((Upd.refl _ w3).alloc (.cells zeroRd 33))).off (Blk.new w3 _ _) (by decide) (by decide) H4.out.2
  have HP4 := Lib.hid (And.intro hX4 hs4)
  have HB4 := Lib.hid H4.out.1
  have Hg1 := Lib.hid hg1
  have hn2 : Hid ((Dk.fresh l.length).pend ≤ 0) := by show ((Dk.fresh l.length).waits.map List.length).sum ≤ 0; simp [Dk.fresh]
  have hn4 : Hid ((Dk.fresh l.length).lasts.length = l.length) := by show _ = _; simp [Dk.fresh]
  obtain ⟨g7, hg7⟩ : ∃ g, w3.heap.size = g := ⟨_, rfl⟩
  rw [hg7] at HB4 Hg1 ⊢
  clear H2 H3 H4 hX3 hs3 hg1 hX4 hs4 hg7
  go_wp2_with fail
  go_loopw [11, 12, 13, 14] (fun i _ _ _ wr => ∃ (k : Nat) (d : Dk) (vl vw : Value) (r : Rd), k ≤ l.length ∧ i = .int .i64 (k : Int) ∧ (DksX w1 wr [(p, d)] (RgX vl vw (.slice none 0 0)) ∧ Side10 w1 wr vl vw d r (.slice none 0 0) []) ∧ Blk wr g7 33 #[vl, vw, .int .i64 r.fuse, .bool r.off] ∧ d.pend ≤ k ∧ d.lasts.length = l.length) (fun i _ _ _ _ => l.length - (intOf i).toNat)
  case atStart => exact ⟨0, _, _, _, _, by omega, rfl, HP4.out, HB4.out, hn2.out, hn4.out⟩
  case round =>
    rename World => wa
    obtain ⟨k, d, vl', vw', r, hk, rfl, hP, hB, hpe, hdl⟩ := hrel
    have H := Lib.hid (And.intro hP hB)
    have HDl := Lib.hid hdl
    clear hP hB hdl HP4 HB4
    by_cases hlt : k < l.length
    · obtain rfl := hA0'.out (by omega)
      have hUa : Upd (fun _ => False) w wa := HU1.out.then H.out.1.1.upd (fun _ e => e.elim)
      have hca := HC.out.1 wa hUa k hlt
      have hok := HC.out.2 l[k] (List.getElem_mem hlt)
      obtain ⟨a, ha⟩ : ∃ a, l[k] = a := ⟨_, rfl⟩
      rw [ha] at hca hok
      obtain ⟨do_, tx, ge, gs, gh, pt⟩ := a
      simp only at hca
      have hok3 := hok.part
      simp only at hok3
      have HUa := Lib.hid hUa
      clear ha hok hUa
      by_cases htx : 2000 < tx.size
      · go_wp2_with fail
        go_ret
        exact ⟨rfl, HUa.out⟩
      · have HS := Lib.hid (fun W => sector_10 W do_ tx ge gs gh pt (by omega) hok3)
        go_wp2_with fail
        refine (HS.out _).mono ?_
        rintro e w5 ⟨s, rfl, hU5⟩
        have H5 := Lib.hid (And.intro (And.intro (H.out.1.1.still hU5) (H.out.1.2.still hU5)) (H.out.2.upd hU5 (fun e => e)))
        clear hU5 hca HS
        have hwf := (H5.out.1.1.one 0 rfl).wf
        obtain ⟨hi1, hi2⟩ := H5.out.1.2.is.write hwf.len (k : Int) s
        have hfi : r.fits := H5.out.1.2.is.fits hwf
        have hpw : r.ws.length + 1 ≤ 1000000 := by rw [H5.out.1.2.is.pend]; omega
        have hrw := rwrite_c H5.out.1.2.rd hfi (k : Int) s hpw
        have hwp := write_pend d (k : Int) s hwf.len
        have hwl := write_lasts d (k : Int) s
        obtain ⟨⟨r2, E⟩, hR2⟩ : ∃ q, r.write (k : Int) s = q := ⟨_, rfl⟩
        obtain ⟨⟨d2, E2⟩, hD2⟩ : ∃ q, d.write (k : Int) s = q := ⟨_, rfl⟩
        rw [hR2, hD2] at hi1 hi2
        rw [hR2] at hrw
        rw [hD2] at hwp hwl
        simp only at hi1 hi2 hrw hwp hwl
        subst hi2
        have hpd : d.pend + 1 < 1000000 := by omega
        have hdw : Hid (∀ W X, DksX w1 W [(p, d)] X → Calls Tryz.prog 17 #[.pointer (some ⟨p, 0, none⟩), .int .i64 (k : Int), .string s] W fun e w' => e = .returned (.int .i64 E) ∧ DksX w1 w' [(p, d2)] X ∧ BlkKept W w' ∧ XKept X W w') := Lib.hid fun W X hX => by
          have := write_v hX (i := 0) rfl (k : Int) s hpd
          rw [hD2] at this
          exact this
        have HI := Lib.hid (And.intro hi1 (And.intro hwp hwl))
        have HRw := Lib.hid hrw
        clear hi1 hfi hrw hwp hwl hR2 hD2 hwf
        go_upto_region 15 with fail
        go_upto_region 16 with (first
          | (refine wpList_load_all rfl _ _ rfl g7 rfl _ _ _ H5.out.2 Tryz.underlying33 rfl rfl ?_)
          | (go_at_call 16; refine HRw.out.mono ?_; rintro e w6 ⟨vw2, rfl, hL⟩
             have HL := Lib.hid hL
             clear hL)
          | (refine wpList_store_all rfl 33 _ _ rfl w6.heap.size #[vl', vw2, .int .i64 r2.fuse, .bool r2.off] rfl rfl _ _ (Blk.new w6 _ _) rfl (rdrow_one r2 HL.out.at_) (by kernel_rfl) ?_
             intro w7 hB7 hU7 hs7))
        have hdx6 := H5.out.1.1.refG HL.out (fun q hq => H5.out.1.2.recs.lt hq)
        have hsx6 := H5.out.1.2.ref (d2 := d2) H5.out.1.1.upd.size HL.out HI.out.1
        have hlow6 : w1.heap.size ≤ w6.heap.size := hdx6.upd.size
        have hdx7 := (hdx6.still ((Upd.refl _ w6).alloc (.cells zeroRd 33))).off (Blk.new w6 _ _) (by decide) (by decide) hlow6 hU7
        have hsx7 := (hsx6.still ((Upd.refl _ w6).alloc (.cells zeroRd 33))).off (Blk.new w6 _ _) (by decide) (by decide) hU7
        have hb6 := H5.out.2.upd HL.out.upd (fun e => e)
        have hb7 := (hb6.alloc (.cells zeroRd 33)).upd hU7 (fun e => by have := hb6.lt; omega)
        have H7 := Lib.hid (And.intro hB7 (And.intro hb7 (And.intro hdx7 hsx7)))
        clear hdx6 hsx6 hlow6 hdx7 hsx7 hb6 hb7 hB7 hU7 hs7
        go_upto_region 17 with (first
          | (refine wpList_load_all rfl _ _ rfl w6.heap.size rfl _ _ _ H7.out.1 Tryz.underlying33 rfl rfl ?_)
          | (refine wpList_store_all rfl 33 _ _ rfl g7 #[vl', vw2, .int .i64 r2.fuse, .bool r2.off] rfl rfl _ _ H7.out.2.1 rfl (rdrow_one r2 HL.out.at_) (by kernel_rfl) ?_
             intro wy hBy hUy hsy))
        have hdxy := H7.out.2.2.1.off H7.out.2.1 (by decide) (by decide) Hg1.out hUy
        have hsxy := H7.out.2.2.2.off H7.out.2.1 (by decide) (by decide) hUy
        have HY := Lib.hid (And.intro hBy (And.intro hdxy hsxy))
        clear hBy hUy hsy hdxy hsxy H7 HL HRw
        go_wp2_with fail
        refine (hdw.out _ _ HY.out.2.1).mono ?_
        rintro e w8 ⟨rfl, hDx, hBk, hXk⟩
        have H8 := Lib.hid (And.intro (And.intro hDx (HY.out.2.2.kept hXk)) (hBk _ _ _ HY.out.1 (by decide) (by decide)))
        clear hDx hBk hXk HY hdw
        go_wp2_with fail
        go_roundw
        case rel => exact ⟨k + 1, d2, vl', vw2, r2, by omega, by go_num, H8.out.1, H8.out.2, by have := HI.out.2.1; omega, by rw [HI.out.2.2]; exact HDl.out⟩
        case measure => simp only [intOf]; omega
    · obtain rfl : k = l.length := by omega
      go_upto_region 19 with fail
      go_upto_region 20 with (first
        | (refine wpList_load_all rfl _ _ rfl g7 rfl _ _ _ H.out.2 Tryz.underlying33 rfl rfl ?_))
      obtain ⟨wb, hwb⟩ : ∃ wb, wa.alloc (.cells #[.pointer (some ⟨p, 0, none⟩), .pointer none, vl', vw', .int .i64 r.fuse, .bool r.off, .int .i64 0, .int .i64 0, .int .u64 0, .slice none 0 0, .int .i64 0, .int .u64 0, .int .u64 0, .bool false, .int .i64 0, .int .i64 (l.length : Int), .int .u64 (ep : Int), .int .i64 0] 41) = wb := ⟨_, rfl⟩
      have hW0 : W10b w1 wb wa.heap.size p d vl' vw' r (.pointer none) lz (.slice none 0 0) 0 (l.length : Int) ep 0 := by
        rw [← hwb]
        exact ⟨H.out.1.2.still ((Upd.refl _ wa).alloc _), Blk.new wa _ _, H.out.1.1.upd.size, H.out.1.1.still ((Upd.refl _ wa).alloc _)⟩
      have HO9 := Lib.hid (open_10b hW0 (by have := HDl.out; omega) hep)
      have Hwb := Lib.hid hwb
      clear hwb hW0 H
      rw [Hwb.out]
      clear Hwb
      obtain ⟨x, hx⟩ : ∃ x, wa.heap.size = x := ⟨_, rfl⟩
      rw [hx] at HO9 ⊢
      clear hx
      have hse : (1 : Int) ≤ (l.length : Int) ∧ (l.length : Int) ≤ 100 := by omega
      have HSe := Lib.hid hse
      clear hse
      go_wp2_with fail
      refine HO9.out.mono ?_
      rintro e w5 ⟨rfl, kv, V, vg, hW5, -⟩
      have H5 := Lib.hid hW5
      clear hW5 HO9
      go_wp2_with fail
      refine (stands_10 H5.out).mono ?_
      rintro e w6 ⟨rfl, hU6⟩
      have H6 := Lib.hid (H5.out.still hU6)
      clear hU6 H5
      have hok : (⟨0, t, 0, 0, ⟨#[]⟩, .slice none 0 0, []⟩ : Act9).ok w1 := ⟨by show i64ok 0; unfold i64ok; omega, by show t.size ≤ _; omega, by show i64ok 0; unfold i64ok; omega, by show i64ok 0; unfold i64ok; omega, by show (0 : Nat) ≤ _; omega, ⟨⟨none, 0, rfl, by simp, by simp⟩, by simp⟩⟩
      have HOk := Lib.hid hok
      clear hok
      go_wp2_with fail
      refine (does_10 H6.out ⟨0, t, 0, 0, ⟨#[]⟩, .slice none 0 0, []⟩ HOk.out (by omega) (by omega) HSe.out.1 HSe.out.2 (by have := HDl.out; omega) (by omega) hep).mono ?_
      rintro e w7 ⟨rfl, d7, vl7, vw7, r7, kv7, V7, vg7, ep7, n7, hW7, hp7, hl7, he7⟩
      have H7 := Lib.hid hW7
      clear hW7 H6
      go_wp2_with fail
      refine (stands_10 H7.out).mono ?_
      rintro e w8 ⟨rfl, hU8⟩
      have H8 := Lib.hid (H7.out.still hU8)
      clear hU8 H7
      go_wp2_with fail
      refine (does_10 H8.out ⟨0, t, 0, 0, ⟨#[]⟩, .slice none 0 0, []⟩ HOk.out (by omega) (by omega) HSe.out.1 HSe.out.2 (by have := HDl.out; omega) (by omega) he7).mono ?_
      rintro e w9 ⟨rfl, d9, vl9, vw9, r9, kv9, V9, vg9, ep9, n9, hW9, hp9, hl9, he9⟩
      have H9 := Lib.hid hW9
      clear hW9 H8
      go_wp2_with fail
      refine (open_10 H9.out (by have := HDl.out; omega) he9).mono ?_
      rintro e w10 ⟨rfl, kv10, V10, vg10, hW10⟩
      have H10 := Lib.hid hW10
      clear hW10 H9
      go_wp2_with fail
      refine (stands_10 H10.out).mono ?_
      rintro e w11 ⟨rfl, hU11⟩
      have H11 := Lib.hid (H10.out.still hU11)
      clear hU11 H10
      go_wp2_with fail
      go_ret
      exact ⟨rfl, HU1.out.then H11.out.disks.upd (fun _ e => e.elim)⟩
end Go.Proofs.YtpfbgmfkeofefaaGreat
