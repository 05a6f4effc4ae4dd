/-
  KeptOpens: the walk.
-/
import Derived.Test.YtnmbhoidnbideaaGreatWKeptPlays
import Derived.Test.YtnmbhoidnbideaaGreatGiven09
import Derived.Test.YtnmbhoidnbideaaGreatSector9
namespace Go.Proofs.YtnmbhoidnbideaaGreat
open Go Go.RowKit

theorem get_9 {w0 w : World} {p : Nat} {kv : Value} {V : Kp} {n : Int} (hK : Keeps9 w0 w p kv V n) :
    Calls Tryz.prog 16 #[kv] w fun e w' => e = .returned (.tuple #[.string (str V.text), .bool (decide (0 < V.gen))]) ∧ Upd (fun _ => False) w w' := by
  rcases hK with ⟨_, _, b, rfl, h⟩ | ⟨_, rfl, rfl⟩
  · exact get_s h
  · exact get_nil w
theorem rdat_off {w w' : World} {vl vw : Value} {r : Rd} {g : Nat} {t : TypeId} {cs : Array Value} (h : RdAt w vl vw r) (hB : Blk w g t cs) (h1 : 9 ≠ t) (h2 : 126 ≠ t) (hu : Upd (· = g) w w') : RdAt w' vl vw r :=
  ⟨h.lasts.upd hu (fun _ hq e => h.ne hB h1 h2 (.inl (by rw [← show _ = g from e]; exact hq))), h.ws.upd hu (fun _ hq e => h.ne hB h1 h2 (.inr (by rw [← show _ = g from e]; exact hq)))⟩
set_option maxRecDepth 100000 in
set_option maxHeartbeats 3200000 in
theorem walk_KeptOpens {v : Value} {l : List Given09} {t : ByteArray} (w : World) (hA : IsGiven09 w v l) (hb : t.size ≤ maxLen) :
    Calls Tryz.prog 4 #[v, .string t] w fun e w' => e = .returned (.bool true) ∧ Upd (fun _ => False) w w' := by
  unfold maxLen at hb
  have HW := Lib.hid (awake_09 w)
  obtain ⟨A, cap, bA, off, rfl, hml, hA0, hcells, hok⟩ := hA.open_
  have HC := Lib.hid (And.intro hcells hok)
  have hA0' := Lib.hid hA0
  clear hA hcells hok hA0
  by_cases h20 : 20 < l.length
  · go_enter Tryz.func4, Tryz.ntmps4
    go_wp2_with fail
    refine HW.out.mono ?_
    rintro e w1 ⟨rfl, hU1⟩
    have HU1 := Lib.hid hU1
    clear hU1 HW
    go_wp2_with fail
    go_ret
    exact ⟨rfl, HU1.out⟩
  by_cases h1000 : 1000 < t.size
  · go_enter Tryz.func4, Tryz.ntmps4
    go_wp2_with fail
    refine HW.out.mono ?_
    rintro e w1 ⟨rfl, hU1⟩
    have HU1 := Lib.hid hU1
    clear hU1 HW
    go_wp2_with fail
    go_ret
    exact ⟨rfl, HU1.out⟩
  go_enter Tryz.func4, Tryz.ntmps4
  go_wp2_with fail
  refine HW.out.mono ?_
  rintro e w1 ⟨rfl, hU1⟩
  have HU1 := Lib.hid hU1
  clear hU1 HW
  go_wp2_with fail
  refine (new_x (Dks.none_ w1) 20 20 rfl (by omega) (by omega)).mono ?_
  rintro e w2 ⟨p, rfl, hD⟩
  have H2 : Hid (Dks w1 w2 [(p, Dk.fresh 20)]) := hD
  clear hD
  go_upto_region 6 with fail
  go_upto_region 7 with (first
    | (go_at_call 12
       refine (rnew_c 20 w2 (by omega) (by omega)).mono ?_
       rintro e w3 ⟨vl, rfl, hR3, hU3, hf3⟩
       have H3 := Lib.hid (And.intro hR3 (And.intro hU3 hf3))
       clear hR3 hU3 hf3)
    | (refine wpList_store_all rfl 32 _ _ rfl w3.heap.size #[vl, .slice none 0 0, .int .i64 (-1), .bool false] rfl rfl _ _ (Blk.new w3 _ _) rfl (row_one _ _ H3.out.1.lasts.one rfl _ _) (by kernel_rfl) ?_
       intro w4 hB4 hU4 hs4
       have H4 := Lib.hid (And.intro hB4 hU4)
       clear hB4 hU4 hs4))
  have hP3 : PlayAt w1 w3 p (Dk.fresh 20) vl (.slice none 0 0) ⟨List.replicate 20 zeros64, [], -1, false⟩ :=
    ⟨(DksX.of H2.out).turn H3.out.2.1 (fun q hq => .inr (by
      rcases hq with h | h
      · exact ⟨H3.out.2.2 q h, H3.out.1.lasts.lt h⟩
      · simp [Value.ownBlock] at h)), H3.out.1, RdIs.fresh 20⟩
  have hg1 := hP3.disks.upd.size
  have hP4 := (hP3.still ((Upd.refl _ w3).alloc (.cells zeroRd 32))).store (Blk.new w3 _ _) hg1 H4.out.2
  have HP4 := Lib.hid hP4
  have HB4 := Lib.hid H4.out.1
  have Hg1 := Lib.hid hg1
  have hn2 : Hid ((Dk.fresh 20).pend ≤ 0) := by show ((Dk.fresh 20).waits.map List.length).sum ≤ 0; simp [Dk.fresh]
  have hn4 : Hid ((Dk.fresh 20).lasts.length = 20) := by show _ = _; simp [Dk.fresh]
  obtain ⟨g7, hg7⟩ : ∃ g, w3.heap.size = g := ⟨_, rfl⟩
  rw [hg7] at HB4 Hg1 ⊢
  clear H2 H3 H4 hP3 hg1 hP4 hg7
  go_wp2_with fail
  go_loopw [9, 10, 11, 12] (fun i _ _ _ wr => ∃ (k : Nat) (d : Dk) (vl vw : Value) (r : Rd), k ≤ l.length ∧ i = .int .i64 (k : Int) ∧ PlayAt w1 wr p d vl vw r ∧ Blk wr g7 32 #[vl, vw, .int .i64 r.fuse, .bool r.off] ∧ d.pend ≤ k ∧ d.lasts.length = 20) (fun i _ _ _ _ => l.length - (intOf i).toNat)
  case atStart => exact ⟨0, _, _, _, _, by omega, rfl, HP4.out, HB4.out, hn2.out, hn4.out⟩
  case round =>
    rename World => wa
    obtain ⟨k, d, vl', vw', r, hk, rfl, hP, hB, hpe, hdl⟩ := hrel
    have H := Lib.hid (And.intro hP hB)
    have HDl := Lib.hid hdl
    clear hP hB hdl HP4 HB4
    by_cases hlt : k < l.length
    · obtain rfl := hA0'.out (by omega)
      have hUa : Upd (fun _ => False) w wa := HU1.out.then H.out.1.disks.upd (fun _ e => e.elim)
      have hca := HC.out.1 wa hUa k hlt
      have hok := HC.out.2 l[k] (List.getElem_mem hlt)
      obtain ⟨a, ha⟩ : ∃ a, l[k] = a := ⟨_, rfl⟩
      rw [ha] at hca hok
      obtain ⟨do_, tx, gn, pt⟩ := a
      simp only at hca
      have hok2 := hok.text
      have hok3 := hok.part
      simp only at hok2 hok3
      have HUa := Lib.hid hUa
      clear ha hok hUa
      by_cases htx : 1000 < tx.size
      · go_wp2_with fail
        go_ret
        exact ⟨rfl, HUa.out⟩
      · have HS := Lib.hid (fun W => sector_9 W do_ tx gn pt (by omega) hok3)
        go_wp2_with fail
        refine (HS.out _).mono ?_
        rintro e w5 ⟨s, rfl, hU5⟩
        have H5 := Lib.hid (And.intro (H.out.1.still hU5) (H.out.2.upd hU5 (fun e => e)))
        clear hU5 hca HS
        obtain ⟨hi1, hi2⟩ := H5.out.1.is.write ((H5.out.1.disks.one 0 rfl).wf.len) (k : Int) s
        have hfi := H5.out.1.fits
        have hpw : r.ws.length + 1 ≤ 1000000 := by rw [H5.out.1.is.pend]; omega
        have hrw := rwrite_c H5.out.1.rd hfi (k : Int) s hpw
        have hwp := write_pend d (k : Int) s ((H5.out.1.disks.one 0 rfl).wf.len)
        have hwl := write_lasts d (k : Int) s
        obtain ⟨⟨r2, E⟩, hR2⟩ : ∃ q, r.write (k : Int) s = q := ⟨_, rfl⟩
        obtain ⟨⟨d2, E2⟩, hD2⟩ : ∃ q, d.write (k : Int) s = q := ⟨_, rfl⟩
        rw [hR2, hD2] at hi1 hi2
        rw [hR2] at hrw
        rw [hD2] at hwp hwl
        simp only at hi1 hi2 hrw hwp hwl
        subst hi2
        have hpd : d.pend + 1 < 1000000 := by omega
        have hdw : Hid (∀ W X, DksX w1 W [(p, d)] X → Calls Tryz.prog 19 #[.pointer (some ⟨p, 0, none⟩), .int .i64 (k : Int), .string s] W fun e w' => e = .returned (.int .i64 E) ∧ DksX w1 w' [(p, d2)] X ∧ BlkKept W w' ∧ XKept X W w') := Lib.hid fun W X hX => by
          have := write_v hX (i := 0) rfl (k : Int) s hpd
          rw [hD2] at this
          exact this
        have HI := Lib.hid (And.intro hi1 (And.intro hwp hwl))
        have HRw := Lib.hid hrw
        clear hi1 hfi hrw hwp hwl hR2 hD2
        go_upto_region 15 with fail
        go_upto_region 16 with (first
          | (refine wpList_load_all rfl _ _ rfl g7 rfl _ _ _ H5.out.2 Tryz.underlying32 rfl rfl ?_)
          | (go_at_call 18; refine HRw.out.mono ?_; rintro e w6 ⟨vw2, rfl, hL⟩
             have HL := Lib.hid hL
             clear hL)
          | (refine wpList_store_all rfl 32 _ _ rfl w6.heap.size #[vl', vw2, .int .i64 r2.fuse, .bool r2.off] rfl rfl _ _ (Blk.new w6 _ _) rfl (rdrow_one r2 HL.out.at_) (by kernel_rfl) ?_
             intro w7 hB7 hU7 hs7))
        have hdx6 := H5.out.1.disks.ref HL.out
        have hlow6 : w1.heap.size ≤ w6.heap.size := hdx6.upd.size
        have hdx7 := (hdx6.still ((Upd.refl _ w6).alloc (.cells zeroRd 32))).off (Blk.new w6 _ _) (by decide) (by decide) hlow6 hU7
        have hrd7 := rdat_off (HL.out.at_.upd ((Upd.refl _ w6).alloc (.cells zeroRd 32))) (Blk.new w6 _ _) (by decide) (by decide) hU7
        have hb6 := H5.out.2.upd HL.out.upd (fun e => e)
        have hb7 := (hb6.alloc (.cells zeroRd 32)).upd hU7 (fun e => by have := hb6.lt; omega)
        have H7 := Lib.hid (And.intro hB7 (And.intro hb7 (And.intro hdx7 hrd7)))
        clear hdx6 hlow6 hdx7 hrd7 hb6 hb7 hB7 hU7 hs7
        go_upto_region 17 with (first
          | (refine wpList_load_all rfl _ _ rfl w6.heap.size rfl _ _ _ H7.out.1 Tryz.underlying32 rfl rfl ?_)
          | (refine wpList_store_all rfl 32 _ _ rfl g7 #[vl', vw2, .int .i64 r2.fuse, .bool r2.off] rfl rfl _ _ H7.out.2.1 rfl (rdrow_one r2 HL.out.at_) (by kernel_rfl) ?_
             intro wy hBy hUy hsy))
        have hdxy := H7.out.2.2.1.off H7.out.2.1 (by decide) (by decide) Hg1.out hUy
        have hrdy := rdat_off H7.out.2.2.2 H7.out.2.1 (by decide) (by decide) hUy
        have HY := Lib.hid (And.intro hBy (And.intro hdxy hrdy))
        clear hBy hUy hsy hdxy hrdy H7 HL HRw
        go_wp2_with fail
        refine (hdw.out _ _ HY.out.2.1).mono ?_
        rintro e w8 ⟨rfl, hDx, hBk, hXk⟩
        have hP8 : PlayAt w1 w8 p d2 vl' vw2 r2 := ⟨hDx, HY.out.2.2.kept hXk, HI.out.1⟩
        have H8 := Lib.hid (And.intro hP8 (hBk _ _ _ HY.out.1 (by decide) (by decide)))
        clear hDx hBk hXk hP8 HY hdw
        go_wp2_with fail
        go_roundw
        case rel => exact ⟨k + 1, d2, vl', vw2, r2, by omega, by go_num, H8.out.1, H8.out.2, by have := HI.out.2.1; omega, by rw [HI.out.2.2]; exact HDl.out⟩
        case measure => simp only [intOf]; omega
    · obtain rfl : k = l.length := by omega
      go_upto_region 19 with fail
      go_upto_region 20 with (first
        | (refine wpList_load_all rfl _ _ rfl g7 rfl _ _ _ H.out.2 Tryz.underlying32 rfl rfl ?_))
      obtain ⟨wb, hwb⟩ : ∃ wb, wa.alloc (.cells #[.pointer (some ⟨p, 0, none⟩), .pointer none, vl', vw', .int .i64 r.fuse, .bool r.off, .int .i64 0, .string ⟨#[]⟩, .int .u64 0, .int .i64 0, .int .u64 0, .bool false, .int .i64 0] 41) = wb := ⟨_, rfl⟩
      have hW0 : W9b w1 wb wa.heap.size p d vl' vw' r (.pointer none) kz 0 := by
        rw [← hwb]
        exact ⟨H.out.1.still ((Upd.refl _ wa).alloc _), Blk.new wa _ _, H.out.1.disks.upd.size⟩
      have HO9 := Lib.hid (open_9b hW0 0)
      have Hwb := Lib.hid hwb
      clear hwb hW0 H
      rw [Hwb.out]
      clear Hwb
      obtain ⟨x, hx⟩ : ∃ x, wa.heap.size = x := ⟨_, rfl⟩
      rw [hx] at HO9 ⊢
      clear hx
      go_wp2_with fail
      refine HO9.out.mono ?_
      rintro e w5 ⟨rfl, kv, V, hW5, -⟩
      have H5 := Lib.hid hW5
      clear hW5 HO9
      go_wp2_with fail
      go_loopw [14, 15, 16] (fun i _ _ wr => ∃ (j : Nat) (d : Dk) (vl vw : Value) (r : Rd) (kv : Value) (V : Kp) (n' : Int), j ≤ 2 ∧ i = .int .i64 (j : Int) ∧ W9 w1 wr x p d vl vw r kv V n' ∧ d.pend ≤ l.length + 20 * j ∧ d.lasts.length = 20) (fun i _ _ _ => 2 - (intOf i).toNat)
      case atStart => exact ⟨0, _, _, _, _, _, _, _, by omega, rfl, H5.out, by omega, HDl.out⟩
      case round =>
        rename World => wc
        obtain ⟨j, d, vl, vw, r, kv, V, n', hj, rfl, hW, hpe, hdl⟩ := hrel
        have H := Lib.hid hW
        have HDl2 := Lib.hid hdl
        clear hW H5 hdl
        by_cases hjlt : j < 2
        · have hc := H.out.blk.cells13
          have HG := Lib.hid (get_9 H.out.kept)
          have hok : (⟨0, t, 0, 0, ⟨#[]⟩, .slice none 0 0, []⟩ : Act9).ok w1 := ⟨by show i64ok 0; unfold i64ok; omega, by show t.size ≤ _; omega, by show i64ok 0; unfold i64ok; omega, by show i64ok 0; unfold i64ok; omega, by show (0 : Nat) ≤ _; omega, ⟨⟨none, 0, rfl, by simp, by simp⟩, by simp⟩⟩
          have hdo : ∀ W, Upd (fun _ => False) wc W → _ := fun W hu => does_9 (H.out.still hu) ⟨0, t, 0, 0, ⟨#[]⟩, .slice none 0 0, []⟩ hok 0 (by omega) (by omega) (by omega)
          simp only at hdo
          have HD := Lib.hid hdo
          clear hok hdo
          go_wp2_with fail
          refine HG.out.mono ?_
          rintro e w6 ⟨rfl, hU6⟩
          have H6 := Lib.hid hU6
          have hc6 := (H.out.blk.upd hU6 (fun e => e)).cells13
          clear hU6 hc
          obtain ⟨T, hT⟩ : ∃ T, str V.text = T := ⟨_, rfl⟩
          obtain ⟨B, hB⟩ : ∃ B, decide (0 < V.gen) = B := ⟨_, rfl⟩
          rw [hT] at hc6 ⊢
          rw [hB]
          clear hT
          go_wp2_with fail
          refine (HD.out _ H6.out).mono ?_
          rintro e w7 ⟨rfl, d2, vl2, vw2, r2, kv2, V2, n2, hW7, hp7, hl7⟩
          have H7 := Lib.hid hW7
          have HB7 := Lib.hid (And.intro hp7 hl7)
          clear hW7 hp7 hl7 hc6 hB
          go_wp2_with fail
          go_roundw
          case rel => exact ⟨j + 1, d2, vl2, vw2, r2, _, _, _, by omega, by go_num, H7.out, by have := HB7.out.1; omega, by rw [HB7.out.2]; exact HDl2.out⟩
          case measure => simp only [intOf]; omega
        · have HO := Lib.hid (open_9 H.out 0)
          go_wp2_with fail
          refine HO.out.mono ?_
          rintro e w6 ⟨rfl, kv6, V6, hW6⟩
          have H6 := Lib.hid hW6
          clear hW6
          go_wp2_with fail
          go_ret
          exact ⟨rfl, HU1.out.then H6.out.play.disks.upd (fun _ e => e.elim)⟩
end Go.Proofs.YtnmbhoidnbideaaGreat
