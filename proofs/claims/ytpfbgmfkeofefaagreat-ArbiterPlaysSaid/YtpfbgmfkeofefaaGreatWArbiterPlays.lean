/-
  ArbiterPlays: the walk.
-/
import Derived.Test.YtpfbgmfkeofefaaGreatLaw23
import Derived.Test.YtpfbgmfkeofefaaGreatArbC
namespace Go.Proofs.YtpfbgmfkeofefaaGreat
open Go Go.RowKit

theorem fresh_openP : openP (Dk.fresh 20) 0 = (some ⟨0, [], 0, 1, 0, false⟩, 0) := by
  have h1 : (Dk.fresh 20).lasts.length = 20 := by simp [Dk.fresh]
  have h2 : openN (Dk.fresh 20) 0 2 = some ⟨0, [], 0, 1, 0, false⟩ := (fresh_is 20 0 (by omega)).from_eq
  unfold openP
  rw [if_neg (by rw [h1]; omega), if_neg (show ¬ (Dk.fresh 20).off = true by decide), show (0 : Int).toNat = 0 from rfl, h2]
  rfl
/-- What the law's first part leaves: the first register's bytes put, or nothing. -/
structure Start23 (w1 wr : World) (g p : Nat) (d : Dk) (vl vw : Value) (r : Rd) : Prop where
  play : PlayAt w1 wr p d vl vw r
  blk : Blk wr g 33 #[vl, vw, .int .i64 r.fuse, .bool r.off]
  low : w1.heap.size ≤ g
  pend : d.pend ≤ 20
  len : d.lasts.length = 20
/-- The first record of a fresh disk, and of its twin. -/
theorem putK_first (t : ByteArray) (ht : t.size ≤ 400) : (putK (Dk.fresh 20) ⟨0, [], 0, 1, 0, false⟩ t.data.toList).1.pend ≤ 20 ∧ (putK (Dk.fresh 20) ⟨0, [], 0, 1, 0, false⟩ t.data.toList).1.lasts.length = 20 := by
  have h1 := putK_pend (d := Dk.fresh 20) ⟨0, [], 0, 1, 0, false⟩ t.data.toList (by simp [Dk.fresh])
  have h2 := allOf_le9 (n := t.data.toList.length) (by simpa using ht)
  have h3 : (Dk.fresh 20).pend = 0 := by show ((Dk.fresh 20).waits.map List.length).sum = 0; simp [Dk.fresh]
  have h4 : (Dk.fresh 20).lasts.length = 20 := by simp [Dk.fresh]
  omega
/-- What stands while the first register's bytes are put. -/
structure Mid23 (w1 W : World) (g p b : Nat) (d : Dk) (k : Kp) (vl vw : Value) (r : Rd) (row : Array Value) : Prop where
  disks : DksX w1 W [(p, d)] (RdX vl vw)
  rd : RdAt W vl vw r
  blk : Blk W g 33 row
  kept : KpS w1 W p b k
section
variable {w1 W W' : World} {g p b q : Nat} {d : Dk} {k : Kp} {vl vw vl' vw' : Value} {r r' : Rd} {row cs : Array Value} {t : TypeId}
theorem Mid23.still (h : Mid23 w1 W g p b d k vl vw r row) (hu : Upd (fun _ => False) W W') : Mid23 w1 W' g p b d k vl vw r row := ⟨h.disks.still hu, h.rd.upd hu, h.blk.upd hu (fun e => e), h.kept.still hu⟩
theorem Mid23.own (h : Mid23 w1 W g p b d k vl vw r row) (hB : Blk W q t cs) (h1 : t ≠ 93) (h2 : t ≠ 9) (h3 : t ≠ 117) (h4 : t ≠ 122) (hg : g ≠ q) (hq : w1.heap.size ≤ q) (hu : Upd (· = q) W W') : Mid23 w1 W' g p b d k vl vw r row :=
  ⟨h.disks.off hB h1 h2 hq hu, ⟨h.rd.lasts.upd hu (fun _ hx e => h.rd.ne hB (Ne.symm h2) (Ne.symm h3) (.inl (by rw [← show _ = q from e]; exact hx))), h.rd.ws.upd hu (fun _ hx e => h.rd.ne hB (Ne.symm h2) (Ne.symm h3) (.inr (by rw [← show _ = q from e]; exact hx)))⟩, h.blk.upd hu hg,
    ⟨h.kept.blk.upd hu (fun e => hB.ne_ h.kept.blk h4 e.symm), h.kept.new⟩⟩
theorem Mid23.ref (h : Mid23 w1 W g p b d k vl vw r row) (hL : RdLeft W W' vl vw vl' vw' r') : Mid23 w1 W' g p b d k vl' vw' r' row := ⟨h.disks.ref hL, hL.at_, h.blk.upd hL.upd (fun e => e), h.kept.still hL.upd⟩
theorem Mid23.put {row' : Array Value} (h : Mid23 w1 W g p b d k vl vw r row) (hg : w1.heap.size ≤ g) (hB' : Blk W' g 33 row') (hu : Upd (· = g) W W') : Mid23 w1 W' g p b d k vl vw r row' :=
  ⟨h.disks.off h.blk (by decide) (by decide) hg hu, ⟨h.rd.lasts.upd hu (fun _ hx e => h.rd.ne h.blk (by decide) (by decide) (.inl (by rw [← show _ = g from e]; exact hx))), h.rd.ws.upd hu (fun _ hx e => h.rd.ne h.blk (by decide) (by decide) (.inr (by rw [← show _ = g from e]; exact hx)))⟩, hB',
    ⟨h.kept.blk.upd hu (fun e => h.blk.ne_ h.kept.blk (by decide) e.symm), h.kept.new⟩⟩
end
set_option maxRecDepth 100000 in
set_option maxHeartbeats 6400000 in
theorem walk_ArbiterPlays {v : Value} {t : ByteArray} {l : List Act23} (w : World) (hb : t.size ≤ maxLen) (hA : IsActs23 w v l) :
    Calls Tryz.prog 5 #[.string t, v] w fun e w' => e = .returned (.bool true) ∧ Upd (fun _ => False) w w' := by
  unfold maxLen at hb
  have HW := Lib.hid (awake_23 w)
  have HA := Lib.hid hA
  obtain ⟨A, cap, bA, off, rfl, hml, hA0, hcells, hok⟩ := hA.open_
  have HC := Lib.hid (And.intro hcells hok)
  have hA0' := Lib.hid hA0
  clear hA hcells hok hA0
  go_enter Tryz.func5, Tryz.ntmps5
  go_wp2_with fail
  refine HW.out.mono ?_
  rintro e w1 ⟨rfl, hU1⟩
  have HU1 := Lib.hid hU1
  clear hU1 HW
  go_wp2_with fail
  refine (great_23 w w1 HA.out HU1.out).mono ?_
  rintro e w' ⟨bg, rfl, rfl, hge⟩
  have HG0 := Lib.hid hge
  clear hge
  cases bg
  · obtain ⟨hl60, -⟩ := HG0.out.ok rfl
    clear HG0
    by_cases h400 : 400 < t.size
    · go_wp2_with fail
      go_ret
      exact ⟨rfl, HU1.out⟩
    go_wp2_with fail
    refine (new_x (Dks.none_ w1) 20 20 rfl (by omega) (by omega)).mono ?_
    rintro e w2 ⟨p, rfl, hD⟩
    have H2 : Hid (Dks w1 w2 [(p, Dk.fresh 20)]) := hD
    clear hD
    go_upto_region 6 with fail
    go_upto_region 7 with (first
      | (go_at_call 10
         refine (rnew_c 20 w2 (by omega) (by omega)).mono ?_
         rintro e w3 ⟨vl, rfl, hR3, hU3, hf3⟩
         have H3 := Lib.hid (And.intro hR3 (And.intro hU3 hf3))
         clear hR3 hU3 hf3)
      | (refine wpList_store_all rfl 33 _ _ rfl w3.heap.size #[vl, .slice none 0 0, .int .i64 (-1), .bool false] rfl rfl _ _ (Blk.new w3 _ _) rfl (row_one _ _ H3.out.1.lasts.one rfl _ _) (by kernel_rfl) ?_
         intro w4 hB4 hU4 hs4
         have H4 := Lib.hid (And.intro hB4 hU4)
         clear hB4 hU4 hs4))
    have hP3 : PlayAt w1 w3 p (Dk.fresh 20) vl (.slice none 0 0) ⟨List.replicate 20 zeros64, [], -1, false⟩ :=
      ⟨(DksX.of H2.out).turn H3.out.2.1 (fun q hq => .inr (by
        rcases hq with h | h
        · exact ⟨H3.out.2.2 q h, H3.out.1.lasts.lt h⟩
        · simp [Value.ownBlock] at h)), H3.out.1, RdIs.fresh 20⟩
    have hg1 := hP3.disks.upd.size
    have hP4 := (hP3.still ((Upd.refl _ w3).alloc (.cells zeroRd 33))).store (Blk.new w3 _ _) hg1 H4.out.2
    have HP4 := Lib.hid hP4
    have HB4 := Lib.hid H4.out.1
    have hn2 : Hid ((Dk.fresh 20).pend = 0) := by show ((Dk.fresh 20).waits.map List.length).sum = 0; simp [Dk.fresh]
    have hn4 : Hid ((Dk.fresh 20).lasts.length = 20) := by show _ = _; simp [Dk.fresh]
    obtain ⟨g7, hg7⟩ : ∃ g, w3.heap.size = g := ⟨_, rfl⟩
    rw [hg7] at HB4 hg1 ⊢
    have Hg1 := Lib.hid hg1
    have HS : Hid (Start23 w1 w4 g7 p (Dk.fresh 20) vl (.slice none 0 0) ⟨List.replicate 20 zeros64, [], -1, false⟩) := Lib.hid ⟨HP4.out, HB4.out, Hg1.out, by rw [hn2.out]; omega, hn4.out⟩
    clear H2 H3 H4 hP3 hg1 hP4 hg7 HP4 HB4
    have hok : ∀ a ∈ l, a.ok w1 := fun a ha => by
      have h := HC.out.2 a ha
      exact ⟨h.do_, h.c, h.n, ⟨h.keep.1.upd HU1.out, h.keep.2⟩⟩
    have HO := Lib.hid hok
    clear hok
    have HPt := Lib.hid (putK_first t (by omega))
    go_upto_if 42 with fail
    obtain ⟨B, hB⟩ : ∃ B : Bool, (!t.toList.isEmpty) = B := ⟨_, rfl⟩
    rw [hB]
    clear hB
    go_cut [9, 10, 11, 12, 13, 14, 15] from 43 to 74 (fun _ _ _ _ _ _ _ wr => ∃ (d : Dk) (vl vw : Value) (r : Rd), Start23 w1 wr g7 p d vl vw r)
    case first =>
      cases B
      · go_wp2_with fail
        go_meet
        exact ⟨_, _, _, _, HS.out⟩
      · have hK0 : (⟨0, [], 0, 1, 0, false⟩ : Kp).fits := ⟨by show (1 : Nat) ≤ 1; omega, by show (0 : Nat) ≤ 4096; omega, by show (0 : Nat) < _; omega, fun _ => rfl⟩
        have HOp : Hid (Calls Tryz.prog 20 #[.pointer (some ⟨p, 0, none⟩), .int .i64 0] w4 fun e w' => ∃ b, e = .returned (.tuple #[.pointer (some ⟨b, 0, none⟩), .int .i64 0]) ∧ KpS w1 w' p b ⟨0, [], 0, 1, 0, false⟩ ∧ Upd (fun _ => False) w4 w') := Lib.hid (by
          have := open_p (HS.out.play.disks.one 0 rfl) 0
          rw [fresh_openP] at this
          refine this.mono ?_
          rintro e w' ⟨v, rfl, hS⟩
          obtain ⟨b, rfl, hk, -⟩ := hS.ok _ rfl
          exact ⟨b, rfl, hk, hS.upd⟩)
        have hwf := (HS.out.play.disks.one 0 rfl).wf
        have HRo : Hid (∀ W, Upd (fun _ => False) w4 W → Calls Tryz.prog 21 #[.agg #[vl, .slice none 0 0, .int .i64 (-1), .bool false], .int .i64 0] W fun e w' => e = .returned (.tuple #[.agg (Kp.row ⟨0, [], 0, 1, 0, false⟩), .int .i64 0]) ∧ Upd (fun _ => False) W w') := Lib.hid fun W hu => by
          have := ropen_p (HS.out.play.rd.upd hu) HS.out.play.is hwf 0
          rw [fresh_openP] at this
          exact this
        obtain ⟨hri, hrq⟩ := put_ref HS.out.play.is hwf.len ⟨0, [], 0, 1, 0, false⟩ t.data.toList
        have hRp0 := fun (W : World) (hW : RdAt W vl (.slice none 0 0) ⟨List.replicate 20 zeros64, [], -1, false⟩) => rput_p (k := ⟨0, [], 0, 1, 0, false⟩) hW HS.out.play.fits hK0 (by show 0 + 20 ≤ 1000000; omega) t
        obtain ⟨⟨R1, K1, E1⟩, hR⟩ : ∃ R, putR ⟨List.replicate 20 zeros64, [], -1, false⟩ ⟨0, [], 0, 1, 0, false⟩ t.data.toList = R := ⟨_, rfl⟩
        obtain ⟨⟨Q1, K2, E2⟩, hQ⟩ : ∃ R, putK (Dk.fresh 20) ⟨0, [], 0, 1, 0, false⟩ t.data.toList = R := ⟨_, rfl⟩
        have HPt' := Lib.hid HPt.out
        rw [hQ] at HPt'
        rw [hR, hQ] at hri hrq
        rw [hR] at hRp0
        simp only [Prod.mk.injEq] at hri hrq hRp0
        obtain ⟨rfl, rfl⟩ := hrq
        have HRp := Lib.hid hRp0
        clear hRp0 hR HPt hwf
        have HQ := Lib.hid (And.intro hQ hri)
        clear hQ hri
        have HK0 := Lib.hid hK0
        have Hpe : Hid ((Dk.fresh 20).pend + 20 < 1000000) := Lib.hid (by rw [hn2.out]; omega)
        clear hK0
        go_wp2_with fail
        refine HOp.out.mono ?_
        rintro e w5 ⟨b, rfl, hK, hU5⟩
        have HU5 := Lib.hid hU5
        have M5 := Lib.hid (Mid23.mk (HS.out.play.disks.still hU5) (HS.out.play.rd.upd hU5) (HS.out.blk.upd hU5 (fun e => e)) hK)
        have HLow := Lib.hid HS.out.low
        clear hK hU5 HOp
        go_upto_region 11 with fail
        go_upto_region 12 with (first
          | (refine wpList_load_all rfl _ _ rfl g7 rfl _ _ _ M5.out.blk Tryz.underlying33 rfl rfl ?_)
          | (go_at_call 21; refine (HRo.out _ HU5.out).mono ?_; rintro e w6 ⟨rfl, hU6⟩
             have M6 := Lib.hid (M5.out.still hU6)
             clear hU6)
          | (refine wpList_store_all rfl 61 _ _ rfl w6.heap.size (Kp.row ⟨0, [], 0, 1, 0, false⟩) rfl rfl _ _ (Blk.new w6 _ _) rfl (Kp.row_one _) (by kernel_rfl) ?_
             intro w7 hB7 hU7 hs7))
        have hs6 := M6.out.disks.upd.size
        have hl6 := M6.out.blk.lt
        have M7 := Lib.hid ((M6.out.still ((Upd.refl _ w6).alloc (.cells zeroKp 61))).own (Blk.new w6 61 zeroKp) (by decide) (by decide) (by decide) (by decide) (by omega) hs6 hU7)
        have HB7 := Lib.hid hB7
        clear hs6 hl6 hB7 hU7 hs7 M5 M6 HRo HU5
        go_upto_region 13 with (first
          | (refine wpList_load_all rfl _ _ rfl w6.heap.size rfl _ _ _ HB7.out Tryz.underlying61 rfl rfl ?_)
          | (refine wpList_load_all rfl _ _ rfl g7 rfl _ _ _ M7.out.blk Tryz.underlying33 rfl rfl ?_)
          | (go_at_call 22; refine (HRp.out _ M7.out.rd).mono ?_; rintro e w8 ⟨vl', vw', rfl, hL⟩
             have HL := Lib.hid hL
             clear hL)
          | (refine wpList_store_all rfl 61 _ _ rfl w8.heap.size K1.row rfl rfl _ _ (two_new (w := w8) (a := zeroKp) (ta := 61) (b := zeroRd) (tb := 33) _ rfl).2.1 rfl (Kp.row_one _) (by kernel_rfl) ?_
             intro w9 hB9 hU9 hs9)
          | (refine wpList_store_all rfl 33 _ _ rfl (w8.heap.size + 1) #[vl', vw', .int .i64 R1.fuse, .bool R1.off] rfl rfl _ _ ((two_new (w := w8) (a := zeroKp) (ta := 61) (b := zeroRd) (tb := 33) _ rfl).2.2.1.upd hU9 (by omega)) rfl (rdrow_one R1 HL.out.at_) (by kernel_rfl) ?_
             intro w10 hB10 hU10 hs10))
        obtain ⟨u8, b8, c8, -⟩ := two_new (w := w8) (a := zeroKp) (ta := 61) (b := zeroRd) (tb := 33) _ rfl
        have M8 := M7.out.ref HL.out
        have hs8 := M8.disks.upd.size
        have hl8 := M8.blk.lt
        have M9 := (M8.still u8).own b8 (by decide) (by decide) (by decide) (by decide) (by omega) hs8 hU9
        have M10 := Lib.hid (M9.own (c8.upd hU9 (by omega)) (by decide) (by decide) (by decide) (by decide) (by omega) (by omega) hU10)
        have HB10 := Lib.hid hB10
        have HAt := Lib.hid HL.out.at_
        clear u8 b8 c8 M8 hs8 hl8 M9 hB9 hU9 hs9 hB10 hU10 hs10 M7 HB7 HL HRp
        go_upto_region 14 with (first
          | (refine wpList_load_all rfl _ _ rfl (w8.heap.size + 1) rfl _ _ _ HB10.out Tryz.underlying33 rfl rfl ?_)
          | (refine wpList_store_all rfl 33 _ _ rfl g7 #[vl', vw', .int .i64 R1.fuse, .bool R1.off] rfl rfl _ _ M10.out.blk rfl (rdrow_one R1 HAt.out) (by kernel_rfl) ?_
             intro w11 hB11 hU11 hs11))
        have M11 := Lib.hid (M10.out.put HLow.out hB11 hU11)
        have HPut := Lib.hid (put_v M11.out.disks M11.out.kept (M11.out.rd.ne M11.out.kept.blk (by decide) (by decide)) HK0.out Hpe.out t)
        rw [HQ.out.1] at HPut
        simp only at HPut
        clear hB11 hU11 hs11 M10 HB10 HAt
        go_wp2_with fail
        refine HPut.out.mono ?_
        rintro e w12 ⟨rfl, hDx, hKp, hBk, hXk⟩
        have HE : Hid (Start23 w1 w12 g7 p Q1 vl' vw' R1) := Lib.hid ⟨⟨hDx, M11.out.rd.kept hXk, HQ.out.2⟩, hBk _ _ _ M11.out.blk (by decide) (by decide) (by decide), HLow.out, HPt'.out.1, HPt'.out.2⟩
        clear hDx hKp hBk hXk
        go_wp2_with fail
        go_meet
        exact ⟨_, _, _, _, HE.out⟩
    case rest =>
      obtain ⟨d, vl', vw', r, hS⟩ := hcut
      rename World => wr
      have H := Lib.hid hS
      clear hS HS HPt
      go_upto_region 17 with (first
        | (refine wpList_load_all rfl _ _ rfl g7 rfl _ _ _ H.out.blk Tryz.underlying33 rfl rfl ?_))
      obtain ⟨wb, hwb⟩ : ∃ wb, wr.alloc (.cells #[.pointer (some ⟨p, 0, none⟩), .pointer none, vl', vw', .int .i64 r.fuse, .bool r.off, .int .i64 0, .string ⟨#[]⟩, .int .u64 0, .int .i64 0, .int .u64 0, .bool false, .int .i64 0, .int .i64 0, .int .i64 0] 71) = wb := ⟨_, rfl⟩
      have hW0 : W23b w1 wb wr.heap.size p d vl' vw' r (.pointer none) kz 0 0 0 := by
        rw [← hwb]
        exact ⟨H.out.play.still ((Upd.refl _ wr).alloc _), Blk.new wr _ _, H.out.play.disks.upd.size⟩
      have HO9 := Lib.hid (open_23b hW0)
      have Hwb := Lib.hid hwb
      have HDl := Lib.hid (And.intro H.out.pend H.out.len)
      clear hwb hW0 H
      rw [Hwb.out]
      clear Hwb
      obtain ⟨x, hx⟩ : ∃ x, wr.heap.size = x := ⟨_, rfl⟩
      rw [hx] at HO9 ⊢
      clear hx
      go_wp2_with fail
      refine HO9.out.mono ?_
      rintro e w5 ⟨rfl, av, V, N, hh, hW5, -⟩
      obtain ⟨n0, hn0⟩ : ∃ n, (openAP d).2 = n := ⟨_, rfl⟩
      rw [hn0] at hW5
      have H5 := Lib.hid hW5
      clear hW5 HO9 hn0
      go_wp2_with fail
      go_loopw [17] (fun i wr => ∃ (j : Nat) (d : Dk) (vl vw : Value) (r : Rd) (av : Value) (V : Kp) (N : Nat) (hh n' : Int), j ≤ l.length ∧ i = .int .i64 (j : Int) ∧ W23 w1 wr x p d vl vw r av V N hh n' ∧ d.pend ≤ 20 + 20 * j) (fun i _ => l.length - (intOf i).toNat)
      case atStart => exact ⟨0, _, _, _, _, _, _, _, _, _, by omega, rfl, H5.out, by have := HDl.out.1; omega⟩
      case round =>
        rename World => wc
        obtain ⟨j, d, vl, vw, r, av, V, N, hh, n', hj, rfl, hW, hpe⟩ := hrel
        have H := Lib.hid hW
        clear hW H5
        by_cases hlt : j < l.length
        · obtain rfl := hA0'.out (by omega)
          have hUa : Upd (fun _ => False) w wc := HU1.out.then H.out.play.disks.upd (fun _ e => e.elim)
          have hca := HC.out.1 wc hUa j hlt
          have hok := HO.out l[j] (List.getElem_mem hlt)
          have hdo := does_23 H.out l[j] hok (by omega)
          obtain ⟨a, ha⟩ : ∃ a, l[j] = a := ⟨_, rfl⟩
          rw [ha] at hca hdo
          obtain ⟨do_, c, n_, kp, ks⟩ := a
          simp only at hca hdo
          have HD := Lib.hid hdo
          clear hdo hok hUa ha H
          go_wp2_with fail
          refine HD.out.mono ?_
          rintro e w6 ⟨rfl, d2, vl2, vw2, r2, av2, V2, N2, h2, n2, hW6, hp6, hl6⟩
          have H6 := Lib.hid hW6
          have hc6 := hW6.blk.cells15
          clear hW6 hca HD hl6
          go_upto_region 24 with fail
          have hB6 := H6.out.blk
          rcases H6.out.kept with ⟨hn2, -, -, a2, b2, hav, hA2, -⟩ | ⟨hn2, hav, -⟩
          · subst hn2
            subst hav
            have HA2 := Lib.hid hA2
            clear hA2 hc6
            refine wp_region_noPanic ?_
            refine wp_region_T (S := fun w' => Upd (fun _ => False) w6 w') (T := fun _ => false) (by kernel_rfl) ?_
            have hS0 : Upd (fun _ => False) w6 w6.drew := (Upd.refl _ w6).drew
            refine wpAnyT_take (i := 0) (v := ?_) rfl (by kernel_rfl) (by kernel_rfl) (by kernel_rfl) (by kernel_rfl) (fun _ _ _ h => h) (takes_yield rfl (Or.inl ⟨by rfl, ?_⟩)) (by assumption) (by kernel_rfl) ?_
            rotate_left 1
            · intro w' hSw; have hcw := (hB6.upd hSw (fun e => e)).cells15; go_split_ands; first | (go_simp; done) | (go_simp; rfl) | rfl
            simp only [Act.put, List.getElem_toArray, List.getElem_cons_zero, List.setIfInBounds_toArray, List.set_cons_zero, List.set_cons_succ]
            refine wpAnyT_take (i := 1) (v := ?_) rfl (by kernel_rfl) (by kernel_rfl) (by kernel_rfl) (by kernel_rfl) (fun _ _ _ h => h) (takes_yield rfl (Or.inl ⟨by rfl, ?_⟩)) (by assumption) (by kernel_rfl) ?_
            rotate_left 1
            · intro w' hSw; have hcw := (hB6.upd hSw (fun e => e)).cells15; go_split_ands; first | (go_simp; done) | (go_simp; rfl) | rfl
            simp only [Act.put, List.getElem_toArray, List.getElem_cons_zero, List.getElem_cons_succ, List.setIfInBounds_toArray, List.set_cons_zero, List.set_cons_succ]
            refine wpAnyT_take (i := 2) (v := ?_) rfl (by kernel_rfl) (by kernel_rfl) (by kernel_rfl) (by kernel_rfl) (fun _ _ _ h => h) (takes_yield rfl (Or.inl ⟨by rfl, ?_⟩)) (by assumption) (by kernel_rfl) ?_
            rotate_left 1
            · intro w' hSw; have hcw := (hB6.upd hSw (fun e => e)).cells15; go_split_ands; first | (go_simp; done) | (go_simp; rfl) | rfl
            simp only [Act.put, List.getElem_toArray, List.getElem_cons_zero, List.getElem_cons_succ, List.setIfInBounds_toArray, List.set_cons_zero, List.set_cons_succ]
            refine wpAnyT_take (i := 3) (v := ?_) rfl (by kernel_rfl) (by kernel_rfl) (by kernel_rfl) (by kernel_rfl) (fun _ _ _ h => h) (takes_yield rfl (Or.inl ⟨by rfl, ?_⟩)) (by assumption) (by kernel_rfl) ?_
            rotate_left 1
            · intro w' hSw; have hcw := (hB6.upd hSw (fun e => e)).cells15; go_split_ands; first | (go_simp; done) | (go_simp; rfl) | rfl
            simp only [Act.put, List.getElem_toArray, List.getElem_cons_zero, List.getElem_cons_succ, List.setIfInBounds_toArray, List.set_cons_zero, List.set_cons_succ]
            refine wpAnyT_take (i := 4) (v := ?_) rfl (by kernel_rfl) (by kernel_rfl) (by kernel_rfl) (by kernel_rfl) (fun _ _ _ h => h) (takes_yield rfl (Or.inl ⟨by rfl, ?_⟩)) (by assumption) (by kernel_rfl) ?_
            rotate_left 1
            · intro w' hSw; have hcw := (hB6.upd hSw (fun e => e)).cells15; go_split_ands; first | (go_simp; done) | (go_simp; rfl) | rfl
            simp only [Act.put, List.getElem_toArray, List.getElem_cons_zero, List.getElem_cons_succ, List.setIfInBounds_toArray, List.set_cons_zero, List.set_cons_succ]
            refine wpAnyT_take (i := 5) (v := ?_) rfl (by kernel_rfl) (by kernel_rfl) (by kernel_rfl) (by kernel_rfl) (fun _ _ _ h => h) (takes_yield rfl (Or.inl ⟨by rfl, ?_⟩)) (by assumption) (by kernel_rfl) ?_
            rotate_left 1
            · intro w' hSw; have hcw := (hB6.upd hSw (fun e => e)).cells15; go_split_ands; first | (go_simp; done) | (go_simp; rfl) | rfl
            simp only [Act.put, List.getElem_toArray, List.getElem_cons_zero, List.getElem_cons_succ, List.setIfInBounds_toArray, List.set_cons_zero, List.set_cons_succ]
            refine wpAnyT_take (i := 6) (v := undef) rfl (by kernel_rfl) (by kernel_rfl) (by kernel_rfl) (by kernel_rfl) (fun _ _ _ h => h) (takes_yield rfl (Or.inr ⟨by rfl, rfl⟩)) (by assumption) (by kernel_rfl) ?_
            simp only [Act.put, List.getElem_toArray, List.getElem_cons_zero, List.getElem_cons_succ, List.setIfInBounds_toArray, List.set_cons_zero, List.set_cons_succ]
            refine wpAnyT_take (i := 7) (v := undef) rfl (by kernel_rfl) (by kernel_rfl) (by kernel_rfl) (by kernel_rfl) (fun _ _ _ h => h) (takes_yield rfl (Or.inr ⟨by rfl, rfl⟩)) (by assumption) (by kernel_rfl) ?_
            simp only [Act.put, List.getElem_toArray, List.getElem_cons_zero, List.getElem_cons_succ, List.setIfInBounds_toArray, List.set_cons_zero, List.set_cons_succ]
            refine wpAnyT_take (i := 8) (v := undef) rfl (by kernel_rfl) (by kernel_rfl) (by kernel_rfl) (by kernel_rfl) (fun _ _ _ h => h) (takes_yield rfl (Or.inr ⟨by rfl, rfl⟩)) (by assumption) (by kernel_rfl) ?_
            simp only [Act.put, List.getElem_toArray, List.getElem_cons_zero, List.getElem_cons_succ, List.setIfInBounds_toArray, List.set_cons_zero, List.set_cons_succ]
            refine wpAnyT_take (i := 9) (v := undef) rfl (by kernel_rfl) (by kernel_rfl) (by kernel_rfl) (by kernel_rfl) (fun _ _ _ h => h) (takes_yield rfl (Or.inr ⟨by rfl, rfl⟩)) (by assumption) (by kernel_rfl) ?_
            simp only [Act.put, List.getElem_toArray, List.getElem_cons_zero, List.getElem_cons_succ, List.setIfInBounds_toArray, List.set_cons_zero, List.set_cons_succ]
            refine wpAnyT_take (i := 10) (v := undef) rfl (by kernel_rfl) (by kernel_rfl) (by kernel_rfl) (by kernel_rfl) (fun _ _ _ h => h) (takes_yield rfl (Or.inr ⟨by rfl, rfl⟩)) (by assumption) (by kernel_rfl) ?_
            simp only [Act.put, List.getElem_toArray, List.getElem_cons_zero, List.getElem_cons_succ, List.setIfInBounds_toArray, List.set_cons_zero, List.set_cons_succ]
            refine wpAnyT_take (i := 11) (v := undef) rfl (by kernel_rfl) (by kernel_rfl) (by kernel_rfl) (by kernel_rfl) (fun _ _ _ h => h) (takes_yield rfl (Or.inr ⟨by rfl, rfl⟩)) (by assumption) (by kernel_rfl) ?_
            simp only [Act.put, List.getElem_toArray, List.getElem_cons_zero, List.getElem_cons_succ, List.setIfInBounds_toArray, List.set_cons_zero, List.set_cons_succ]
            refine wpAnyT_take (i := 12) (v := undef) rfl (by kernel_rfl) (by kernel_rfl) (by kernel_rfl) (by kernel_rfl) (fun _ _ _ h => h) (takes_yield rfl (Or.inr ⟨by rfl, rfl⟩)) (by assumption) (by kernel_rfl) ?_
            simp only [Act.put, List.getElem_toArray, List.getElem_cons_zero, List.getElem_cons_succ, List.setIfInBounds_toArray, List.set_cons_zero, List.set_cons_succ]
            refine wpAnyT_take (i := 13) (v := undef) rfl (by kernel_rfl) (by kernel_rfl) (by kernel_rfl) (by kernel_rfl) (fun _ _ _ h => h) (takes_yield rfl (Or.inr ⟨by rfl, rfl⟩)) (by assumption) (by kernel_rfl) ?_
            simp only [Act.put, List.getElem_toArray, List.getElem_cons_zero, List.getElem_cons_succ, List.setIfInBounds_toArray, List.set_cons_zero, List.set_cons_succ]
            refine wpAnyT_take (i := 14) (v := undef) rfl (by kernel_rfl) (by kernel_rfl) (by kernel_rfl) (by kernel_rfl) (fun _ _ _ h => h) (takes_yield rfl (Or.inr ⟨by rfl, rfl⟩)) (by assumption) (by kernel_rfl) ?_
            simp only [Act.put, List.getElem_toArray, List.getElem_cons_zero, List.getElem_cons_succ, List.setIfInBounds_toArray, List.set_cons_zero, List.set_cons_succ]
            refine wpAnyT_take (i := 15) (v := undef) rfl (by kernel_rfl) (by kernel_rfl) (by kernel_rfl) (by kernel_rfl) (fun _ _ _ h => h) (takes_yield rfl (Or.inr ⟨by rfl, rfl⟩)) (by assumption) (by kernel_rfl) ?_
            simp only [Act.put, List.getElem_toArray, List.getElem_cons_zero, List.getElem_cons_succ, List.setIfInBounds_toArray, List.set_cons_zero, List.set_cons_succ]
            refine wpAnyT_take (i := 16) (v := undef) rfl (by kernel_rfl) (by kernel_rfl) (by kernel_rfl) (by kernel_rfl) (fun _ _ _ h => h) (takes_yield rfl (Or.inr ⟨by rfl, rfl⟩)) (by assumption) (by kernel_rfl) ?_
            simp only [Act.put, List.getElem_toArray, List.getElem_cons_zero, List.getElem_cons_succ, List.setIfInBounds_toArray, List.set_cons_zero, List.set_cons_succ]
            refine wpAnyT_take (i := 17) (v := undef) rfl (by kernel_rfl) (by kernel_rfl) (by kernel_rfl) (by kernel_rfl) (fun _ _ _ h => h) (takes_yield rfl (Or.inr ⟨by rfl, rfl⟩)) (by assumption) (by kernel_rfl) ?_
            simp only [Act.put, List.getElem_toArray, List.getElem_cons_zero, List.getElem_cons_succ, List.setIfInBounds_toArray, List.set_cons_zero, List.set_cons_succ]
            refine wpAnyT_take (i := 18) (v := undef) rfl (by kernel_rfl) (by kernel_rfl) (by kernel_rfl) (by kernel_rfl) (fun _ _ _ h => h) (takes_yield rfl (Or.inr ⟨by rfl, rfl⟩)) (by assumption) (by kernel_rfl) ?_
            simp only [Act.put, List.getElem_toArray, List.getElem_cons_zero, List.getElem_cons_succ, List.setIfInBounds_toArray, List.set_cons_zero, List.set_cons_succ]
            refine wpAnyT_take (i := 19) (v := undef) rfl (by kernel_rfl) (by kernel_rfl) (by kernel_rfl) (by kernel_rfl) (fun _ _ _ h => h) (takes_yield rfl (Or.inr ⟨by rfl, rfl⟩)) (by assumption) (by kernel_rfl) ?_
            simp only [Act.put, List.getElem_toArray, List.getElem_cons_zero, List.getElem_cons_succ, List.setIfInBounds_toArray, List.set_cons_zero, List.set_cons_succ]
            refine wpAnyT_take (i := 20) (v := ?_) rfl (by kernel_rfl) (by kernel_rfl) (by kernel_rfl) (by kernel_rfl) (fun _ _ _ h => h) (takes_yield rfl (Or.inl ⟨by rfl, ?_⟩)) (by assumption) (by kernel_rfl) ?_
            rotate_left 1
            · intro w' hSw; have hcw := (hB6.upd hSw (fun e => e)).cells15; go_split_ands; first | (go_simp; done) | (go_simp; rfl) | rfl
            simp only [Act.put, List.getElem_toArray, List.getElem_cons_zero, List.getElem_cons_succ, List.setIfInBounds_toArray, List.set_cons_zero, List.set_cons_succ]
            refine wpAnyT_take (i := 21) (v := ?_) rfl (by kernel_rfl) (by kernel_rfl) (by kernel_rfl) (by kernel_rfl) (fun _ _ _ h => h) (takes_yield rfl (Or.inl ⟨by rfl, ?_⟩)) (by assumption) (by kernel_rfl) ?_
            rotate_left 1
            · intro w' hSw; have hcw := (hB6.upd hSw (fun e => e)).cells15; go_split_ands; first | (go_simp; done) | (go_simp; rfl) | rfl
            simp only [Act.put, List.getElem_toArray, List.getElem_cons_zero, List.getElem_cons_succ, List.setIfInBounds_toArray, List.set_cons_zero, List.set_cons_succ]
            refine wpAnyT_take (i := 22) (v := ?_) rfl (by kernel_rfl) (by kernel_rfl) (by kernel_rfl) (by kernel_rfl) (fun _ _ _ h => h) (takes_yield rfl (Or.inl ⟨by rfl, ?_⟩)) (by assumption) (by kernel_rfl) ?_
            rotate_left 1
            · intro w' hSw; have hcw := (hB6.upd hSw (fun e => e)).cells15; go_split_ands; first | (go_simp; done) | (go_simp; rfl) | rfl
            simp only [Act.put, List.getElem_toArray, List.getElem_cons_zero, List.getElem_cons_succ, List.setIfInBounds_toArray, List.set_cons_zero, List.set_cons_succ]
            refine wpAnyT_take (i := 23) (v := ?_) rfl (by kernel_rfl) (by kernel_rfl) (by kernel_rfl) (by kernel_rfl) (fun _ _ _ h => h) (takes_yield rfl (Or.inl ⟨by rfl, ?_⟩)) (by assumption) (by kernel_rfl) ?_
            rotate_left 1
            · intro w' hSw; have hcw := (hB6.upd hSw (fun e => e)).cells15; go_split_ands; first | (go_simp; done) | (go_simp; rfl) | rfl
            simp only [Act.put, List.getElem_toArray, List.getElem_cons_zero, List.getElem_cons_succ, List.setIfInBounds_toArray, List.set_cons_zero, List.set_cons_succ]
            refine wpAnyT_take (i := 24) (v := ?_) rfl (by kernel_rfl) (by kernel_rfl) (by kernel_rfl) (by kernel_rfl) (fun _ _ _ h => h) (takes_yield rfl (Or.inl ⟨by rfl, ?_⟩)) (by assumption) (by kernel_rfl) ?_
            rotate_left 1
            · intro w' hSw; have hcw := (hB6.upd hSw (fun e => e)).cells15; go_split_ands; first | (go_simp; done) | (go_simp; rfl) | rfl
            simp only [Act.put, List.getElem_toArray, List.getElem_cons_zero, List.getElem_cons_succ, List.setIfInBounds_toArray, List.set_cons_zero, List.set_cons_succ]
            refine wpAnyT_take (i := 25) (v := ?_) rfl (by kernel_rfl) (by kernel_rfl) (by kernel_rfl) (by kernel_rfl) (fun _ _ _ h => h) (takes_yield rfl (Or.inl ⟨by rfl, ?_⟩)) (by assumption) (by kernel_rfl) ?_
            rotate_left 1
            · intro w' hSw; have hcw := (hB6.upd hSw (fun e => e)).cells15; go_split_ands; first | (go_simp; done) | (go_simp; rfl) | rfl
            simp only [Act.put, List.getElem_toArray, List.getElem_cons_zero, List.getElem_cons_succ, List.setIfInBounds_toArray, List.set_cons_zero, List.set_cons_succ]
            refine wpAnyT_take (i := 26) (v := ?_) rfl (by kernel_rfl) (by kernel_rfl) (by kernel_rfl) (by kernel_rfl) (fun _ _ _ h => h) (takes_yield rfl (Or.inl ⟨by rfl, ?_⟩)) (by assumption) (by kernel_rfl) ?_
            rotate_left 1
            · intro w' hSw; have hcw := (hB6.upd hSw (fun e => e)).cells15; go_split_ands; first | (go_simp; done) | (go_simp; rfl) | rfl
            simp only [Act.put, List.getElem_toArray, List.getElem_cons_zero, List.getElem_cons_succ, List.setIfInBounds_toArray, List.set_cons_zero, List.set_cons_succ]
            refine wpAnyT_take (i := 27) (v := ?_) rfl (by kernel_rfl) (by kernel_rfl) (by kernel_rfl) (by kernel_rfl) (fun _ _ _ h => h) (takes_yield rfl (Or.inl ⟨by rfl, ?_⟩)) (by assumption) (by kernel_rfl) ?_
            rotate_left 1
            · intro w' hSw; have hcw := (hB6.upd hSw (fun e => e)).cells15; go_split_ands; first | (go_simp; done) | (go_simp; rfl) | rfl
            simp only [Act.put, List.getElem_toArray, List.getElem_cons_zero, List.getElem_cons_succ, List.setIfInBounds_toArray, List.set_cons_zero, List.set_cons_succ]
            refine wpAnyT_take (i := 28) (v := ?_) rfl (by kernel_rfl) (by kernel_rfl) (by kernel_rfl) (by kernel_rfl) (fun _ _ _ h => h) (takes_yield rfl (Or.inl ⟨by rfl, ?_⟩)) (by assumption) (by kernel_rfl) ?_
            rotate_left 1
            · intro w' hSw; have hcw := (hB6.upd hSw (fun e => e)).cells15; go_split_ands; first | (go_simp; done) | (go_simp; rfl) | rfl
            simp only [Act.put, List.getElem_toArray, List.getElem_cons_zero, List.getElem_cons_succ, List.setIfInBounds_toArray, List.set_cons_zero, List.set_cons_succ]
            refine wpAnyT_take (i := 29) (v := ?_) rfl (by kernel_rfl) (by kernel_rfl) (by kernel_rfl) (by kernel_rfl) (fun _ _ _ h => h) (takes_yield rfl (Or.inl ⟨by rfl, ?_⟩)) (by assumption) (by kernel_rfl) ?_
            rotate_left 1
            · intro w' hSw; have hcw := (hB6.upd hSw (fun e => e)).cells15; go_split_ands; first | (go_simp; done) | (go_simp; rfl) | rfl
            simp only [Act.put, List.getElem_toArray, List.getElem_cons_zero, List.getElem_cons_succ, List.setIfInBounds_toArray, List.set_cons_zero, List.set_cons_succ]
            refine wpAnyT_take (i := 30) (v := ?_) rfl (by kernel_rfl) (by kernel_rfl) (by kernel_rfl) (by kernel_rfl) (fun _ _ _ h => h) (takes_yield rfl (Or.inl ⟨by rfl, ?_⟩)) (by assumption) (by kernel_rfl) ?_
            rotate_left 1
            · intro w' hSw; have hcw := (hB6.upd hSw (fun e => e)).cells15; go_split_ands; first | (go_simp; done) | (go_simp; rfl) | rfl
            simp only [Act.put, List.getElem_toArray, List.getElem_cons_zero, List.getElem_cons_succ, List.setIfInBounds_toArray, List.set_cons_zero, List.set_cons_succ]
            refine wpAnyT_take (i := 31) (v := ?_) rfl (by kernel_rfl) (by kernel_rfl) (by kernel_rfl) (by kernel_rfl) (fun _ _ _ h => h) (takes_yield rfl (Or.inl ⟨by rfl, ?_⟩)) (by assumption) (by kernel_rfl) ?_
            rotate_left 1
            · intro w' hSw; have hcw := (hB6.upd hSw (fun e => e)).cells15; go_split_ands; first | (go_simp; done) | (go_simp; rfl) | rfl
            simp only [Act.put, List.getElem_toArray, List.getElem_cons_zero, List.getElem_cons_succ, List.setIfInBounds_toArray, List.set_cons_zero, List.set_cons_succ]
            refine wpAnyT_take (i := 33) (v := ?_) rfl (by kernel_rfl) (by kernel_rfl) (by kernel_rfl) (by kernel_rfl) (fun _ _ _ h => h) (takes_yield rfl (Or.inl ⟨by rfl, ?_⟩)) (by assumption) (by kernel_rfl) ?_
            rotate_left 1
            · intro w' hSw; have hcw := (hB6.upd hSw (fun e => e)).cells15; go_split_ands; first | (go_simp; done) | (go_simp; rfl) | rfl
            simp only [Act.put, List.getElem_toArray, List.getElem_cons_zero, List.getElem_cons_succ, List.setIfInBounds_toArray, List.set_cons_zero, List.set_cons_succ]
            refine wpAnyT_take (i := 34) (v := ?_) rfl (by kernel_rfl) (by kernel_rfl) (by kernel_rfl) (by kernel_rfl) (fun _ _ _ h => h) (takes_yield rfl (Or.inl ⟨by rfl, ?_⟩)) (by assumption) (by kernel_rfl) ?_
            rotate_left 1
            · intro w' hSw; have hcw := (hB6.upd hSw (fun e => e)).cells15; go_split_ands; first | (go_simp; done) | (go_simp; rfl) | rfl
            simp only [Act.put, List.getElem_toArray, List.getElem_cons_zero, List.getElem_cons_succ, List.setIfInBounds_toArray, List.set_cons_zero, List.set_cons_succ]
            refine wpAnyT_take (i := 35) (v := ?_) rfl (by kernel_rfl) (by kernel_rfl) (by kernel_rfl) (by kernel_rfl) (fun _ _ _ h => h) (takes_yield rfl (Or.inl ⟨by rfl, ?_⟩)) (by assumption) (by kernel_rfl) ?_
            rotate_left 1
            · intro w' hSw; have hcw := (hB6.upd hSw (fun e => e)).cells15; go_split_ands; first | (go_simp; done) | (go_simp; rfl) | rfl
            simp only [Act.put, List.getElem_toArray, List.getElem_cons_zero, List.getElem_cons_succ, List.setIfInBounds_toArray, List.set_cons_zero, List.set_cons_succ]
            refine wpAnyT_take (i := 36) (v := ?_) rfl (by kernel_rfl) (by kernel_rfl) (by kernel_rfl) (by kernel_rfl) (fun _ _ _ h => h) (takes_yield rfl (Or.inl ⟨by rfl, ?_⟩)) (by assumption) (by kernel_rfl) ?_
            rotate_left 1
            · intro w' hSw; have hcw := (hB6.upd hSw (fun e => e)).cells15; go_split_ands; first | (go_simp; done) | (go_simp; rfl) | rfl
            simp only [Act.put, List.getElem_toArray, List.getElem_cons_zero, List.getElem_cons_succ, List.setIfInBounds_toArray, List.set_cons_zero, List.set_cons_succ]
            refine wpAnyT_take (i := 37) (v := ?_) rfl (by kernel_rfl) (by kernel_rfl) (by kernel_rfl) (by kernel_rfl) (fun _ _ _ h => h) (takes_yield rfl (Or.inl ⟨by rfl, ?_⟩)) (by assumption) (by kernel_rfl) ?_
            rotate_left 1
            · intro w' hSw; have hcw := (hB6.upd hSw (fun e => e)).cells15; go_split_ands; first | (go_simp; done) | (go_simp; rfl) | rfl
            simp only [Act.put, List.getElem_toArray, List.getElem_cons_zero, List.getElem_cons_succ, List.setIfInBounds_toArray, List.set_cons_zero, List.set_cons_succ]
            refine wpAnyT_one (i := 32) (by kernel_rfl) rfl (fun K hK => ?_)
            go_simp
            refine (arb_epoch (HA2.out.still hS0)).mono ?_
            rintro e w7 ⟨rfl, rfl⟩
            refine hK.out _ _ hS0 ?_
            clear hK
            refine wpAnyT_take (i := 38) (v := ?_) rfl (by kernel_rfl) (by kernel_rfl) (by kernel_rfl) (by kernel_rfl) (fun _ _ _ h => h) (takes_yield rfl (Or.inl ⟨by rfl, ?_⟩)) (by assumption) (by kernel_rfl) ?_
            rotate_left 1
            · intro w' hSw; have hcw := (hB6.upd hSw (fun e => e)).cells15; go_split_ands; first | (go_simp; done) | (go_simp; rfl) | rfl
            simp only [Act.put, List.getElem_toArray, List.getElem_cons_zero, List.getElem_cons_succ, List.setIfInBounds_toArray, List.set_cons_zero, List.set_cons_succ]
            refine wpAnyT_take (i := 39) (v := ?_) rfl (by kernel_rfl) (by kernel_rfl) (by kernel_rfl) (by kernel_rfl) (fun _ _ _ h => h) (takes_yield rfl (Or.inl ⟨by rfl, ?_⟩)) (by assumption) (by kernel_rfl) ?_
            rotate_left 1
            · intro w' hSw; have hcw := (hB6.upd hSw (fun e => e)).cells15; go_split_ands; first | (go_simp; done) | (go_simp; rfl) | rfl
            simp only [Act.put, List.getElem_toArray, List.getElem_cons_zero, List.getElem_cons_succ, List.setIfInBounds_toArray, List.set_cons_zero, List.set_cons_succ]
            refine wpAnyT_take (i := 40) (v := ?_) rfl (by kernel_rfl) (by kernel_rfl) (by kernel_rfl) (by kernel_rfl) (fun _ _ _ h => h) (takes_yield rfl (Or.inl ⟨by rfl, ?_⟩)) (by assumption) (by kernel_rfl) ?_
            rotate_left 1
            · intro w' hSw; have hcw := (hB6.upd hSw (fun e => e)).cells15; go_split_ands; first | (go_simp; done) | (go_simp; rfl) | rfl
            simp only [Act.put, List.getElem_toArray, List.getElem_cons_zero, List.getElem_cons_succ, List.setIfInBounds_toArray, List.set_cons_zero, List.set_cons_succ]
            refine wpAnyT_take (i := 41) (v := ?_) rfl (by kernel_rfl) (by kernel_rfl) (by kernel_rfl) (by kernel_rfl) (fun _ _ _ h => h) (takes_yield rfl (Or.inl ⟨by rfl, ?_⟩)) (by assumption) (by kernel_rfl) ?_
            rotate_left 1
            · intro w' hSw; have hcw := (hB6.upd hSw (fun e => e)).cells15; go_split_ands; first | (go_simp; done) | (go_simp; rfl) | rfl
            simp only [Act.put, List.getElem_toArray, List.getElem_cons_zero, List.getElem_cons_succ, List.setIfInBounds_toArray, List.set_cons_zero, List.set_cons_succ]
            refine wpAnyT_take (i := 42) (v := ?_) rfl (by kernel_rfl) (by kernel_rfl) (by kernel_rfl) (by kernel_rfl) (fun _ _ _ h => h) (takes_yield rfl (Or.inl ⟨by rfl, ?_⟩)) (by assumption) (by kernel_rfl) ?_
            rotate_left 1
            · intro w' hSw; have hcw := (hB6.upd hSw (fun e => e)).cells15; go_split_ands; first | (go_simp; done) | (go_simp; rfl) | rfl
            simp only [Act.put, List.getElem_toArray, List.getElem_cons_zero, List.getElem_cons_succ, List.setIfInBounds_toArray, List.set_cons_zero, List.set_cons_succ]
            refine wpAnyT_take (i := 43) (v := ?_) rfl (by kernel_rfl) (by kernel_rfl) (by kernel_rfl) (by kernel_rfl) (fun _ _ _ h => h) (takes_yield rfl (Or.inl ⟨by rfl, ?_⟩)) (by assumption) (by kernel_rfl) ?_
            rotate_left 1
            · intro w' hSw; have hcw := (hB6.upd hSw (fun e => e)).cells15; go_split_ands; first | (go_simp; done) | (go_simp; rfl) | rfl
            simp only [Act.put, List.getElem_toArray, List.getElem_cons_zero, List.getElem_cons_succ, List.setIfInBounds_toArray, List.set_cons_zero, List.set_cons_succ]
            refine wpAnyT_take (i := 45) (v := ?_) rfl (by kernel_rfl) (by kernel_rfl) (by kernel_rfl) (by kernel_rfl) (fun _ _ _ h => h) (takes_yield rfl (Or.inl ⟨by rfl, ?_⟩)) (by assumption) (by kernel_rfl) ?_
            rotate_left 1
            · intro w' hSw; have hcw := (hB6.upd hSw (fun e => e)).cells15; go_split_ands; first | (go_simp; done) | (go_simp; rfl) | rfl
            simp only [Act.put, List.getElem_toArray, List.getElem_cons_zero, List.getElem_cons_succ, List.setIfInBounds_toArray, List.set_cons_zero, List.set_cons_succ]
            refine wpAnyT_take (i := 46) (v := ?_) rfl (by kernel_rfl) (by kernel_rfl) (by kernel_rfl) (by kernel_rfl) (fun _ _ _ h => h) (takes_yield rfl (Or.inl ⟨by rfl, ?_⟩)) (by assumption) (by kernel_rfl) ?_
            rotate_left 1
            · intro w' hSw; have hcw := (hB6.upd hSw (fun e => e)).cells15; go_split_ands; first | (go_simp; done) | (go_simp; rfl) | rfl
            simp only [Act.put, List.getElem_toArray, List.getElem_cons_zero, List.getElem_cons_succ, List.setIfInBounds_toArray, List.set_cons_zero, List.set_cons_succ]
            refine wpAnyT_take (i := 47) (v := ?_) rfl (by kernel_rfl) (by kernel_rfl) (by kernel_rfl) (by kernel_rfl) (fun _ _ _ h => h) (takes_yield rfl (Or.inl ⟨by rfl, ?_⟩)) (by assumption) (by kernel_rfl) ?_
            rotate_left 1
            · intro w' hSw; have hcw := (hB6.upd hSw (fun e => e)).cells15; go_split_ands; first | (go_simp; done) | (go_simp; rfl) | rfl
            simp only [Act.put, List.getElem_toArray, List.getElem_cons_zero, List.getElem_cons_succ, List.setIfInBounds_toArray, List.set_cons_zero, List.set_cons_succ]
            refine wpAnyT_take (i := 48) (v := ?_) rfl (by kernel_rfl) (by kernel_rfl) (by kernel_rfl) (by kernel_rfl) (fun _ _ _ h => h) (takes_yield rfl (Or.inl ⟨by rfl, ?_⟩)) (by assumption) (by kernel_rfl) ?_
            rotate_left 1
            · intro w' hSw; have hcw := (hB6.upd hSw (fun e => e)).cells15; go_split_ands; first | (go_simp; done) | (go_simp; rfl) | rfl
            simp only [Act.put, List.getElem_toArray, List.getElem_cons_zero, List.getElem_cons_succ, List.setIfInBounds_toArray, List.set_cons_zero, List.set_cons_succ]
            refine wpAnyT_take (i := 49) (v := ?_) rfl (by kernel_rfl) (by kernel_rfl) (by kernel_rfl) (by kernel_rfl) (fun _ _ _ h => h) (takes_yield rfl (Or.inl ⟨by rfl, ?_⟩)) (by assumption) (by kernel_rfl) ?_
            rotate_left 1
            · intro w' hSw; have hcw := (hB6.upd hSw (fun e => e)).cells15; go_split_ands; first | (go_simp; done) | (go_simp; rfl) | rfl
            simp only [Act.put, List.getElem_toArray, List.getElem_cons_zero, List.getElem_cons_succ, List.setIfInBounds_toArray, List.set_cons_zero, List.set_cons_succ]
            refine wpAnyT_one (i := 44) (by kernel_rfl) rfl (fun K hK => ?_)
            go_simp
            refine (arb_holder (HA2.out.still hS0)).mono ?_
            rintro e w7 ⟨rfl, rfl⟩
            refine hK.out _ _ hS0 ?_
            clear hK
            refine wpAnyT_take (i := 50) (v := ?_) rfl (by kernel_rfl) (by kernel_rfl) (by kernel_rfl) (by kernel_rfl) (fun _ _ _ h => h) (takes_yield rfl (Or.inl ⟨by rfl, ?_⟩)) (by assumption) (by kernel_rfl) ?_
            rotate_left 1
            · intro w' hSw; go_split_ands; first | (go_simp; done) | (go_simp; rfl) | rfl
            simp only [Act.put, List.getElem_toArray, List.getElem_cons_zero, List.getElem_cons_succ, List.setIfInBounds_toArray, List.set_cons_zero, List.set_cons_succ]
            refine wpAnyT_take (i := 51) (v := ?_) rfl (by kernel_rfl) (by kernel_rfl) (by kernel_rfl) (by kernel_rfl) (fun _ _ _ h => h) (takes_yield rfl (Or.inl ⟨by rfl, ?_⟩)) (by assumption) (by kernel_rfl) ?_
            rotate_left 1
            · intro w' hSw; go_split_ands; first | (go_simp; done) | (go_simp; rfl) | rfl
            simp only [Act.put, List.getElem_toArray, List.getElem_cons_zero, List.getElem_cons_succ, List.setIfInBounds_toArray, List.set_cons_zero, List.set_cons_succ]
            refine wpAnyT_take (i := 52) (v := ?_) rfl (by kernel_rfl) (by kernel_rfl) (by kernel_rfl) (by kernel_rfl) (fun _ _ _ h => h) (takes_yield rfl (Or.inl ⟨by rfl, ?_⟩)) (by assumption) (by kernel_rfl) ?_
            rotate_left 1
            · intro w' hSw; go_split_ands; first | (go_simp; done) | (go_simp; rfl) | rfl
            simp only [Act.put, List.getElem_toArray, List.getElem_cons_zero, List.getElem_cons_succ, List.setIfInBounds_toArray, List.set_cons_zero, List.set_cons_succ]
            refine wpAnyT_take (i := 53) (v := ?_) rfl (by kernel_rfl) (by kernel_rfl) (by kernel_rfl) (by kernel_rfl) (fun _ _ _ h => h) (takes_yield rfl (Or.inl ⟨by rfl, ?_⟩)) (by assumption) (by kernel_rfl) ?_
            rotate_left 1
            · intro w' hSw; go_split_ands; first | (go_simp; done) | (go_simp; rfl) | rfl
            simp only [Act.put, List.getElem_toArray, List.getElem_cons_zero, List.getElem_cons_succ, List.setIfInBounds_toArray, List.set_cons_zero, List.set_cons_succ]
            refine wpAnyT_done (by kernel_rfl) ?_ _
            refine NoPanic.normal ?_
            have H7 := Lib.hid (H6.out.still hS0)
            clear hS0 HA2 hB6
            go_wp2_with fail
            go_roundw
            case rel => exact ⟨j + 1, d2, vl2, vw2, r2, _, V2, N2, h2, _, by omega, by go_num, H7.out, by omega⟩
            case measure => simp only [intOf]; omega
          · subst hav
            have hne : (n2 != 0) = true := bne_iff_ne.2 hn2
            have hne2 : (n2 == 0) = false := by rw [beq_eq_false_iff_ne]; exact hn2
            clear hn2 hc6
            refine wp_region_noPanic ?_
            refine wp_region_T (S := fun w' => Upd (fun _ => False) w6 w') (T := fun _ => false) (by kernel_rfl) ?_
            have hS0 : Upd (fun _ => False) w6 w6.drew := (Upd.refl _ w6).drew
            refine wpAnyT_take (i := 0) (v := ?_) rfl (by kernel_rfl) (by kernel_rfl) (by kernel_rfl) (by kernel_rfl) (fun _ _ _ h => h) (takes_yield rfl (Or.inl ⟨by rfl, ?_⟩)) (by assumption) (by kernel_rfl) ?_
            rotate_left 1
            · intro w' hSw; have hcw := (hB6.upd hSw (fun e => e)).cells15; go_split_ands; first | (go_simp; done) | (go_simp; rfl) | rfl
            simp only [Act.put, List.getElem_toArray, List.getElem_cons_zero, List.setIfInBounds_toArray, List.set_cons_zero, List.set_cons_succ]
            refine wpAnyT_take (i := 1) (v := ?_) rfl (by kernel_rfl) (by kernel_rfl) (by kernel_rfl) (by kernel_rfl) (fun _ _ _ h => h) (takes_yield rfl (Or.inl ⟨by rfl, ?_⟩)) (by assumption) (by kernel_rfl) ?_
            rotate_left 1
            · intro w' hSw; have hcw := (hB6.upd hSw (fun e => e)).cells15; go_split_ands; first | (go_simp; done) | (go_simp; rfl) | rfl
            simp only [Act.put, List.getElem_toArray, List.getElem_cons_zero, List.getElem_cons_succ, List.setIfInBounds_toArray, List.set_cons_zero, List.set_cons_succ]
            refine wpAnyT_take (i := 2) (v := ?_) rfl (by kernel_rfl) (by kernel_rfl) (by kernel_rfl) (by kernel_rfl) (fun _ _ _ h => h) (takes_yield rfl (Or.inl ⟨by rfl, ?_⟩)) (by assumption) (by kernel_rfl) ?_
            rotate_left 1
            · intro w' hSw; have hcw := (hB6.upd hSw (fun e => e)).cells15; go_split_ands; first | (go_simp; done) | (go_simp; rfl) | rfl
            simp only [Act.put, List.getElem_toArray, List.getElem_cons_zero, List.getElem_cons_succ, List.setIfInBounds_toArray, List.set_cons_zero, List.set_cons_succ]
            refine wpAnyT_take (i := 3) (v := ?_) rfl (by kernel_rfl) (by kernel_rfl) (by kernel_rfl) (by kernel_rfl) (fun _ _ _ h => h) (takes_yield rfl (Or.inl ⟨by rfl, ?_⟩)) (by assumption) (by kernel_rfl) ?_
            rotate_left 1
            · intro w' hSw; have hcw := (hB6.upd hSw (fun e => e)).cells15; go_split_ands; first | (go_simp; done) | (go_simp; rfl) | rfl
            simp only [Act.put, List.getElem_toArray, List.getElem_cons_zero, List.getElem_cons_succ, List.setIfInBounds_toArray, List.set_cons_zero, List.set_cons_succ]
            refine wpAnyT_take (i := 4) (v := ?_) rfl (by kernel_rfl) (by kernel_rfl) (by kernel_rfl) (by kernel_rfl) (fun _ _ _ h => h) (takes_yield rfl (Or.inl ⟨by rfl, ?_⟩)) (by assumption) (by kernel_rfl) ?_
            rotate_left 1
            · intro w' hSw; have hcw := (hB6.upd hSw (fun e => e)).cells15; go_split_ands; first | (go_simp; done) | (go_simp; rfl) | rfl
            simp only [Act.put, List.getElem_toArray, List.getElem_cons_zero, List.getElem_cons_succ, List.setIfInBounds_toArray, List.set_cons_zero, List.set_cons_succ]
            refine wpAnyT_take (i := 5) (v := ?_) rfl (by kernel_rfl) (by kernel_rfl) (by kernel_rfl) (by kernel_rfl) (fun _ _ _ h => h) (takes_yield rfl (Or.inl ⟨by rfl, ?_⟩)) (by assumption) (by kernel_rfl) ?_
            rotate_left 1
            · intro w' hSw; have hcw := (hB6.upd hSw (fun e => e)).cells15; go_split_ands; first | (go_simp; done) | (go_simp; rfl) | rfl
            simp only [Act.put, List.getElem_toArray, List.getElem_cons_zero, List.getElem_cons_succ, List.setIfInBounds_toArray, List.set_cons_zero, List.set_cons_succ]
            refine wpAnyT_take (i := 6) (v := ?_) rfl (by kernel_rfl) (by kernel_rfl) (by kernel_rfl) (by kernel_rfl) (fun _ _ _ h => h) (takes_yield rfl (Or.inl ⟨by rfl, ?_⟩)) (by assumption) (by kernel_rfl) ?_
            rotate_left 1
            · intro w' hSw; have hcw := (hB6.upd hSw (fun e => e)).cells15; go_split_ands; first | (go_simp; done) | (go_simp; rfl) | rfl
            simp only [Act.put, List.getElem_toArray, List.getElem_cons_zero, List.getElem_cons_succ, List.setIfInBounds_toArray, List.set_cons_zero, List.set_cons_succ]
            refine wpAnyT_take (i := 7) (v := ?_) rfl (by kernel_rfl) (by kernel_rfl) (by kernel_rfl) (by kernel_rfl) (fun _ _ _ h => h) (takes_yield rfl (Or.inl ⟨by rfl, ?_⟩)) (by assumption) (by kernel_rfl) ?_
            rotate_left 1
            · intro w' hSw; have hcw := (hB6.upd hSw (fun e => e)).cells15; go_split_ands; first | (go_simp; done) | (go_simp; rfl) | rfl
            simp only [Act.put, List.getElem_toArray, List.getElem_cons_zero, List.getElem_cons_succ, List.setIfInBounds_toArray, List.set_cons_zero, List.set_cons_succ]
            refine wpAnyT_take (i := 8) (v := ?_) rfl (by kernel_rfl) (by kernel_rfl) (by kernel_rfl) (by kernel_rfl) (fun _ _ _ h => h) (takes_yield rfl (Or.inl ⟨by rfl, ?_⟩)) (by assumption) (by kernel_rfl) ?_
            rotate_left 1
            · intro w' hSw; have hcw := (hB6.upd hSw (fun e => e)).cells15; go_split_ands; first | (go_simp; done) | (go_simp; rfl) | rfl
            simp only [Act.put, List.getElem_toArray, List.getElem_cons_zero, List.getElem_cons_succ, List.setIfInBounds_toArray, List.set_cons_zero, List.set_cons_succ]
            refine wpAnyT_take (i := 9) (v := ?_) rfl (by kernel_rfl) (by kernel_rfl) (by kernel_rfl) (by kernel_rfl) (fun _ _ _ h => h) (takes_yield rfl (Or.inl ⟨by rfl, ?_⟩)) (by assumption) (by kernel_rfl) ?_
            rotate_left 1
            · intro w' hSw; have hcw := (hB6.upd hSw (fun e => e)).cells15; go_split_ands; first | (go_simp; done) | (go_simp; rfl) | rfl
            simp only [Act.put, List.getElem_toArray, List.getElem_cons_zero, List.getElem_cons_succ, List.setIfInBounds_toArray, List.set_cons_zero, List.set_cons_succ]
            refine wpAnyT_one (i := 10) (by kernel_rfl) rfl (fun K hK => ?_)
            go_simp
            refine (epoch_nil _).mono ?_
            rintro e w7 ⟨rfl, rfl⟩
            refine hK.out _ _ hS0 ?_
            clear hK
            refine wpAnyT_take (i := 11) (v := ?_) rfl (by kernel_rfl) (by kernel_rfl) (by kernel_rfl) (by kernel_rfl) (fun _ _ _ h => h) (takes_yield rfl (Or.inl ⟨by rfl, ?_⟩)) (by assumption) (by kernel_rfl) ?_
            rotate_left 1
            · intro w' hSw; have hcw := (hB6.upd hSw (fun e => e)).cells15; go_split_ands; first | (go_simp; done) | (go_simp; rfl) | rfl
            simp only [Act.put, List.getElem_toArray, List.getElem_cons_zero, List.getElem_cons_succ, List.setIfInBounds_toArray, List.set_cons_zero, List.set_cons_succ]
            refine wpAnyT_take (i := 12) (v := ?_) rfl (by kernel_rfl) (by kernel_rfl) (by kernel_rfl) (by kernel_rfl) (fun _ _ _ h => h) (takes_yield rfl (Or.inl ⟨by rfl, ?_⟩)) (by assumption) (by kernel_rfl) ?_
            rotate_left 1
            · intro w' hSw; have hcw := (hB6.upd hSw (fun e => e)).cells15; go_split_ands; first | (go_simp; done) | (go_simp; rfl) | rfl
            simp only [Act.put, List.getElem_toArray, List.getElem_cons_zero, List.getElem_cons_succ, List.setIfInBounds_toArray, List.set_cons_zero, List.set_cons_succ]
            refine wpAnyT_take (i := 13) (v := ?_) rfl (by kernel_rfl) (by kernel_rfl) (by kernel_rfl) (by kernel_rfl) (fun _ _ _ h => h) (takes_yield rfl (Or.inl ⟨by rfl, ?_⟩)) (by assumption) (by kernel_rfl) ?_
            rotate_left 1
            · intro w' hSw; have hcw := (hB6.upd hSw (fun e => e)).cells15; go_split_ands; first | (go_simp; done) | (go_simp; rfl) | rfl
            simp only [Act.put, List.getElem_toArray, List.getElem_cons_zero, List.getElem_cons_succ, List.setIfInBounds_toArray, List.set_cons_zero, List.set_cons_succ]
            refine wpAnyT_take (i := 14) (v := ?_) rfl (by kernel_rfl) (by kernel_rfl) (by kernel_rfl) (by kernel_rfl) (fun _ _ _ h => h) (takes_yield rfl (Or.inl ⟨by rfl, ?_⟩)) (by assumption) (by kernel_rfl) ?_
            rotate_left 1
            · intro w' hSw; have hcw := (hB6.upd hSw (fun e => e)).cells15; go_split_ands; first | (go_simp; done) | (go_simp; rfl) | rfl
            simp only [Act.put, List.getElem_toArray, List.getElem_cons_zero, List.getElem_cons_succ, List.setIfInBounds_toArray, List.set_cons_zero, List.set_cons_succ]
            refine wpAnyT_take (i := 15) (v := ?_) rfl (by kernel_rfl) (by kernel_rfl) (by kernel_rfl) (by kernel_rfl) (fun _ _ _ h => h) (takes_yield rfl (Or.inl ⟨by rfl, ?_⟩)) (by assumption) (by kernel_rfl) ?_
            rotate_left 1
            · intro w' hSw; have hcw := (hB6.upd hSw (fun e => e)).cells15; go_split_ands; first | (go_simp; done) | (go_simp; rfl) | rfl
            simp only [Act.put, List.getElem_toArray, List.getElem_cons_zero, List.getElem_cons_succ, List.setIfInBounds_toArray, List.set_cons_zero, List.set_cons_succ]
            refine wpAnyT_take (i := 16) (v := ?_) rfl (by kernel_rfl) (by kernel_rfl) (by kernel_rfl) (by kernel_rfl) (fun _ _ _ h => h) (takes_yield rfl (Or.inl ⟨by rfl, ?_⟩)) (by assumption) (by kernel_rfl) ?_
            rotate_left 1
            · intro w' hSw; have hcw := (hB6.upd hSw (fun e => e)).cells15; go_split_ands; first | (go_simp; done) | (go_simp; rfl) | rfl
            simp only [Act.put, List.getElem_toArray, List.getElem_cons_zero, List.getElem_cons_succ, List.setIfInBounds_toArray, List.set_cons_zero, List.set_cons_succ]
            refine wpAnyT_one (i := 17) (by kernel_rfl) rfl (fun K hK => ?_)
            go_simp
            refine (holder_nil _).mono ?_
            rintro e w7 ⟨rfl, rfl⟩
            refine hK.out _ _ hS0 ?_
            clear hK
            refine wpAnyT_take (i := 18) (v := ?_) rfl (by kernel_rfl) (by kernel_rfl) (by kernel_rfl) (by kernel_rfl) (fun _ _ _ h => h) (takes_yield rfl (Or.inl ⟨by rfl, ?_⟩)) (by assumption) (by kernel_rfl) ?_
            rotate_left 1
            · intro w' hSw; have hcw := (hB6.upd hSw (fun e => e)).cells15; go_split_ands; first | (go_simp; done) | (go_simp; rfl) | rfl
            simp only [Act.put, List.getElem_toArray, List.getElem_cons_zero, List.getElem_cons_succ, List.setIfInBounds_toArray, List.set_cons_zero, List.set_cons_succ]
            refine wpAnyT_take (i := 19) (v := ?_) rfl (by kernel_rfl) (by kernel_rfl) (by kernel_rfl) (by kernel_rfl) (fun _ _ _ h => h) (takes_yield rfl (Or.inl ⟨by rfl, ?_⟩)) (by assumption) (by kernel_rfl) ?_
            rotate_left 1
            · intro w' hSw; have hcw := (hB6.upd hSw (fun e => e)).cells15; go_split_ands; first | (go_simp; done) | (go_simp; rfl) | rfl
            simp only [Act.put, List.getElem_toArray, List.getElem_cons_zero, List.getElem_cons_succ, List.setIfInBounds_toArray, List.set_cons_zero, List.set_cons_succ]
            refine wpAnyT_take (i := 20) (v := ?_) rfl (by kernel_rfl) (by kernel_rfl) (by kernel_rfl) (by kernel_rfl) (fun _ _ _ h => h) (takes_yield rfl (Or.inl ⟨by rfl, ?_⟩)) (by assumption) (by kernel_rfl) ?_
            rotate_left 1
            · intro w' hSw; have hcw := (hB6.upd hSw (fun e => e)).cells15; go_split_ands; first | (go_simp; done) | (go_simp; rfl) | rfl
            simp only [Act.put, List.getElem_toArray, List.getElem_cons_zero, List.getElem_cons_succ, List.setIfInBounds_toArray, List.set_cons_zero, List.set_cons_succ]
            refine wpAnyT_take (i := 21) (v := ?_) rfl (by kernel_rfl) (by kernel_rfl) (by kernel_rfl) (by kernel_rfl) (fun _ _ _ h => h) (takes_yield rfl (Or.inl ⟨by rfl, ?_⟩)) (by assumption) (by kernel_rfl) ?_
            rotate_left 1
            · intro w' hSw; have hcw := (hB6.upd hSw (fun e => e)).cells15; go_split_ands; first | (go_simp; done) | (go_simp; rfl) | rfl
            simp only [Act.put, List.getElem_toArray, List.getElem_cons_zero, List.getElem_cons_succ, List.setIfInBounds_toArray, List.set_cons_zero, List.set_cons_succ]
            refine wpAnyT_take (i := 22) (v := ?_) rfl (by kernel_rfl) (by kernel_rfl) (by kernel_rfl) (by kernel_rfl) (fun _ _ _ h => h) (takes_yield rfl (Or.inl ⟨by rfl, ?_⟩)) (by assumption) (by kernel_rfl) ?_
            rotate_left 1
            · intro w' hSw; have hcw := (hB6.upd hSw (fun e => e)).cells15; go_split_ands; first | (go_simp; done) | (go_simp; rfl) | rfl
            simp only [Act.put, List.getElem_toArray, List.getElem_cons_zero, List.getElem_cons_succ, List.setIfInBounds_toArray, List.set_cons_zero, List.set_cons_succ]
            refine wpAnyT_take (i := 23) (v := ?_) rfl (by kernel_rfl) (by kernel_rfl) (by kernel_rfl) (by kernel_rfl) (fun _ _ _ h => h) (takes_yield rfl (Or.inl ⟨by rfl, ?_⟩)) (by assumption) (by kernel_rfl) ?_
            rotate_left 1
            · intro w' hSw; have hcw := (hB6.upd hSw (fun e => e)).cells15; go_split_ands; first | (go_simp; done) | (go_simp; rfl) | rfl
            simp only [Act.put, List.getElem_toArray, List.getElem_cons_zero, List.getElem_cons_succ, List.setIfInBounds_toArray, List.set_cons_zero, List.set_cons_succ]
            refine wpAnyT_take (i := 24) (v := ?_) rfl (by kernel_rfl) (by kernel_rfl) (by kernel_rfl) (by kernel_rfl) (fun _ _ _ h => h) (takes_yield rfl (Or.inl ⟨by rfl, ?_⟩)) (by assumption) (by kernel_rfl) ?_
            rotate_left 1
            · intro w' hSw; have hcw := (hB6.upd hSw (fun e => e)).cells15; go_split_ands; first | (go_simp; done) | (go_simp; rfl) | rfl
            simp only [Act.put, List.getElem_toArray, List.getElem_cons_zero, List.getElem_cons_succ, List.setIfInBounds_toArray, List.set_cons_zero, List.set_cons_succ]
            refine wpAnyT_take (i := 25) (v := ?_) rfl (by kernel_rfl) (by kernel_rfl) (by kernel_rfl) (by kernel_rfl) (fun _ _ _ h => h) (takes_yield rfl (Or.inl ⟨by rfl, ?_⟩)) (by assumption) (by kernel_rfl) ?_
            rotate_left 1
            · intro w' hSw; have hcw := (hB6.upd hSw (fun e => e)).cells15; go_split_ands; first | (go_simp; done) | (go_simp; rfl) | rfl
            simp only [Act.put, List.getElem_toArray, List.getElem_cons_zero, List.getElem_cons_succ, List.setIfInBounds_toArray, List.set_cons_zero, List.set_cons_succ]
            refine wpAnyT_take (i := 26) (v := ?_) rfl (by kernel_rfl) (by kernel_rfl) (by kernel_rfl) (by kernel_rfl) (fun _ _ _ h => h) (takes_yield rfl (Or.inl ⟨by rfl, ?_⟩)) (by assumption) (by kernel_rfl) ?_
            rotate_left 1
            · intro w' hSw; have hcw := (hB6.upd hSw (fun e => e)).cells15; go_split_ands; first | (go_simp; done) | (go_simp; rfl) | rfl
            simp only [Act.put, List.getElem_toArray, List.getElem_cons_zero, List.getElem_cons_succ, List.setIfInBounds_toArray, List.set_cons_zero, List.set_cons_succ]
            refine wpAnyT_take (i := 27) (v := ?_) rfl (by kernel_rfl) (by kernel_rfl) (by kernel_rfl) (by kernel_rfl) (fun _ _ _ h => h) (takes_yield rfl (Or.inl ⟨by rfl, ?_⟩)) (by assumption) (by kernel_rfl) ?_
            rotate_left 1
            · intro w' hSw; have hcw := (hB6.upd hSw (fun e => e)).cells15; go_split_ands; first | (go_simp; done) | (go_simp; rfl) | rfl
            simp only [Act.put, List.getElem_toArray, List.getElem_cons_zero, List.getElem_cons_succ, List.setIfInBounds_toArray, List.set_cons_zero, List.set_cons_succ]
            refine wpAnyT_take (i := 28) (v := undef) rfl (by kernel_rfl) (by kernel_rfl) (by kernel_rfl) (by kernel_rfl) (fun _ _ _ h => h) (takes_yield rfl (Or.inr ⟨by rfl, rfl⟩)) (by assumption) (by kernel_rfl) ?_
            simp only [Act.put, List.getElem_toArray, List.getElem_cons_zero, List.getElem_cons_succ, List.setIfInBounds_toArray, List.set_cons_zero, List.set_cons_succ]
            refine wpAnyT_take (i := 29) (v := undef) rfl (by kernel_rfl) (by kernel_rfl) (by kernel_rfl) (by kernel_rfl) (fun _ _ _ h => h) (takes_yield rfl (Or.inr ⟨by rfl, rfl⟩)) (by assumption) (by kernel_rfl) ?_
            simp only [Act.put, List.getElem_toArray, List.getElem_cons_zero, List.getElem_cons_succ, List.setIfInBounds_toArray, List.set_cons_zero, List.set_cons_succ]
            refine wpAnyT_take (i := 30) (v := undef) rfl (by kernel_rfl) (by kernel_rfl) (by kernel_rfl) (by kernel_rfl) (fun _ _ _ h => h) (takes_yield rfl (Or.inr ⟨by rfl, rfl⟩)) (by assumption) (by kernel_rfl) ?_
            simp only [Act.put, List.getElem_toArray, List.getElem_cons_zero, List.getElem_cons_succ, List.setIfInBounds_toArray, List.set_cons_zero, List.set_cons_succ]
            refine wpAnyT_take (i := 31) (v := undef) rfl (by kernel_rfl) (by kernel_rfl) (by kernel_rfl) (by kernel_rfl) (fun _ _ _ h => h) (takes_yield rfl (Or.inr ⟨by rfl, rfl⟩)) (by assumption) (by kernel_rfl) ?_
            simp only [Act.put, List.getElem_toArray, List.getElem_cons_zero, List.getElem_cons_succ, List.setIfInBounds_toArray, List.set_cons_zero, List.set_cons_succ]
            refine wpAnyT_take (i := 32) (v := undef) rfl (by kernel_rfl) (by kernel_rfl) (by kernel_rfl) (by kernel_rfl) (fun _ _ _ h => h) (takes_yield rfl (Or.inr ⟨by rfl, rfl⟩)) (by assumption) (by kernel_rfl) ?_
            simp only [Act.put, List.getElem_toArray, List.getElem_cons_zero, List.getElem_cons_succ, List.setIfInBounds_toArray, List.set_cons_zero, List.set_cons_succ]
            refine wpAnyT_take (i := 33) (v := undef) rfl (by kernel_rfl) (by kernel_rfl) (by kernel_rfl) (by kernel_rfl) (fun _ _ _ h => h) (takes_yield rfl (Or.inr ⟨by rfl, rfl⟩)) (by assumption) (by kernel_rfl) ?_
            simp only [Act.put, List.getElem_toArray, List.getElem_cons_zero, List.getElem_cons_succ, List.setIfInBounds_toArray, List.set_cons_zero, List.set_cons_succ]
            refine wpAnyT_take (i := 34) (v := undef) rfl (by kernel_rfl) (by kernel_rfl) (by kernel_rfl) (by kernel_rfl) (fun _ _ _ h => h) (takes_yield rfl (Or.inr ⟨by rfl, rfl⟩)) (by assumption) (by kernel_rfl) ?_
            simp only [Act.put, List.getElem_toArray, List.getElem_cons_zero, List.getElem_cons_succ, List.setIfInBounds_toArray, List.set_cons_zero, List.set_cons_succ]
            refine wpAnyT_take (i := 35) (v := undef) rfl (by kernel_rfl) (by kernel_rfl) (by kernel_rfl) (by kernel_rfl) (fun _ _ _ h => h) (takes_yield rfl (Or.inr ⟨by rfl, rfl⟩)) (by assumption) (by kernel_rfl) ?_
            simp only [Act.put, List.getElem_toArray, List.getElem_cons_zero, List.getElem_cons_succ, List.setIfInBounds_toArray, List.set_cons_zero, List.set_cons_succ]
            refine wpAnyT_take (i := 36) (v := undef) rfl (by kernel_rfl) (by kernel_rfl) (by kernel_rfl) (by kernel_rfl) (fun _ _ _ h => h) (takes_yield rfl (Or.inr ⟨by rfl, rfl⟩)) (by assumption) (by kernel_rfl) ?_
            simp only [Act.put, List.getElem_toArray, List.getElem_cons_zero, List.getElem_cons_succ, List.setIfInBounds_toArray, List.set_cons_zero, List.set_cons_succ]
            refine wpAnyT_take (i := 37) (v := undef) rfl (by kernel_rfl) (by kernel_rfl) (by kernel_rfl) (by kernel_rfl) (fun _ _ _ h => h) (takes_yield rfl (Or.inr ⟨by rfl, rfl⟩)) (by assumption) (by kernel_rfl) ?_
            simp only [Act.put, List.getElem_toArray, List.getElem_cons_zero, List.getElem_cons_succ, List.setIfInBounds_toArray, List.set_cons_zero, List.set_cons_succ]
            refine wpAnyT_take (i := 38) (v := undef) rfl (by kernel_rfl) (by kernel_rfl) (by kernel_rfl) (by kernel_rfl) (fun _ _ _ h => h) (takes_yield rfl (Or.inr ⟨by rfl, rfl⟩)) (by assumption) (by kernel_rfl) ?_
            simp only [Act.put, List.getElem_toArray, List.getElem_cons_zero, List.getElem_cons_succ, List.setIfInBounds_toArray, List.set_cons_zero, List.set_cons_succ]
            refine wpAnyT_take (i := 39) (v := undef) rfl (by kernel_rfl) (by kernel_rfl) (by kernel_rfl) (by kernel_rfl) (fun _ _ _ h => h) (takes_yield rfl (Or.inr ⟨by rfl, rfl⟩)) (by assumption) (by kernel_rfl) ?_
            simp only [Act.put, List.getElem_toArray, List.getElem_cons_zero, List.getElem_cons_succ, List.setIfInBounds_toArray, List.set_cons_zero, List.set_cons_succ]
            refine wpAnyT_take (i := 40) (v := undef) rfl (by kernel_rfl) (by kernel_rfl) (by kernel_rfl) (by kernel_rfl) (fun _ _ _ h => h) (takes_yield rfl (Or.inr ⟨by rfl, rfl⟩)) (by assumption) (by kernel_rfl) ?_
            simp only [Act.put, List.getElem_toArray, List.getElem_cons_zero, List.getElem_cons_succ, List.setIfInBounds_toArray, List.set_cons_zero, List.set_cons_succ]
            refine wpAnyT_take (i := 41) (v := undef) rfl (by kernel_rfl) (by kernel_rfl) (by kernel_rfl) (by kernel_rfl) (fun _ _ _ h => h) (takes_yield rfl (Or.inr ⟨by rfl, rfl⟩)) (by assumption) (by kernel_rfl) ?_
            simp only [Act.put, List.getElem_toArray, List.getElem_cons_zero, List.getElem_cons_succ, List.setIfInBounds_toArray, List.set_cons_zero, List.set_cons_succ]
            refine wpAnyT_take (i := 42) (v := undef) rfl (by kernel_rfl) (by kernel_rfl) (by kernel_rfl) (by kernel_rfl) (fun _ _ _ h => h) (takes_yield rfl (Or.inr ⟨by rfl, rfl⟩)) (by assumption) (by kernel_rfl) ?_
            simp only [Act.put, List.getElem_toArray, List.getElem_cons_zero, List.getElem_cons_succ, List.setIfInBounds_toArray, List.set_cons_zero, List.set_cons_succ]
            refine wpAnyT_take (i := 43) (v := undef) rfl (by kernel_rfl) (by kernel_rfl) (by kernel_rfl) (by kernel_rfl) (fun _ _ _ h => h) (takes_yield rfl (Or.inr ⟨by rfl, rfl⟩)) (by assumption) (by kernel_rfl) ?_
            simp only [Act.put, List.getElem_toArray, List.getElem_cons_zero, List.getElem_cons_succ, List.setIfInBounds_toArray, List.set_cons_zero, List.set_cons_succ]
            refine wpAnyT_take (i := 44) (v := undef) rfl (by kernel_rfl) (by kernel_rfl) (by kernel_rfl) (by kernel_rfl) (fun _ _ _ h => h) (takes_yield rfl (Or.inr ⟨by rfl, rfl⟩)) (by assumption) (by kernel_rfl) ?_
            simp only [Act.put, List.getElem_toArray, List.getElem_cons_zero, List.getElem_cons_succ, List.setIfInBounds_toArray, List.set_cons_zero, List.set_cons_succ]
            refine wpAnyT_take (i := 45) (v := undef) rfl (by kernel_rfl) (by kernel_rfl) (by kernel_rfl) (by kernel_rfl) (fun _ _ _ h => h) (takes_yield rfl (Or.inr ⟨by rfl, rfl⟩)) (by assumption) (by kernel_rfl) ?_
            simp only [Act.put, List.getElem_toArray, List.getElem_cons_zero, List.getElem_cons_succ, List.setIfInBounds_toArray, List.set_cons_zero, List.set_cons_succ]
            refine wpAnyT_take (i := 46) (v := undef) rfl (by kernel_rfl) (by kernel_rfl) (by kernel_rfl) (by kernel_rfl) (fun _ _ _ h => h) (takes_yield rfl (Or.inr ⟨by rfl, rfl⟩)) (by assumption) (by kernel_rfl) ?_
            simp only [Act.put, List.getElem_toArray, List.getElem_cons_zero, List.getElem_cons_succ, List.setIfInBounds_toArray, List.set_cons_zero, List.set_cons_succ]
            refine wpAnyT_take (i := 47) (v := undef) rfl (by kernel_rfl) (by kernel_rfl) (by kernel_rfl) (by kernel_rfl) (fun _ _ _ h => h) (takes_yield rfl (Or.inr ⟨by rfl, rfl⟩)) (by assumption) (by kernel_rfl) ?_
            simp only [Act.put, List.getElem_toArray, List.getElem_cons_zero, List.getElem_cons_succ, List.setIfInBounds_toArray, List.set_cons_zero, List.set_cons_succ]
            refine wpAnyT_take (i := 48) (v := undef) rfl (by kernel_rfl) (by kernel_rfl) (by kernel_rfl) (by kernel_rfl) (fun _ _ _ h => h) (takes_yield rfl (Or.inr ⟨by rfl, rfl⟩)) (by assumption) (by kernel_rfl) ?_
            simp only [Act.put, List.getElem_toArray, List.getElem_cons_zero, List.getElem_cons_succ, List.setIfInBounds_toArray, List.set_cons_zero, List.set_cons_succ]
            refine wpAnyT_take (i := 49) (v := undef) rfl (by kernel_rfl) (by kernel_rfl) (by kernel_rfl) (by kernel_rfl) (fun _ _ _ h => h) (takes_yield rfl (Or.inr ⟨by rfl, rfl⟩)) (by assumption) (by kernel_rfl) ?_
            simp only [Act.put, List.getElem_toArray, List.getElem_cons_zero, List.getElem_cons_succ, List.setIfInBounds_toArray, List.set_cons_zero, List.set_cons_succ]
            refine wpAnyT_take (i := 50) (v := undef) rfl (by kernel_rfl) (by kernel_rfl) (by kernel_rfl) (by kernel_rfl) (fun _ _ _ h => h) (takes_yield rfl (Or.inr ⟨by rfl, rfl⟩)) (by assumption) (by kernel_rfl) ?_
            simp only [Act.put, List.getElem_toArray, List.getElem_cons_zero, List.getElem_cons_succ, List.setIfInBounds_toArray, List.set_cons_zero, List.set_cons_succ]
            refine wpAnyT_take (i := 51) (v := undef) rfl (by kernel_rfl) (by kernel_rfl) (by kernel_rfl) (by kernel_rfl) (fun _ _ _ h => h) (takes_yield rfl (Or.inr ⟨by rfl, rfl⟩)) (by assumption) (by kernel_rfl) ?_
            simp only [Act.put, List.getElem_toArray, List.getElem_cons_zero, List.getElem_cons_succ, List.setIfInBounds_toArray, List.set_cons_zero, List.set_cons_succ]
            refine wpAnyT_take (i := 52) (v := ?_) rfl (by kernel_rfl) (by kernel_rfl) (by kernel_rfl) (by kernel_rfl) (fun _ _ _ h => h) (takes_yield rfl (Or.inl ⟨by rfl, ?_⟩)) (by assumption) (by kernel_rfl) ?_
            rotate_left 1
            · intro w' hSw; go_split_ands; first | (go_simp; done) | (go_simp; rfl) | rfl
            simp only [Act.put, List.getElem_toArray, List.getElem_cons_zero, List.getElem_cons_succ, List.setIfInBounds_toArray, List.set_cons_zero, List.set_cons_succ]
            refine wpAnyT_take (i := 53) (v := ?_) rfl (by kernel_rfl) (by kernel_rfl) (by kernel_rfl) (by kernel_rfl) (fun _ _ _ h => h) (takes_yield rfl (Or.inl ⟨by rfl, ?_⟩)) (by assumption) (by kernel_rfl) ?_
            rotate_left 1
            · intro w' hSw; go_split_ands; first | (go_simp; done) | (go_simp; rfl) | rfl
            simp only [Act.put, List.getElem_toArray, List.getElem_cons_zero, List.getElem_cons_succ, List.setIfInBounds_toArray, List.set_cons_zero, List.set_cons_succ]
            refine wpAnyT_done (by kernel_rfl) ?_ _
            refine NoPanic.normal ?_
            have H7 := Lib.hid (H6.out.still hS0)
            clear hS0 hB6
            go_wp2_with fail
            go_roundw
            case rel => exact ⟨j + 1, d2, vl2, vw2, r2, _, V2, N2, h2, _, by omega, by go_num, H7.out, by omega⟩
            case measure => simp only [intOf]; omega
        · go_wp2_with fail
          go_ret
          exact ⟨rfl, HU1.out.then H.out.play.disks.upd (fun _ e => e.elim)⟩
  · go_wp2_with fail
    go_ret
    exact ⟨rfl, HU1.out⟩
end Go.Proofs.YtpfbgmfkeofefaaGreat
