/-
  LogPlays: the walk.
-/
import Derived.Test.YtpfbgmfkeofefaaGreatLaw10
import Derived.Test.YtpfbgmfkeofefaaGreatGreat9
namespace Go.Proofs.YtpfbgmfkeofefaaGreat
open Go Go.RowKit

set_option maxRecDepth 100000 in
set_option maxHeartbeats 3200000 in
theorem walk_LogPlays {z f se e0 : Int} {v : Value} {l : List Act9} (w : World) (h0 : (Lit.int .u8 z).wf = true) (_h1 : (Lit.int .i64 f).wf = true) (_h2 : (Lit.int .i64 se).wf = true) (h3 : (Lit.int .u64 e0).wf = true) (hA : IsActs10 w v l) :
    Calls Tryz.prog 3 #[.int .u8 z, .int .i64 f, .int .i64 se, .int .u64 e0, v] w fun e w' => e = .returned (.bool true) ∧ Upd (fun _ => False) w w' := by
  obtain ⟨m, rfl, hm⟩ := u8_nat h0
  obtain ⟨ep, rfl, hep⟩ := u64_nat h3
  obtain ⟨n, hn⟩ : ∃ n : Nat, 1 + m % 60 = n := ⟨_, rfl⟩
  have hn1 : 1 ≤ n ∧ n ≤ 60 := by omega
  have hni : (1 : Int) + (m : Int) % 60 = (n : Int) := by omega
  have Hni := Lib.hid hni
  have HW := Lib.hid (awake_10 w)
  have HA := Lib.hid hA
  obtain ⟨A, cap, bA, off, rfl, hml, hA0, hcells, hok⟩ := hA.open_
  have HC := Lib.hid (And.intro hcells hok)
  have hA0' := Lib.hid hA0
  clear hA h0 h3 hcells hok hn hni hA0
  go_enter Tryz.func3, Tryz.ntmps3
  go_wp2_with fail
  refine HW.out.mono ?_
  rintro e w1 ⟨rfl, hU1⟩
  have HU1 := Lib.hid hU1
  clear hU1 HW
  go_wp2_with fail
  refine (great_10 w w1 HA.out HU1.out).mono ?_
  rintro e w' ⟨bg, rfl, rfl, hge⟩
  have HG0 := Lib.hid hge
  clear hge
  cases bg
  · obtain ⟨hl60, -⟩ := HG0.out.ok rfl
    clear HG0
    have hni := Hni.out
    have hn3 : n ≤ 4096 := by omega
    go_upto_region 6 with fail
    clear hni
    go_wp2_with fail
    refine (new_x (Dks.none_ w1) (n : Int) n rfl hn1.1 hn3).mono ?_
    rintro e w2 ⟨p, rfl, hD⟩
    have H2 : Hid (Dks w1 w2 [(p, Dk.fresh n)]) := hD
    clear hD
    go_upto_region 7 with fail
    go_upto_region 8 with (first
      | (go_at_call 10
         refine (rnew_c n w2 hn1.1 (by omega)).mono ?_
         rintro e w3 ⟨vl, rfl, hR3, hU3, hf3⟩
         have H3 := Lib.hid (And.intro hR3 (And.intro hU3 hf3))
         clear hR3 hU3 hf3)
      | (refine wpList_store_all rfl 33 _ _ rfl w3.heap.size #[vl, .slice none 0 0, .int .i64 (-1), .bool false] rfl rfl _ _ (Blk.new w3 _ _) rfl (row_one _ _ H3.out.1.lasts.one rfl _ _) (by kernel_rfl) ?_
         intro w4 hB4 hU4 hs4
         have H4 := Lib.hid (And.intro hB4 hU4)
         clear hB4 hU4 hs4))
    have hX3 : DksX w1 w3 [(p, Dk.fresh n)] (RgX vl (.slice none 0 0) (.slice none 0 0)) := (DksX.of H2.out).turn H3.out.2.1 (fun q hq => .inr (by
        rcases hq with (h | h) | h
        · exact ⟨H3.out.2.2 q h, H3.out.1.lasts.lt h⟩
        · simp [Value.ownBlock] at h
        · simp [Value.ownBlock] at h))
    have hs3 : Side10 w1 w3 vl (.slice none 0 0) (Dk.fresh n) ⟨List.replicate n zeros64, [], -1, false⟩ (.slice none 0 0) [] := ⟨fun q hq => (hX3.low q hq).1, H3.out.1, RdIs.fresh n, Own.nil _ _ _⟩
    have hg1 := hX3.upd.size
    have hX4 := (hX3.still ((Upd.refl _ w3).alloc (.cells zeroRd 33))).off (Blk.new w3 _ _) (by decide) (by decide) hg1 H4.out.2
    have hs4 := (hs3.still ((Upd.refl _ w3).alloc (.cells zeroRd 33))).off (Blk.new w3 _ _) (by decide) (by decide) H4.out.2
    have HP4 := Lib.hid (And.intro hX4 hs4)
    have HB4 := Lib.hid H4.out.1
    have HO : Hid (∀ a ∈ l, a.ok w1) := Lib.hid fun a ha => by
      have h := HC.out.2 a ha
      exact ⟨h.do_, h.text, h.n, h.at_, h.x, ⟨h.keep.1.upd HU1.out, h.keep.2⟩⟩
    have hn2 : Hid ((Dk.fresh n).pend ≤ 0) := by show ((Dk.fresh n).waits.map List.length).sum ≤ 0; simp [Dk.fresh]
    have hn4 : Hid ((Dk.fresh n).lasts.length = n) := by show _ = _; simp [Dk.fresh]
    clear H2 H3 H4 hX3 hs3 hg1 hX4 hs4
    go_upto_region 9 with (first
      | (refine wpList_load_all rfl _ _ rfl w3.heap.size rfl _ _ _ HB4.out Tryz.underlying33 rfl rfl ?_))
    obtain ⟨wb, hwb⟩ : ∃ wb, w4.alloc (.cells #[.pointer (some ⟨p, 0, none⟩), .pointer none, vl, .slice none 0 0, .int .i64 (-1), .bool false, .int .i64 0, .int .i64 0, .int .u64 0, .slice none 0 0, .int .i64 0, .int .u64 0, .int .u64 0, .bool false, .int .i64 f, .int .i64 se, .int .u64 (ep : Int), .int .i64 0] 41) = wb := ⟨_, rfl⟩
    have hW0 : W10b w1 wb w4.heap.size p (Dk.fresh n) vl (.slice none 0 0) ⟨List.replicate n zeros64, [], -1, false⟩ (.pointer none) lz (.slice none 0 0) f se ep 0 := by
      rw [← hwb]
      exact ⟨HP4.out.2.still ((Upd.refl _ w4).alloc _), Blk.new w4 _ _, HP4.out.1.upd.size, HP4.out.1.still ((Upd.refl _ w4).alloc _)⟩
    have HO9 := Lib.hid (open_10b hW0 (by rw [hn4.out]; exact hn1.2) hep)
    have HE0 := Lib.hid (fun h => openLP_zero (d := Dk.fresh n) (f := f) (n := se) (e := ep) h)
    have Hwb := Lib.hid hwb
    clear hwb hW0 HP4 HB4
    rw [Hwb.out]
    clear Hwb
    obtain ⟨x, hx⟩ : ∃ x, w4.heap.size = x := ⟨_, rfl⟩
    rw [hx] at HO9 ⊢
    clear hx
    obtain ⟨E, hE⟩ : ∃ E, (openLP (Dk.fresh n) f se ep).2 = E := ⟨_, rfl⟩
    rw [hE] at HO9 HE0
    clear hE
    go_wp2_with fail
    refine HO9.out.mono ?_
    rintro e w5 ⟨rfl, kv, V, vg, hW5, -⟩
    have H5 := Lib.hid hW5
    have hc5 := hW5.blk.cells18
    clear hW5 HO9
    by_cases hE0 : E = 0
    · subst hE0
      obtain ⟨hf0, hf1, hf2, hf3, -⟩ := HE0.out rfl
      rw [hn4.out] at hf2 hf3
      have hkp : ∃ b, kv = .pointer (some ⟨b, 0, none⟩) := by
        rcases H5.out.kept with ⟨_, _, b, h3, _⟩ | ⟨h, _⟩
        · exact ⟨b, h3⟩
        · exact absurd rfl h
      obtain ⟨b, rfl⟩ := hkp
      have HF := Lib.hid (And.intro hf0 (And.intro hf1 (And.intro hf2 hf3)))
      clear hf0 hf1 hf2 hf3
      go_wp2_with fail
      clear hc5
      go_loopw [17] (fun i wr => ∃ (k : Nat) (d : Dk) (vl vw : Value) (r : Rd) (kv : Value) (V : Lg) (vg : Value) (ep' : Nat) (n' : Int), k ≤ l.length ∧ i = .int .i64 (k : Int) ∧ W10 w1 wr x p d vl vw r kv V vg f se ep' n' ∧ d.pend ≤ 40 * k ∧ d.lasts.length = n ∧ ep' < 18446744073709551616) (fun i _ => l.length - (intOf i).toNat)
      case atStart => exact ⟨0, _, _, _, _, _, _, _, _, _, by omega, rfl, H5.out, by have := hn2.out; omega, hn4.out, hep⟩
      case round =>
        rename World => wa
        obtain ⟨k, d, vl', vw', r, kv, V, vg, ep', n', hk, rfl, hW, hpe, hdl, hep'⟩ := hrel
        have H := Lib.hid hW
        have HDl := Lib.hid (And.intro hdl (And.intro hpe hep'))
        clear hW H5 hdl hpe hep'
        by_cases hlt : k < l.length
        · obtain rfl := hA0'.out (by omega)
          have hUa : Upd (fun _ => False) w wa := HU1.out.then H.out.disks.upd (fun _ e => e.elim)
          have hca := HC.out.1 wa hUa k hlt
          have hok := HO.out l[k] (List.getElem_mem hlt)
          have hdo := does_10 H.out l[k] hok HF.out.1 (by have := HF.out; omega) HF.out.2.1 (by have := HF.out; omega) (by rw [HDl.out.1]; exact hn1.2) (by have := HDl.out.2.1; omega) HDl.out.2.2
          obtain ⟨a, ha⟩ : ∃ a, l[k] = a := ⟨_, rfl⟩
          rw [ha] at hca hdo
          obtain ⟨do_, tx, n_, a_, x_, kp, ks⟩ := a
          simp only at hca hdo
          have HD := Lib.hid hdo
          clear hdo hok hUa ha
          go_wp2_with fail
          refine HD.out.mono ?_
          rintro e w6 ⟨rfl, d2, vl2, vw2, r2, kv2, V2, vg2, ep2, n2, hW6, hp6, hl6, he6⟩
          have H6 := Lib.hid hW6
          have HB6 := Lib.hid (And.intro hp6 (And.intro hl6 he6))
          clear hW6 hp6 hl6 he6 hca
          go_wp2_with fail
          refine (stands_10 H6.out).mono ?_
          rintro e w7 ⟨rfl, hU7⟩
          have H7 := Lib.hid (H6.out.still hU7)
          clear hU7
          go_wp2_with fail
          go_roundw
          case rel => exact ⟨k + 1, d2, vl2, vw2, r2, _, _, _, _, _, by omega, by go_num, H7.out, by have := HB6.out.1; have := HDl.out.2.1; omega, by rw [HB6.out.2.1]; exact HDl.out.1, HB6.out.2.2⟩
          case measure => simp only [intOf]; omega
        · go_wp2_with fail
          go_ret
          exact ⟨rfl, HU1.out.then H.out.disks.upd (fun _ e => e.elim)⟩
    · have hkp : kv = .pointer none := by
        rcases H5.out.kept with ⟨h, _⟩ | ⟨_, h, _⟩
        · exact absurd h hE0
        · exact h
      subst hkp
      have hEn : (E != 0) = true := bne_iff_ne.2 hE0
      clear hE0
      go_wp2_with fail
      refine (Add_nil _ _).mono ?_
      rintro e w6 ⟨rfl, rfl⟩
      go_wp2_with fail
      refine (stands_10 H5.out).mono ?_
      rintro e w7 ⟨rfl, hU7⟩
      have H7 := Lib.hid (H5.out.still hU7)
      clear hU7
      go_wp2_with fail
      go_ret
      exact ⟨rfl, HU1.out.then H7.out.disks.upd (fun _ e => e.elim)⟩
  · go_wp2_with fail
    go_ret
    exact ⟨rfl, HU1.out⟩
end Go.Proofs.YtpfbgmfkeofefaaGreat
