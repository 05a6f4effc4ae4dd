/-
  ArbiterKnown: the walk.
-/
import Derived.Test.YtnmbhoidnbideaaArbC
namespace Go.Proofs.Ytnmbhoidnbideaa
open Go Go.RowKit

theorem known_bytes : bytesA 300 1 = [172, 2, 1] := by
  unfold bytesA
  rw [putN_ge (n := 300) (by omega), putN_lt (n := 300 / 128) (by omega), putN_lt (n := 1) (by omega)]
  rfl
theorem known_read : readA [172, 2, 1] = (300, 1, 0) := by
  rw [← known_bytes]
  exact read_bytes 300 1 (by omega) (by unfold maxE; omega) (by omega)
theorem known_zero : readA [0, 1] = (0, 0, 8) := by
  decide +kernel
theorem known_two : readA [172, 2, 2] = (0, 0, 8) := by
  decide +kernel
theorem put_dead {d : Dk} {k : Kp} {t : List UInt8} (h0 : d.fuse = 0) (ho : d.off = false) (hb : k.broken = false) (hs : k.seen < 1000) (ht : t.length ≤ 400) (hr : k.from_ + 20 ≤ d.lasts.length) : (putK d k t).2.2 = 14 := by
  obtain ⟨A, hA⟩ : ∃ A, k.from_ + (1 - k.at_) * 10 = A := ⟨_, rfl⟩
  have hAl : A < d.lasts.length := by omega
  have hlen := cutL_len t (k.seen + 1)
  have hpos : 1 ≤ allOf t.length := by unfold allOf; omega
  have hl0 : 0 < (cutL t (k.seen + 1)).length := by omega
  have hsec : ((cutL t (k.seen + 1)).getD 0 ⟨0, 0, 0, []⟩).sec.size = 64 := by
    rw [List.getD_eq_getElem?_getD, List.getElem?_eq_getElem hl0]
    exact sec_size _ (cutL_ok t (k.seen + 1) (by omega) (by omega) ht _ (List.getElem_mem hl0))
  have e1 : (writeN d A (cutL t (k.seen + 1)) 1).2 = 14 := by
    have hth : d.there ((A + 0 : Nat) : Int) = true := by unfold Dk.there; simp; exact hAl
    have hbu : d.burn.2 = false := by unfold Dk.burn; rw [if_pos h0]
    rw [writeN, writeN]
    simp only [ne_eq, not_true, if_false]
    unfold Dk.write
    rw [ho, hth, hsec, hbu]
    simp
  have e2 : (writeN d A (cutL t (k.seen + 1)) (allOf t.length)).2 = 14 := by
    rw [writeN_stop (j := 1) (by rw [e1]; omega) hpos, e1]
  unfold putK
  rw [hb, hA, if_neg (by simp), if_neg (by omega), if_neg (by omega), if_pos (by rw [e2]; omega)]
  exact e2
section
variable {w0 w : World} {p : Nat} {d : Dk}
theorem fuse_a (hD : DkS w0 w p d) (m : Int) (hm : m ≤ 9223372036854775807) :
    Calls Try.prog 15 #[.pointer (some ⟨p, 0, none⟩), .int .i64 m] w fun e w' => e = .returned (.tuple #[]) ∧ DkS w0 w' p (d.setFuse m) ∧ ∀ g t cs, Blk w g t cs → t ≠ 65 → t ≠ 9 → Blk w' g t cs := by
  obtain ⟨F, h1, h2⟩ := hD.ex
  refine (fuse_c h1 m hm).mono ?_
  rintro e w' ⟨rfl, hL⟩
  exact ⟨rfl, ⟨⟨F, hL.disk, h2⟩, hD.upd.then hL.upd (fun q hq => .inr (h2 q hq))⟩, fun g t cs hB h3 h4 => hB.upd hL.upd (h1.not_mem hB h3 h4)⟩
end
set_option maxRecDepth 100000 in
set_option maxHeartbeats 1600000 in
theorem walk_ArbiterKnown (w : World) : Calls Try.prog 4 #[] w fun e w' => e = .returned (.bool true) ∧ Upd (fun _ => False) w w' := by
  have HN := Lib.hid (fun W => new_s 20 W (by omega) (by omega))
  obtain ⟨d1, k1, p1, i1⟩ := KIs.fresh.put (by omega) (bytesA 1 1) (Nat.le_trans (bytesA_len _ _ (by omega) (by omega)) (by omega))
  obtain ⟨d2, k2, p2, i2⟩ := i1.put (by omega) (bytesA 2 0) (Nat.le_trans (bytesA_len _ _ (by omega) (by omega)) (by omega))
  obtain ⟨d3, k3, p3, i3⟩ := KIs.fresh.put (by omega) (bytesA 9223372036854775807 0) (Nat.le_trans (bytesA_len _ _ (by omega) (by omega)) (by omega))
  have K1 := Lib.hid (And.intro p1 i1)
  have K2 := Lib.hid (And.intro p2 i2)
  have K3 := Lib.hid (And.intro p3 i3)
  clear p1 i1 p2 i2 p3 i3
  go_enter Try.func4, Try.ntmps4
  go_wp2_with fail
  refine (HN.out _).mono ?_
  rintro e w1 ⟨p, rfl, hD⟩
  have H1 := Lib.hid hD
  clear hD
  go_wp2_with fail
  refine (arb_open_none H1.out KIs.fresh).mono ?_
  rintro e w2 ⟨a, b, rfl, hA, hK, hU⟩
  have H2 := Lib.hid (And.intro (H1.out.still hU) (And.intro hK hA))
  clear hA hK hU H1
  go_wp2_with fail
  refine (arb_epoch H2.out.2.2).mono ?_
  rintro e w3 ⟨rfl, rfl⟩
  go_wp2_with fail
  refine (arb_holder H2.out.2.2).mono ?_
  rintro e w4 ⟨rfl, rfl⟩
  go_wp2_with fail
  refine (grant_is H2.out.1 H2.out.2.1 H2.out.2.2 KIs.fresh (by omega) (by omega) 1 (by omega) K1.out.1).mono ?_
  rintro e w5 ⟨rfl, hD, hK, hA⟩
  have H3 := Lib.hid (And.intro hD (And.intro hK hA))
  clear hA hK hD H2
  go_wp2_with fail
  refine (grant_is H3.out.1 H3.out.2.1 H3.out.2.2 K1.out.2 (by omega) (by omega) 0 (by omega) K2.out.1).mono ?_
  rintro e w6 ⟨rfl, hD, hK, hA⟩
  have H4 := Lib.hid (And.intro hD (And.intro hK hA))
  clear hA hK hD H3
  go_wp2_with fail
  refine (grant_bad H4.out.2.2 2 rfl).mono ?_
  rintro e w7 ⟨rfl, rfl⟩
  go_wp2_with fail
  have hlt4 := H4.out.2.2.blk.lt
  refine (arb_open_new H4.out.1 2 0 (by omega) (by omega) (by omega) K2.out.2).mono ?_
  rintro e w8 ⟨a', b', rfl, hA, hK, hU, ha⟩
  have hne : Hid (a ≠ a') := show a ≠ a' by omega
  have H5 := Lib.hid (And.intro (H4.out.1.still hU) (And.intro hK (And.intro hA (H4.out.2.2.still hU))))
  clear hA hK hU ha hlt4 H4
  go_wp2_with fail
  refine (fuse_a H5.out.1 0 (by omega)).mono ?_
  rintro e w9 ⟨rfl, hD, hB⟩
  have H6 := Lib.hid (And.intro hD (And.intro (⟨hB _ _ _ H5.out.2.1.blk (by decide) (by decide), H5.out.2.1.new⟩ : KpS w w9 p b' k2) (And.intro (⟨hB _ _ _ H5.out.2.2.1.blk (by decide) (by decide), H5.out.2.2.1.new⟩ : ArbS w w9 a' b' 2 ((0 : Nat) : Int)) (⟨hB _ _ _ H5.out.2.2.2.blk (by decide) (by decide), H5.out.2.2.2.new⟩ : ArbS w w9 a b 2 ((0 : Nat) : Int)))))
  clear hD hB H5
  have HP : Hid ((putK (d2.setFuse 0) k2 (bytesA (2 + 1) (1 : Int).toNat)).2.2 = 14) := by
    obtain ⟨l0, l1, hI⟩ := K2.out.2.ex
    have h1 := hI.room
    have h2 := K2.out.2.seen
    exact put_dead (d := d2.setFuse 0) rfl hI.off hI.broken (by omega) (Nat.le_trans (bytesA_len _ _ (by omega) (by omega)) (by omega)) h1
  have HQ : Hid (k2.at_ ≤ 1 ∧ k2.from_ = 0 ∧ k2.seen ≤ 2 ∧ (d2.setFuse 0).pend = 0) := by
    obtain ⟨l0, l1, hI⟩ := K2.out.2.ex
    exact ⟨hI.at_, K2.out.2.from_, K2.out.2.seen, K2.out.2.pend⟩
  go_wp2_with fail
  obtain ⟨q1, q2, q3, q4⟩ := HQ.out
  refine (grant_goes H6.out.1 H6.out.2.1 H6.out.2.2.1 1 rfl (by omega) q1 (by omega) (by omega) (by omega)).mono ?_
  clear q1 q2 q3 q4
  rintro e w10 ⟨rfl, hG⟩
  rw [HP.out, if_neg (by omega)]
  have hA' := hG.arb
  rw [HP.out, if_neg (by omega), if_neg (by omega)] at hA'
  have H7 := Lib.hid (And.intro (hG.disk.disk.upd) (And.intro hA' (⟨hG.arbs _ _ hne.out H6.out.2.2.2.blk, H6.out.2.2.2.new⟩ : ArbS w w10 a b 2 ((0 : Nat) : Int))))
  clear hG hA' HP HQ H6
  go_wp2_with fail
  refine (arb_epoch H7.out.2.2).mono ?_
  rintro e w11 ⟨rfl, rfl⟩
  go_wp2_with fail
  refine (arb_holder H7.out.2.2).mono ?_
  rintro e w12 ⟨rfl, rfl⟩
  go_wp2_with fail
  refine (arb_epoch H7.out.2.1).mono ?_
  rintro e w13 ⟨rfl, rfl⟩
  go_wp2_with fail
  have HU7 := Lib.hid H7.out.1
  clear H7
  refine (bytes_c 300 1 (by omega) _).mono ?_
  have hb1 : bytesE 300 1 = ([172, 2, 1], 0) := by
    unfold bytesE
    rw [if_neg (by simp [placeB])]
    rw [show ((300 : Int).toNat) = 300 by rfl, show ((1 : Int).toNat) = 1 by rfl, known_bytes]
  rw [hb1]
  clear hb1
  rintro e w14 ⟨rfl, hU⟩
  have HU14 := Lib.hid (HU7.out.then hU (fun _ e => e.elim))
  clear hU HU7
  go_wp2_with fail
  refine (readA_c _ _).mono ?_
  rw [show (⟨#[172, 2, 1]⟩ : ByteArray).data.toList = [172, 2, 1] by rfl, known_read]
  rintro e w15 ⟨rfl, hU⟩
  have HU15 := Lib.hid (HU14.out.then hU (fun _ e => e.elim))
  clear hU HU14
  go_wp2_with fail
  refine (readA_c _ _).mono ?_
  rw [show (⟨#[0, 1]⟩ : ByteArray).data.toList = [0, 1] by rfl, known_zero]
  rintro e w16 ⟨rfl, hU⟩
  have HU16 := Lib.hid (HU15.out.then hU (fun _ e => e.elim))
  clear hU HU15
  go_wp2_with fail
  refine (readA_c _ _).mono ?_
  rw [show (⟨#[172, 2, 2]⟩ : ByteArray).data.toList = [172, 2, 2] by rfl, known_two]
  rintro e w17 ⟨rfl, hU⟩
  have HU17 := Lib.hid (HU16.out.then hU (fun _ e => e.elim))
  clear hU HU16
  go_wp2_with fail
  refine (bytes_c 0 1 (by omega) _).mono ?_
  rw [show bytesE 0 1 = ([], 1) by rfl]
  rintro e w18 ⟨rfl, hU⟩
  have HU18 := Lib.hid (HU17.out.then hU (fun _ e => e.elim))
  clear hU HU17
  go_wp2_with fail
  refine (bytes_c 9223372036854775807 0 (by omega) _).mono ?_
  have hb1 : bytesE 9223372036854775807 0 = (bytesA 9223372036854775807 0, 0) := by
    unfold bytesE
    rw [if_neg (by simp [placeB])]
    rfl
  rw [hb1]
  clear hb1
  rintro e w19 ⟨rfl, hU⟩
  have HU19 := Lib.hid (HU18.out.then hU (fun _ e => e.elim))
  clear hU HU18
  obtain ⟨S, hS⟩ : ∃ S, str (bytesA 9223372036854775807 0) = S := ⟨_, rfl⟩
  have hSl : Hid (S.data.toList = bytesA 9223372036854775807 0) := by
    show _ = _
    rw [← hS, str_list]
  rw [hS]
  clear hS
  go_wp2_with fail
  refine (HN.out _).mono ?_
  rintro e w20 ⟨p2, rfl, hD⟩
  have H20 := Lib.hid hD
  clear hD
  go_wp2_with fail
  refine (KIs.fresh.calls H20.out).mono ?_
  rintro e w21 ⟨b2, rfl, hK, hU, -⟩
  have H21 := Lib.hid (And.intro (H20.out.still hU) hK)
  clear hK hU H20
  go_wp2_with fail
  have hp := K3.out.1
  refine (put_any H21.out.1 H21.out.2 (by show (1:Nat) ≤ 1; omega) (by show (0:Nat) ≤ 4096; omega) (by show (0:Nat) < _; omega) (by rw [KIs.fresh.pend]; omega) S).mono ?_
  rw [hSl.out, hp]
  clear hp
  rintro e w22 ⟨rfl, hL, -⟩
  have H22 := Lib.hid hL.disk
  clear hL H21
  go_wp2_with fail
  refine (arb_open_at H22.out 9223372036854775807 0 (by omega) (by omega) (by omega) K3.out.2).mono ?_
  rintro e w23 ⟨a3, b3, rfl, hA, hK, hU⟩
  have H23 := Lib.hid (And.intro (H22.out.still hU) hA)
  clear hA hK hU H22
  go_wp2_with fail
  refine (grant_full H23.out.2 1 rfl rfl).mono ?_
  rintro e w24 ⟨rfl, rfl⟩
  go_wp2_with fail
  refine (grant_nil 0 _).mono ?_
  rintro e w25 ⟨rfl, rfl⟩
  go_wp2_with fail
  have hq : (str [172, 2, 1]).toList = [172, 2, 1] := by rw [ByteArray.toList_eq]; rfl
  refine (awake_23 _).mono ?_
  rintro e w26 ⟨rfl, hU⟩
  have H26 := Lib.hid (And.intro (HU19.out.then ((H23.out.1.still hU).upd) (fun _ e => e.elim)) (H23.out.2.still hU))
  clear hU HU19 H23
  go_wp2_with fail
  refine (arb_epoch H26.out.2).mono ?_
  rintro e w27 ⟨rfl, rfl⟩
  go_wp2_with fail
  refine (arb_holder H26.out.2).mono ?_
  rintro e w28 ⟨rfl, rfl⟩
  go_wp2_with fail
  refine (epoch_nil _).mono ?_
  rintro e w29 ⟨rfl, rfl⟩
  go_wp2_with fail
  refine (holder_nil _).mono ?_
  rintro e w30 ⟨rfl, rfl⟩
  go_wp2_with fail
  go_ret
  exact ⟨rfl, H26.out.1⟩
end Go.Proofs.Ytnmbhoidnbideaa
