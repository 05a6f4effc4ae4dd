/-
  DiskSync: the walk.
-/
import Derived.Test.YtafgohnpnaiomaaRunW
namespace Go.Proofs.Ytafgohnpnaiomaa
open Go Go.RowKit

theorem Dk.crash_last {d : Dk} (keep : List Int) (i : Nat) (hi : i < d.lasts.length) (h0 : d.at_ i = []) : (d.crash keep).last i = d.last i := by
  have h := Dk.part_get d keep d.busy.length i hi
  have hn : i ∉ d.busy.take d.busy.length := by
    rw [List.take_length, Dk.busy_mem]
    exact fun h => h.2 h0
  rw [if_neg hn] at h
  show (d.part keep d.busy.length).lasts.getD i ByteArray.empty = _
  rw [List.getD_eq_getElem?_getD, h]
  rfl
theorem Dk.crash_keeps {d : Dk} (hl : d.waits.length = d.lasts.length) (keep : List Int) (i : Nat) (hi : i < d.lasts.length) (h0 : d.at_ i = []) : (d.crash keep).now i = d.last i := by
  unfold Dk.now
  rw [Dk.crash_now hl]
  exact Dk.crash_last keep i hi h0
theorem Dk.crash_len (d : Dk) (keep : List Int) : (d.crash keep).lasts.length = d.lasts.length := Dk.part_len _ _ _
theorem Dk.crash_waits (d : Dk) (keep : List Int) : (d.crash keep).waits.length = d.waits.length := by
  show ((List.range d.waits.length).map _).length = _
  rw [List.length_map, List.length_range]
theorem Dk.flush_at (d : Dk) (i : Nat) : d.flush.at_ i = [] := by
  show ((d.waits.map fun _ => ([] : List ByteArray)).getD i []) = []
  rw [List.getD_eq_getElem?_getD, List.getElem?_map]
  cases d.waits[i]? <;> rfl
theorem Dk.flush_last (d : Dk) (i : Nat) (hi : i < d.lasts.length) : d.flush.last i = d.now i := by
  show ((List.range d.lasts.length).map d.now).getD i ByteArray.empty = _
  rw [List.getD_eq_getElem?_getD, List.getElem?_map, List.getElem?_range hi]
  rfl
theorem Dk.flush_len (d : Dk) : d.flush.lasts.length = d.lasts.length := by simp [Dk.flush]
theorem act_len (d : Dk) (a : Act7) : (d.act a).lasts.length = d.lasts.length := by
  unfold Dk.act
  split
  · rw [write_lasts]
  · split
    · unfold Dk.sync
      split
      · rfl
      · split
        · rw [Dk.flush_len, Dk.burn_lasts]
        · rw [Dk.burn_lasts]
    · split
      · rfl
      · split
        · exact Dk.crash_len _ _
        · split
          · unfold Dk.spoil
            split
            · simp
            · rfl
          · rfl
theorem acts_len (l : List Act7) (d : Dk) : (l.foldl Dk.act d).lasts.length = d.lasts.length := by
  induction l generalizing d with
  | nil => rfl
  | cons a l ih => rw [List.foldl_cons, ih, act_len]

theorem push_waits (d : Dk) (i : Nat) (b : ByteArray) : (d.push i b).waits.length = d.waits.length := by simp [Dk.push]
/-- The law's disk, step by step. -/
structure SyncEnd (d : Dk) (n i j : Nat) (s t : ByteArray) (keep : List Int) : Prop where
  w1 : (d.crash []).write (i : Int) s = ((d.crash []).push i s, 0)
  sy : ((d.crash []).push i s).sync = (((d.crash []).push i s).flush, 0)
  w2 : ((d.crash []).push i s).flush.write (j : Int) t = (((d.crash []).push i s).flush.push j t, 0)
  r1 : i ≠ j → ((((d.crash []).push i s).flush.push j t).crash keep).read (i : Int) = (s, 0)
  r2 : i ≠ j → (((((d.crash []).push i s).flush.push j t).crash keep).crash [7]).read (i : Int) = (s, 0)
  r3 : ((((d.crash []).push i s).flush).crash keep).read (i : Int) = (s, 0)
  r4 : (((((d.crash []).push i s).flush).crash keep).crash [7]).read (i : Int) = (s, 0)
theorem sync_end {d : Dk} (hl : d.waits.length = d.lasts.length) {n i j : Nat} (hn : d.lasts.length = n) (hi : i < n) (hj : j < n) {s t : ByteArray} (hs : s.size = 64) (ht : t.size = 64) (keep : List Int) : SyncEnd d n i j s t keep := by
  have c1 : (d.crash []).lasts.length = n := by rw [Dk.crash_len, hn]
  have c2 : (d.crash []).waits.length = n := by rw [Dk.crash_waits, hl, hn]
  have p1 : ((d.crash []).push i s).lasts.length = n := c1
  have p2 : ((d.crash []).push i s).waits.length = n := by simp [Dk.push, c2]
  have f1 : ((d.crash []).push i s).flush.lasts.length = n := by rw [Dk.flush_len, p1]
  have f2 : ((d.crash []).push i s).flush.waits.length = n := by simp [Dk.flush, p2]
  have fl : ((d.crash []).push i s).flush.last i = s := by
    rw [Dk.flush_last _ _ (by rw [p1]; exact hi), Dk.push_now _ _ _ _ (by rw [c2]; exact hi), if_pos rfl]
  have q1 : (((d.crash []).push i s).flush.push j t).lasts.length = n := f1
  have q2 : (((d.crash []).push i s).flush.push j t).waits.length = n := by rw [push_waits, f2]
  have two : ∀ (D : Dk), D.lasts.length = n → D.waits.length = n → D.at_ i = [] → D.last i = s → (D.crash keep).read (i : Int) = (s, 0) ∧ ((D.crash keep).crash [7]).read (i : Int) = (s, 0) := by
    intro D h1 h2 h3 h4
    have k1 : (D.crash keep).now i = s := by rw [Dk.crash_keeps (by rw [h1, h2]) keep i (by rw [h1]; exact hi) h3, h4]
    have k0 : (D.crash keep).at_ i = [] := Dk.crash_now (by rw [h1, h2]) keep i
    have kl : (D.crash keep).last i = s := by rw [Dk.crash_last keep i (by rw [h1]; exact hi) h3, h4]
    refine ⟨?_, ?_⟩
    · rw [Dk.read_there rfl (by rw [Dk.crash_len, h1]; exact hi), k1]
    · rw [Dk.read_there rfl (by rw [Dk.crash_len, Dk.crash_len, h1]; exact hi), Dk.crash_keeps (by rw [Dk.crash_len, Dk.crash_waits, h1, h2]) [7] i (by rw [Dk.crash_len, h1]; exact hi) k0, kl]
  have t1 := two _ f1 f2 (Dk.flush_at _ i) fl
  refine ⟨Dk.write_free rfl rfl (by rw [c1]; exact hi) hs, Dk.sync_free rfl rfl, Dk.write_free rfl rfl (by rw [f1]; exact hj) ht, fun hij => ?_, fun hij => ?_, t1.1, t1.2⟩
  · exact (two _ q1 q2 (by rw [push_at _ _ (by rw [f2]; exact hj), if_neg hij]; exact Dk.flush_at _ _) fl).1
  · exact (two _ q1 q2 (by rw [push_at _ _ (by rw [f2]; exact hj), if_neg hij]; exact Dk.flush_at _ _) fl).2

theorem sync_ex {d : Dk} (hwf : d.wf) {n i j : Nat} (hn : d.lasts.length = n) (hi : i < n) (hj : j < n) {s t : ByteArray} (hs : s.size = 64) (ht : t.size = 64) (keep : List Int) :
    ∃ D1 D2 D3 D4 : Dk, d.crash [] = D1 ∧ D1.pend = 0 ∧ D1.write (i : Int) s = (D2, 0) ∧ D2.sync = (D3, 0) ∧ D3.pend = 0 ∧ D3.write (j : Int) t = (D4, 0) ∧
      (i ≠ j → (D4.crash keep).read (i : Int) = (s, 0) ∧ ((D4.crash keep).crash [7]).read (i : Int) = (s, 0)) ∧ (D3.crash keep).read (i : Int) = (s, 0) ∧ ((D3.crash keep).crash [7]).read (i : Int) = (s, 0) := by
  have h := sync_end hwf.len hn hi hj hs ht keep
  exact ⟨_, _, _, _, rfl, Dk.crash_pend hwf [], h.w1, h.sy, Dk.flush_pend _, h.w2, fun e => ⟨h.r1 e, h.r2 e⟩, h.r3, h.r4⟩
theorem full_is (b : Nat) (hb : b < 256) : ∃ s : ByteArray, s.size = 64 ∧ ∀ w, Calls Try.prog 54 #[.int .u8 (b : Int)] w fun e w' => e = .returned (.string s) ∧ Upd (fun _ => False) w w' :=
  ⟨_, rep64_size _, fun w => full_c b w hb⟩
set_option maxRecDepth 100000 in
set_option maxHeartbeats 1600000 in
theorem walk_DiskSync {an aa ab : Int} {v vk : Value} {l : List Act7} {keep : List Int} (w : World) (h1 : (Lit.int .u8 an).wf = true) (hA : IsActs07 w v l) (h2 : (Lit.int .u8 aa).wf = true) (h3 : (Lit.int .u8 ab).wf = true) (hK : IsInts w vk keep) :
    Calls Try.prog 11 #[.int .u8 an, v, .int .u8 aa, .int .u8 ab, vk] w fun e w' => e = .returned (.bool true) ∧ Upd (fun _ => False) w w' := by
  obtain ⟨m, rfl, hm⟩ := u8_of h1
  obtain ⟨a, rfl, ha⟩ := u8_of h2
  obtain ⟨b, rfl, hb⟩ := u8_of h3
  have HW := Lib.hid (awake_07 w)
  have HA := Lib.hid hA
  have HK := Lib.hid hK
  obtain ⟨kA, kcap, -, -, rfl, km, -, -, -⟩ := hK.open_
  clear hA hK h1 h2 h3
  obtain ⟨n, hn⟩ : ∃ n : Nat, n = 1 + m % 40 := ⟨_, rfl⟩
  have hn1 : 1 ≤ n ∧ n ≤ 40 := by omega
  have hn' : 1 + (m : Int) % 40 = (n : Int) := by omega
  clear hn
  go_enter Try.func11, Try.ntmps11
  go_wp2_with fail
  refine HW.out.mono ?_
  rintro e w1 ⟨rfl, hU1⟩
  have HU1 := Lib.hid hU1
  clear hU1 HW
  go_wp2_with fail
  refine (great_07 w w1 HA.out HU1.out).mono ?_
  rintro e w' ⟨bg, rfl, rfl, hge⟩
  have HGe := Lib.hid hge
  clear hge
  cases bg
  · by_cases c1 : 100 < keep.length
    · have c1' : (100 : Int) < (keep.length : Int) := by omega
      go_wp2_with fail
      go_ret
      exact ⟨rfl, HU1.out⟩
    have c1' : ¬ (100 : Int) < (keep.length : Int) := by omega
    obtain ⟨hl200, -⟩ := HGe.out.ok rfl
    go_wp2_with fail
    refine (new_x (Dks.none_ w1) _ n rfl hn1.1 (by omega)).mono ?_
    rintro e w2 ⟨p, rfl, hD⟩
    have H2 := Lib.hid hD
    clear hD
    go_wp2_with fail
    refine (run_c (i := 0) H2.out rfl (HA.out.still HU1.out) hl200 (by rw [fresh_pend7]; omega)).mono ?_
    rintro e w3 ⟨rfl, hD⟩
    obtain ⟨d, hd⟩ : ∃ d, l.foldl Dk.act (Dk.fresh n) = d := ⟨_, rfl⟩
    have hdl : d.lasts.length = n := by rw [← hd, acts_len]; simp [Dk.fresh]
    rw [hd] at hD
    have H3 : Hid (Dks w1 w3 [(p, d)]) := hD
    have hwf := (H3.out.one 0 rfl).wf
    have hwl := hwf.len
    clear hD H2 hd
    obtain ⟨i, hi⟩ : ∃ i, i = a % n := ⟨_, rfl⟩
    obtain ⟨j, hj⟩ : ∃ j, j = (i + 1) % n := ⟨_, rfl⟩
    have hin : i < n := by rw [hi]; exact Nat.mod_lt _ (by omega)
    have hjn : j < n := by rw [hj]; exact Nat.mod_lt _ (by omega)
    have ia1 : (a : Int).tmod (n : Int) = (i : Int) := by rw [hi]; rw [Int.tmod_eq_emod_of_nonneg (by omega)]; rfl
    have ia2 : (a : Int) % (n : Int) = (i : Int) := by rw [hi]; rfl
    have ij1 : ((i : Int) + 1).tmod (n : Int) = (j : Int) := by rw [hj]; rw [Int.tmod_eq_emod_of_nonneg (by omega)]; rfl
    have ij2 : ((i : Int) + 1) % (n : Int) = (j : Int) := by rw [hj]; rfl
    obtain ⟨b2, hb2⟩ : ∃ b2, b2 = (b + 1) % 256 := ⟨_, rfl⟩
    obtain ⟨s, hs, hfs⟩ := full_is b hb
    obtain ⟨t, ht, hft⟩ := full_is b2 (by omega)
    obtain ⟨D1, D2, D3, D4, e1, e2, e3, e4, e5, e6, e7, e8, e9⟩ := sync_ex hwf hdl hin hjn hs ht keep
    have HFs := Lib.hid hfs
    have HFt := Lib.hid hft
    have HE1 := Lib.hid (And.intro e1 (And.intro e2 (And.intro e3 (And.intro e4 (And.intro e5 e6)))))
    have HE2 := Lib.hid e7
    have HE3 := Lib.hid (And.intro e8 e9)
    clear hfs hft e1 e2 e3 e4 e5 e6 e7 e8 e9
    have hne : 1 < n → i ≠ j := by
      intro h
      rw [hj]
      by_cases e : i + 1 = n
      · rw [e, Nat.mod_self]; omega
      · rw [Nat.mod_eq_of_lt (by omega)]; omega
    have HNe := Lib.hid hne
    clear hi hj hne hwl hdl hwf
    go_wp2_with fail
    refine (crash_x (i := 0) H3.out rfl (ints_nil w1)).mono ?_
    rintro e w4 ⟨rfl, hD⟩
    rw [HE1.out.1] at hD
    have H4 : Hid (Dks w1 w4 [(p, D1)]) := hD
    clear hD H3
    go_wp2_with fail
    refine (HFs.out _).mono ?_
    rintro e w5 ⟨rfl, hU⟩
    have H5 := Lib.hid (H4.out.still hU)
    clear hU H4
    go_wp2_with fail
    refine (write_x (i := 0) H5.out rfl (i : Int) s (by rw [HE1.out.2.1]; omega)).mono ?_
    rw [HE1.out.2.2.1]
    rintro e w6 ⟨rfl, hD⟩
    have H6 : Hid (Dks w1 w6 [(p, D2)]) := hD
    clear hD H5
    go_wp2_with fail
    refine (sync_x (i := 0) H6.out rfl).mono ?_
    rw [HE1.out.2.2.2.1]
    rintro e w7 ⟨rfl, hD⟩
    have H7 : Hid (Dks w1 w7 [(p, D3)]) := hD
    clear hD H6
    by_cases hn2 : 1 < n
    · have hn2' : (1 : Int) < (n : Int) := by omega
      go_wp2_with fail
      rw [show ((b : Int) + 1) % 256 = (b2 : Int) by rw [hb2]; rfl]
      refine (HFt.out _).mono ?_
      rintro e w8 ⟨rfl, hU⟩
      have H8 := Lib.hid (H7.out.still hU)
      clear hU H7
      go_wp2_with fail
      refine (write_x (i := 0) H8.out rfl (j : Int) t (by rw [HE1.out.2.2.2.2.1]; omega)).mono ?_
      rw [HE1.out.2.2.2.2.2]
      rintro e w9 ⟨rfl, hD⟩
      have H9 : Hid (Dks w1 w9 [(p, D4)]) := hD
      clear hD H8
      have HR := Lib.hid (HE2.out (HNe.out hn2))
      generalize D4 = D at *
      go_wp2_with fail
      refine (crash_x (i := 0) H9.out rfl ⟨HK.out.1.upd HU1.out, HK.out.2⟩).mono ?_
      rintro e w10 ⟨rfl, hD⟩
      have H10 : Hid (Dks w1 w10 [(p, D.crash keep)]) := hD
      clear hD
      go_wp2_with fail
      refine (read_x (i := 0) H10.out rfl (i : Int)).mono ?_
      rw [HR.out.1]
      rintro e w11 ⟨rfl, rfl⟩
      go_wp2_with fail
      refine (crash_y (i := 0) (keep := [7]) (H10.out.still ((Upd.refl _ _).alloc _)) rfl (Blk.new _ _ _) (by decide) (by simp)).mono ?_
      rintro e w12 ⟨rfl, hD⟩
      have H12 : Hid (Dks w1 w12 [(p, (D.crash keep).crash [7])]) := hD
      clear hD H10
      go_wp2_with fail
      refine (read_x (i := 0) H12.out rfl (i : Int)).mono ?_
      rw [HR.out.2]
      rintro e w13 ⟨rfl, rfl⟩
      go_wp2_with fail
      refine (HFs.out _).mono ?_
      rintro e w14 ⟨rfl, hU⟩
      have H14 := Lib.hid (H12.out.still hU)
      clear hU H12
      go_wp2_with fail
      refine (HFs.out _).mono ?_
      rintro e w15 ⟨rfl, hU⟩
      have H15 := Lib.hid (H14.out.still hU)
      clear hU H14
      go_wp2
      go_ret
      exact ⟨rfl, HU1.out.then H15.out.upd (fun _ e => e.elim)⟩
    · have hn2' : ¬ (1 : Int) < (n : Int) := by omega
      have HR := Lib.hid HE3.out
      generalize D3 = D at *
      go_wp2_with fail
      refine (crash_x (i := 0) H7.out rfl ⟨HK.out.1.upd HU1.out, HK.out.2⟩).mono ?_
      rintro e w10 ⟨rfl, hD⟩
      have H10 : Hid (Dks w1 w10 [(p, D.crash keep)]) := hD
      clear hD
      go_wp2_with fail
      refine (read_x (i := 0) H10.out rfl (i : Int)).mono ?_
      rw [HR.out.1]
      rintro e w11 ⟨rfl, rfl⟩
      go_wp2_with fail
      refine (crash_y (i := 0) (keep := [7]) (H10.out.still ((Upd.refl _ _).alloc _)) rfl (Blk.new _ _ _) (by decide) (by simp)).mono ?_
      rintro e w12 ⟨rfl, hD⟩
      have H12 : Hid (Dks w1 w12 [(p, (D.crash keep).crash [7])]) := hD
      clear hD H10
      go_wp2_with fail
      refine (read_x (i := 0) H12.out rfl (i : Int)).mono ?_
      rw [HR.out.2]
      rintro e w13 ⟨rfl, rfl⟩
      go_wp2_with fail
      refine (HFs.out _).mono ?_
      rintro e w14 ⟨rfl, hU⟩
      have H14 := Lib.hid (H12.out.still hU)
      clear hU H12
      go_wp2_with fail
      refine (HFs.out _).mono ?_
      rintro e w15 ⟨rfl, hU⟩
      have H15 := Lib.hid (H14.out.still hU)
      clear hU H14
      go_wp2
      go_ret
      exact ⟨rfl, HU1.out.then H15.out.upd (fun _ e => e.elim)⟩
  · go_wp2_with fail
    go_ret
    exact ⟨rfl, HU1.out⟩
end Go.Proofs.Ytafgohnpnaiomaa
