/-
  KeptSpoilt: the walk.
-/
import Derived.Test.YtafgohnpnaiomaaLawV
import Derived.Test.YtafgohnpnaiomaaLawT
import Derived.Test.YtafgohnpnaiomaaDiskG
import Derived.Test.YtafgohnpnaiomaaGreat9
import Derived.Outline
namespace Go.Proofs.Ytafgohnpnaiomaa
open Go Go.RowKit

theorem spoil_s {w0 w : World} {p : Nat} {d : Dk} (hD : DkS w0 w p d) (i a : Int) (x : ByteArray) (ha : i64ok a) (hx : x.size ≤ 9223372036854775807) :
    Calls Try.prog 35 #[.pointer (some ⟨p, 0, none⟩), .int .i64 i, .int .i64 a, .string x] w fun e w' => e = .returned (.int .i64 (d.spoil i a x).2) ∧ DkS w0 w' p (d.spoil i a x).1 := by
  obtain ⟨F, h1, h2⟩ := hD.ex
  refine (spoil_c h1 i a x ha.1 ha.2 hx).mono ?_
  rintro e w' ⟨rfl, hL⟩
  exact ⟨rfl, ⟨⟨F, hL.disk, h2⟩, hD.upd.then hL.upd (fun q hq => .inr (h2 q hq))⟩⟩
theorem look_s (s : ByteArray) (w : World) (hs : s.size ≤ 9223372036854775807) :
    Calls Try.prog 34 #[.string s] w fun e w' => e = .returned (.tuple #[.string (str (lookL s.data.toList).1), .int .i64 (lookL s.data.toList).2]) ∧ Upd (fun _ => False) w w' := by
  refine (Look_c s w hs).mono ?_
  rintro e w' ⟨rfl, hb⟩
  exact ⟨rfl, Upd.of_below hb _⟩
/-- A record on a disk, some Puts behind the beginning. -/
structure OneS (w0 wr : World) (p b i : Nat) (d : Dk) (k : Kp) : Prop where
  disk : DkS w0 wr p d
  rec_ : KpS w0 wr p b k
  kept : ∃ l0 l1, KeptIs d k l0 l1
  from_ : k.from_ = 0
  seen : k.seen ≤ i
  pend : d.pend = 0
  len : d.lasts.length = 20
theorem OneS.put {w0 wr : World} {p b i : Nat} {d : Dk} {k : Kp} (h : OneS w0 wr p b i d k) (hi : i < 100) (x : ByteArray) :
    Calls Try.prog 29 #[.pointer (some ⟨b, 0, none⟩), .string x] wr fun e w' => ∃ d' k' r, e = .returned (.int .i64 r) ∧ OneS w0 w' p b (i + 1) d' k' := by
  have hs := h.seen
  have hp := h.pend
  by_cases hx : x.size ≤ 400
  · obtain ⟨l0, l1, hk⟩ := h.kept
    refine (put_s h.disk h.rec_ hk x hx (by omega) (by omega)).mono ?_
    rintro e w' ⟨rfl, hD', hK', -⟩
    have hxl : x.data.toList.length ≤ 400 := by simpa using hx
    obtain ⟨-, ⟨c0, c1, hk'⟩, hl, hp'⟩ := put_is' hk x.data.toList hxl (by omega)
    exact ⟨_, _, _, rfl, hD', hK', ⟨_, _, hk'⟩, h.from_, by show k.seen + 1 ≤ i + 1; omega, hp', by rw [hl]; exact h.len⟩
  · refine (Put_refused h.rec_.blk x (.inr (.inl (by omega)))).mono ?_
    rintro e w' ⟨rfl, rfl⟩
    exact ⟨d, k, _, rfl, h.disk, h.rec_, h.kept, h.from_, by omega, hp, h.len⟩

set_option maxRecDepth 100000 in
set_option maxHeartbeats 1600000 in
theorem walk_KeptSpoilt {v : Value} {l : List Act9} {ai aa : Int} {x : ByteArray} (w : World) (hA : IsActs09 w v l) (hi : (Lit.int .u8 ai).wf = true) (ha : (Lit.int .u8 aa).wf = true) (hx : x.size ≤ maxLen) :
    Calls Try.prog 5 #[v, .int .u8 ai, .int .u8 aa, .string x] w fun e w' => e = .returned (.bool true) ∧ Upd (fun _ => False) w w' := by
  unfold maxLen at hx
  have u8 : ∀ n : Int, (Lit.int .u8 n).wf = true → ∃ m : Nat, n = m ∧ m < 256 := by
    intro n h
    simp only [Lit.wf, Bool.and_eq_true, decide_eq_true_eq] at h
    have h1 : IntKind.u8.min = 0 := rfl
    have h2 : IntKind.u8.max = 255 := rfl
    exact ⟨n.toNat, by omega, by omega⟩
  obtain ⟨i, rfl, hi⟩ := u8 ai hi
  obtain ⟨a, rfl, ha⟩ := u8 aa ha
  clear u8
  have HW := Lib.hid (awake_09 w)
  have HGr := Lib.hid (fun w1 hu => great_09 w w1 hA hu)
  obtain ⟨A, cap, bA, off, rfl, hm, hA0, hcells, hok⟩ := hA.open_
  have HC := Lib.hid hcells
  have HK := Lib.hid hok
  clear hcells hok hA
  go_enter Try.func5, Try.ntmps5
  go_wp2_with fail
  refine HW.out.mono ?_
  rintro e w1 ⟨rfl, hU1⟩
  have HU1 := Lib.hid hU1
  clear hU1 HW
  go_wp2_with fail
  refine (HGr.out w1 HU1.out).mono ?_
  rintro e w' ⟨bg, rfl, rfl, hge⟩
  have HGe := Lib.hid hge
  clear hge HGr
  cases bg
  · by_cases h4 : 4 < x.size
    · have h4' : (4 : Int) < (x.size : Int) := by omega
      go_wp2_with fail
      go_ret
      exact ⟨rfl, HU1.out⟩
    · have h4' : ¬ (4 : Int) < (x.size : Int) := by omega
      obtain ⟨hl60, -⟩ := HGe.out.ok rfl
      go_wp2_with fail
      refine (new_s 20 _ (by omega) (by omega)).mono ?_
      rintro e w2 ⟨p, rfl, hD⟩
      have H2 := Lib.hid hD
      clear hD
      go_wp2_with fail
      refine (open_at H2.out (fresh_is 20 0 (by omega)) 0 rfl).mono ?_
      rintro e w3 ⟨b, rfl, hK, hU, -⟩
      have H3 : Hid (OneS w1 w3 p b 0 (Dk.fresh 20) ⟨0, [], 0, 1, 0, false⟩) := ⟨H2.out.still hU, hK, ⟨_, _, fresh_is 20 0 (by omega)⟩, rfl, Nat.le_refl _, by decide, rfl⟩
      clear hK hU H2
      go_wp2_with fail
      go_loopw [13] (fun y wr => ∃ (n : Nat) (d : Dk) (k : Kp), n ≤ l.length ∧ y = .int .i64 n ∧ OneS w1 wr p b n d k) (fun y _ => l.length - (intOf y).toNat)
      case atStart => exact ⟨0, _, _, by omega, rfl, H3.out⟩
      case round =>
        obtain ⟨n, d, k, hn, rfl, hO⟩ := hrel
        clear H3
        by_cases hlt : n < l.length
        · obtain rfl := hA0 (by omega)
          obtain ⟨-, c1, -⟩ := HC.out wr (HU1.out.then hO.disk.upd (fun _ e => e.elim)) n hlt
          have HO := Lib.hid hO
          clear hO
          go_wp2_with fail
          refine (HO.out.put (by omega) l[n].text).mono ?_
          rintro e w4 ⟨d', k', r, rfl, hO4⟩
          have H4 := Lib.hid hO4
          clear hO4 c1
          go_wp2_with fail
          go_roundw
          case rel => exact ⟨n + 1, d', k', by omega, by go_num, H4.out⟩
          case measure => simp [intOf]; omega
        · have HO := Lib.hid hO
          clear hO
          have hn60 : n ≤ 60 := by omega
          obtain ⟨l0, l1, hkept⟩ := HO.out.kept
          have hj20 : i % 20 < 20 := by omega
          have hsz := HO.out.disk.wf.now_size (i := i % 20) (by rw [HO.out.len]; exact hj20)
          have hei : ((i : Int) % 20) = ((i % 20 : Nat) : Int) := by omega
          have hea : ((a : Int) % 64) = ((a % 64 : Nat) : Int) := by omega
          have hrd : d.read ((i : Int) % 20) = (d.now (i % 20), 0) := by
            rw [hei]
            exact Dk.read_there hkept.off (by rw [HO.out.len]; exact hj20)
          have HR := Lib.hid hrd
          have HE := Lib.hid (And.intro hei hea)
          have HKp := Lib.hid hkept
          clear hrd hei hea hkept
          go_wp2_with fail
          refine (read_s HO.out.disk _).mono ?_
          rw [HR.out]
          rintro e w5 ⟨rfl, rfl⟩
          go_wp2_with fail
          refine (look_s _ _ (by omega)).mono ?_
          rintro e w6 ⟨rfl, hU⟩
          have H6 := Lib.hid (HO.out.disk.still hU)
          clear hU
          generalize hst : (lookL (d.now (i % 20)).data.toList).2 = st
          have HSt := Lib.hid hst
          clear hst
          go_wp2_with fail
          refine (spoil_s H6.out _ _ x (by unfold i64ok; omega) hx).mono ?_
          rintro e w7 ⟨rfl, hD⟩
          have H7 := Lib.hid hD
          clear hD H6
          by_cases hax : a % 64 + x.size ≤ 64
          · have hsp := Dk.spoil_ok (d := d) (i := i % 20) (a := a % 64) (x := x) (by rw [HO.out.len]; exact hj20) (by omega) hax
            have hrd2 : (d.spoil ((i % 20 : Nat) : Int) ((a % 64 : Nat) : Int) x).1.read ((i : Int) % 20) = ((d.spoil ((i % 20 : Nat) : Int) ((a % 64 : Nat) : Int) x).1.now (i % 20), 0) := by
              rw [HE.out.1]
              exact Dk.read_there (by rw [hsp]; exact HKp.out.off) (by rw [hsp]; simpa [HO.out.len] using hj20)
            have hop := spoil_open HKp.out HO.out.pend (by have := HO.out.seen; omega) (i % 20) hj20 (a % 64) x (by omega) hax
            rw [HO.out.from_] at hop
            simp only [Nat.zero_add] at hop
            rw [HSt.out] at hop
            have h2 : (d.spoil ((i : Int) % 20) ((a : Int) % 64) x).2 = 0 := by rw [HE.out.1, HE.out.2, hsp]
            have hoff : (d.spoil ((i % 20 : Nat) : Int) ((a % 64 : Nat) : Int) x).1.off = false := by rw [hsp]; exact HKp.out.off
            have hlen : (d.spoil ((i % 20 : Nat) : Int) ((a % 64 : Nat) : Int) x).1.lasts.length = 20 := by rw [hsp]; simpa using HO.out.len
            rw [h2]
            rw [HE.out.1, HE.out.2] at H7
            generalize (d.spoil ((i % 20 : Nat) : Int) ((a % 64 : Nat) : Int) x).1 = ds at *
            have HP := Lib.hid (And.intro hop (And.intro hoff (And.intro hlen hrd2)))
            clear hsp hop hoff hlen hrd2 h2
            go_wp2_with fail
            refine (read_s H7.out _).mono ?_
            rw [HP.out.2.2.2]
            rintro e w8 ⟨rfl, rfl⟩
            by_cases h1 : st = 1
            · have h1' : (st != 1) = false := by simp [h1]
              by_cases hz : ds.now (i % 20) = d.now (i % 20)
              · rw [hz]
                go_wp2_with fail
                go_ret
                exact ⟨rfl, HU1.out.then H7.out.upd (fun _ e => e.elim)⟩
              · have hn := HP.out.1 h1 hz
                have hz' : ((ds.now (i % 20)).toList == (d.now (i % 20)).toList) = false := by
                  rw [beq_eq_false_iff_ne, ByteArray.toList_eq, ByteArray.toList_eq]
                  intro e
                  apply hz
                  have e2 : (ds.now (i % 20)).data = (d.now (i % 20)).data := Array.toList_inj.1 e
                  exact ByteArray.ext e2
                obtain ⟨F, h7, -⟩ := H7.out.ex
                have hop := Open_on h7 0 (by rw [HP.out.2.2.1]; omega) HP.out.2.1
                rw [hn] at hop
                have HOp := Lib.hid hop
                clear hop hn hz h7
                generalize ds.now (i % 20) = z1 at *
                generalize d.now (i % 20) = z2 at *
                go_wp2_with fail
                refine HOp.out.mono ?_
                rintro e w9 ⟨v9, rfl, hL⟩
                have HU := Lib.hid hL.upd
                clear hL
                go_wp2_with fail
                go_ret
                exact ⟨rfl, (HU1.out.then H7.out.upd (fun _ e => e.elim)).then HU.out (fun _ e => e.elim)⟩
            · have h1' : (st != 1) = true := by simp [h1]
              clear h1
              go_wp2_with fail
              go_ret
              exact ⟨rfl, HU1.out.then H7.out.upd (fun _ e => e.elim)⟩
          · have hsp : d.spoil ((i : Int) % 20) ((a : Int) % 64) x = (d, 1) := by
              unfold Dk.spoil
              rw [if_neg]
              rw [Bool.and_eq_true, decide_eq_true_eq]
              omega
            rw [hsp] at H7 ⊢
            clear hsp
            go_wp2_with fail
            refine (read_s H7.out _).mono ?_
            rw [HR.out]
            rintro e w8 ⟨rfl, rfl⟩
            go_wp2_with fail
            all_goals
              go_ret
              exact ⟨rfl, HU1.out.then H7.out.upd (fun _ e => e.elim)⟩
  · go_wp2_with fail
    go_ret
    exact ⟨rfl, HU1.out⟩
end Go.Proofs.Ytafgohnpnaiomaa
