/-
  LogSpoilt: the walk.
-/
import Derived.Test.YtafgohnpnaiomaaLogSpoil
namespace Go.Proofs.Ytafgohnpnaiomaa
open Go Go.RowKit

set_option maxRecDepth 100000 in
set_option maxHeartbeats 1600000 in
theorem walk_LogSpoilt {v : Value} {l : List ByteArray} {ai aa ae : Int} {x : ByteArray} (w : World) (hA : IsStrs w v l) (hi : (Lit.int .u8 ai).wf = true) (ha : (Lit.int .u8 aa).wf = true) (hx : x.size ≤ maxLen) (he : (Lit.int .u64 ae).wf = true) :
    Calls Try.prog 9 #[v, .int .u8 ai, .int .u8 aa, .string x, .int .u64 ae] w fun e w' => e = .returned (.bool true) ∧ Upd (fun _ => False) w w' := by
  unfold maxLen at hx
  obtain ⟨i, rfl, hi⟩ := u8_nat hi
  obtain ⟨a, rfl, ha⟩ := u8_nat ha
  obtain ⟨ep, rfl, hep⟩ := u64_nat he
  have HA := Lib.hid hA
  obtain ⟨aA, aC, bA, oA, rfl, mA, -, -, -⟩ := hA.open_
  clear hA he
  have HW := Lib.hid (awake_10 w)
  go_enter Try.func9, Try.ntmps9
  go_wp2_with fail
  refine HW.out.mono ?_
  rintro e w1 ⟨rfl, hU1⟩
  have HU1 := Lib.hid hU1
  clear hU1 HW
  by_cases c1 : 60 < l.length
  · have c1' : (60 : Int) < (l.length : Int) := by omega
    go_wp2_with fail
    go_ret
    exact ⟨rfl, HU1.out⟩
  have c1' : ¬ (60 : Int) < (l.length : Int) := by omega
  by_cases c2 : 4 < x.size
  · have c2' : (4 : Int) < (x.size : Int) := by omega
    go_wp2_with fail
    go_ret
    exact ⟨rfl, HU1.out⟩
  have c2' : ¬ (4 : Int) < (x.size : Int) := by omega
  by_cases c3 : ep < 1
  · have c3' : (ep : Int) < 1 := by omega
    go_wp2_with fail
    go_ret
    exact ⟨rfl, HU1.out⟩
  have c3' : ¬ (ep : Int) < 1 := by omega
  have C := Lib.hid (And.intro c1 (And.intro c2 c3))
  clear c1 c2 c3
  have K0 := Lib.hid (fresh_log 50 0 50 3 (by omega) (by omega) (by omega) (by omega))
  go_wp2_with fail
  refine (new_s 50 _ (by omega) (by omega)).mono ?_
  rintro e w2 ⟨p, rfl, hD⟩
  have H2 := Lib.hid hD
  clear hD
  go_wp2_with fail
  refine (openG_l H2.out K0.out 0 50 3 rfl rfl rfl).mono ?_
  rintro e w3 ⟨b, rfl, hS, -, -⟩
  have H3 := Lib.hid (hS.less (Y := fun _ => False) (fun _ e => e.elim))
  clear hS H2
  go_wp2_with fail
  refine (fillG_c H3.out K0.out ⟨HA.out.1.still HU1.out, HA.out.2⟩ (by have := C.out.1; omega) (by simp) (by decide)).mono ?_
  rintro e w4 ⟨vh, d, g, new, R, rfl, hF⟩
  have hfr := hF.from_
  have hL := hF.is
  rw [List.nil_append] at hL
  have hee : ∀ q, some q ∈ (rowOf g.epoch 0 new).map some ++ R → q.epoch < 256 := by
    intro q hq
    rcases List.mem_append.1 hq with e | e
    · obtain ⟨q', hq', e⟩ := List.mem_map.1 e
      injection e with e
      subst e
      have h1 : g.epoch = 3 := hfr.2.2.1
      rw [rowOf_epoch q' hq', h1]
      omega
    · have := List.eq_of_mem_replicate (hF.rest _ e)
      simp at this
  have hj50 : i % 50 < 50 := by omega
  have hlen : d.lasts.length = 50 := by rw [hF.lasts]; rfl
  have hpe : d.pend = 0 := by have := hF.pend; rw [fresh_pend] at this; omega
  have hei : ((i : Int) % 50) = ((i % 50 : Nat) : Int) := by omega
  have hea : ((a : Int) % 64) = ((a % 64 : Nat) : Int) := by omega
  have hrd : d.read ((i : Int) % 50) = (d.now (i % 50), 0) := by
    rw [hei]
    exact Dk.read_there hL.off (by rw [hlen]; exact hj50)
  have hsz := hF.log.disk.wf.now_size (i := i % 50) (by rw [hlen]; exact hj50)
  have H4 := Lib.hid hF.log.disk
  have HL := Lib.hid hL
  have HP := Lib.hid (And.intro hfr (And.intro hee (And.intro hlen hpe)))
  have HR := Lib.hid hrd
  have HE := Lib.hid (And.intro hei hea)
  clear hF hL hfr hee hlen hpe hei hea hrd H3 K0
  go_wp2_with fail
  refine (read_s H4.out _).mono ?_
  rw [HR.out]
  rintro e w5 ⟨rfl, rfl⟩
  go_wp2_with fail
  refine (look_s _ _ (by omega)).mono ?_
  rintro e w6 ⟨rfl, hU⟩
  have H6 := Lib.hid (H4.out.still hU)
  clear hU H4
  generalize hst : (lookL (d.now (i % 50)).data.toList).2 = st
  have HSt := Lib.hid hst
  clear hst
  go_wp2_with fail
  refine (spoil_s H6.out _ _ x (by omega) hx).mono ?_
  rintro e w7 ⟨rfl, hD⟩
  have H7 := Lib.hid hD
  clear hD H6
  by_cases hax : a % 64 + x.size ≤ 64
  · have hsp := Dk.spoil_ok (d := d) (i := i % 50) (a := a % 64) (x := x) (by rw [HP.out.2.2.1]; exact hj50) (by have := C.out.2.1; omega) hax
    have hrd2 : (d.spoil ((i % 50 : Nat) : Int) ((a % 64 : Nat) : Int) x).1.read ((i : Int) % 50) = ((d.spoil ((i % 50 : Nat) : Int) ((a % 64 : Nat) : Int) x).1.now (i % 50), 0) := by
      rw [HE.out.1]
      exact Dk.read_there (by rw [hsp]; exact HL.out.off) (by rw [hsp]; simpa [HP.out.2.2.1] using hj50)
    have hop := spoil_openG HL.out HP.out.2.2.2 HP.out.2.1 (i % 50) (by have := HP.out.1.2.1; rw [this]; exact hj50) (a % 64) x (by have := C.out.2.1; omega) hax
    have hf0 : g.from_ = 0 := HP.out.1.1
    have hs0 : g.sectors = 50 := HP.out.1.2.1
    rw [hf0, hs0] at hop
    simp only [Nat.zero_add] at hop
    rw [HSt.out] at hop
    have h2 : (d.spoil ((i : Int) % 50) ((a : Int) % 64) x).2 = 0 := by rw [HE.out.1, HE.out.2, hsp]
    have hoff : (d.spoil ((i % 50 : Nat) : Int) ((a % 64 : Nat) : Int) x).1.off = false := by rw [hsp]; exact HL.out.off
    have hlen : (d.spoil ((i % 50 : Nat) : Int) ((a % 64 : Nat) : Int) x).1.lasts.length = 50 := by rw [hsp]; simpa using HP.out.2.2.1
    rw [h2]
    rw [HE.out.1, HE.out.2] at H7
    clear hf0 hs0
    generalize (d.spoil ((i % 50 : Nat) : Int) ((a % 64 : Nat) : Int) x).1 = ds at *
    have HQ := Lib.hid (And.intro hop (And.intro hoff (And.intro hlen hrd2)))
    clear hsp hop hoff hlen hrd2 h2
    go_wp2_with fail
    refine (read_s H7.out _).mono ?_
    rw [HQ.out.2.2.2]
    rintro e w8 ⟨rfl, rfl⟩
    by_cases h1 : st = 1
    · have h1' : (st != 1) = false := by simp [h1]
      by_cases hz : ds.now (i % 50) = d.now (i % 50)
      · rw [hz]
        go_wp2_with fail
        go_ret
        exact ⟨rfl, HU1.out.then H7.out.upd (fun _ e => e.elim)⟩
      · have hn := HQ.out.1 h1 hz ep
        have hz' : ((ds.now (i % 50)).toList == (d.now (i % 50)).toList) = false := by
          rw [beq_eq_false_iff_ne, ByteArray.toList_eq, ByteArray.toList_eq]
          intro e
          exact hz (ByteArray.ext (Array.toList_inj.1 e))
        obtain ⟨F, h7, -⟩ := H7.out.ex
        have hop := openG_on h7 0 50 ep (by omega) (by rw [HQ.out.2.2.1]; omega) (by have := C.out.2.2; omega) hep HQ.out.2.1
        rw [hn] at hop
        have HOp := Lib.hid hop
        clear hop hn hz h7
        generalize ds.now (i % 50) = z1 at *
        generalize d.now (i % 50) = z2 at *
        go_wp2_with fail
        refine (show Calls Try.prog 36 #[.pointer (some ⟨p, 0, none⟩), .int .i64 0, .int .i64 50, .int .u64 (ep : Int)] _ _ from HOp.out).mono ?_
        rintro e w9 ⟨v9, rfl, hL⟩
        have HU := Lib.hid hL.upd
        clear hL
        go_wp2_with fail
        go_ret
        exact ⟨rfl, (HU1.out.then H7.out.upd (fun _ e => e.elim)).then HU.out (fun _ e => e.elim)⟩
    · have h1' : (st != 1) = true := by simp [h1]
      clear h1
      go_wp2_with fail
      go_ret
      exact ⟨rfl, HU1.out.then H7.out.upd (fun _ e => e.elim)⟩
  · have hsp : d.spoil ((i : Int) % 50) ((a : Int) % 64) x = (d, 1) := by
      unfold Dk.spoil
      rw [if_neg]
      rw [Bool.and_eq_true, decide_eq_true_eq]
      omega
    rw [hsp] at H7 ⊢
    clear hsp
    go_wp2_with fail
    refine (read_s H7.out _).mono ?_
    rw [HR.out]
    rintro e w8 ⟨rfl, rfl⟩
    go_wp2_with fail
    all_goals
      go_ret
      exact ⟨rfl, HU1.out.then H7.out.upd (fun _ e => e.elim)⟩
end Go.Proofs.Ytafgohnpnaiomaa
