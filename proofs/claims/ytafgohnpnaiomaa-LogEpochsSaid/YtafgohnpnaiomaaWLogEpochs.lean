/-
  LogEpochs: the walk.
-/
import Derived.Test.YtafgohnpnaiomaaLogS
import Derived.Test.YtafgohnpnaiomaaArgs
namespace Go.Proofs.Ytafgohnpnaiomaa
open Go Go.RowKit

/-- Another log is opened on the disk of one. -/
theorem openG_x {w0 w : World} {p b0 : Nat} {d : Dk} {g0 g : Lg} {X : Nat → Prop} {rs : List (List UInt8 × Nat)} {R : List (Option Lp)} (hS : LgS w0 w p b0 d g0 X) (h : LogIs d g rs R) (f n e : Int) (hf : f = (g.from_ : Int)) (hn : n = (g.sectors : Int)) (he : e = (g.epoch : Int)) :
    Calls Try.prog 36 #[.pointer (some ⟨p, 0, none⟩), .int .i64 f, .int .i64 n, .int .u64 e] w fun en w' => ∃ b, en = .returned (.tuple #[.pointer (some ⟨b, 0, none⟩), .int .i64 0]) ∧ LgS w0 w' p b d g X ∧ Upd (fun _ => False) w w' ∧ w.heap.size ≤ b := by
  subst hf hn he
  obtain ⟨F, v, h1, h2, h3, h4, h5, h6⟩ := hS.ex
  refine (openG_on h1 g.from_ g.sectors g.epoch h.pos h.room h.epoch0 h.epoch h.off).mono ?_
  rintro en w' ⟨v, rfl, hO⟩
  rw [h.opens] at hO ⊢
  obtain ⟨b, v1, rfl, hB, hOwn, hb, hv⟩ := hO.ok g rfl
  refine ⟨b, rfl, ⟨⟨F, v1, h1.upd hO.upd (fun _ _ e => e), h2, hB, hOwn, fun q hq => ⟨Nat.le_trans hS.upd.size (hv q hq), fun e => ?_⟩, fun q hq => ⟨Nat.lt_of_lt_of_le (h6 q hq).1 hO.upd.size, fun e => ?_, (h6 q hq).2.2.1, fun e => ?_⟩⟩, Nat.le_trans hS.upd.size hb, hS.upd.then hO.upd (fun _ e => e.elim)⟩, hO.upd, hb⟩
  · have := h1.lt q e; have := hv q hq; omega
  · have := (h6 q hq).1; omega
  · have := (h6 q hq).1; have := hv q e; omega
theorem u64_nat {n : Int} (h : (Lit.int .u64 n).wf = true) : ∃ m : Nat, n = m ∧ m < 18446744073709551616 := by
  simp only [Lit.wf, Bool.and_eq_true, decide_eq_true_eq] at h
  have h1 : IntKind.u64.min = 0 := rfl
  have h2 : IntKind.u64.max = 18446744073709551615 := rfl
  exact ⟨n.toNat, by omega, by omega⟩
theorem u8_nat {n : Int} (h : (Lit.int .u8 n).wf = true) : ∃ m : Nat, n = m ∧ m < 256 := by
  simp only [Lit.wf, Bool.and_eq_true, decide_eq_true_eq] at h
  have h1 : IntKind.u8.min = 0 := rfl
  have h2 : IntKind.u8.max = 255 := rfl
  exact ⟨n.toNat, by omega, by omega⟩
/-- The other epoch, behind what fill added. -/
theorem epoch_two {d1 : Dk} {g1 : Lg} {new1 : List (List UInt8 × Nat)} {R1 : List (Option Lp)} {e1 e2 n : Nat} (h : LogIs d1 g1 new1 R1) (h0 : new1 = [] → d1 = Dk.fresh n ∧ g1 = lg0 0 n e1) (hn : 1 ≤ n) (hg : g1.from_ = 0 ∧ g1.sectors = n ∧ g1.epoch = e1) (hne : e1 ≠ e2) (hp : 0 < e2) (hlt : e2 < 18446744073709551616) :
    ∃ R2, LogIs d1 ⟨0, n, e2, [], 0, 0, g1.salt, false⟩ [] R2 := by
  by_cases hn1 : new1 = []
  · obtain ⟨rfl, rfl⟩ := h0 hn1
    exact ⟨_, fresh_log n 0 n e2 (by omega) hn hp hlt⟩
  · have hst := stop_other (R := R1) (e' := e2) hn1 (show g1.epoch ≠ e2 by rw [hg.2.2]; exact hne)
    have := h.other e2 hp hlt hst
    rw [hg.1, hg.2.1] at this
    exact ⟨_, this⟩
/-- The elder epoch, behind what was added of the other one. -/
theorem epoch_one {d1 d2 : Dk} {g1 g2 : Lg} {new1 new2 : List (List UInt8 × Nat)} {R1 R2 : List (Option Lp)} {e1 e2 n : Nat} (h1 : LogIs d1 g1 new1 R1) (h2 : LogIs d2 g2 new2 R2) (h0 : new2 = [] → d2 = d1) (hg1 : g1.from_ = 0 ∧ g1.sectors = n ∧ g1.epoch = e1) (hg2 : g2.from_ = 0 ∧ g2.sectors = n ∧ g2.epoch = e2) (hne : e1 ≠ e2) (hp : 0 < e1) (hlt : e1 < 18446744073709551616) :
    ∃ g3 rs3 R3, LogIs d2 g3 rs3 R3 ∧ g3.from_ = 0 ∧ g3.sectors = n ∧ g3.epoch = e1 ∧ (new2 = [] → g3.l = g1.l) ∧ (new2 ≠ [] → g3.l = []) := by
  by_cases hn2 : new2 = []
  · rw [h0 hn2]
    exact ⟨g1, new1, R1, h1, hg1.1, hg1.2.1, hg1.2.2, fun _ => rfl, fun h => absurd hn2 h⟩
  · have hst := stop_other (R := R2) (e' := e1) hn2 (show g2.epoch ≠ e1 by rw [hg2.2.2]; exact Ne.symm hne)
    have := h2.other e1 hp hlt hst
    exact ⟨_, _, _, this, hg2.1, hg2.2.1, rfl, fun h => absurd h hn2, fun _ => rfl⟩

set_option maxRecDepth 100000 in
set_option maxHeartbeats 1600000 in
theorem walk_LogEpochs {one two : Int} {va vb : Value} {la lb : List ByteArray} (w : World) (h1 : (Lit.int .u64 one).wf = true) (h2 : (Lit.int .u64 two).wf = true) (hA : IsStrs w va la) (hB : IsStrs w vb lb) :
    Calls Try.prog 7 #[.int .u64 one, .int .u64 two, va, vb] w fun e w' => e = .returned (.bool true) ∧ Upd (fun _ => False) w w' := by
  obtain ⟨e1, rfl, he1⟩ := u64_nat h1
  obtain ⟨e2, rfl, he2⟩ := u64_nat h2
  have HA := Lib.hid hA
  have HB := Lib.hid hB
  obtain ⟨aA, aC, bA, oA, rfl, mA, -, -, -⟩ := hA.open_
  obtain ⟨aB, bC, bB, oB, rfl, mB, -, -, -⟩ := hB.open_
  clear h1 h2 hA hB
  have HW := Lib.hid (awake_10 w)
  go_enter Try.func7, Try.ntmps7
  go_wp2_with fail
  refine HW.out.mono ?_
  rintro e w1 ⟨rfl, hU1⟩
  have HU1 := Lib.hid hU1
  clear hU1 HW
  by_cases c1 : e1 < 1
  · have c1' : (e1 : Int) < 1 := by omega
    go_wp2_with fail
    go_ret
    exact ⟨rfl, HU1.out⟩
  have c1' : ¬ (e1 : Int) < 1 := by omega
  by_cases c2 : e2 < 1
  · have c2' : (e2 : Int) < 1 := by omega
    go_wp2_with fail
    go_ret
    exact ⟨rfl, HU1.out⟩
  have c2' : ¬ (e2 : Int) < 1 := by omega
  by_cases c3 : e1 = e2
  · subst c3
    go_wp2_with fail
    go_ret
    exact ⟨rfl, HU1.out⟩
  have c3' : ((e1 : Int) == (e2 : Int)) = false := by rw [beq_eq_false_iff_ne]; omega
  by_cases c4 : 60 < la.length
  · have c4' : (60 : Int) < (la.length : Int) := by omega
    go_wp2_with fail
    go_ret
    exact ⟨rfl, HU1.out⟩
  have c4' : ¬ (60 : Int) < (la.length : Int) := by omega
  by_cases c5 : 60 < lb.length
  · have c5' : (60 : Int) < (lb.length : Int) := by omega
    go_wp2_with fail
    go_ret
    exact ⟨rfl, HU1.out⟩
  have c5' : ¬ (60 : Int) < (lb.length : Int) := by omega
  have C := Lib.hid (And.intro c1 (And.intro c2 (And.intro c3 (And.intro c4 c5))))
  clear c1 c2 c3 c4 c5
  have k0 := fresh_log 50 0 50 e1 (by omega) (by omega) (by have := C.out.1; omega) he1
  have K0 := Lib.hid k0
  clear k0
  go_wp2_with fail
  refine (new_s 50 _ (by omega) (by omega)).mono ?_
  rintro e w2 ⟨p, rfl, hD⟩
  have H2 := Lib.hid hD
  clear hD
  go_wp2_with fail
  refine (openG_l H2.out K0.out 0 50 e1 rfl rfl rfl).mono ?_
  rintro e w3 ⟨b, rfl, hS, -, -⟩
  have H3 := Lib.hid (hS.less (Y := fun _ => False) (fun _ e => e.elim))
  clear hS H2
  go_wp2_with fail
  refine (fillG_c H3.out K0.out ⟨HA.out.1.still HU1.out, HA.out.2⟩ (by have := C.out.2.2.2.1; omega) (by simp) (by decide)).mono ?_
  rintro e w4 ⟨vh1, d1, g1, new1, R1, rfl, hF⟩
  obtain ⟨A1, cp1, rfl, hcp1, hcpm⟩ := hF.own.shape
  have HCp := Lib.hid (And.intro hcp1 hcpm)
  clear hcp1 hcpm
  have hfr := hF.from_
  have hL1 := hF.is
  rw [List.nil_append] at hL1
  have hE2 := epoch_two (e2 := e2) (n := 50) hL1 hF.none_ (by omega) ⟨hfr.1, hfr.2.1, hfr.2.2.1⟩ C.out.2.2.1 (by have := C.out.2.1; omega) he2
  obtain ⟨R2, hL2⟩ := hE2
  have hlen2 : R2.length = 50 := by have := hL2.len; simpa [rowOf] using this
  have hs1 : g1.salt ≤ 60 := by have h4 : g1.salt ≤ 0 + la.length := hfr.2.2.2; have := C.out.2.2.2.1; omega
  have hp1 : d1.pend ≤ 0 := hF.pend
  have H4 := Lib.hid hF
  have K1 := Lib.hid (And.intro hL1 (And.intro hL2 (And.intro hlen2 (And.intro hfr (And.intro hs1 hp1)))))
  clear hF hL1 hL2 hlen2 hfr hs1 hp1 H3 K0
  go_wp2_with fail
  refine (openG_x H4.out.log K1.out.2.1 0 50 e2 rfl rfl rfl).mono ?_
  rintro e w5 ⟨b2, rfl, hS, hU, -⟩
  have H5 := Lib.hid (And.intro hS (H4.out.own.upd hU (fun _ _ e => e)))
  clear hS hU
  go_wp2_with fail
  refine (recordsG_l H5.out.1 K1.out.2.1).mono ?_
  rintro e w6 ⟨v, rfl, hO, hU, -⟩
  obtain ⟨A5, cp5, rfl, -, -⟩ := hO.shape
  have H6 := Lib.hid (And.intro (H5.out.1.still hU) (H5.out.2.upd hU (fun _ _ e => e)))
  clear hO hU H5
  go_wp2_with fail
  refine (roomG_l H6.out.1 K1.out.2.1).mono ?_
  rw [K1.out.2.2.1]
  rintro e w7 ⟨rfl, hU⟩
  have H7 := Lib.hid (And.intro (H6.out.1.still hU) (H6.out.2.upd hU (fun _ _ e => e)))
  clear hU H6
  go_wp2_with fail
  refine (fillG_c H7.out.1 K1.out.2.1 ⟨HB.out.1.still HU1.out, HB.out.2⟩ (by have := C.out.2.2.2.2; omega) (by have := K1.out.2.2.2.2.1; show g1.salt ≤ _; omega) (by have := K1.out.2.2.2.2.2; omega)).mono ?_
  rintro e w8 ⟨vh2, d2, g2, new2, R3, rfl, hF⟩
  obtain ⟨A2, cp2, rfl, -, -⟩ := hF.own.shape
  have hO1 := H7.out.2.eqb (w' := w8) fun q hq => hF.keep q (.inr hq)
  have hL3 := hF.is
  rw [List.nil_append] at hL3
  have hE1 := epoch_one (n := 50) K1.out.1 hL3 (fun h => (hF.none_ h).1) ⟨K1.out.2.2.2.1.1, K1.out.2.2.2.1.2.1, K1.out.2.2.2.1.2.2.1⟩ ⟨hF.from_.1, hF.from_.2.1, hF.from_.2.2.1⟩ C.out.2.2.1 (by have := C.out.1; omega) he1
  obtain ⟨g3, rs3, R4, hL4, f1, f2, f3, f4, f5⟩ := hE1
  have hl2 := hL3.recs
  have hl1 := K1.out.1.recs
  have hn1 : new1.length ≤ 60 := Nat.le_trans H4.out.len (by have := C.out.2.2.2.1; omega)
  have hn2 : new2.length ≤ 60 := Nat.le_trans hF.len (by have := C.out.2.2.2.2; omega)
  have H8 := Lib.hid (And.intro hF.log (And.intro hF.own hO1))
  have K2 := Lib.hid (And.intro hL3 (And.intro hL4 (And.intro f1 (And.intro f2 (And.intro f3 (And.intro hF.from_.1 (And.intro hF.from_.2.1 hF.from_.2.2.1)))))))
  have K3 := Lib.hid (And.intro f4 (And.intro f5 (And.intro hl2 (And.intro hl1 (And.intro hn1 hn2)))))
  clear hF hL3 hL4 f1 f2 f3 f4 f5 hl1 hl2 hn1 hn2 hO1 H7 K1 H4
  go_wp2_with fail
  refine (openG_x H8.out.1 K2.out.2.1 0 50 e1 (by rw [K2.out.2.2.1]; rfl) (by rw [K2.out.2.2.2.1]; rfl) (by rw [K2.out.2.2.2.2.1])).mono ?_
  rintro e w9 ⟨b3, rfl, hS, hU, -⟩
  have H9 := Lib.hid (And.intro hS (And.intro (H8.out.1.still hU) (And.intro (H8.out.2.1.upd hU (fun _ _ e => e)) (H8.out.2.2.upd hU (fun _ _ e => e)))))
  clear hS hU H8
  go_wp2_with fail
  refine (openG_x H9.out.1 K2.out.1 0 50 e2 (by rw [K2.out.2.2.2.2.2.1]; rfl) (by rw [K2.out.2.2.2.2.2.2.1]; rfl) (by rw [K2.out.2.2.2.2.2.2.2])).mono ?_
  rintro e w10 ⟨b4, rfl, hS, hU, -⟩
  have H10 := Lib.hid (And.intro hS (And.intro (H9.out.1.still hU) (And.intro (H9.out.2.2.1.upd hU (fun _ _ e => e)) (H9.out.2.2.2.upd hU (fun _ _ e => e)))))
  clear hS hU H9
  go_wp2_with fail
  refine (recordsG_l H10.out.1 K2.out.1).mono ?_
  rintro e w11 ⟨v, rfl, hO, hU, -⟩
  rw [K3.out.2.2.1] at hO
  have hr1 := Row.of_own hO (by have := K3.out.2.2.2.2.2; rw [List.length_map]; omega)
  have ho2 := H10.out.2.2.1.upd hU (fun _ _ e => e)
  have hr2 := Row.of_own (l := new2.map fun q => str q.1) (by rw [List.length_map]; exact ho2) (by have := K3.out.2.2.2.2.2; rw [List.length_map]; omega)
  have H11 := Lib.hid (And.intro (H10.out.2.1.still hU) (H10.out.2.2.2.upd hU (fun _ _ e => e)))
  have HR := Lib.hid (And.intro hr1 hr2)
  clear hO hr1 hr2 ho2 hU H10
  go_wp2_with fail
  refine (sameG_c _ HR.out.1 HR.out.2).mono ?_
  rintro e w12 ⟨rfl, hU⟩
  have H12 := Lib.hid (And.intro (H11.out.1.still hU) (H11.out.2.upd hU (fun _ _ e => e)))
  clear hU H11 HR
  rw [decide_eq_true rfl]
  go_wp2_with fail
  refine (recordsG_l H12.out.1 K2.out.2.1).mono ?_
  rintro e w13 ⟨v, rfl, hO, hU, -⟩
  obtain ⟨A6, cp6, rfl, -, -⟩ := hO.shape
  have ho1 := H12.out.2.upd hU (fun _ _ e => e)
  have H13 := Lib.hid (And.intro (H12.out.1.still hU) (And.intro hO ho1))
  clear hO ho1 hU H12
  have hlen1 : (new1.map fun q => str q.1).length = new1.length := by rw [List.length_map]
  by_cases hn2 : new2 = []
  · have hg3 : g3.l = new1.map fun q => str q.1 := by rw [K3.out.1 hn2, K3.out.2.2.2.1]
    have hg3l : g3.l.length = new1.length := by rw [hg3, List.length_map]
    have hr1 := Row.of_own H13.out.2.1 (by rw [hg3l]; have := K3.out.2.2.2.2.1; omega)
    rw [hg3l, hg3] at hr1
    have hr2 := Row.of_own (l := new1.map fun q => str q.1) (by rw [hlen1]; exact H13.out.2.2) (by rw [hlen1]; have := K3.out.2.2.2.2.1; omega)
    have hr3 : ∀ c, Row w13 (.slice A1 new1.length c) (strs (new1.map fun q => str q.1)) := fun c => by
      have := hr2.taken (k := new1.length) (cap' := c) (by rw [strs_len, hlen1]; exact Nat.le_refl _)
      rw [List.take_of_length_le (by rw [strs_len, hlen1]; exact Nat.le_refl _)] at this
      exact this
    have HR := Lib.hid (And.intro hr1 hr3)
    have hcp1 := HCp.out.1
    rw [hg3l]
    subst hn2
    clear hg3 hg3l hr1 hr2 hr3 hlen1
    go_wp2_with fail
    refine (sameG_c _ HR.out.1 (HR.out.2 _)).mono ?_
    rintro e w14 ⟨rfl, hU⟩
    have H14 := Lib.hid (H13.out.1.still hU)
    clear hU H13 HR
    rw [decide_eq_true rfl]
    go_wp2_with fail
    go_ret
    exact ⟨rfl, HU1.out.then H14.out.upd (fun _ e => e.elim)⟩
  · have hg3 : g3.l = [] := K3.out.2.1 hn2
    have hp2 : 0 < new2.length := List.length_pos_iff.2 hn2
    have hr1 := Row.of_own H13.out.2.1 (by rw [hg3]; simp)
    rw [hg3] at hr1 ⊢
    have hr2 := Row.of_own (l := new1.map fun q => str q.1) (by rw [hlen1]; exact H13.out.2.2) (by rw [hlen1]; have := K3.out.2.2.2.2.1; omega)
    have hr3 : ∀ c, Row w13 (.slice A1 0 c) (strs []) := fun c => by
      have := hr2.taken (k := 0) (cap' := c) (by omega)
      exact this
    have HR := Lib.hid (And.intro hr1 hr3)
    have hcp1 := HCp.out.1
    generalize new2.length = m2 at hp2 ⊢
    have hp2' : ((m2 : Int) == 0) = false := by rw [beq_eq_false_iff_ne]; omega
    have hp2'' : (0 : Int) < (m2 : Int) := by omega
    clear hg3 hr1 hr2 hr3 hlen1 hn2
    go_wp2_with fail
    refine (sameG_c _ HR.out.1 (HR.out.2 _)).mono ?_
    rintro e w14 ⟨rfl, hU⟩
    have H14 := Lib.hid (H13.out.1.still hU)
    clear hU H13 HR
    rw [decide_eq_true rfl]
    go_wp2_with fail
    go_ret
    exact ⟨rfl, HU1.out.then H14.out.upd (fun _ e => e.elim)⟩
end Go.Proofs.Ytafgohnpnaiomaa
