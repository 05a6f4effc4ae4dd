/-
  KeptKnown: the walk.
-/
import Derived.Test.YtafgohnpnaiomaaLast
import Derived.Test.YtafgohnpnaiomaaNobody
import Derived.Test.YtafgohnpnaiomaaRep
namespace Go.Proofs.Ytafgohnpnaiomaa
open Go Go.RowKit

/-- A record that stands, as far as the law asks. -/
structure KSt (d : Dk) (k : Kp) (t : List UInt8) (is : Bool) (n : Nat) : Prop where
  ex : ∃ L0 L1, KeptG d k L0 L1
  pend : d.pend = 0
  len : d.lasts.length = 40
  from_ : k.from_ = 20
  text : k.text = t
  gen : decide (0 < k.gen) = is
  seen : k.seen ≤ n
section
variable {d : Dk} {k : Kp} {t : List UInt8} {is : Bool} {n : Nat}
theorem KSt.run (h : KSt d k t is n) (torn : List UInt8) : KeptRun d k 20 t is false torn n := by
  obtain ⟨L0, L1, hG⟩ := h.ex
  have := KeptRun.begin (torn := torn) hG h.pend h.seen
  rw [h.from_, h.text, h.gen] at this
  exact this
theorem KSt.fresh : KSt (Dk.fresh 40) ⟨20, [], 0, 1, 0, false⟩ [] false 0 := ⟨⟨_, _, fresh_g 40 20 (by omega)⟩, fresh_pend 40, by simp [Dk.fresh], rfl, rfl, rfl, Nat.le_refl _⟩
theorem KSt.long (h : KSt d k t is n) (t' : List UInt8) (ht : 400 < t'.length) : putK d k t' = (d, k, 3) := by
  obtain ⟨L0, L1, hG⟩ := h.ex
  unfold putK
  rw [hG.broken, if_neg (by simp), if_pos ht]
theorem KSt.put (h : KSt d k t is n) (hn : n < 1000) (t' : List UInt8) (ht : t'.length ≤ 400) : ∃ d' k', putK d k t' = (d', k', 0) ∧ KSt d' k' t' true (n + 1) := by
  obtain ⟨L0, L1, hG⟩ := h.ex
  have hse := h.seen
  have hat := hG.at_
  have hf0 := h.from_
  have hln := h.len
  have e64 : (2 : Nat) ^ (8 * 8) = 18446744073709551616 := by decide
  have hall : allOf t'.length ≤ 9 := by unfold allOf; omega
  have hok := cutL_ok t' (k.seen + 1) (by omega) (by omega) ht
  have hcl := cutL_len t' (k.seen + 1)
  have hml : ((cutL t' (k.seen + 1)).map Pt.sec).length = allOf t'.length := by rw [List.length_map, hcl]
  have hsz : ∀ q ∈ (cutL t' (k.seen + 1)).map Pt.sec, q.size = 64 := by
    intro q hq
    obtain ⟨p, hp, rfl⟩ := List.mem_map.1 hq
    exact sec_size p (hok p hp)
  obtain ⟨A, hA⟩ : ∃ A, k.from_ + (1 - k.at_) * 10 = A := ⟨_, rfl⟩
  obtain ⟨f1, f2, f3, f4⟩ := writeB_free hG.fuse hG.off hG.waits A _ hsz (allOf t'.length) (by omega) (by omega)
  have hfs := writeB_same d A ((cutL t' (k.seen + 1)).map Pt.sec) hG.waits (allOf t'.length)
  have hput : putK d k t' = ((writeB d A ((cutL t' (k.seen + 1)).map Pt.sec) (allOf t'.length)).1.flush, k.put t', 0) := by
    unfold putK
    rw [hG.broken, if_neg (by simp), if_neg (by omega), if_neg (by omega), hA, writeN_B _ _ _ _ (by omega), if_neg (by rw [f1]; simp), Dk.sync_free f2 f3, if_neg (by simp)]
    rfl
  generalize (writeB d A ((cutL t' (k.seen + 1)).map Pt.sec) (allOf t'.length)).1 = V at *
  have hVl : V.flush.lasts.length = d.lasts.length := by
    show ((List.range _).map _).length = _
    rw [List.length_map, List.length_range, hfs.1]
  have hVw : V.flush.waits.length = d.lasts.length := by
    show (List.map _ _).length = _
    rw [List.length_map, hfs.2.1]
    exact hG.waits
  have hnow : ∀ i, i < d.lasts.length → V.flush.now i = if A ≤ i ∧ i < A + allOf t'.length then ((cutL t' (k.seen + 1)).map Pt.sec).getD (i - A) ByteArray.empty else d.now i := by
    intro i hi
    rw [Dk.flush_now _ _ (by rw [hfs.1]; exact hi), f4]
  obtain ⟨k', L0', L1', m1, m2, m3, m4, m5⟩ := hG.mix (d2 := V.flush) t' ht (by omega) f2 f3 (by rw [hVw, hVl]) hVl (fun i hi => by
    rw [hA, hnow i hi]
    by_cases c : A ≤ i ∧ i < A + allOf t'.length
    · rw [if_pos c]; exact .inr ⟨c.1, c.2, rfl⟩
    · rw [if_neg c]; exact .inl rfl)
  have hk' := m5 (fun i hi => by
    rw [hA, hnow _ (by omega), if_pos (by omega), Nat.add_sub_cancel_left])
  subst hk'
  exact ⟨_, _, hput, ⟨⟨L0', L1', m1⟩, Dk.flush_pend _, by rw [hVl, hln], by rw [m2, hf0], rfl, by show decide (0 < k.seen + 1) = true; simp, by show k.seen + 1 ≤ n + 1; omega⟩⟩
/-- A fuse of one, and a record of one part: the power goes behind its write. -/
theorem KSt.torn (h : KSt d k t is n) (hn : n < 1000) (t' : List UInt8) (ht : t'.length ≤ 48) :
    ∃ D k', putK (d.setFuse 1) k t' = (D, k', 14) ∧ (∀ t'', putK D k' t'' = (D, k', 11)) ∧ KeptRun D k' 20 t is true t' (n + 1) ∧ KSt (D.crash []) k t is n := by
  obtain ⟨L0, L1, hG⟩ := h.ex
  have hse := h.seen
  have hat := hG.at_
  have hf0 := h.from_
  have hln := h.len
  have e64 : (2 : Nat) ^ (8 * 8) = 18446744073709551616 := by decide
  have hall : allOf t'.length = 1 := by unfold allOf; omega
  have hok := cutL_ok t' (k.seen + 1) (by omega) (by omega) (by omega)
  have hcl := cutL_len t' (k.seen + 1)
  obtain ⟨A, hA⟩ : ∃ A, k.from_ + (1 - k.at_) * 10 = A := ⟨_, rfl⟩
  obtain ⟨s, hs⟩ : ∃ s, ((cutL t' (k.seen + 1)).getD 0 ⟨0, 0, 0, []⟩).sec = s := ⟨_, rfl⟩
  have hs64 : s.size = 64 := by
    rw [← hs, List.getD_eq_getElem?_getD, List.getElem?_eq_getElem (by omega)]
    exact sec_size _ (hok _ (List.getElem_mem _))
  have hwr : (d.setFuse 1).write (A : Int) s = (({ d with fuse := 0 } : Dk).push A s, 0) := by
    unfold Dk.write
    have h1 : (d.setFuse 1).off = false := hG.off
    have h2 : (d.setFuse 1).there (A : Int) = true := by
      show decide (0 ≤ (A : Int) ∧ (A : Int) < (d.lasts.length : Int)) = true
      rw [decide_eq_true_eq]
      omega
    have h3 : (d.setFuse 1).burn = ({ d with fuse := 0 }, true) := by
      have hm : (d.setFuse 1).fuse = 1 := by
        show max (1 : Int) (-1) = 1
        omega
      unfold Dk.burn
      rw [hm, if_neg (by omega), if_pos (by omega)]
      rfl
    rw [h1, if_neg (by simp), h2, decide_eq_true hs64, if_pos (by rfl), h3]
    rfl
  have hsy : (({ d with fuse := 0 } : Dk).push A s).sync = ({ (({ d with fuse := 0 } : Dk).push A s) with off := true }, 14) := by
    unfold Dk.sync
    have h1 : (({ d with fuse := 0 } : Dk).push A s).off = false := hG.off
    have h3 : (({ d with fuse := 0 } : Dk).push A s).burn = ({ (({ d with fuse := 0 } : Dk).push A s) with off := true }, false) := by
      unfold Dk.burn
      exact if_pos rfl
    rw [h1, if_neg (by simp), h3]
    rfl
  have hput : putK (d.setFuse 1) k t' = ({ (({ d with fuse := 0 } : Dk).push A s) with off := true }, { k with broken := true }, 14) := by
    have hwn : writeN (d.setFuse 1) A (cutL t' (k.seen + 1)) 1 = (({ d with fuse := 0 } : Dk).push A s, 0) := by
      rw [writeN, writeN, if_neg (by simp), hs]
      exact hwr
    unfold putK
    rw [hG.broken, if_neg (by simp), if_neg (by omega), if_neg (by omega), hA, hall, hwn, if_neg (by simp), hsy, if_pos (by simp)]
  have hrun := (((h.run t').fuse 1).put (by omega) t')
  rw [hput] at hrun
  refine ⟨_, _, hput, fun t'' => ?_, ?_, ?_⟩
  · unfold putK
    rw [if_pos rfl]
  · rcases hrun with ⟨e, -⟩ | ⟨-, -, e⟩ | ⟨e | e, -⟩
    · simp at e
    · exact e
    · simp at e
    · simp at e
  · refine ⟨⟨L0, L1, hG.same rfl rfl ?_ ?_ fun i hi => ?_⟩, ?_, ?_, h.from_, h.text, h.gen, h.seen⟩
    · rw [Dk.crash_waits', Dk.crash_len']
      show (d.waits.set A (_ ++ [s])).length = d.lasts.length
      rw [List.length_set, hG.waits]
    · rw [Dk.crash_len']
      rfl
    · have hl : ({ (({ d with fuse := 0 } : Dk).push A s) with off := true } : Dk).waits.length = ({ (({ d with fuse := 0 } : Dk).push A s) with off := true } : Dk).lasts.length := by
        show (d.waits.set A (_ ++ [s])).length = d.lasts.length
        rw [List.length_set, hG.waits]
      rw [Dk.crash_is hl [] (i := i) hi]
      have e0 : ∀ j, Dk.keptAt ({ (({ d with fuse := 0 } : Dk).push A s) with off := true } : Dk) [] j i = d.last i := by
        intro j
        unfold Dk.keptAt Dk.choice
        simp
        rfl
      rw [e0, Dk.now_last h.pend]
      split
      · rfl
      · rfl
    · have hl : ({ (({ d with fuse := 0 } : Dk).push A s) with off := true } : Dk).waits.length = ({ (({ d with fuse := 0 } : Dk).push A s) with off := true } : Dk).lasts.length := by
        show (d.waits.set A (_ ++ [s])).length = d.lasts.length
        rw [List.length_set, hG.waits]
      unfold Dk.pend
      have hz : ∀ l ∈ (({ (({ d with fuse := 0 } : Dk).push A s) with off := true } : Dk).crash []).waits, l = [] := by
        intro l hl2
        obtain ⟨i, hi, rfl⟩ := List.mem_iff_getElem.1 hl2
        have := Dk.crash_now hl [] i
        unfold Dk.at_ at this
        rw [List.getD_eq_getElem?_getD, List.getElem?_eq_getElem hi] at this
        exact this
      generalize (({ (({ d with fuse := 0 } : Dk).push A s) with off := true } : Dk).crash []).waits = L at *
      clear hl
      induction L with
      | nil => rfl
      | cons x L ih => rw [List.map_cons, List.sum_cons, ih (fun l hl => hz l (by simp [hl])), hz x (by simp)]; rfl
    · rw [Dk.crash_len']
      exact hln
end
set_option maxRecDepth 100000 in
theorem open_nil (f : Int) (w : World) : Calls Try.prog 28 #[.pointer none, .int .i64 f] w fun e w' => e = .returned (.tuple #[.pointer none, .int .i64 2]) ∧ w = w' := by
  go_enter Try.func28, Try.ntmps28
  go_wp2_with fail
  refine (sectors_nil _).mono ?_
  rintro e w' ⟨rfl, rfl⟩
  go_wp2_with fail
  go_ret2
  exact ⟨rfl, rfl⟩
theorem repL_len (c : UInt8) (n : Nat) : (Lib.repeatL [c] n).length = n := by
  induction n with
  | zero => rfl
  | succ n ih =>
    rw [Lib.repeatL, List.length_append, ih]
    simp
    omega
theorem rep_size (c : UInt8) (n : Nat) : (repB c n).size = n := by
  show (Lib.repeatL [c] n).toArray.size = n
  rw [List.size_toArray, repL_len]
section
variable {w0 w : World} {p b : Nat} {d : Dk} {k : Kp} {t : List UInt8} {is : Bool} {n : Nat}
theorem kput (hD : DkS w0 w p d) (hK : KpS w0 w p b k) {cut : Bool} {torn : List UInt8} (h : KeptRun d k 20 t is cut torn n) (hn : n < 1000) (s : ByteArray) {d' : Dk} {k' : Kp} {e : Int} (hp : putK d k s.data.toList = (d', k', e)) :
    Calls Try.prog 29 #[.pointer (some ⟨b, 0, none⟩), .string s] w fun en w' => en = .returned (.int .i64 e) ∧ DkS w0 w' p d' ∧ KpS w0 w' p b k' := by
  have := put_kp hD hK h (by omega) s
  rw [hp] at this
  exact this.mono fun _ _ hx => ⟨hx.1, hx.2.1.disk, hx.2.1.kept⟩
end
set_option maxRecDepth 100000 in
set_option maxHeartbeats 3200000 in
theorem walk_KeptKnown (w : World) : Calls Try.prog 21 #[] w fun e w' => e = .returned (.bool true) ∧ Upd (fun _ => False) w w' := by
  obtain ⟨d1, k1, p1, s1⟩ := KSt.fresh.put (by omega) [97] (by simp)
  obtain ⟨d2, k2, p2, s2⟩ := s1.put (by omega) [98] (by simp)
  have h401 := rep_size 120 401
  have h400 := rep_size 120 400
  have p3 := s2.long (repB 120 401).data.toList (by simp [h401])
  obtain ⟨d4, k4, p4, s4⟩ := s2.put (by omega) (repB 120 400).data.toList (by simp [h400])
  obtain ⟨d5, k5, p5, s5⟩ := s4.put (by omega) [98] (by simp)
  obtain ⟨D, k6, p6, p7, s6, s7⟩ := s5.torn (by omega) [99] (by simp)
  have P1 := Lib.hid (And.intro p1 s1)
  have P2 := Lib.hid (And.intro p2 s2)
  have P3 := Lib.hid p3
  have P4 := Lib.hid (And.intro p4 s4)
  have P5 := Lib.hid (And.intro p5 s5)
  have P6 := Lib.hid (And.intro p6 (And.intro p7 (And.intro s6 s7)))
  have HN := Lib.hid (fun W => new_at 40 40 W rfl (by omega) (by omega))
  have HAw := Lib.hid awake_09
  clear p1 s1 p2 s2 p3 p4 s4 p5 s5 p6 p7 s6 s7 h400 h401
  have hr401 := Lib.hid (fun W => rep_c 120 401 W (by omega))
  have hr400 := Lib.hid (fun W => rep_c 120 400 W (by omega))
  generalize repB 120 401 = r401 at *
  generalize repB 120 400 = r400 at *
  go_enter Try.func21, Try.ntmps21
  go_wp2_with fail
  refine (HN.out _).mono ?_
  rintro e w1 ⟨p, rfl, hD⟩
  have H1 := Lib.hid hD
  clear hD HN
  go_wp2_with fail
  obtain ⟨L0, L1, hG⟩ := KSt.fresh.ex
  refine (open_kp H1.out hG 20 (by rw [KSt.fresh.from_]; rfl)).mono ?_
  rintro e w' ⟨b, rfl, hK, hU, -⟩
  have H2 := Lib.hid (And.intro (H1.out.still hU) hK)
  clear hK hU hG H1
  go_wp2_with fail
  refine (get_b H2.out.2 ⟨#[]⟩ false KSt.fresh.text KSt.fresh.gen).mono ?_
  rintro e w' ⟨rfl, hU⟩
  have H3 := Lib.hid (And.intro (H2.out.1.still hU) (H2.out.2.still hU))
  clear hU H2
  go_wp2_with fail
  refine (kput H3.out.1 H3.out.2 (KSt.fresh.run []) (by omega) ⟨#[97]⟩ P1.out.1).mono ?_
  rintro e w' ⟨rfl, hD, hK⟩
  have H4 := Lib.hid (And.intro hD hK)
  clear hD hK H3
  go_wp2_with fail
  refine (kput H4.out.1 H4.out.2 (P1.out.2.run []) (by omega) ⟨#[98]⟩ P2.out.1).mono ?_
  rintro e w' ⟨rfl, hD, hK⟩
  have H5 := Lib.hid (And.intro hD hK)
  clear hD hK H4
  go_wp2_with fail
  refine (get_b H5.out.2 ⟨#[98]⟩ true P2.out.2.text P2.out.2.gen).mono ?_
  rintro e w' ⟨rfl, hU⟩
  have H6 := Lib.hid (And.intro (H5.out.1.still hU) (H5.out.2.still hU))
  clear hU H5
  go_wp2_with fail
  obtain ⟨L0, L1, hG⟩ := P2.out.2.ex
  refine (open_kp H6.out.1 hG 20 (by rw [P2.out.2.from_]; rfl)).mono ?_
  rintro e w' ⟨b, rfl, hK, hU, -⟩
  have H7 := Lib.hid (And.intro (H6.out.1.still hU) hK)
  clear hK hU hG H6
  go_wp2_with fail
  refine (get_b H7.out.2 ⟨#[98]⟩ true P2.out.2.text P2.out.2.gen).mono ?_
  rintro e w' ⟨rfl, hU⟩
  have H8 := Lib.hid (And.intro (H7.out.1.still hU) (H7.out.2.still hU))
  clear hU H7
  go_wp2_with fail
  refine (hr401.out _).mono ?_
  rintro e w' ⟨rfl, hU⟩
  have H9 := Lib.hid (And.intro (H8.out.1.still hU) (H8.out.2.still hU))
  clear hU H8
  go_wp2_with fail
  refine (kput H9.out.1 H9.out.2 (P2.out.2.run []) (by omega) r401 P3.out).mono ?_
  rintro e w' ⟨rfl, hD, hK⟩
  have H10 := Lib.hid (And.intro hD hK)
  clear hD hK H9
  go_wp2_with fail
  refine (hr400.out _).mono ?_
  rintro e w' ⟨rfl, hU⟩
  have H11 := Lib.hid (And.intro (H10.out.1.still hU) (H10.out.2.still hU))
  clear hU H10
  go_wp2_with fail
  refine (kput H11.out.1 H11.out.2 (P2.out.2.run []) (by omega) r400 P4.out.1).mono ?_
  rintro e w' ⟨rfl, hD, hK⟩
  have H12 := Lib.hid (And.intro hD hK)
  clear hD hK H11
  go_wp2_with fail
  refine (kput H12.out.1 H12.out.2 (P4.out.2.run []) (by omega) ⟨#[98]⟩ P5.out.1).mono ?_
  rintro e w' ⟨rfl, hD, hK⟩
  have H13 := Lib.hid (And.intro hD hK)
  clear hD hK H12
  go_wp2_with fail
  refine (fuse_kp H13.out.1 H13.out.2 1 (by omega)).mono ?_
  rintro e w' ⟨rfl, hS, -⟩
  have H14 := Lib.hid (And.intro hS.disk hS.kept)
  clear hS H13
  go_wp2_with fail
  refine (kput H14.out.1 H14.out.2 ((P5.out.2.run []).fuse 1) (by omega) ⟨#[99]⟩ P6.out.1).mono ?_
  rintro e w' ⟨rfl, hD, hK⟩
  have H15 := Lib.hid (And.intro hD hK)
  clear hD hK H14
  go_wp2_with fail
  refine (kput H15.out.1 H15.out.2 P6.out.2.2.1 (by omega) ⟨#[100]⟩ (P6.out.2.1 [100])).mono ?_
  rintro e w' ⟨rfl, hD, hK⟩
  have H16 := Lib.hid (And.intro hD hK)
  clear hD hK H15
  go_wp2_with fail
  refine (crash_kp H16.out.1 H16.out.2 (ints_nil w)).mono ?_
  rintro e w' ⟨rfl, hS, -⟩
  have H17 := Lib.hid (And.intro hS.disk hS.kept)
  clear hS H16
  go_wp2_with fail
  obtain ⟨L0, L1, hG⟩ := P6.out.2.2.2.ex
  refine (open_kp H17.out.1 hG 20 (by rw [P6.out.2.2.2.from_]; rfl)).mono ?_
  rintro e w' ⟨b, rfl, hK, hU, -⟩
  have H18 := Lib.hid (And.intro (H17.out.1.still hU) hK)
  clear hK hU hG H17
  go_wp2_with fail
  refine (get_b H18.out.2 ⟨#[98]⟩ true P6.out.2.2.2.text P6.out.2.2.2.gen).mono ?_
  rintro e w' ⟨rfl, hU⟩
  have H19 := Lib.hid (And.intro (H18.out.1.still hU) (H18.out.2.still hU))
  clear hU H18
  go_wp2_with fail
  obtain ⟨F, hF, -⟩ := H19.out.1.ex
  refine (Open_bad hF (21) (by rw [P6.out.2.2.2.len]; omega)).mono ?_
  rintro e w' ⟨rfl, rfl⟩
  clear hF
  go_wp2_with fail
  obtain ⟨F, hF, -⟩ := H19.out.1.ex
  refine (Open_bad hF (-1) (by rw [P6.out.2.2.2.len]; omega)).mono ?_
  rintro e w' ⟨rfl, rfl⟩
  clear hF
  go_wp2_with fail
  refine (open_nil 0 _).mono ?_
  rintro e w' ⟨rfl, rfl⟩
  go_wp2_with fail
  refine (HAw.out _).mono ?_
  rintro e w' ⟨rfl, hU⟩
  have H20 := Lib.hid (H19.out.1.upd.then hU (fun _ e => e.elim))
  clear hU H19
  go_wp2_with fail
  go_ret
  exact ⟨rfl, H20.out⟩
end Go.Proofs.Ytafgohnpnaiomaa
