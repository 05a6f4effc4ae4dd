/-
  ArbiterRises: the walk.
-/
import Derived.Test.YtpfbgmfkeofefaaGreatLast
import Derived.Test.YtpfbgmfkeofefaaGreatArbC
import Derived.Test.YtpfbgmfkeofefaaGreatActs23
import Derived.Outline
import Derived.BigQuiet
namespace Go.Proofs.YtpfbgmfkeofefaaGreat
open Go Go.RowKit

theorem KeptRun.any {d : Dk} {k : Kp} {f : Nat} {last torn torn' : List UInt8} {is : Bool} {seen : Nat} (h : KeptRun d k f last is false torn seen) : KeptRun d k f last is false torn' seen :=
  ⟨h.from_, h.text, h.gen, h.seens, h.at_, h.waits, h.dlen, h.pend, h.ok, fun e => by simp at e⟩
/-- A register whose epoch is n and whose holder is c, on what is kept; cut: a grant to t was broken off. -/
structure RiseIs (d : Dk) (k : Kp) (n c : Nat) (cut : Bool) (t : Int) (seen : Nat) : Prop where
  low : 1 ≤ n
  top : n ≤ 9223372036854775807
  holder : c ≤ 1
  torn : cut = true → n < 9223372036854775807 ∧ placeB t = true
  run : KeptRun d k 0 (bytesA n c) true cut (bytesA (n + 1) t.toNat) seen
theorem RiseIs.mono {d : Dk} {k : Kp} {n c : Nat} {cut : Bool} {t : Int} {seen seen' : Nat} (h : RiseIs d k n c cut t seen) (hs : seen ≤ seen') : RiseIs d k n c cut t seen' := ⟨h.low, h.top, h.holder, h.torn, h.run.mono hs⟩
theorem RiseIs.fuse {d : Dk} {k : Kp} {n c : Nat} {cut : Bool} {t : Int} {seen : Nat} (h : RiseIs d k n c cut t seen) (m : Int) : RiseIs (d.setFuse m) k n c cut t seen := ⟨h.low, h.top, h.holder, h.torn, h.run.fuse m⟩
/-- A crash: the epoch that was told, or the one that was broken off. -/
theorem RiseIs.crash {d : Dk} {k : Kp} {n c : Nat} {cut : Bool} {t : Int} {seen : Nat} (h : RiseIs d k n c cut t seen) (hwf : d.wf) (keep : List Int) : ∃ k' L0 L1 n' c', KeptG (d.crash keep) k' L0 L1 ∧ k'.from_ = 0 ∧ RiseIs (d.crash keep) k' n' c' false t seen ∧
    ((n' = n ∧ c' = c) ∨ (cut = true ∧ n' = n + 1 ∧ (c' : Int) = t)) := by
  obtain ⟨k', L0, L1, last', is', g1, g2, g3, g4⟩ := h.run.crash hwf keep
  rcases g4 with ⟨rfl, rfl⟩ | ⟨rfl, rfl, rfl⟩
  · exact ⟨k', L0, L1, n, c, g1, g2, ⟨h.low, h.top, h.holder, fun e => by simp at e, g3⟩, .inl ⟨rfl, rfl⟩⟩
  · obtain ⟨h1, h2⟩ := h.torn rfl
    obtain ⟨m, rfl, hm⟩ := place_nat h2
    exact ⟨k', L0, L1, n + 1, m, g1, g2, ⟨by omega, by omega, hm, fun e => by simp at e, g3.any⟩, .inr ⟨rfl, rfl, rfl⟩⟩
/-- A grant: it is told; or the power goes; or it is refused. -/
theorem RiseIs.grant {d : Dk} {k : Kp} {n c : Nat} {cut : Bool} {t : Int} {seen : Nat} (h : RiseIs d k n c cut t seen) (hseen : seen < 1000000) (m : Nat) (hm : m ≤ 1) (hn : n < 9223372036854775807) :
    ((putK d k (bytesA (n + 1) m)).2.2 = 0 ∧ RiseIs (putK d k (bytesA (n + 1) m)).1 (putK d k (bytesA (n + 1) m)).2.1 (n + 1) m false t (seen + 1) ∧ cut = false) ∨
    ((putK d k (bytesA (n + 1) m)).2.2 = 14 ∧ RiseIs (putK d k (bytesA (n + 1) m)).1 (putK d k (bytesA (n + 1) m)).2.1 n c true m (seen + 1) ∧ cut = false) ∨
    (((putK d k (bytesA (n + 1) m)).2.2 = 11 ∨ (putK d k (bytesA (n + 1) m)).2.2 = 3) ∧ RiseIs (putK d k (bytesA (n + 1) m)).1 (putK d k (bytesA (n + 1) m)).2.1 n c cut t (seen + 1)) := by
  rcases h.run.put hseen (bytesA (n + 1) m) with ⟨q1, q2, q3⟩ | ⟨q1, q2, q3⟩ | ⟨q1, q3⟩
  · exact .inl ⟨q1, ⟨by omega, by omega, hm, fun e => by simp at e, q3.any⟩, q2⟩
  · exact .inr (.inl ⟨q1, ⟨h.low, h.top, h.holder, fun _ => ⟨hn, by rcases (show m = 0 ∨ m = 1 by omega) with rfl | rfl <;> rfl⟩, q3⟩, q2⟩)
  · exact .inr (.inr ⟨q1, ⟨h.low, h.top, h.holder, h.torn, q3⟩⟩)
section
variable {w0 w w' : World} {p a b n c seen : Nat} {d : Dk} {k : Kp} {cut : Bool} {t : Int}
/-- A register is opened behind a crash. -/
theorem rise_open {L0 L1 : List (Option Pt)} (hD : DkS w0 w p d) (hI : RiseIs d k n c cut t seen) (hG : KeptG d k L0 L1) (h0 : k.from_ = 0) :
    Calls Tryz.prog 29 #[.pointer (some ⟨p, 0, none⟩)] w fun e w' => ∃ a b, e = .returned (.tuple #[.pointer (some ⟨a, 0, none⟩), .int .i64 0]) ∧ ArbS w0 w' a b n (c : Int) ∧ KpS w0 w' p b k ∧ Upd (fun _ => False) w w' := by
  have hA : openA k = (n, (c : Int), 0) := by
    unfold openA
    rw [if_pos (by have := hI.run.gen; simpa using this), hI.run.text, read_bytes n c hI.low (by have := hI.top; unfold maxE; omega) hI.holder]
  refine (arb_open_k hD.upd.size (open_kp hD hG 0 (by rw [h0]; rfl))).mono ?_
  rintro e w' ⟨v, rfl, hO⟩
  rw [hA] at hO ⊢
  obtain ⟨a, b, rfl, h1, h2, -, -⟩ := hO.ok rfl
  exact ⟨a, b, rfl, h1, h2, hO.upd⟩
/-- What the law's loop knows. -/
def RiseRel (m : Nat) (w1 : World) (p : Nat) (av lv hv tv cv i : Value) (wr : World) : Prop :=
  ∃ (j a b : Nat) (d : Dk) (k : Kp) (n c : Nat) (t : Int) (cut : Bool), j ≤ m ∧ i = .int .i64 (j : Int) ∧ av = .pointer (some ⟨a, 0, none⟩) ∧ lv = .int .i64 (n : Int) ∧ hv = .int .i64 (c : Int) ∧ tv = .int .i64 t ∧ cv = .bool cut ∧
    DkS w1 wr p d ∧ KpS w1 wr p b k ∧ ArbS w1 wr a b n (c : Int) ∧ RiseIs d k n c cut t (j + 1)
theorem placeB_no {x : Int} (h : placeB x = true) : x = 0 ∨ x = 1 := by unfold placeB at h; simpa using h
end
set_option maxRecDepth 100000 in
set_option maxHeartbeats 3200000 in
theorem walk_ArbiterRises {first : Int} {v : Value} {l : List Act23} (w : World) (h0 : (Lit.int .i64 first).wf = true) (hA : IsActs23 w v l) :
    Calls Tryz.prog 6 #[.int .i64 first, v] w fun e w' => e = .returned (.bool true) ∧ Upd (fun _ => False) w w' := by
  have hfi : first ≤ 9223372036854775807 := by
    simp only [Lit.wf, Bool.and_eq_true, decide_eq_true_eq] at h0
    have h2 : IntKind.i64.max = 9223372036854775807 := rfl
    omega
  clear h0
  have HW := Lib.hid (awake_23 w)
  have HA := Lib.hid hA
  obtain ⟨A, cap, bA, off, rfl, hm, hA0, hcells, hok⟩ := hA.open_
  have HC := Lib.hid hcells
  have HK := Lib.hid hok
  clear hA hcells hok
  go_enter Tryz.func6, Tryz.ntmps6
  go_wp2_with fail
  refine HW.out.mono ?_
  rintro e w1 ⟨rfl, hU1⟩
  have HU1 := Lib.hid hU1
  clear hU1 HW
  go_wp2_with fail
  refine (great_23 w w1 HA.out HU1.out).mono ?_
  rintro e w' ⟨bg, rfl, rfl, hge⟩
  have HGe := Lib.hid hge
  clear hge
  cases bg
  · obtain ⟨hl60, -⟩ := HGe.out.ok rfl
    clear HGe
    by_cases hf1 : first < 1
    · go_wp2_with fail
      go_ret
      exact ⟨rfl, HU1.out⟩
    obtain ⟨n, rfl⟩ : ∃ n : Nat, first = n := ⟨first.toNat, by omega⟩
    have hn1 : 1 ≤ n := by omega
    have hn2 : n ≤ 9223372036854775807 := by omega
    have hby : bytesE (n : Int) 1 = (bytesA n 1, 0) := by
      unfold bytesE
      rw [if_neg (by simp [placeB]; omega)]
      rfl
    have HB := Lib.hid (fun W => bytes_c (n : Int) 1 (by omega) W)
    rw [hby] at HB
    have hlen := bytesA_len n 1 (by omega) (by omega)
    obtain ⟨d1, k1, hp1, hi1⟩ := KIs.fresh.put (by omega) (bytesA n 1) (by omega)
    have hr1 := (KeptRun.begin (torn := bytesA (n + 1) 0) (seen := 0) (fresh_g 20 0 (by omega)) (fresh_pend 20) (Nat.le_refl _)).put (by omega) (bytesA n 1)
    have hR1 : RiseIs d1 k1 n 1 false 0 1 := by
      rw [hp1] at hr1
      rcases hr1 with ⟨q1, q2, q3⟩ | ⟨q1, q2, q3⟩ | ⟨q1, q3⟩
      · exact ⟨hn1, hn2, by omega, fun e => by simp at e, q3⟩
      · simp at q1
      · simp at q1
    have HI := Lib.hid (And.intro hi1 hR1)
    have HPut : Hid (∀ W p b, DkS w1 W p (Dk.fresh 20) → KpS w1 W p b ⟨0, [], 0, 1, 0, false⟩ → Calls Tryz.prog 23 #[.pointer (some ⟨b, 0, none⟩), .string (str (bytesA n 1))] W fun e w' => e = .returned (.int .i64 0) ∧ DKS w1 W w' p b d1 k1 ∧ BlkKept2 W w') := Lib.hid fun W p b hD hK => by
      have := put_any hD hK (by show 1 ≤ 1; omega) (by show 0 ≤ 4096; omega) (by show 0 < _; omega) (by rw [fresh_pend]; omega) (str (bytesA n 1))
      rw [str_list, hp1] at this
      exact this
    generalize str (bytesA n 1) = S at *
    clear hby hlen hp1 hi1 hr1 hR1
    go_wp2_with fail
    refine (new_at 20 20 w1 rfl (by omega) (by omega)).mono ?_
    rintro e w2 ⟨p, rfl, hD⟩
    have H2 := Lib.hid hD
    clear hD
    go_wp2_with fail
    refine (open_kp H2.out (fresh_g 20 0 (by omega)) 0 rfl).mono ?_
    rintro e w3 ⟨b, rfl, hK, hU, -⟩
    have H3 := Lib.hid (And.intro (H2.out.still hU) hK)
    clear hK hU H2
    go_wp2_with fail
    refine (HB.out _).mono ?_
    rintro e w4 ⟨rfl, hU⟩
    have H4 := Lib.hid (And.intro (H3.out.1.still hU) (H3.out.2.still hU))
    clear hU H3
    go_wp2_with fail
    refine (HPut.out _ _ _ H4.out.1 H4.out.2).mono ?_
    rintro e w5 ⟨rfl, hS5, -⟩
    have H5 := Lib.hid hS5
    clear hS5 H4
    go_wp2_with fail
    refine (arb_open_at H5.out.disk n 1 hn1 hn2 (by omega) HI.out.1).mono ?_
    rintro e w6 ⟨a, b2, rfl, hA6, hK6, hU6⟩
    have H6 := Lib.hid (And.intro (H5.out.disk.still hU6) (And.intro hK6 hA6))
    clear hA6 hK6 hU6 H5
    go_wp2_with fail
    go_loopw [11, 13, 14, 15, 16, 17] (fun av lv hv tv cv i wr => RiseRel l.length w1 p av lv hv tv cv i wr) (fun _ _ _ _ _ i _ => l.length - (intOf i).toNat)
    case atStart => exact ⟨0, a, b2, d1, k1, n, 1, 0, false, by omega, rfl, rfl, rfl, rfl, rfl, rfl, H6.out.1, H6.out.2.1, H6.out.2.2, HI.out.2⟩
    case round =>
      clear H6 HI HPut HB
      obtain ⟨j, a, b, d, k, n, c, t, cut, hj, rfl, rfl, rfl, rfl, rfl, rfl, hD, hK, hAr, hR⟩ := hrel
      by_cases hlt : j < l.length
      · obtain rfl := hA0 (by omega)
        obtain ⟨r, hr⟩ : ∃ r, l[j] = r := ⟨_, rfl⟩
        have hc := HC.out wr (HU1.out.then hD.upd (fun _ e => e.elim)) j hlt
        have hro := HK.out _ (List.getElem_mem hlt)
        rw [hr] at hc hro
        obtain ⟨x0, x1, x2, x3⟩ := hc
        have HR := Lib.hid hR
        have HD := Lib.hid (And.intro hD (And.intro hK hAr))
        have hrn := hro.n
        have hkeep := Lib.hid (show IsInts w1 r.keep r.keeps from ⟨hro.keep.1.upd HU1.out, hro.keep.2⟩)
        obtain ⟨d_, c_, n_, kp, ks⟩ := r
        simp only at x0 x1 x2 x3 hrn hkeep
        obtain ⟨kA, kcap, -, -, hkp, -, -⟩ := hkeep.out.open_
        subst hkp
        unfold i64ok at hrn
        have htop := hR.top
        have hnx : ∀ (w' : World) (a' b' : Nat) (d' : Dk) (k' : Kp) (n' c' : Nat) (t' : Int) (cut' : Bool), DkS w1 w' p d' → KpS w1 w' p b' k' → ArbS w1 w' a' b' n' (c' : Int) → RiseIs d' k' n' c' cut' t' (j + 1 + 1) →
            RiseRel l.length w1 p (.pointer (some ⟨a', 0, none⟩)) (.int .i64 (n' : Int)) (.int .i64 (c' : Int)) (.int .i64 t') (.bool cut') (.int .i64 ((j : Int) + 1)) w' :=
          fun w' a' b' d' k' n' c' t' cut' h1 h2 h3 h4 => ⟨j + 1, a', b', d', k', n', c', t', cut', by omega, by simp, rfl, rfl, rfl, rfl, rfl, h1, h2, h3, h4⟩
        have HN := Lib.hid hnx
        clear hD hK hAr hR hr hro hnx
        go_upto_region 18 with (first
          | (refine wpList_store_all rfl 74 _ _ rfl wr.heap.size #[.int .i64 d_, .int .i64 c_, .int .i64 n_, .slice kA ks.length kcap] rfl rfl _ _ (Blk.new wr 74 #[.int .i64 0, .int .i64 0, .int .i64 0, .slice none 0 0]) rfl (by simp [Value.oneCell']) (by kernel_rfl) ?_
             intro w4 hB4 hU4 hs4
             have hU04 : Upd (fun _ => False) wr w4 := ((Upd.refl _ wr).alloc _).then hU4 (fun b e => .inr (by rw [e]; exact Nat.le_refl _))
             have H4 := Lib.hid (And.intro (HD.out.1.still hU04) (And.intro (HD.out.2.1.still hU04) (And.intro (HD.out.2.2.still hU04) hB4)))
             have hc4 := hB4.cells4
             clear hB4 hU4 hs4 hU04 x0 x1 x2 x3 HD))
        clear HC HK
        have hse : j + 1 < 1000000 := by omega
        by_cases c0 : d_ = 0
        · subst c0
          go_wp2_with fail
          by_cases hpl : placeB c_ = true
          · by_cases htp : n = 9223372036854775807
            · obtain rfl := htp
              refine (grant_full H4.out.2.2.1 c_ hpl rfl).mono ?_
              rintro e w5 ⟨rfl, rfl⟩
              go_wp2_with fail
              refine (arb_epoch H4.out.2.2.1).mono ?_
              rintro e w6 ⟨rfl, rfl⟩
              go_wp2_with fail
              refine (arb_holder H4.out.2.2.1).mono ?_
              rintro e w7 ⟨rfl, rfl⟩
              go_wp2_with fail
              go_roundw
              case rel => exact HN.out _ _ _ _ _ _ _ _ _ H4.out.1 H4.out.2.1 H4.out.2.2.1 (HR.out.mono (by omega))
              case measure => simp [intOf] <;> omega
            · obtain ⟨m, rfl, hm1⟩ := place_nat hpl
              have hlt2 : n < 9223372036854775807 := by omega
              have hGr := HR.out.grant hse m hm1 hlt2
              have hrun := HR.out.run
              have hkf := hrun.from_
              have hks := hrun.seens
              have hkp := hrun.pend
              have hka := hrun.at_
              refine (grant_goes H4.out.1 H4.out.2.1 H4.out.2.2.1 (m : Int) hpl hlt2 hka (by omega) (by omega) (by omega)).mono ?_
              rintro e w5 ⟨rfl, hG⟩
              rw [Int.toNat_natCast] at hG ⊢
              have hB5 := hG.others _ _ _ H4.out.2.2.2 (by decide) (by decide) (by decide) (by decide)
              have hc5 := hB5.cells4
              have hne : (n : Int) + 1 ≠ 0 := by omega
              have hneb : ((n : Int) == 9223372036854775807) = false := by rw [beq_eq_false_iff_ne]; omega
              have hwr : IntKind.i64.wrap ((n : Int) + 1) = (n : Int) + 1 := IntWalk.i64_in _ (by omega)
              clear hrun hkf hks hkp hka hB5 hc4
              rcases hGr with ⟨q1, q2, q3⟩ | ⟨q1, q2, q3⟩ | ⟨q1, q2⟩
              · rw [if_pos q1, q1]
                have harb := hG.arb
                rw [if_pos q1, if_pos q1] at harb
                have H5 := Lib.hid (And.intro hG.disk.disk (And.intro hG.disk.kept harb))
                have HR5 := Lib.hid q2
                subst q3
                clear q1 q2 harb hG
                go_wp2_with fail
                go_quiet (fail)
                go_wp2_with fail
                have H6 := Lib.hid (And.intro (H5.out.1.still ((Upd.refl _ w5).drewN nq)) (And.intro (H5.out.2.1.still ((Upd.refl _ w5).drewN nq)) (H5.out.2.2.still ((Upd.refl _ w5).drewN nq))))
                refine (arb_epoch H6.out.2.2).mono ?_
                rintro e w6 ⟨rfl, rfl⟩
                go_wp2_with fail
                refine (arb_holder H6.out.2.2).mono ?_
                rintro e w7 ⟨rfl, rfl⟩
                go_wp2_with fail
                go_roundw
                case rel => exact HN.out _ _ _ _ _ _ _ _ _ H6.out.1 H6.out.2.1 H6.out.2.2 HR5.out
                case measure => simp [intOf] <;> omega
              · rw [if_neg (by rw [q1]; simp), q1]
                have harb := hG.arb
                rw [if_neg (by rw [q1]; simp), if_neg (by rw [q1]; simp)] at harb
                have H5 := Lib.hid (And.intro hG.disk.disk (And.intro hG.disk.kept harb))
                have HR5 := Lib.hid q2
                subst q3
                clear q1 q2 harb hG
                go_wp2_with fail
                refine (arb_epoch H5.out.2.2).mono ?_
                rintro e w6 ⟨rfl, rfl⟩
                go_wp2_with fail
                refine (arb_holder H5.out.2.2).mono ?_
                rintro e w7 ⟨rfl, rfl⟩
                go_wp2_with fail
                go_roundw
                case rel => exact HN.out _ _ _ _ _ _ _ _ _ H5.out.1 H5.out.2.1 H5.out.2.2 HR5.out
                case measure => simp [intOf] <;> omega
              · have hne0 : (putK d k (bytesA (n + 1) m)).2.2 ≠ 0 := by rcases q1 with e | e <;> rw [e] <;> simp
                have harb := hG.arb
                rw [if_neg hne0, if_neg hne0] at harb
                rw [if_neg hne0]
                have H5 := Lib.hid (And.intro hG.disk.disk (And.intro hG.disk.kept harb))
                have HR5 := Lib.hid q2
                clear q2 harb hG hne0
                rcases q1 with q1 | q1
                all_goals
                  rw [q1]
                  clear q1
                  go_wp2_with fail
                  refine (arb_epoch H5.out.2.2).mono ?_
                  rintro e w6 ⟨rfl, rfl⟩
                  go_wp2_with fail
                  refine (arb_holder H5.out.2.2).mono ?_
                  rintro e w7 ⟨rfl, rfl⟩
                  go_wp2_with fail
                  go_roundw
                  case rel => exact HN.out _ _ _ _ _ _ _ _ _ H5.out.1 H5.out.2.1 H5.out.2.2 HR5.out
                  case measure => simp [intOf] <;> omega
          · refine (grant_bad H4.out.2.2.1 c_ (by simpa using hpl)).mono ?_
            rintro e w5 ⟨rfl, rfl⟩
            go_wp2_with fail
            refine (arb_epoch H4.out.2.2.1).mono ?_
            rintro e w6 ⟨rfl, rfl⟩
            go_wp2_with fail
            refine (arb_holder H4.out.2.2.1).mono ?_
            rintro e w7 ⟨rfl, rfl⟩
            go_wp2_with fail
            go_roundw
            case rel => exact HN.out _ _ _ _ _ _ _ _ _ H4.out.1 H4.out.2.1 H4.out.2.2.1 (HR.out.mono (by omega))
            case measure => simp [intOf] <;> omega
        have c0' : (d_ == 0) = false := by rw [beq_eq_false_iff_ne]; exact c0
        by_cases c1 : d_ = 1
        · subst c1
          go_wp2_with fail
          refine (fuse_kp H4.out.1 H4.out.2.1 n_ hrn.2).mono ?_
          rintro e w5 ⟨rfl, hS5, hB5⟩
          have H5 := Lib.hid (And.intro hS5 (And.intro (show ArbS w1 w5 a b n (c : Int) from ⟨hB5 _ _ _ H4.out.2.2.1.blk (by decide) (by decide), H4.out.2.2.1.new⟩) ((HR.out.fuse n_).mono (Nat.le_succ (j + 1)))))
          clear hS5 hB5 hc4
          go_wp2_with fail
          refine (arb_epoch H5.out.2.1).mono ?_
          rintro e w6 ⟨rfl, rfl⟩
          go_wp2_with fail
          refine (arb_holder H5.out.2.1).mono ?_
          rintro e w7 ⟨rfl, rfl⟩
          go_wp2_with fail
          go_roundw
          case rel => exact HN.out _ _ _ _ _ _ _ _ _ H5.out.1.disk H5.out.1.kept H5.out.2.1 H5.out.2.2
          case measure => simp [intOf] <;> omega
        have c1' : (d_ == 1) = false := by rw [beq_eq_false_iff_ne]; exact c1
        by_cases c2 : d_ = 2
        · subst c2
          go_wp2_with fail
          refine (crash_kp H4.out.1 H4.out.2.1 hkeep.out).mono ?_
          rintro e w5 ⟨rfl, hS5, -⟩
          obtain ⟨k', L0, L1, n', c', g1, g2, g3, g4⟩ := HR.out.crash H4.out.1.wf ks
          have H5 := Lib.hid (And.intro hS5.disk (And.intro g1 (And.intro g2 (g3.mono (Nat.le_succ (j + 1))))))
          clear hS5 hc4 g1 g2 g3
          have htop' := H5.out.2.2.2.top
          go_wp2_with fail
          refine (rise_open H5.out.1 H5.out.2.2.2 H5.out.2.1 H5.out.2.2.1).mono ?_
          rintro e w6 ⟨a', b', rfl, hA6, hK6, hU6⟩
          have H6 := Lib.hid (And.intro (H5.out.1.still hU6) (And.intro hK6 (And.intro hA6 H5.out.2.2.2)))
          clear hU6 hK6 hA6 H5
          rcases g4 with ⟨rfl, rfl⟩ | ⟨rfl, rfl, rfl⟩
          · cases cut
            · go_wp2_with fail
              refine (arb_epoch H6.out.2.2.1).mono ?_
              rintro e w7 ⟨rfl, rfl⟩
              go_wp2_with fail
              refine (arb_holder H6.out.2.2.1).mono ?_
              rintro e w8 ⟨rfl, rfl⟩
              go_wp2_with fail
              go_roundw
              case rel => exact HN.out _ _ _ _ _ _ _ _ _ H6.out.1 H6.out.2.1 H6.out.2.2.1 H6.out.2.2.2
              case measure => simp [intOf] <;> omega
            · go_wp2_with fail
              refine (arb_epoch H6.out.2.2.1).mono ?_
              rintro e w7 ⟨rfl, rfl⟩
              go_wp2_with fail
              refine (arb_epoch H6.out.2.2.1).mono ?_
              rintro e w7 ⟨rfl, rfl⟩
              go_wp2_with fail
              refine (arb_holder H6.out.2.2.1).mono ?_
              rintro e w8 ⟨rfl, rfl⟩
              go_wp2_with fail
              go_roundw
              case rel => exact HN.out _ _ _ _ _ _ _ _ _ H6.out.1 H6.out.2.1 H6.out.2.2.1 H6.out.2.2.2
              case measure => simp [intOf] <;> omega
          · have hwr : IntKind.i64.wrap ((n : Int) + 1) = (n : Int) + 1 := IntWalk.i64_in _ (by omega)
            have hcast : (((n + 1 : Nat) : Int)) = (n : Int) + 1 := by omega
            have hne : ((n : Int) + 1 != (n : Int)) = true := by rw [bne_iff_ne]; omega
            go_wp2_with fail
            refine (arb_epoch H6.out.2.2.1).mono ?_
            rintro e w7 ⟨rfl, rfl⟩
            rw [hcast]
            go_wp2_with fail
            refine (arb_epoch H6.out.2.2.1).mono ?_
            rintro e w7 ⟨rfl, rfl⟩
            rw [hcast]
            go_wp2_with fail
            refine (arb_epoch H6.out.2.2.1).mono ?_
            rintro e w7 ⟨rfl, rfl⟩
            rw [hcast]
            go_wp2_with fail
            refine (arb_holder H6.out.2.2.1).mono ?_
            rintro e w8 ⟨rfl, rfl⟩
            go_wp2_with fail
            go_roundw
            case rel => exact HN.out _ _ _ _ _ _ _ _ _ H6.out.1 H6.out.2.1 H6.out.2.2.1 H6.out.2.2.2
            case measure => simp [intOf] <;> omega
        have c2' : (d_ == 2) = false := by rw [beq_eq_false_iff_ne]; exact c2
        go_wp2_with fail
        refine (arb_epoch H4.out.2.2.1).mono ?_
        rintro e w6 ⟨rfl, rfl⟩
        go_wp2_with fail
        refine (arb_holder H4.out.2.2.1).mono ?_
        rintro e w7 ⟨rfl, rfl⟩
        go_wp2_with fail
        go_roundw
        case rel => exact HN.out _ _ _ _ _ _ _ _ _ H4.out.1 H4.out.2.1 H4.out.2.2.1 (HR.out.mono (by omega))
        case measure => simp [intOf] <;> omega
      · have HD := Lib.hid hD
        clear hD hK hAr hR
        go_wp2_with fail
        go_ret
        exact ⟨rfl, HU1.out.then HD.out.upd (fun _ e => e.elim)⟩
  · go_wp2_with fail
    go_ret
    exact ⟨rfl, HU1.out⟩
end Go.Proofs.YtpfbgmfkeofefaaGreat
