/-
  KeptLasts: the walk.
-/
import Derived.Test.YtafgohnpnaiomaaLast
import Derived.Test.YtafgohnpnaiomaaGreat9
import Derived.Outline
namespace Go.Proofs.Ytafgohnpnaiomaa
open Go Go.RowKit

/-- What the law's loop knows. -/
def LastRel (n : Nat) (w1 : World) (p : Nat) (kv lv iv tv cv i : Value) (wr : World) : Prop :=
  ∃ (j b : Nat) (d : Dk) (k : Kp) (L T : ByteArray) (is cut : Bool), j ≤ n ∧ i = .int .i64 (j : Int) ∧ kv = .pointer (some ⟨b, 0, none⟩) ∧ lv = .string L ∧ iv = .bool is ∧ tv = .string T ∧ cv = .bool cut ∧
    DkS w1 wr p d ∧ KpS w1 wr p b k ∧ KeptRun d k 0 L.data.toList is cut T.data.toList j
theorem bytes_beq (x y : ByteArray) : (x.toList == y.toList) = decide (x = y) := by
  rw [ByteArray.toList_eq, ByteArray.toList_eq]
  by_cases h : x = y
  · subst h; simp
  · rw [decide_eq_false h, beq_eq_false_iff_ne]
    intro e
    exact h (ByteArray.ext (Array.toList_inj.1 e))
set_option maxRecDepth 100000 in
set_option maxHeartbeats 3200000 in
theorem walk_KeptLasts {v : Value} {l : List Act9} (w : World) (hA : IsActs09 w v l) :
    Calls Try.prog 22 #[v] w fun e w' => e = .returned (.bool true) ∧ Upd (fun _ => False) w w' := by
  have HW := Lib.hid (awake_09 w)
  have HA := Lib.hid hA
  obtain ⟨A, cap, bA, off, rfl, hm, hA0, hcells, hok⟩ := hA.open_
  have HC := Lib.hid hcells
  have HK := Lib.hid hok
  clear hA hcells hok
  go_enter Try.func22, Try.ntmps22
  go_wp2_with fail
  refine HW.out.mono ?_
  rintro e w1 ⟨rfl, hU1⟩
  have HU1 := Lib.hid hU1
  clear hU1 HW
  go_wp2_with fail
  refine (great_09 w w1 HA.out HU1.out).mono ?_
  rintro e w' ⟨bg, rfl, rfl, hge⟩
  have HGe := Lib.hid hge
  clear hge
  cases bg
  · obtain ⟨hl60, -⟩ := HGe.out.ok rfl
    clear HGe
    go_wp2_with fail
    refine (new_at 20 20 w1 rfl (by omega) (by omega)).mono ?_
    rintro e w2 ⟨p, rfl, hD⟩
    have H2 := Lib.hid hD
    clear hD
    go_wp2_with fail
    refine (open_kp H2.out (fresh_g 20 0 (by omega)) 0 rfl).mono ?_
    rintro e w3 ⟨b, rfl, hK, hU, -⟩
    have H3 := Lib.hid (And.intro (H2.out.still hU) hK)
    clear hK hU H2
    go_wp2_with fail
    go_loopw [5, 7, 8, 9, 10, 11] (fun kv lv iv tv cv i wr => LastRel l.length w1 p kv lv iv tv cv i wr) (fun _ _ _ _ _ i _ => l.length - (intOf i).toNat)
    case atStart => exact ⟨0, b, _, _, ⟨#[]⟩, ⟨#[]⟩, false, false, by omega, rfl, rfl, rfl, rfl, rfl, rfl, H3.out.1, H3.out.2, KeptRun.begin (fresh_g 20 0 (by omega)) (fresh_pend 20) (Nat.le_refl _)⟩
    case round =>
      obtain ⟨j, b, d, k, L, T, is, cut, hj, rfl, rfl, rfl, rfl, rfl, rfl, hD, hK, hR⟩ := hrel
      clear H3
      by_cases hlt : j < l.length
      · obtain rfl := hA0 (by omega)
        obtain ⟨r, hr⟩ : ∃ r, l[j] = r := ⟨_, rfl⟩
        have hc := HC.out wr (HU1.out.then hD.upd (fun _ e => e.elim)) j hlt
        have hro := HK.out _ (List.getElem_mem hlt)
        rw [hr] at hc hro
        obtain ⟨x0, x1, x2, x3, x4, x5⟩ := hc
        have HR := Lib.hid hR
        have HD := Lib.hid (And.intro hD hK)
        have hrn := hro.n
        have hkeep := Lib.hid (show IsInts w1 r.keep r.keeps from ⟨hro.keep.1.upd HU1.out, hro.keep.2⟩)
        obtain ⟨d_, t_, n_, a_, x_, kp, ks⟩ := r
        simp only at x0 x1 x2 x3 x4 x5 hrn hkeep
        obtain ⟨kA, kcap, -, -, hkp, -, -⟩ := hkeep.out.open_
        subst hkp
        unfold i64ok at hrn
        have hnx : ∀ (w' : World) (b' : Nat) (d' : Dk) (k' : Kp) (L' T' : ByteArray) (is' cut' : Bool), DkS w1 w' p d' → KpS w1 w' p b' k' → KeptRun d' k' 0 L'.data.toList is' cut' T'.data.toList (j + 1) →
            LastRel l.length w1 p (.pointer (some ⟨b', 0, none⟩)) (.string L') (.bool is') (.string T') (.bool cut') (.int .i64 ((j : Int) + 1)) w' :=
          fun w' b' d' k' L' T' is' cut' h1 h2 h3 => ⟨j + 1, b', d', k', L', T', is', cut', by omega, by simp, rfl, rfl, rfl, rfl, rfl, h1, h2, h3⟩
        have HN := Lib.hid hnx
        have HLL := Lib.hid (And.intro (bytes_beq L L) (And.intro (bytes_beq T L) (bytes_beq T T)))
        clear hD hK hR hr hro hnx
        go_upto_region 15 with (first
          | (refine wpList_store_all rfl 45 _ _ rfl wr.heap.size #[.int .i64 d_, .string t_, .int .i64 n_, .int .i64 a_, .string x_, .slice kA ks.length kcap] rfl rfl _ _ (Blk.new wr 45 #[.int .i64 0, .string ⟨#[]⟩, .int .i64 0, .int .i64 0, .string ⟨#[]⟩, .slice none 0 0]) rfl (by simp [Value.oneCell']) (by kernel_rfl) ?_
             intro w4 hB4 hU4 hs4
             have hU04 : Upd (fun _ => False) wr w4 := ((Upd.refl _ wr).alloc _).then hU4 (fun b e => .inr (by rw [e]; exact Nat.le_refl _))
             have H4 := Lib.hid (And.intro (HD.out.1.still hU04) (And.intro (HD.out.2.still hU04) hB4))
             have hc4 := hB4.cells6
             clear hB4 hU4 hs4 hU04 x0 x1 x2 x3 x4 x5 HD))
        clear HC HK HLL
        by_cases c0 : d_ = 0
        · subst c0
          go_wp2_with fail
          refine (put_kp H4.out.1 H4.out.2.1 HR.out (by omega) t_).mono ?_
          rintro e w5 ⟨rfl, hS5, hB5⟩
          have hB5' := hB5 _ _ _ H4.out.2.2 (by decide) (by decide) (by decide)
          have hc5 := hB5'.cells6
          have HP := Lib.hid (HR.out.put (by omega) t_.data.toList)
          clear hc4 hB5 hB5'
          have hP := HP.out
          rcases hP with ⟨q1, q2, q3⟩ | ⟨q1, q2, q3⟩ | ⟨q1, q3⟩
          · subst q2
            rw [q1]
            have H5 := Lib.hid (And.intro hS5 q3)
            clear q1 q3 hS5 HP
            go_wp2_with fail
            refine (get_b H5.out.1.kept t_ true H5.out.2.text H5.out.2.gen).mono ?_
            rintro e w6 ⟨rfl, hU6⟩
            have H6 := Lib.hid (And.intro (H5.out.1.disk.still hU6) (H5.out.1.kept.still hU6))
            clear hU6 hc5
            go_wp2_with fail
            go_roundw
            case rel => exact HN.out _ _ _ _ t_ T true false H6.out.1 H6.out.2 H5.out.2
            case measure => simp [intOf] <;> omega
          · subst q2
            rw [q1]
            have H5 := Lib.hid (And.intro hS5 q3)
            clear q1 q3 hS5 HP
            go_wp2_with fail
            refine (get_b H5.out.1.kept L is H5.out.2.text H5.out.2.gen).mono ?_
            rintro e w6 ⟨rfl, hU6⟩
            have H6 := Lib.hid (And.intro (H5.out.1.disk.still hU6) (H5.out.1.kept.still hU6))
            clear hU6 hc5
            go_wp2_with fail
            go_roundw
            case rel => exact HN.out _ _ _ _ L t_ is true H6.out.1 H6.out.2 H5.out.2
            case measure => simp [intOf] <;> omega
          · have H5 := Lib.hid (And.intro hS5 q3)
            clear q3 hS5 HP
            rcases q1 with q1 | q1
            all_goals
              rw [q1]
              clear q1
              go_wp2_with fail
              refine (get_b H5.out.1.kept L is H5.out.2.text H5.out.2.gen).mono ?_
              rintro e w6 ⟨rfl, hU6⟩
              have H6 := Lib.hid (And.intro (H5.out.1.disk.still hU6) (H5.out.1.kept.still hU6))
              clear hU6 hc5
              go_wp2_with fail
              go_roundw
              case rel => exact HN.out _ _ _ _ L T is cut H6.out.1 H6.out.2 H5.out.2
              case measure => simp [intOf] <;> omega
        have c0' : (d_ == 0) = false := by rw [beq_eq_false_iff_ne]; exact c0
        by_cases c1 : d_ = 1
        · subst c1
          go_wp2_with fail
          refine (fuse_kp H4.out.1 H4.out.2.1 n_ hrn.2).mono ?_
          rintro e w5 ⟨rfl, hS5, -⟩
          have H5 := Lib.hid (And.intro hS5 ((HR.out.fuse n_).mono (Nat.le_succ j)))
          clear hS5 hc4
          go_wp2_with fail
          refine (get_b H5.out.1.kept L is H5.out.2.text H5.out.2.gen).mono ?_
          rintro e w6 ⟨rfl, hU6⟩
          have H6 := Lib.hid (And.intro (H5.out.1.disk.still hU6) (H5.out.1.kept.still hU6))
          clear hU6
          go_wp2_with fail
          go_roundw
          case rel => exact HN.out _ _ _ _ L T is cut H6.out.1 H6.out.2 H5.out.2
          case measure => simp [intOf] <;> omega
        have c1' : (d_ == 1) = false := by rw [beq_eq_false_iff_ne]; exact c1
        by_cases c2 : d_ = 2
        · subst c2
          go_wp2_with fail
          refine (crash_kp H4.out.1 H4.out.2.1 hkeep.out).mono ?_
          rintro e w5 ⟨rfl, hS5, -⟩
          obtain ⟨k', L0, L1, last', is', g1, g2, g3, g4⟩ := HR.out.crash H4.out.1.wf ks
          have H5 := Lib.hid (And.intro hS5 (And.intro g1 (And.intro g2 (g3.mono (Nat.le_succ j)))))
          clear hS5 hc4 g1 g2 g3
          go_wp2_with fail
          refine (open_kp H5.out.1.disk H5.out.2.1 0 (by rw [H5.out.2.2.1]; rfl)).mono ?_
          rintro e w6 ⟨b', rfl, hK6, hU6, -⟩
          have H6 := Lib.hid (And.intro (H5.out.1.disk.still hU6) hK6)
          have HF := Lib.hid H5.out.2.2.2
          clear hU6 hK6 H5
          rcases g4 with ⟨rfl, rfl⟩ | ⟨rfl, rfl, rfl⟩
          · go_wp2_with fail
            refine (get_b H6.out.2 L _ HF.out.text HF.out.gen).mono ?_
            rintro e w7 ⟨rfl, hU7⟩
            have H7 := Lib.hid (And.intro (H6.out.1.still hU7) (H6.out.2.still hU7))
            clear hU7 H6
            go_wp2_with fail
            refine (get_b H7.out.2 L _ HF.out.text HF.out.gen).mono ?_
            rintro e w8 ⟨rfl, hU8⟩
            have H8 := Lib.hid (And.intro (H7.out.1.still hU8) (H7.out.2.still hU8))
            clear hU8 H7
            go_wp2_with fail
            go_roundw
            case rel => exact HN.out _ _ _ _ L T _ false H8.out.1 H8.out.2 HF.out
            case measure => simp [intOf] <;> omega
          · go_wp2_with fail
            refine (get_b H6.out.2 T true HF.out.text HF.out.gen).mono ?_
            rintro e w7 ⟨rfl, hU7⟩
            have H7 := Lib.hid (And.intro (H6.out.1.still hU7) (H6.out.2.still hU7))
            clear hU7 H6
            by_cases hTL : T = L
            · subst hTL
              cases is
              all_goals
                go_wp2_with fail
                refine (get_b H7.out.2 T true HF.out.text HF.out.gen).mono ?_
                rintro e w8 ⟨rfl, hU8⟩
                have H8 := Lib.hid (And.intro (H7.out.1.still hU8) (H7.out.2.still hU8))
                clear hU8 H7
                go_wp2_with fail
                go_roundw
                case rel => exact HN.out _ _ _ _ T T true false H8.out.1 H8.out.2 HF.out
                case measure => simp [intOf] <;> omega
            · have hTL' : (T.toList == L.toList) = false := by rw [bytes_beq, decide_eq_false hTL]
              clear hTL
              go_wp2_with fail
              refine (get_b H7.out.2 T true HF.out.text HF.out.gen).mono ?_
              rintro e w8 ⟨rfl, hU8⟩
              have H8 := Lib.hid (And.intro (H7.out.1.still hU8) (H7.out.2.still hU8))
              clear hU8 H7
              go_wp2_with fail
              go_roundw
              case rel => exact HN.out _ _ _ _ T T true false H8.out.1 H8.out.2 HF.out
              case measure => simp [intOf] <;> omega
        have c2' : (d_ == 2) = false := by rw [beq_eq_false_iff_ne]; exact c2
        have HF := Lib.hid (HR.out.mono (Nat.le_succ j))
        go_wp2_with fail
        refine (get_b H4.out.2.1 L is HF.out.text HF.out.gen).mono ?_
        rintro e w6 ⟨rfl, hU6⟩
        have H6 := Lib.hid (And.intro (H4.out.1.still hU6) (H4.out.2.1.still hU6))
        clear hU6
        go_wp2_with fail
        go_roundw
        case rel => exact HN.out _ _ _ _ L T is cut H6.out.1 H6.out.2 HF.out
        case measure => simp [intOf] <;> omega
      · have HD := Lib.hid hD
        clear hD hK hR
        go_wp2_with fail
        go_ret
        exact ⟨rfl, HU1.out.then HD.out.upd (fun _ e => e.elim)⟩
  · go_wp2_with fail
    go_ret
    exact ⟨rfl, HU1.out⟩
end Go.Proofs.Ytafgohnpnaiomaa
