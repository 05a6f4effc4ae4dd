/-
  LogLasts: the walk.
-/
import Derived.Test.YtafgohnpnaiomaaLast
import Derived.Test.YtafgohnpnaiomaaGreat9
import Derived.Outline
namespace Go.Proofs.Ytafgohnpnaiomaa
open Go Go.RowKit

/-- What the law's loop knows. -/
def LogRel (m n : Nat) (w1 : World) (p : Nat) (gv hv tv cv i : Value) (wr : World) : Prop :=
  ∃ (j b : Nat) (d : Dk) (g : Lg) (vh : Value) (H : List ByteArray) (T : ByteArray) (cut : Bool), j ≤ m ∧ i = .int .i64 (j : Int) ∧ gv = .pointer (some ⟨b, 0, none⟩) ∧ hv = vh ∧ tv = .string T ∧ cv = .bool cut ∧
    LgS w1 wr p b d g (fun q => vh.ownBlock = some q) ∧ Own wr 9 1 vh H.length (strs H) ∧ (∀ q, vh.ownBlock = some q → w1.heap.size ≤ q) ∧ LogRun d g n 7 H cut T j ∧ H.length ≤ j
theorem bytes_beqG (x y : ByteArray) : (x.toList == y.toList) = decide (x = y) := by
  rw [ByteArray.toList_eq, ByteArray.toList_eq]
  by_cases h : x = y
  · subst h; simp
  · rw [decide_eq_false h, beq_eq_false_iff_ne]
    intro e
    exact h (ByteArray.ext (Array.toList_inj.1 e))
/-- A log beside a row of records, and an act's block. -/
structure LogAct (w1 w : World) (p b : Nat) (d : Dk) (g : Lg) (vh : Value) (H : List ByteArray) (x : Nat) (cs : Array Value) : Prop where
  log : LgS w1 w p b d g (fun q => vh.ownBlock = some q ∨ q = x)
  own : Own w 9 1 vh H.length (strs H)
  act : Blk w x 113 cs
  new : ∀ q, vh.ownBlock = some q → w1.heap.size ≤ q
theorem LogAct.less {w1 w : World} {p b x : Nat} {d : Dk} {g : Lg} {vh : Value} {H : List ByteArray} {cs : Array Value} (h : LogAct w1 w p b d g vh H x cs) : LgS w1 w p b d g (fun q => vh.ownBlock = some q) := h.log.less fun _ e => .inl e
theorem LogAct.of {w1 w w' : World} {p b x : Nat} {d d' : Dk} {g g' : Lg} {vh : Value} {H : List ByteArray} {cs : Array Value} (h : LogAct w1 w p b d g vh H x cs) (hA : AddS w1 w w' p b d' g' (fun q => vh.ownBlock = some q ∨ q = x)) : LogAct w1 w' p b d' g' vh H x cs :=
  ⟨hA.log, h.own.eqb fun q hq => hA.keep q (.inl hq), h.act.eqb (hA.keep x (.inr rfl)), h.new⟩
theorem LogAct.still {w1 w w' : World} {p b x : Nat} {d : Dk} {g : Lg} {vh : Value} {H : List ByteArray} {cs : Array Value} (h : LogAct w1 w p b d g vh H x cs) (hu : Upd (fun _ => False) w w') : LogAct w1 w' p b d g vh H x cs :=
  ⟨h.log.still hu, h.own.upd hu (fun _ _ e => e), h.act.upd hu (fun e => e), h.new⟩
theorem LogAct.begin {w1 wr w4 : World} {p b x : Nat} {d : Dk} {g : Lg} {vh : Value} {H : List ByteArray} {cs : Array Value} (h : LgS w1 wr p b d g (fun q => vh.ownBlock = some q)) (ho : Own wr 9 1 vh H.length (strs H)) (hn : ∀ q, vh.ownBlock = some q → w1.heap.size ≤ q)
    (hu : Upd (fun _ => False) wr w4) (hx : x = wr.heap.size) (hB : Blk w4 x 113 cs) : LogAct w1 w4 p b d g vh H x cs := by
  subst hx
  exact ⟨h.turn (Z := fun _ => False) (fun _ e => e.elim) (fun _ e => e.elim) hu (fun q hq => hq.imp id (fun e => ⟨by omega, by have := hB.lt; omega⟩)), ho.upd hu (fun _ _ e => e), hB, hn⟩
/-- A record more on the row. -/
theorem LogAct.app {w1 w w2 : World} {p b x : Nat} {d : Dk} {g : Lg} {vh v2 : Value} {H : List ByteArray} {cs : Array Value} {s : ByteArray} (h : LogAct w1 w p b d g vh H x cs)
    (hO : Own w2 9 1 v2 (H.length + 1) (strs H ++ [.string s])) (hU : Upd (fun q => vh.ownBlock = some q) (w.alloc (.cells #[.string s] 9)) w2) (hl : v2.ownBlock = vh.ownBlock ∨ v2.ownBlock = some (w.alloc (.cells #[.string s] 9)).heap.size) :
    LgS w1 w2 p b d g (fun q => v2.ownBlock = some q) ∧ Own w2 9 1 v2 (H ++ [s]).length (strs (H ++ [s])) ∧ ∀ q, v2.ownBlock = some q → w1.heap.size ≤ q := by
  have h0 := h.log.upd.size
  have hal : (w.alloc (.cells #[.string s] 9)).heap.size = w.heap.size + 1 := by simp
  refine ⟨(h.less.still ((Upd.refl _ w).alloc _)).turn (Z := fun q => vh.ownBlock = some q) (fun _ e => e) h.new hU (fun q hq => ?_), ?_, fun q hq => ?_⟩
  · rcases hl with e | e
    · exact .inl (by rw [← e]; exact hq)
    · have hlt := hO.lt hq
      rw [e] at hq
      have := Option.some.inj hq
      exact .inr ⟨by omega, hlt⟩
  · simpa [strs] using hO
  · rcases hl with e | e
    · exact h.new q (by rw [← e]; exact hq)
    · rw [e] at hq
      have := Option.some.inj hq
      omega
set_option maxRecDepth 100000 in
set_option maxHeartbeats 3200000 in
theorem walk_LogLasts {an : Int} {v : Value} {l : List Act9} (w : World) (h1 : (Lit.int .u8 an).wf = true) (hA : IsActs10 w v l) :
    Calls Try.prog 23 #[.int .u8 an, v] w fun e w' => e = .returned (.bool true) ∧ Upd (fun _ => False) w w' := by
  obtain ⟨m, rfl, hm0⟩ := u8_nat h1
  have HW := Lib.hid (awake_10 w)
  have HA := Lib.hid hA
  obtain ⟨A, cap, bA, off, rfl, hm, hA0, hcells, hok⟩ := hA.open_
  have HC := Lib.hid hcells
  have HK := Lib.hid hok
  clear hA hcells hok h1
  obtain ⟨n, hn⟩ : ∃ n : Nat, n = 1 + m % 60 := ⟨_, rfl⟩
  have hn1 : 1 ≤ n ∧ n ≤ 60 := by omega
  have hn' : 1 + (m : Int) % 60 = (n : Int) := by omega
  clear hn
  obtain ⟨i0, hi0, hz0, hz1, hz2⟩ := info_parts infoStr
  go_enter Try.func23, Try.ntmps23
  go_wp2_with fail
  refine HW.out.mono ?_
  rintro e w1 ⟨rfl, hU1⟩
  have HU1 := Lib.hid hU1
  clear hU1 HW
  go_wp2_with fail
  refine (great_10 w w1 HA.out HU1.out).mono ?_
  rintro e w' ⟨bg, rfl, rfl, hge⟩
  have HGe := Lib.hid hge
  clear hge
  cases bg
  · obtain ⟨hl60, -⟩ := HGe.out.ok rfl
    clear HGe
    go_wp2_with fail
    refine (new_at _ n w1 rfl hn1.1 (by omega)).mono ?_
    rintro e w2 ⟨p, rfl, hD⟩
    have H2 := Lib.hid hD
    clear hD
    go_wp2_with fail
    refine (openG_l H2.out (fresh_log n 0 n 7 (by omega) hn1.1 (by omega) (by omega)) 0 _ 7 rfl rfl rfl).mono ?_
    rintro e w3 ⟨b, rfl, hS, -, -⟩
    have H3 := Lib.hid hS
    clear hS H2
    go_wp2_with fail
    go_loopw [8, 10, 11, 12, 13] (fun gv hv tv cv i wr => LogRel l.length n w1 p gv hv tv cv i wr) (fun _ _ _ _ i _ => l.length - (intOf i).toNat)
    case atStart => exact ⟨0, b, _, _, .slice none 0 0, [], ⟨#[]⟩, false, by omega, rfl, rfl, rfl, rfl, rfl, H3.out.less (fun q hq => by simp [Value.ownBlock] at hq), Own.nil _ _ _, by simp [Value.ownBlock], LogRun.begin (fresh_log n 0 n 7 (by omega) hn1.1 (by omega) (by omega)) rfl (fresh_pend n) (Nat.le_refl _), by simp⟩
    case round =>
      obtain ⟨j, b, d, g, vh, H, T, cut, hj, rfl, rfl, rfl, rfl, rfl, hS, hO, hN, hR, hHj⟩ := hrel
      clear H3
      by_cases hlt : j < l.length
      · obtain rfl := hA0 (by omega)
        obtain ⟨r, hr⟩ : ∃ r, l[j] = r := ⟨_, rfl⟩
        have hc := HC.out wr (HU1.out.then hS.upd (fun _ e => e.elim)) j hlt
        have hro := HK.out _ (List.getElem_mem hlt)
        rw [hr] at hc hro
        obtain ⟨x0, x1, x2, x3, x4, x5⟩ := hc
        have HR := Lib.hid hR
        have HD := Lib.hid (And.intro hS (And.intro hO hN))
        have hrn := hro.n
        have hkeep := Lib.hid (show IsInts w1 r.keep r.keeps from ⟨hro.keep.1.upd HU1.out, hro.keep.2⟩)
        obtain ⟨d_, t_, n_, a_, x_, kp, ks⟩ := r
        simp only at x0 x1 x2 x3 x4 x5 hrn hkeep
        obtain ⟨kA, kcap, -, -, hkp, -, -⟩ := hkeep.out.open_
        subst hkp
        unfold i64ok at hrn
        have hnx : ∀ (w' : World) (b' : Nat) (d' : Dk) (g' : Lg) (vh' : Value) (H' : List ByteArray) (T' : ByteArray) (cut' : Bool), LgS w1 w' p b' d' g' (fun q => vh'.ownBlock = some q) → Own w' 9 1 vh' H'.length (strs H') → (∀ q, vh'.ownBlock = some q → w1.heap.size ≤ q) → LogRun d' g' n 7 H' cut' T' (j + 1) → H'.length ≤ j + 1 →
            LogRel l.length n w1 p (.pointer (some ⟨b', 0, none⟩)) vh' (.string T') (.bool cut') (.int .i64 ((j : Int) + 1)) w' :=
          fun w' b' d' g' vh' H' T' cut' h1 h2 h3 h4 h5 => ⟨j + 1, b', d', g', vh', H', T', cut', by omega, by simp, rfl, rfl, rfl, rfl, h1, h2, h3, h4, h5⟩
        have HN := Lib.hid hnx
        clear hS hO hN hR hr hro hnx
        go_upto_region 16 with (first
          | (refine wpList_store_all rfl 113 _ _ rfl wr.heap.size #[.int .i64 d_, .string t_, .int .i64 n_, .int .i64 a_, .string x_, .slice kA ks.length kcap] rfl rfl _ _ (Blk.new wr 113 #[.int .i64 0, .string ⟨#[]⟩, .int .i64 0, .int .i64 0, .string ⟨#[]⟩, .slice none 0 0]) rfl (by simp [Value.oneCell']) (by kernel_rfl) ?_
             intro w4 hB4 hU4 hs4
             have hU04 : Upd (fun _ => False) wr w4 := ((Upd.refl _ wr).alloc _).then hU4 (fun b e => .inr (by rw [e]; exact Nat.le_refl _))
             have H4 := Lib.hid (LogAct.begin HD.out.1 HD.out.2.1 HD.out.2.2 hU04 rfl hB4)
             have hc4 := hB4.cells6
             clear hB4 hU4 hs4 hU04 x0 x1 x2 x3 x4 x5 HD))
        clear HC HK
        by_cases c0 : d_ = 0
        · subst c0
          go_wp2_with fail
          refine (addG_w H4.out.log HR.out (by omega) t_).mono ?_
          rintro e w5 ⟨rfl, hS5⟩
          have HP := Lib.hid (HR.out.add (by omega) t_)
          have hA5 := H4.out.of hS5
          have hc5 := hA5.act.cells6
          clear hc4
          have hP := HP.out
          rcases hP with ⟨q1, q2, q3⟩ | ⟨q1, q2, q3⟩ | ⟨q1, q3⟩
          · subst q2
            rw [q1]
            have H5 := Lib.hid (And.intro hA5 q3)
            clear q1 q3 hS5 hA5 HP H4
            go_wp2_with (at_builtin; refine wpList_append_src rfl _ _ _ _ rfl 9 i0 _ 1 16 Try.underlying22 hi0 hz0 hz1 hz2 rfl _ H.length _ rfl (H5.out.1.own.alloc _) _ 1 [_] rfl (Src.of_new Try.underlying22 _) (by simp [Value.oneCell']) (by unfold maxLen; omega) (by omega) ?_; intro v2 w2 hO2 hU2 hl2 hs2)
            have H6 := Lib.hid (H5.out.1.app hO2 hU2 hl2)
            clear hO2 hU2 hl2 hs2 hc5
            go_wp2_with fail
            refine (records_w H6.out.1 H5.out.2).mono ?_
            rintro e w7 ⟨v7, rfl, hO7, hU7, -⟩
            have hrow := Row.of_own hO7 (by rw [List.length_append, List.length_singleton]; omega)
            have H7 := Lib.hid (And.intro (H6.out.1.still hU7) (And.intro (H6.out.2.1.upd hU7 (fun _ _ e => e)) hrow))
            clear hO7 hU7 hrow
            go_wp2_with fail
            refine (sameG_c _ H7.out.2.2 (Row.of_own H7.out.2.1 (by rw [List.length_append, List.length_singleton]; omega))).mono ?_
            rw [decide_eq_true rfl]
            rintro e w8 ⟨rfl, hU8⟩
            have H8 := Lib.hid (And.intro (H7.out.1.still hU8) (H7.out.2.1.upd hU8 (fun _ _ e => e)))
            clear hU8 H7
            go_wp2_with fail
            go_roundw
            case rel => exact HN.out _ _ _ _ _ _ _ _ H8.out.1 H8.out.2 H6.out.2.2 H5.out.2 (by rw [List.length_append, List.length_singleton]; omega)
            case measure => simp [intOf] <;> omega
          · subst q2
            rw [q1]
            have H5 := Lib.hid (And.intro hA5 q3)
            clear q1 q3 hS5 hA5 HP H4
            go_wp2_with fail
            refine (records_w H5.out.1.log H5.out.2).mono ?_
            rintro e w7 ⟨v7, rfl, hO7, hU7, -⟩
            have hrow := Row.of_own hO7 (by omega)
            have H7 := Lib.hid (And.intro (H5.out.1.still hU7) hrow)
            clear hO7 hU7 hrow
            go_wp2_with fail
            refine (sameG_c _ H7.out.2 (Row.of_own H7.out.1.own (by omega))).mono ?_
            rw [decide_eq_true rfl]
            rintro e w8 ⟨rfl, hU8⟩
            have H8 := Lib.hid (H7.out.1.still hU8)
            clear hU8 H7
            go_wp2_with fail
            go_roundw
            case rel => exact HN.out _ _ _ _ _ _ _ _ H8.out.less H8.out.own H8.out.new H5.out.2 (by omega)
            case measure => simp [intOf] <;> omega
          · have H5 := Lib.hid (And.intro hA5 q3)
            clear q3 hS5 hA5 HP H4
            rcases q1 with q1 | q1 | q1
            all_goals
              rw [q1]
              clear q1
              go_wp2_with fail
              refine (records_w H5.out.1.log H5.out.2).mono ?_
              rintro e w7 ⟨v7, rfl, hO7, hU7, -⟩
              have hrow := Row.of_own hO7 (by omega)
              have H7 := Lib.hid (And.intro (H5.out.1.still hU7) hrow)
              clear hO7 hU7 hrow
              go_wp2_with fail
              refine (sameG_c _ H7.out.2 (Row.of_own H7.out.1.own (by omega))).mono ?_
              rw [decide_eq_true rfl]
              rintro e w8 ⟨rfl, hU8⟩
              have H8 := Lib.hid (H7.out.1.still hU8)
              clear hU8 H7
              go_wp2_with fail
              go_roundw
              case rel => exact HN.out _ _ _ _ _ _ _ _ H8.out.less H8.out.own H8.out.new H5.out.2 (by omega)
              case measure => simp [intOf] <;> omega
        have c0' : (d_ == 0) = false := by rw [beq_eq_false_iff_ne]; exact c0
        by_cases c1 : d_ = 1
        · subst c1
          go_wp2_with fail
          refine (fuse_g H4.out.log n_ hrn.2).mono ?_
          rintro e w5 ⟨rfl, hS5⟩
          have H5 := Lib.hid (And.intro (H4.out.of hS5) ((HR.out.fuse n_).mono (Nat.le_succ j)))
          clear hS5 hc4 H4
          go_wp2_with fail
          refine (records_w H5.out.1.log H5.out.2).mono ?_
          rintro e w7 ⟨v7, rfl, hO7, hU7, -⟩
          have hrow := Row.of_own hO7 (by omega)
          have H7 := Lib.hid (And.intro (H5.out.1.still hU7) hrow)
          clear hO7 hU7 hrow
          go_wp2_with fail
          refine (sameG_c _ H7.out.2 (Row.of_own H7.out.1.own (by omega))).mono ?_
          rw [decide_eq_true rfl]
          rintro e w8 ⟨rfl, hU8⟩
          have H8 := Lib.hid (H7.out.1.still hU8)
          clear hU8 H7
          go_wp2_with fail
          go_roundw
          case rel => exact HN.out _ _ _ _ _ _ _ _ H8.out.less H8.out.own H8.out.new H5.out.2 (by omega)
          case measure => simp [intOf] <;> omega
        have c1' : (d_ == 1) = false := by rw [beq_eq_false_iff_ne]; exact c1
        by_cases c2 : d_ = 2
        · subst c2
          go_wp2_with fail
          refine (crash_g H4.out.log hkeep.out).mono ?_
          rintro e w5 ⟨rfl, hS5⟩
          obtain ⟨g', rs', R', hv', g1, g2, g3, g4⟩ := HR.out.crash H4.out.log.disk.wf ks
          have H5 := Lib.hid (And.intro (H4.out.of hS5) (And.intro g1 (And.intro g2 (g3.mono (Nat.le_succ j)))))
          clear hS5 hc4 g1 g2 g3 H4
          go_wp2_with fail
          refine (openG_x H5.out.1.log H5.out.2.1 0 _ 7 (by rw [H5.out.2.2.1.1]; rfl) (by rw [H5.out.2.2.1.2.1]) (by rw [H5.out.2.2.1.2.2]; rfl)).mono ?_
          rintro e w6 ⟨b', rfl, hS6, hU6, -⟩
          have H6 := Lib.hid (LogAct.mk hS6 (H5.out.1.own.upd hU6 (fun _ _ e => e)) (H5.out.1.act.upd hU6 (fun e => e)) H5.out.1.new)
          have HF := Lib.hid H5.out.2.2.2
          clear hU6 hS6 H5
          rcases g4 with rfl | ⟨rfl, rfl⟩
          · go_wp2_with fail
            refine (records_w H6.out.log HF.out).mono ?_
            rintro e w7 ⟨v7, rfl, hO7, hU7, -⟩
            obtain ⟨A7, cap7, rfl, -, -⟩ := hO7.shape
            have H7 := Lib.hid (H6.out.still hU7)
            obtain ⟨A8, cap8, hvh, -, -⟩ := H7.out.own.shape
            subst hvh
            clear hO7 hU7 H6
            have hne : ((hv'.length : Int) == (hv'.length : Int) + 1) = false := by rw [beq_eq_false_iff_ne]; omega
            cases cut
            all_goals
              go_wp2_with fail
              refine (records_w H7.out.log HF.out).mono ?_
              rintro e w9 ⟨v9, rfl, hO9, hU9, -⟩
              have hrow := Row.of_own hO9 (by omega)
              have H9 := Lib.hid (And.intro (H7.out.still hU9) hrow)
              clear hO9 hU9 hrow
              go_wp2_with fail
              refine (sameG_c _ H9.out.2 (Row.of_own H9.out.1.own (by omega))).mono ?_
              rw [decide_eq_true rfl]
              rintro e w8 ⟨rfl, hU8⟩
              have H8 := Lib.hid (H9.out.1.still hU8)
              clear hU8 H9
              go_wp2_with fail
              go_roundw
              case rel => exact HN.out _ _ _ _ _ _ _ _ H8.out.less H8.out.own H8.out.new HF.out (by omega)
              case measure => simp [intOf] <;> omega
          · go_wp2_with fail
            refine (records_w H6.out.log HF.out).mono ?_
            rintro e w7 ⟨v7, rfl, hO7, hU7, -⟩
            obtain ⟨g7, cap7, rfl, hn7, hm7⟩ := hO7.head (by simp)
            have hlast : w7.cell? ⟨g7, H.length, none⟩ = some (.string T) := by
              rw [hO7.cellAt H.length (by simp)]
              simp [strs]
            have H7 := Lib.hid (H6.out.still hU7)
            obtain ⟨A8, cap8, hvh, -, -⟩ := H7.out.own.shape
            subst hvh
            have hle : (((H ++ [T]).length : Nat) : Int) = (H.length : Int) + 1 := by simp
            have hlen1 : (H ++ [T]).length = H.length + 1 := by simp
            rw [hlen1]
            clear hO7 hU7 H6 hn7 hm7 hlen1
            go_wp2_with (at_builtin; refine wpList_append_src rfl _ _ _ _ rfl 9 i0 _ 1 16 Try.underlying22 hi0 hz0 hz1 hz2 rfl _ H.length _ rfl (H7.out.own.alloc _) _ 1 [_] rfl (Src.of_new Try.underlying22 _) (by simp [Value.oneCell']) (by unfold maxLen; omega) (by omega) ?_; intro v2 w2 hO2 hU2 hl2 hs2)
            have H8 := Lib.hid (H7.out.app hO2 hU2 hl2)
            clear hO2 hU2 hl2 hs2 hlast
            go_wp2_with fail
            refine (records_w H8.out.1 HF.out).mono ?_
            rintro e w9 ⟨v9, rfl, hO9, hU9, -⟩
            have hrow := Row.of_own hO9 (by rw [List.length_append, List.length_singleton]; omega)
            have H9 := Lib.hid (And.intro (H8.out.1.still hU9) (And.intro (H8.out.2.1.upd hU9 (fun _ _ e => e)) hrow))
            clear hO9 hU9 hrow
            go_wp2_with fail
            refine (sameG_c _ H9.out.2.2 (Row.of_own H9.out.2.1 (by rw [List.length_append, List.length_singleton]; omega))).mono ?_
            rw [decide_eq_true rfl]
            rintro e w8 ⟨rfl, hU8⟩
            have H10 := Lib.hid (And.intro (H9.out.1.still hU8) (H9.out.2.1.upd hU8 (fun _ _ e => e)))
            clear hU8 H9
            go_wp2_with fail
            go_roundw
            case rel => exact HN.out _ _ _ _ _ _ _ _ H10.out.1 H10.out.2 H8.out.2.2 HF.out (by rw [List.length_append, List.length_singleton]; omega)
            case measure => simp [intOf] <;> omega
        have c2' : (d_ == 2) = false := by rw [beq_eq_false_iff_ne]; exact c2
        go_wp2_with fail
        refine (records_w H4.out.log HR.out).mono ?_
        rintro e w5 ⟨v5, rfl, hO5, hU5, -⟩
        have hrow := Row.of_own hO5 (by omega)
        have H5 := Lib.hid (And.intro (H4.out.still hU5) hrow)
        clear hO5 hU5 hrow H4 hc4
        go_wp2_with fail
        refine (sameG_c _ H5.out.2 (Row.of_own H5.out.1.own (by omega))).mono ?_
        rw [decide_eq_true rfl]
        rintro e w6 ⟨rfl, hU6⟩
        have H6 := Lib.hid (H5.out.1.still hU6)
        clear hU6 H5
        go_wp2_with fail
        go_roundw
        case rel => exact HN.out _ _ _ _ _ _ _ _ H6.out.less H6.out.own H6.out.new (HR.out.mono (Nat.le_succ _)) (by omega)
        case measure => simp [intOf] <;> omega
      · have HD := Lib.hid hS
        clear hS hO hN hR
        go_wp2_with fail
        go_ret
        exact ⟨rfl, HU1.out.then HD.out.upd (fun _ e => e.elim)⟩
  · go_wp2_with fail
    go_ret
    exact ⟨rfl, HU1.out⟩
end Go.Proofs.Ytafgohnpnaiomaa
