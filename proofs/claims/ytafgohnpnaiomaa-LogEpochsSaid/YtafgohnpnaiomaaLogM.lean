/-
  Open of a log: the walk with the power on.
-/
import Derived.Test.YtafgohnpnaiomaaLogN
import Derived.Outline
namespace Go.Proofs.Ytafgohnpnaiomaa
open Go Go.RowKit

theorem ScanLeft.stored {w w2 w3 w4 : World} {p b f n e : Nat} {v : Value} {st : ScanSt} (h2 : ScanLeft w w2 p b f n e v st) (h3 : ScanLeft w w3 p b f n e v st) (hU : Upd (· = w2.heap.size) w3 w4) : ScanLeft w w4 p b f n e v st := by
  refine ⟨h3.list.upd hU (fun k hk e => ?_), h3.new, h3.log.upd hU (fun e => ?_), h3.upd.then hU (fun q e => .inr ?_), h3.nb⟩
  · have := h2.list.lt hk
    omega
  · have := h2.log.lt
    omega
  · have := h2.upd.size
    omega

set_option maxRecDepth 100000 in
set_option maxHeartbeats 1600000 in
theorem openG_on {w : World} {p : Nat} {d : Dk} {F : List Nat} (hD : DiskAt w p d F) (f n e : Nat) (hn : 1 ≤ n) (hf : f + n ≤ d.lasts.length) (he : 1 ≤ e) (he2 : e < 18446744073709551616) (hoff : d.off = false) :
    Calls Try.prog 36 #[.pointer (some ⟨p, 0, none⟩), .int .i64 f, .int .i64 n, .int .u64 e] w fun en w' => ∃ v, en = .returned (.tuple #[v, .int .i64 (openErrG (openG d f n e))]) ∧ OpenedG w w' p (openG d f n e) v := by
  have hm := hD.wf.most
  obtain ⟨i0, hi0, hz0, hz1, hz2⟩ := info_parts infoLp
  obtain ⟨s0, hs0, hx0, hx1, hx2⟩ := info_parts infoStr
  have hne : ((d.lasts.length : Int) == 0) = false := by rw [beq_eq_false_iff_ne]; omega
  have hf0 : ¬ (f : Int) < 0 := by omega
  have hn0 : ¬ (n : Int) < 1 := by omega
  have hn1 : ¬ d.lasts.length < n := by omega
  have hf1 : ¬ (d.lasts.length : Int) - (n : Int) < (f : Int) := by omega
  have he1 : ¬ (e : Int) < 1 := by omega
  have hsw : IntKind.i64.wrap ((d.lasts.length : Int) - (n : Int)) = (d.lasts.length : Int) - (n : Int) := IntWalk.i64_in _ (by omega)
  have HS := Lib.hid (sectors_c hD)
  have hF : f ≤ 4096 ∧ n ≤ 4096 := by omega
  have HD := Lib.hid (And.intro hD (And.intro hf (And.intro hoff (And.intro hm (And.intro he he2)))))
  clear hD hoff hm he he2 hf
  go_enter Try.func36, Try.ntmps36
  go_wp2_with (go_at_call 48; refine HS.out.mono ?_; rintro e w' ⟨rfl, rfl⟩)
  have hz0' : scanAt d f 0 = ⟨[], true, 0, false⟩ := rfl
  have HZ := Lib.hid hz0'
  clear hz0' hne hf0 hn0 hn1 hf1 he1 hsw
  go_loopw [11, 12, 58] (fun v r i wr => ∃ j : Nat, j ≤ n ∧ i = .int .i64 j ∧ (scanAt d f j).bad = false ∧ r = .bool (scanAt d f j).row ∧ ScanLeft w wr p w.heap.size f n e v (scanAt d f j)) (fun _ _ i _ => n - (intOf i).toNat)
  case atStart =>
    refine ⟨0, by omega, rfl, rfl, rfl, ?_⟩
    rw [HZ.out]
    exact ⟨Own.nil _ _ _, by simp [Value.ownBlock], Blk.new w _ _, (Upd.refl _ w).alloc _, Nat.le_refl _⟩
  case round =>
    obtain ⟨j, hj, rfl, hbad, rfl, hL⟩ := hrel
    by_cases hlt : j < n
    · have hD2 : DiskAt wr p d F := HD.out.1.upd hL.upd fun q hq e => e
      have hrd := Dk.read_there HD.out.2.2.1 (i := f + j) (by have := HD.out.2.1; omega)
      have hread : (d.read ((f : Int) + (j : Int))) = (d.now (f + j), 0) := by
        rw [← hrd]
        congr 1
      have hs3 : IntKind.i64.wrap ((f : Int) + (j : Int)) = (f : Int) + (j : Int) := IntWalk.i64_in _ (by omega)
      have hlt' : (j : Int) < (n : Int) := by omega
      have HR2 := Lib.hid hread
      have hst := scanAt_succ d f j
      have hsz := HD.out.1.wf.now_size (i := f + j) (by have := HD.out.2.1; omega)
      have hbd := fun h => scanAt_bad d f (j + 1) n (by omega) h
      have HLk := Lib.hid (fun W => Look_c (d.now (f + j)) W (by omega))
      have HW := Lib.hid (And.intro hst (And.intro hsz (And.intro hbd hL)))
      have HB := Lib.hid hbad
      have HRe := Lib.hid (show Calls Try.prog 31 #[.pointer (some ⟨p, 0, none⟩), .int .i64 ((f : Int) + (j : Int))] wr (fun e w' => e = .returned (.tuple #[.string (d.now (f + j)), .int .i64 0]) ∧ wr = w') from by
        have h := read_c hD2 ((f : Int) + (j : Int))
        rw [hread] at h
        exact h)
      clear hL hbad hD2 hrd hread hst hsz hbd HR2
      generalize d.now (f + j) = sec at *
      rcases lookL_cases sec.data.toList with hc | hc | hc
      · rw [hc] at HLk
        have hmx : max ((scanAt d f j).salt : Int) 0 = ((scanAt d f j).salt : Int) := by omega
        have hS : scanAt d f (j + 1) = { scanAt d f j with row := false } := by
          rw [HW.out.1, scanStep, if_neg (by rw [HB.out]; simp), if_neg (by rw [hc]; decide), if_neg (by rw [hc]; decide)]
        have HS2 := Lib.hid (And.intro hS HB.out)
        have HLL := Lib.hid HW.out.2.2.2
        clear hS HW HB hc
        generalize scanAt d f j = st at *
        go_wp2_with (first
          | (go_at_call 31; refine HRe.out.mono ?_; rintro e w' ⟨rfl, rfl⟩)
          | (go_at_call 34
             refine (HLk.out _).mono ?_
             rintro e w2 ⟨rfl, hb2⟩
             have hB4 := Blk.new w2 135 #[.int .u64 0, .int .u64 0, .int .u64 0, .int .i64 0, .int .i64 0, .string ⟨#[]⟩]
             have HL4 := Lib.hid (And.intro ((HLL.out.below hb2).below ((Below.refl _ w2).alloc (Nat.le_refl _) (.cells #[.int .u64 0, .int .u64 0, .int .u64 0, .int .i64 0, .int .i64 0, .string ⟨#[]⟩] 135))) hB4)
             have hc4 := hB4.cells6
             have hk4 := HL4.out.1.log.cells9
             have hz4 := HL4.out.1.log.frozen 7
             clear hB4))
        all_goals
          go_roundw
          case rel =>
            refine ⟨j + 1, by omega, by go_num, ?_, ?_, ?_⟩
            all_goals rw [HS2.out.1]
            · exact HS2.out.2
            · have h := HL4.out.1
              exact ⟨h.list, h.new, h.log, h.upd, h.nb⟩
          case measure => simp [intOf]; omega
      · obtain ⟨hbody, hlen⟩ := lookL_body hc
        have HRd := Lib.hid (fun W => read_g (str (lookL sec.data.toList).1) W (by rw [str_size, hbody]; simp [hlen]))
        rw [hc] at HLk
        have hdt : (str (lookL sec.data.toList).1).data.toList = (lookL sec.data.toList).1 := by simp [str]
        rw [hdt] at HRd
        have hS : scanAt d f (j + 1) = { l := if (scanAt d f j).row && (readG (lookL sec.data.toList).1).2 then (scanAt d f j).l ++ [(readG (lookL sec.data.toList).1).1] else (scanAt d f j).l, row := (scanAt d f j).row && (readG (lookL sec.data.toList).1).2, salt := max (scanAt d f j).salt (readG (lookL sec.data.toList).1).1.salt, bad := false } := by
          rw [HW.out.1, scanStep, if_neg (by rw [HB.out]; simp), if_neg (by rw [hc]; decide), if_pos hc]
        have HLL := Lib.hid HW.out.2.2.2
        have stl : (scanAt d f j).l.length ≤ j := scanAt_len _ _ _
        clear hdt hbody hlen hc HW HB
        have HSs := Lib.hid hS
        clear hS
        generalize scanAt d f j = st at *
        generalize readG (lookL sec.data.toList).1 = pr at *
        obtain ⟨pt, is⟩ := pr
        simp only at *
        have hmx : max (st.salt : Int) (pt.salt : Int) = ((max st.salt pt.salt : Nat) : Int) := by omega
        go_wp2_with (first
          | (go_at_call 31; refine HRe.out.mono ?_; rintro e w' ⟨rfl, rfl⟩)
          | (go_at_call 34
             refine (HLk.out _).mono ?_
             rintro e w2 ⟨rfl, hb2⟩
             have HL2 := Lib.hid (HLL.out.below hb2)
             have HL4 := Lib.hid (And.intro ((HLL.out.below hb2).below ((Below.refl _ w2).alloc (Nat.le_refl _) (.cells #[.int .u64 0, .int .u64 0, .int .u64 0, .int .i64 0, .int .i64 0, .string ⟨#[]⟩] 135))) (Blk.new w2 135 #[.int .u64 0, .int .u64 0, .int .u64 0, .int .i64 0, .int .i64 0, .string ⟨#[]⟩])))
          | (go_at_call 85
             refine (HRd.out _).mono ?_
             rintro e w3 ⟨he3, hb3⟩
             rw [Lp.val] at he3
             subst he3
             have HL5 := Lib.hid (And.intro (HL4.out.1.below hb3) (HL4.out.2.eqb (hb3.block _ HL4.out.2.lt)))
             clear hb3)
          | (refine wpList_store_all rfl 135 _ _ rfl w2.heap.size #[.int .u64 pt.epoch, .int .u64 pt.salt, .int .u64 pt.ahead, .int .i64 pt.number, .int .i64 pt.all, .string (str pt.text)] rfl rfl _ _ HL5.out.2 rfl (by simp [Value.oneCell']) (by kernel_rfl) ?_
             intro w4 hB4 hU4 hs4
             have HL6 := Lib.hid (And.intro (ScanLeft.stored HL2.out HL5.out.1 hU4) hB4)
             have hc4 := hB4.cells6
             have hk4 := HL6.out.1.log.cells9
             have hz4 := HL6.out.1.log.frozen 7
             clear hB4 hU4 hs4))
        go_region
        all_goals
          try simp only [hmx]
          have HL7 := Lib.hid ((HL6.out.1.saw (max st.salt pt.salt)).drew)
          have hB5 : Blk (w4.setCell ⟨w.heap.size, 7, none⟩ (.int .u64 ((max st.salt pt.salt : Nat) : Int))).drew w2.heap.size 135 #[.int .u64 pt.epoch, .int .u64 pt.salt, .int .u64 pt.ahead, .int .i64 pt.number, .int .i64 pt.all, .string (str pt.text)] :=
            (HL6.out.2.far (p := ⟨w.heap.size, 7, none⟩) (fun e => HL6.out.2.ne_ HL6.out.1.log (by decide) e) _).drew
          have hc5 := hB5.cells6
          have HSs := HSs.out
          clear hc4 hk4 hz4 hB5 hmx
          generalize (w4.setCell ⟨w.heap.size, 7, none⟩ (.int .u64 ((max st.salt pt.salt : Nat) : Int))).drew = w5 at *
          cases hr : st.row
          · simp only [hr, Bool.false_and, Bool.false_eq_true, if_false] at HSs
            have HS := Lib.hid HSs
            clear HSs hc5
            go_wp2
            go_roundw
            case rel =>
              refine ⟨j + 1, by omega, by go_num, ?_, ?_, ?_⟩
              all_goals rw [HS.out]
              have h := HL7.out
              exact ⟨h.list, h.new, h.log, h.upd, h.nb⟩
            case measure => simp [intOf]; omega
          · cases his : is
            · simp only [hr, his, Bool.true_and, Bool.false_eq_true, if_false] at HSs
              have HS := Lib.hid HSs
              clear HSs hc5
              go_wp2
              go_roundw
              case rel =>
                refine ⟨j + 1, by omega, by go_num, ?_, ?_, ?_⟩
                all_goals rw [HS.out]
                have h := HL7.out
                exact ⟨h.list, h.new, h.log, h.upd, h.nb⟩
              case measure => simp [intOf]; omega
            · simp only [hr, his, Bool.true_and, if_true] at HSs
              have HS := Lib.hid HSs
              clear HSs
              go_wp2_with (at_builtin; refine wpList_append_src rfl _ _ _ _ rfl 135 i0 _ 6 56 Try.underlying133 hi0 hz0 hz1 hz2 rfl u11 st.l.length _ rfl (HL7.out.list.alloc _) _ 1 [_, _, _, _, _, _] rfl (Src.of_news Try.underlying133 _ rfl) (by simp [Value.oneCell']) (by have := stl; unfold maxLen; omega) (by have := stl; omega) ?_; intro v2 w6 hO2 hU2 hl2 hs2)
              go_roundw
              case rel =>
                refine ⟨j + 1, by omega, by go_num, ?_, ?_, ?_⟩
                all_goals rw [HS.out]
                have h := HL7.out.app _ hO2 hU2 hl2
                exact ⟨h.list, h.new, h.log, h.upd, h.nb⟩
              case measure => simp [intOf]; omega
      · rw [hc] at HLk
        have hS : scanAt d f (j + 1) = { scanAt d f j with bad := true } := by
          rw [HW.out.1, scanStep, if_neg (by rw [HB.out]; simp), if_pos hc]
        have h10 := HW.out.2.2.1 (by rw [hS])
        rw [hS] at h10
        have H10 := Lib.hid h10
        have HLL := Lib.hid HW.out.2.2.2
        clear h10 hS HW HB hc
        go_wp2_with (first
          | (go_at_call 31; refine HRe.out.mono ?_; rintro e w' ⟨rfl, rfl⟩)
          | (go_at_call 34; refine (HLk.out _).mono ?_; rintro e w2 ⟨rfl, hb2⟩))
        go_ret2
        have ho : openG d f n e = none := by rw [openG, H10.out]; rfl
        rw [ho]
        exact ⟨_, rfl, ⟨(HLL.out.below hb2).upd, fun _ => rfl, fun g h => by cases h⟩⟩
    · obtain rfl : j = n := by omega
      have HL := Lib.hid (And.intro hL hbad)
      clear hL hbad
      go_wp2_with fail
      have hok := (scanAt_ok d f j).1
      have hln := scanAt_len d f j
      have hG : openG d f j e = some (loopG ((scanAt d f j).l.length + 1) ⟨f, j, e, [], 0, 0, (scanAt d f j).salt, false⟩ (scanAt d f j).l) := by rw [openG, HL.out.2]; rfl
      have HG := Lib.hid (And.intro hG (And.intro hok hln))
      clear hG hok hln
      go_loopw [11] (fun v w' => ∃ (row : List Lp) (g : Lg) (v1 : Value) (k : Nat), RecLeft wr w' p w.heap.size u11 (scanAt d f j).l v row g v1 ∧ openG d f j e = some (loopG (row.length + 1) g row) ∧ row = (scanAt d f j).l.drop k ∧ k ≤ (scanAt d f j).l.length ∧ g.epoch = e ∧ g.used = k ∧ g.l.length ≤ k) (fun v _ => lenOf v)
      case atStart =>
        exact ⟨(scanAt d f j).l, ⟨f, j, e, [], 0, 0, (scanAt d f j).salt, false⟩, .slice none 0 0, 0, RecLeft.begin HL.out.1.list HL.out.1.log rfl, HG.out.1, rfl, by omega, rfl, rfl, by simp⟩
      case round =>
        obtain ⟨row, g, v1, k, hR, hg, hrow, hk, hep, hus, hgl⟩ := hrel
        have hrl : row.length ≤ 5000 := by rw [hrow, List.length_drop]; have := HG.out.2.2; omega
        have hmem : ∀ q ∈ row, q ∈ (scanAt d f j).l := fun q hq => by rw [hrow] at hq; exact List.mem_of_mem_drop hq
        have hFi := first_g hR.log (hR.parts _ hR.list) hrl (fun q hq => (HG.out.2.1 q (hmem q hq)).1) (fun q hq => (HG.out.2.1 q (hmem q hq)).2.1)
        rw [loopG] at hg
        cases hf : (firstG g.epoch g.last row).2
        · rw [hf] at hFi hg
          rw [if_neg (by simp)] at hg
          have HFi := Lib.hid hFi
          have HR := Lib.hid (And.intro hR hg)
          clear hFi hR hg hrow hmem hf
          go_wp2_with (go_at_call 86; refine HFi.out.mono ?_; rintro e w1 ⟨rfl, hu1⟩)
          go_ret2
          rw [HR.out.2]
          have hR1 := HR.out.1.still hu1
          have hz := HL.out.1.upd.size
          exact ⟨_, rfl, HL.out.1.upd.then hR1.upd (fun q e => .inr (by rw [e]; exact Nat.le_refl _)), fun h => (by cases h), fun g2 h => by cases h; exact ⟨w.heap.size, v1, rfl, hR1.log, hR1.own, Nat.le_refl _, fun q hq => by have := hR1.new q hq; omega⟩⟩
        · obtain ⟨h0, hp1, hp2, ht2⟩ := firstG_parts hf
          rw [hf] at hFi hg
          rw [if_pos rfl] at hg
          generalize (firstG g.epoch g.last row).1 = text at *
          obtain ⟨q0, r, rfl⟩ : ∃ q0 r, row = q0 :: r := by
            cases row with
            | nil => simp at h0
            | cons a b => exact ⟨a, b, rfl⟩
          obtain ⟨A, cap, b1, o1, hv, m1, m2, a1, c1⟩ := (hR.parts _ hR.list).ex
          obtain ⟨rfl, -⟩ := a1 (by simp)
          subst hv
          have hgl5 : g.l.length ≤ 5000 := by have := HG.out.2.2; omega
          have hus5 : g.used ≤ 5000 := by have := HG.out.2.2; omega
          have hsw : IntKind.i64.wrap ((g.used : Int) + ((partsOf text.length : Nat) : Int)) = (g.used : Int) + ((partsOf text.length : Nat) : Int) := IntWalk.i64_in _ (by omega)
          have HPa : Hid (∀ W, Calls Try.prog 43 #[.string (str text)] W fun e w' => e = .returned (.int .i64 ((partsOf text.length : Nat) : Int)) ∧ W = w') := fun W => by
            have h := parts_c (str text) W (by rw [str_size]; omega)
            rw [str_size] at h
            exact h
          have HFi := Lib.hid hFi
          have HR := Lib.hid hR
          have HGG := Lib.hid (And.intro hg (And.intro hrow (And.intro hk (And.intro hep (And.intro hus hgl)))))
          clear hFi hR hg hrow hmem hf a1 c1 hk hep hus hgl
          go_wp2_with (first | (go_at_call 86; refine HFi.out.mono ?_; rintro e w1 ⟨rfl, hu1⟩; have HR1 := Lib.hid (HR.out.still hu1); clear hu1) | fail)
          have hlen0 : (0 : Int) < ((q0 :: r).length : Int) := by simp only [List.length_cons]; omega
          refine wp_region_noPanic ?_
          refine wp_region_T (S := fun w' => w'.cell? ⟨w.heap.size, 4, none⟩ = some v1 ∧ w'.cell? ⟨b1, o1 + 1, none⟩ = some (.int .u64 (q0.salt : Int))) (T := fun i => Nat.beq 15 i || Nat.beq i 18) (by kernel_rfl) ?_
          have HSS := Lib.hid (fun (w' : World) hu => HR1.out.sees (w2 := w') hu)
          have hS0 := HSS.out _ (Upd.refl _ w1).drew
          refine wpAnyT_takeW (i := 0) (v := .pointer (some ⟨w.heap.size, 0, none⟩)) rfl (by kernel_rfl) (by kernel_rfl) (by kernel_rfl) (by kernel_rfl) (fun _ _ _ h => h) (takes_yield rfl (Or.inl ⟨by rfl, ?_⟩)) (by first | exact Or.inr (by assumption) | exact Or.inl (by kernel_rfl)) ?_
          · intro w' hSw; go_simp
          simp only [Act.put, List.getElem_toArray, List.getElem_cons_zero, List.setIfInBounds_toArray, List.set_cons_zero, List.set_cons_succ]
          refine wpAnyT_takeW (i := 1) (v := .pointer (some ⟨w.heap.size, 0, none⟩)) rfl (by kernel_rfl) (by kernel_rfl) (by kernel_rfl) (by kernel_rfl) (fun _ _ _ h => h) (takes_yield rfl (Or.inl ⟨by rfl, ?_⟩)) (by first | exact Or.inr (by assumption) | exact Or.inl (by kernel_rfl)) ?_
          · intro w' hSw; go_simp
          simp only [Act.put, List.getElem_toArray, List.getElem_cons_zero, List.getElem_cons_succ, List.setIfInBounds_toArray, List.set_cons_zero, List.set_cons_succ]
          refine wpAnyT_takeW (i := 2) (v := .pointer (some ⟨w.heap.size, 0, none⟩)) rfl (by kernel_rfl) (by kernel_rfl) (by kernel_rfl) (by kernel_rfl) (fun _ _ _ h => h) (takes_yield rfl (Or.inl ⟨by rfl, ?_⟩)) (by first | exact Or.inr (by assumption) | exact Or.inl (by kernel_rfl)) ?_
          · intro w' hSw; go_simp
          simp only [Act.put, List.getElem_toArray, List.getElem_cons_zero, List.getElem_cons_succ, List.setIfInBounds_toArray, List.set_cons_zero, List.set_cons_succ]
          refine wpAnyT_takeW (i := 3) (v := .pointer (some ⟨w.heap.size, 0, none⟩)) rfl (by kernel_rfl) (by kernel_rfl) (by kernel_rfl) (by kernel_rfl) (fun _ _ _ h => h) (takes_yield rfl (Or.inl ⟨by rfl, ?_⟩)) (by first | exact Or.inr (by assumption) | exact Or.inl (by kernel_rfl)) ?_
          · intro w' hSw; go_simp
          simp only [Act.put, List.getElem_toArray, List.getElem_cons_zero, List.getElem_cons_succ, List.setIfInBounds_toArray, List.set_cons_zero, List.set_cons_succ]
          refine wpAnyT_takeW (i := 4) (v := .pointer (some ⟨w.heap.size, 4, none⟩)) rfl (by kernel_rfl) (by kernel_rfl) (by kernel_rfl) (by kernel_rfl) (fun _ _ _ h => h) (takes_yield rfl (Or.inl ⟨by rfl, ?_⟩)) (by first | exact Or.inr (by assumption) | exact Or.inl (by kernel_rfl)) ?_
          · intro w' hSw; go_simp
          simp only [Act.put, List.getElem_toArray, List.getElem_cons_zero, List.getElem_cons_succ, List.setIfInBounds_toArray, List.set_cons_zero, List.set_cons_succ]
          refine wpAnyT_take (i := 5) (v := v1) rfl (by kernel_rfl) (by kernel_rfl) (by kernel_rfl) (by kernel_rfl) (fun _ _ _ h => h) (takes_yield rfl (Or.inl ⟨by rfl, ?_⟩)) (by assumption) (by kernel_rfl) ?_
          · intro w' hSw; go_split_ands; go_simp
          simp only [Act.put, List.getElem_toArray, List.getElem_cons_zero, List.getElem_cons_succ, List.setIfInBounds_toArray, List.set_cons_zero, List.set_cons_succ]
          refine wpAnyT_takeW (i := 6) (v := .string (str text)) rfl (by kernel_rfl) (by kernel_rfl) (by kernel_rfl) (by kernel_rfl) (fun _ _ _ h => h) (takes_yield rfl (Or.inl ⟨by rfl, ?_⟩)) (by first | exact Or.inr (by assumption) | exact Or.inl (by kernel_rfl)) ?_
          · intro w' hSw; go_simp
          simp only [Act.put, List.getElem_toArray, List.getElem_cons_zero, List.getElem_cons_succ, List.setIfInBounds_toArray, List.set_cons_zero, List.set_cons_succ]
          refine wpAnyT_takeW (i := 9) (v := .slice (some ⟨b1, o1, none⟩) (q0 :: r).length cap) rfl (by kernel_rfl) (by kernel_rfl) (by kernel_rfl) (by kernel_rfl) (fun _ _ _ h => h) (takes_yield rfl (Or.inl ⟨by rfl, ?_⟩)) (by first | exact Or.inr (by assumption) | exact Or.inl (by kernel_rfl)) ?_
          · intro w' hSw; go_simp
          simp only [Act.put, List.getElem_toArray, List.getElem_cons_zero, List.getElem_cons_succ, List.setIfInBounds_toArray, List.set_cons_zero, List.set_cons_succ]
          refine wpAnyT_takeW (i := 10) (v := .pointer (some ⟨b1, o1, none⟩)) rfl (by kernel_rfl) (by kernel_rfl) (by kernel_rfl) (by kernel_rfl) (fun _ _ _ h => h) (takes_yield rfl (Or.inl ⟨by rfl, ?_⟩)) (by first | exact Or.inr (by assumption) | exact Or.inl (by kernel_rfl)) ?_
          · intro w' hSw; go_simp
          simp only [Act.put, List.getElem_toArray, List.getElem_cons_zero, List.getElem_cons_succ, List.setIfInBounds_toArray, List.set_cons_zero, List.set_cons_succ]
          refine wpAnyT_takeW (i := 11) (v := .pointer (some ⟨b1, o1 + 1, none⟩)) rfl (by kernel_rfl) (by kernel_rfl) (by kernel_rfl) (by kernel_rfl) (fun _ _ _ h => h) (takes_yield rfl (Or.inl ⟨by rfl, ?_⟩)) (by first | exact Or.inr (by assumption) | exact Or.inl (by kernel_rfl)) ?_
          · intro w' hSw; go_simp
          simp only [Act.put, List.getElem_toArray, List.getElem_cons_zero, List.getElem_cons_succ, List.setIfInBounds_toArray, List.set_cons_zero, List.set_cons_succ]
          refine wpAnyT_take (i := 12) (v := .int .u64 (q0.salt : Int)) rfl (by kernel_rfl) (by kernel_rfl) (by kernel_rfl) (by kernel_rfl) (fun _ _ _ h => h) (takes_yield rfl (Or.inl ⟨by rfl, ?_⟩)) (by assumption) (by kernel_rfl) ?_
          · intro w' hSw; go_split_ands; go_simp
          simp only [Act.put, List.getElem_toArray, List.getElem_cons_zero, List.getElem_cons_succ, List.setIfInBounds_toArray, List.set_cons_zero, List.set_cons_succ]
          refine wpAnyT_one (i := 7) (by kernel_rfl) rfl (fun K hK => ?_)
          go_simp
          refine hK.out _ _ ?_ ?_
          · exact HSS.out _ ((Upd.refl _ w1).alloc _).drew
          refine wpAnyT_one (i := 8) (by kernel_rfl) rfl (fun K hK => ?_)
          refine step_append_src (by rfl) _ _ _ _ (by rfl) 9 s0 _ 1 16 Try.underlying22 hs0 hx0 hx1 hx2 rfl v1 _ _ (by rfl) ((HR1.out.own.alloc _).drew) _ 1 [.string (str text)] (by rfl) (Src.of_new_drew Try.underlying22 (.string (str text))) (by simp [Value.oneCell']) (by unfold maxLen; omega) (by omega) ?_
          intro v2 w2 hown2 hU2 hloc2 hs2
          obtain ⟨gq, cq, rfl, -, -⟩ := hown2.head (by omega)
          have hU3 : Upd (fun q => v1.ownBlock = some q) w1 w2 := ((Upd.refl _ w1).alloc _).drew.then hU2 (fun _ e => .inl e)
          have hl3 : ∀ q, (Value.slice (some ⟨gq, 0, none⟩) (g.l.length + 1) cq).ownBlock = some q → v1.ownBlock = some q ∨ w1.heap.size ≤ q := fun q hq => by
            rcases hloc2 with e | e
            · rw [e] at hq; exact .inl hq
            · rw [e] at hq
              cases hq
              exact .inr ((((Upd.refl (fun _ => False) w1).alloc _).drew).size)
          have hB3 := HR1.out.log.upd hU3 (fun e => HR1.out.own.ne_blk HR1.out.log (by decide) e)
          have hk2 := hB3.cells9
          have hf4 := hB3.frozen 4
          have hf6 := hB3.frozen 6
          have HX := Lib.hid (HR1.out.app (str text) q0.salt hown2 hU3 hl3)
          have hS2 := HSS.out _ hU3
          clear hown2 hU2 hloc2 hs2 hU3 hl3 hB3
          refine hK.out _ _ hS2 ?_
          clear hK
          refine wpAnyT_takeW (i := 13) (v := .pointer (some ⟨w.heap.size, 0, none⟩)) rfl (by kernel_rfl) (by kernel_rfl) (by kernel_rfl) (by kernel_rfl) (fun _ _ _ h => h) (takes_yield rfl (Or.inl ⟨by rfl, ?_⟩)) (by first | exact Or.inr (by assumption) | exact Or.inl (by kernel_rfl)) ?_
          · intro w' hSw; go_simp
          simp only [Act.put, List.getElem_toArray, List.getElem_cons_zero, List.getElem_cons_succ, List.setIfInBounds_toArray, List.set_cons_zero, List.set_cons_succ]
          refine wpAnyT_takeW (i := 14) (v := .pointer (some ⟨w.heap.size, 4, none⟩)) rfl (by kernel_rfl) (by kernel_rfl) (by kernel_rfl) (by kernel_rfl) (fun _ _ _ h => h) (takes_yield rfl (Or.inl ⟨by rfl, ?_⟩)) (by first | exact Or.inr (by assumption) | exact Or.inl (by kernel_rfl)) ?_
          · intro w' hSw; go_simp
          simp only [Act.put, List.getElem_toArray, List.getElem_cons_zero, List.getElem_cons_succ, List.setIfInBounds_toArray, List.set_cons_zero, List.set_cons_succ]
          refine wpAnyT_oneT (i := 15) (by kernel_rfl) rfl (by kernel_rfl) (fun K hK => ?_)
          go_simp
          refine hK.out _ _ ?_
          clear hK hS2
          refine wpAnyT_takeW (i := 16) (v := .pointer (some ⟨w.heap.size, 0, none⟩)) rfl (by kernel_rfl) (by kernel_rfl) (by kernel_rfl) (by kernel_rfl) (fun _ _ _ h => h) (takes_yield rfl (Or.inl ⟨by rfl, ?_⟩)) (by first | exact Or.inr (by assumption) | exact Or.inl (by kernel_rfl)) ?_
          · intro w' hSw; go_simp
          simp only [Act.put, List.getElem_toArray, List.getElem_cons_zero, List.getElem_cons_succ, List.setIfInBounds_toArray, List.set_cons_zero, List.set_cons_succ]
          refine wpAnyT_takeW (i := 17) (v := .pointer (some ⟨w.heap.size, 6, none⟩)) rfl (by kernel_rfl) (by kernel_rfl) (by kernel_rfl) (by kernel_rfl) (fun _ _ _ h => h) (takes_yield rfl (Or.inl ⟨by rfl, ?_⟩)) (by first | exact Or.inr (by assumption) | exact Or.inl (by kernel_rfl)) ?_
          · intro w' hSw; go_simp
          simp only [Act.put, List.getElem_toArray, List.getElem_cons_zero, List.getElem_cons_succ, List.setIfInBounds_toArray, List.set_cons_zero, List.set_cons_succ]
          refine wpAnyT_oneT (i := 18) (by kernel_rfl) rfl (by kernel_rfl) (fun K hK => ?_)
          go_simp
          refine hK.out _ _ ?_
          clear hK
          refine wpAnyT_done (by kernel_rfl) ?_ _
          refine NoPanic.normal ?_
          clear hk2 hf4 hf6
          generalize ((w2.setCell ⟨w.heap.size, 4, none⟩ (.slice (some ⟨gq, 0, none⟩) (g.l.length + 1) cq)).setCell ⟨w.heap.size, 6, none⟩ (.int .u64 (q0.salt : Int))) = w3 at *
          clear HSS hS0
          go_wp2_with fail
          refine wp_region_noPanic ?_
          refine wp_region_T (S := fun w' => w'.cell? ⟨w.heap.size, 5, none⟩ = some (.int .i64 (g.used : Int))) (T := fun i => Nat.beq 9 i) (by kernel_rfl) ?_
          have hS0 : w3.drew.cell? ⟨w.heap.size, 5, none⟩ = some (.int .i64 (g.used : Int)) := HX.out.log.drew.cell 5
          have hf5 := HX.out.log.drew.frozen 5
          refine wpAnyT_takeW (i := 0) (v := .pointer (some ⟨w.heap.size, 0, none⟩)) rfl (by kernel_rfl) (by kernel_rfl) (by kernel_rfl) (by kernel_rfl) (fun _ _ _ h => h) (takes_yield rfl (Or.inl ⟨by rfl, ?_⟩)) (by first | exact Or.inr (by assumption) | exact Or.inl (by kernel_rfl)) ?_
          · intro w' hSw; go_simp
          simp only [Act.put, List.getElem_toArray, List.getElem_cons_zero, List.setIfInBounds_toArray, List.set_cons_zero, List.set_cons_succ]
          refine wpAnyT_takeW (i := 1) (v := .pointer (some ⟨w.heap.size, 0, none⟩)) rfl (by kernel_rfl) (by kernel_rfl) (by kernel_rfl) (by kernel_rfl) (fun _ _ _ h => h) (takes_yield rfl (Or.inl ⟨by rfl, ?_⟩)) (by first | exact Or.inr (by assumption) | exact Or.inl (by kernel_rfl)) ?_
          · intro w' hSw; go_simp
          simp only [Act.put, List.getElem_toArray, List.getElem_cons_zero, List.getElem_cons_succ, List.setIfInBounds_toArray, List.set_cons_zero, List.set_cons_succ]
          refine wpAnyT_takeW (i := 2) (v := .pointer (some ⟨w.heap.size, 5, none⟩)) rfl (by kernel_rfl) (by kernel_rfl) (by kernel_rfl) (by kernel_rfl) (fun _ _ _ h => h) (takes_yield rfl (Or.inl ⟨by rfl, ?_⟩)) (by first | exact Or.inr (by assumption) | exact Or.inl (by kernel_rfl)) ?_
          · intro w' hSw; go_simp
          simp only [Act.put, List.getElem_toArray, List.getElem_cons_zero, List.getElem_cons_succ, List.setIfInBounds_toArray, List.set_cons_zero, List.set_cons_succ]
          refine wpAnyT_take (i := 3) (v := .int .i64 (g.used : Int)) rfl (by kernel_rfl) (by kernel_rfl) (by kernel_rfl) (by kernel_rfl) (fun _ _ _ h => h) (takes_yield rfl (Or.inl ⟨by rfl, ?_⟩)) (by assumption) (by kernel_rfl) ?_
          · intro w' hSw; go_split_ands; go_simp
          simp only [Act.put, List.getElem_toArray, List.getElem_cons_zero, List.getElem_cons_succ, List.setIfInBounds_toArray, List.set_cons_zero, List.set_cons_succ]
          refine wpAnyT_takeW (i := 4) (v := .string (str text)) rfl (by kernel_rfl) (by kernel_rfl) (by kernel_rfl) (by kernel_rfl) (fun _ _ _ h => h) (takes_yield rfl (Or.inl ⟨by rfl, ?_⟩)) (by first | exact Or.inr (by assumption) | exact Or.inl (by kernel_rfl)) ?_
          · intro w' hSw; go_simp
          simp only [Act.put, List.getElem_toArray, List.getElem_cons_zero, List.getElem_cons_succ, List.setIfInBounds_toArray, List.set_cons_zero, List.set_cons_succ]
          refine wpAnyT_take (i := 5) (v := .int .i64 ((partsOf text.length : Nat) : Int)) rfl (by kernel_rfl) (by kernel_rfl) (by kernel_rfl) (by kernel_rfl) (fun _ _ _ h => h) (takes_call rfl 43 #[.string (str text)] (by rfl) (fun w' _ => ?_) (fun w' hS => HPa.out w')) (by assumption) (by kernel_rfl) ?_
          · go_simp
          simp only [Act.put, List.getElem_toArray, List.getElem_cons_zero, List.getElem_cons_succ, List.setIfInBounds_toArray, List.set_cons_zero, List.set_cons_succ]
          refine wpAnyT_takeW (i := 6) (v := .int .i64 ((g.used : Int) + ((partsOf text.length : Nat) : Int))) rfl (by kernel_rfl) (by kernel_rfl) (by kernel_rfl) (by kernel_rfl) (fun _ _ _ h => h) (takes_yield rfl (Or.inl ⟨by rfl, ?_⟩)) (by first | exact Or.inr (by assumption) | exact Or.inl (by kernel_rfl)) ?_
          · intro w' hSw; go_simp
          simp only [Act.put, List.getElem_toArray, List.getElem_cons_zero, List.getElem_cons_succ, List.setIfInBounds_toArray, List.set_cons_zero, List.set_cons_succ]
          refine wpAnyT_takeW (i := 7) (v := .pointer (some ⟨w.heap.size, 0, none⟩)) rfl (by kernel_rfl) (by kernel_rfl) (by kernel_rfl) (by kernel_rfl) (fun _ _ _ h => h) (takes_yield rfl (Or.inl ⟨by rfl, ?_⟩)) (by first | exact Or.inr (by assumption) | exact Or.inl (by kernel_rfl)) ?_
          · intro w' hSw; go_simp
          simp only [Act.put, List.getElem_toArray, List.getElem_cons_zero, List.getElem_cons_succ, List.setIfInBounds_toArray, List.set_cons_zero, List.set_cons_succ]
          refine wpAnyT_takeW (i := 8) (v := .pointer (some ⟨w.heap.size, 5, none⟩)) rfl (by kernel_rfl) (by kernel_rfl) (by kernel_rfl) (by kernel_rfl) (fun _ _ _ h => h) (takes_yield rfl (Or.inl ⟨by rfl, ?_⟩)) (by first | exact Or.inr (by assumption) | exact Or.inl (by kernel_rfl)) ?_
          · intro w' hSw; go_simp
          simp only [Act.put, List.getElem_toArray, List.getElem_cons_zero, List.getElem_cons_succ, List.setIfInBounds_toArray, List.set_cons_zero, List.set_cons_succ]
          refine wpAnyT_oneT (i := 9) (by kernel_rfl) rfl (by kernel_rfl) (fun K hK => ?_)
          go_simp
          refine hK.out _ _ ?_
          clear hK
          refine wpAnyT_done (by kernel_rfl) ?_ _
          refine NoPanic.normal ?_
          have HY := Lib.hid ((HX.out.used (g.used + partsOf text.length)).drew.drop (partsOf text.length) hp2)
          clear hS0 hf5
          have hpl : ((partsOf text.length : Nat) : Int) ≤ ((q0 :: r).length : Int) := by omega
          have hp0 : (0 : Int) ≤ ((partsOf text.length : Nat) : Int) := by omega
          go_wp2_with (go_at_call 43; refine (HPa.out _).mono ?_; rintro e w4 ⟨rfl, rfl⟩)
          go_roundw
          case rel =>
            refine ⟨(q0 :: r).drop (partsOf text.length), { g with l := g.l ++ [str text], last := q0.salt, used := g.used + partsOf text.length }, .slice (some ⟨gq, 0, none⟩) (g.l.length + 1) cq, k + partsOf text.length, ?_, ?_, ?_, ?_, HGG.out.2.2.2.1, ?_, ?_⟩
            · have h := HY.out
              rw [Int.natCast_add g.used (partsOf text.length)] at h
              have ha : Option.map (fun x : Addr => x.add (partsOf text.length * 6)) (some ⟨b1, o1, none⟩) = some ⟨b1, o1 + partsOf text.length * 6, none⟩ := part_add _ _ _
              rw [ha] at h
              exact h
            · rw [HGG.out.1]
              exact congrArg some (loopG_fuel _ _ _ _ (by rw [List.length_drop]; simp only [List.length_cons] at hp2 ⊢; omega) (by omega))
            · rw [HGG.out.2.1, List.drop_drop]
            · have h := congrArg List.length HGG.out.2.1
              rw [List.length_drop] at h
              have := HGG.out.2.2.1
              omega
            · show g.used + _ = _
              rw [HGG.out.2.2.2.2.1]
            · simp only [List.length_append, List.length_cons, List.length_nil]
              have := HGG.out.2.2.2.2.2
              omega
          case measure =>
            simp [lenOf]
            omega
end Go.Proofs.Ytafgohnpnaiomaa
