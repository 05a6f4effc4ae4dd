/-
  A record that is kept, and the reading of one of its slots.
-/
import Derived.Test.YtnmbhoidnbideaaKeptD
namespace Go.Proofs.Ytnmbhoidnbideaa
open Go Go.RowKit

/-- What is kept, beside its disk. -/
structure Kp where
  from_ : Nat
  text : List UInt8
  gen : Nat
  at_ : Nat
  seen : Nat
  broken : Bool
def Kp.cells (p : Nat) (k : Kp) : Array Value :=
  #[.pointer (some ⟨p, 0, none⟩), .int .i64 k.from_, .string (str k.text), .int .u64 k.gen, .int .i64 k.at_, .int .u64 k.seen, .bool k.broken]

/-- What is known of a slot behind some of its sectors. -/
structure SlotSt where
  l : List Pt
  row : Bool
  seen : Nat
  bad : Bool
def slotStep (st : SlotSt) (s : List UInt8) : SlotSt :=
  if st.bad then st else
  if (lookL s).2 = 2 then { st with bad := true } else
  if (lookL s).2 = 1 then
    { l := if st.row && (readL (lookL s).1).2 then st.l ++ [(readL (lookL s).1).1] else st.l, row := st.row && (readL (lookL s).1).2, seen := max st.seen (readL (lookL s).1).1.gen, bad := false }
  else { st with row := false }
def slotAt (d : Dk) (at_ seen : Nat) (k : Nat) : SlotSt := ((List.range k).map fun i => (d.now (at_ + i)).data.toList).foldl slotStep ⟨[], true, seen, false⟩
theorem slotAt_succ (d : Dk) (a seen k : Nat) : slotAt d a seen (k + 1) = slotStep (slotAt d a seen k) (d.now (a + k)).data.toList := by
  simp [slotAt, List.range_succ]
theorem slotAt_bad (d : Dk) (a seen k m : Nat) (h : k ≤ m) (hb : (slotAt d a seen k).bad = true) : slotAt d a seen m = slotAt d a seen k := by
  induction m with
  | zero => obtain rfl : k = 0 := by omega
            rfl
  | succ m ih =>
    by_cases hk : k = m + 1
    · rw [hk]
    · rw [slotAt_succ, ih (by omega), slotStep, if_pos hb]
theorem slotAt_len (d : Dk) (a seen k : Nat) : (slotAt d a seen k).l.length ≤ k := by
  induction k with
  | zero => simp [slotAt]
  | succ k ih =>
    rw [slotAt_succ, slotStep]
    split
    · omega
    · split
      · simp only; omega
      · split
        · simp only
          split
          · simp; omega
          · omega
        · simp only; omega
theorem lookL_body {l : List UInt8} (h : (lookL l).2 = 1) : (lookL l).1 = l.take 60 ∧ l.length = 64 := by
  unfold lookL at h ⊢
  split at h
  · simp at h
  · split at h
    · simp at h
    · split at h
      · simp at h
      · rename_i h1 h2 h3
        rw [if_neg h1, if_neg h2, if_neg h3]
        exact ⟨rfl, by simpa using h1⟩
theorem DiskAt.not_mem {w : World} {p b : Nat} {d : Dk} {F : List Nat} {t : TypeId} {cs : Array Value} (h : DiskAt w p d F) (hB : Blk w b t cs) (h1 : t ≠ 65) (h2 : t ≠ 9) : b ∉ F := by
  obtain ⟨bl, cap, bm, m, g1, g2, g3, g4, g5, rfl, g7⟩ := h
  intro hb
  simp only [List.mem_cons, List.mem_filterMap] at hb
  rcases hb with rfl | rfl | rfl | ⟨q, hq, hk⟩
  · exact hB.ne_ g1 h1 rfl
  · exact g2.ne_blk hB (Ne.symm h2) (by simp [Value.ownBlock])
  · exact g3.ne_blk hB rfl
  · obtain ⟨i, _, _, _, h8⟩ := g4.each q hq
    exact h8.ne_blk hB (Ne.symm h2) hk
theorem Dk.read_there {d : Dk} (hoff : d.off = false) {i : Nat} (hi : i < d.lasts.length) : d.read (i : Int) = (d.now i, 0) := by
  unfold Dk.read Dk.there
  rw [hoff, if_neg (by simp), if_pos (by simp; omega)]
  simp

theorem read_in {w : World} {p : Nat} {d : Dk} {F : List Nat} (hD : DiskAt w p d F) (i : Int) :
    Calls Try.prog 50 #[.pointer (some ⟨p, 0, none⟩), .int .i64 i] w.drew fun e w' => e = .returned (.tuple #[.string (d.read i).1, .int .i64 (d.read i).2]) ∧ w.drew = w' := read_c hD.drew i

theorem Dk.wf.now_size {d : Dk} (h : d.wf) {i : Nat} (hi : i < d.lasts.length) : (d.now i).size = 64 := by
  unfold Dk.now
  cases hl : (d.at_ i).getLast? with
  | none =>
    simp only [Option.getD_none]
    unfold Dk.last
    rw [List.getD_eq_getElem?_getD, List.getElem?_eq_getElem hi]
    exact h.lasts _ (List.getElem_mem _)
  | some b =>
    simp only [Option.getD_some]
    have hb := List.mem_of_getLast? hl
    unfold Dk.at_ at hb
    have hw : i < d.waits.length := by rw [h.len]; exact hi
    rw [List.getD_eq_getElem?_getD, List.getElem?_eq_getElem hw] at hb
    exact h.waits _ (List.getElem_mem _) _ hb
theorem lookL_cases (l : List UInt8) : (lookL l).2 = 0 ∨ (lookL l).2 = 1 ∨ (lookL l).2 = 2 := by
  unfold lookL
  split
  · simp
  · split
    · simp
    · split <;> simp

/-- What the reading of a slot leaves. -/
structure SlotLeft (w w' : World) (b p : Nat) (k : Kp) (v : Value) (st : SlotSt) : Prop where
  list : Own w' 81 4 v st.l.length (partsV st.l)
  new : ∀ q, v.ownBlock = some q → w.heap.size ≤ q
  kept : Blk w' b 74 ({ k with seen := st.seen }.cells p)
  upd : Upd (· = b) w w'

theorem SlotLeft.below {w w1 w2 : World} {b p : Nat} {k : Kp} {v : Value} {st : SlotSt} (h : SlotLeft w w1 b p k v st) (hb : Below w1.heap.size w1 w2) : SlotLeft w w2 b p k v st :=
  ⟨h.list.eqb fun q hq => hb.block q (h.list.lt hq), h.new, h.kept.eqb (hb.block _ h.kept.lt), h.upd.then (Upd.of_below hb (fun _ => False)) (fun _ e => e.elim)⟩
theorem SlotLeft.drew {w w1 : World} {b p : Nat} {k : Kp} {v : Value} {st : SlotSt} (h : SlotLeft w w1 b p k v st) : SlotLeft w w1.drew b p k v st := h.below (Below.refl _ _).drew
theorem SlotLeft.saw {w w1 : World} {b p : Nat} {k : Kp} {v : Value} {st : SlotSt} (h : SlotLeft w w1 b p k v st) (m : Nat) : SlotLeft w (w1.setCell ⟨b, 5, none⟩ (.int .u64 (m : Int))) b p k v { st with seen := m } := by
  refine ⟨h.list.far (h.list.ne_blk h.kept (by decide)) _, h.new, ?_, h.upd.setCell (p := ⟨b, 5, none⟩) (.inl rfl) _⟩
  have := h.kept.set_ 5 (.int .u64 (m : Int))
  simpa [Kp.cells] using this
theorem SlotLeft.app {w w1 w2 : World} {b p : Nat} {k : Kp} {v v2 : Value} {st : SlotSt} {pt : Pt} (h : SlotLeft w w1 b p k v st) (o : Obj) (hO2 : Own w2 81 4 v2 (st.l.length + 1) (partsV st.l ++ Pt.cells pt)) (hU2 : Upd (fun q => v.ownBlock = some q) (w1.alloc o) w2)
    (hl2 : v2.ownBlock = v.ownBlock ∨ v2.ownBlock = some (w1.alloc o).heap.size) : SlotLeft w w2 b p k v2 { st with l := st.l ++ [pt] } := by
  refine ⟨?_, fun q hq => ?_, (h.kept.alloc o).upd hU2 (fun e => h.list.ne_blk h.kept (by decide) e), (h.upd.alloc o).then hU2 (fun q e => .inr (h.new q e))⟩
  · simpa [partsV] using hO2
  · rcases hl2 with e | e
    · exact h.new q (by rw [← e]; exact hq)
    · rw [e] at hq
      have h5 := Option.some.inj hq
      have := h.upd.size
      simp at h5
      omega
def slotErr (st : SlotSt) : Int := if st.bad then 9 else 0
structure SlotEnd (w w' : World) (b p : Nat) (k : Kp) (v : Value) (st : SlotSt) : Prop where
  ex : ∃ vl, (st.bad = false → v = vl) ∧ SlotLeft w w' b p k vl st
set_option maxRecDepth 100000 in
set_option maxHeartbeats 800000 in
theorem slotOf_on {w : World} {p b : Nat} {d : Dk} {F : List Nat} {k : Kp} (hD : DiskAt w p d F) (hK : Blk w b 74 (k.cells p)) (n : Nat) (hn : n ≤ 1) (hf : k.from_ + 20 ≤ d.lasts.length) (hoff : d.off = false) :
    Calls Try.prog 30 #[.pointer (some ⟨b, 0, none⟩), .int .i64 n] w fun e w' =>
      ∃ v, e = .returned (.tuple #[v, .int .i64 (slotErr (slotAt d (k.from_ + n * 10) k.seen 10))]) ∧ SlotEnd w w' b p k v (slotAt d (k.from_ + n * 10) k.seen 10) := by
  have hm := hD.wf.most
  obtain ⟨i0, hi0, hz0, hz1, hz2⟩ := info_parts infoPart
  have HD := Lib.hid (And.intro hD (And.intro hK (And.intro hf hoff)))
  have hF : k.from_ ≤ 4096 := by omega
  have hz0' : (slotAt d (k.from_ + n * 10) k.seen 0) = ⟨[], true, k.seen, false⟩ := rfl
  have HZ := Lib.hid hz0'
  clear hD hK hf hoff hm hz0'
  go_enter Try.func30, Try.ntmps30
  go_wp2
  go_loopw [6, 7, 15] (fun v r i wr => ∃ j : Nat, j ≤ 10 ∧ i = .int .i64 j ∧ (slotAt d (k.from_ + n * 10) k.seen j).bad = false ∧ r = .bool (slotAt d (k.from_ + n * 10) k.seen j).row ∧ SlotLeft w wr b p k v (slotAt d (k.from_ + n * 10) k.seen j)) (fun _ _ i _ => 10 - (intOf i).toNat)
  case atStart =>
    refine ⟨0, by omega, rfl, rfl, rfl, ?_⟩
    rw [HZ.out]
    exact ⟨Own.nil _ _ _, by simp [Value.ownBlock], HD.out.2.1, Upd.refl _ _⟩
  case round =>
    obtain ⟨j, hj, rfl, hbad, rfl, hL⟩ := hrel
    by_cases hlt : j < 10
    · have hD2 : DiskAt wr p d F := HD.out.1.upd hL.upd fun q hq e => HD.out.1.not_mem HD.out.2.1 (by decide) (by decide) (e ▸ hq)
      have hrd := Dk.read_there HD.out.2.2.2 (i := k.from_ + n * 10 + j) (by have := HD.out.2.2.1; omega)
      have HR := Lib.hid hrd
      have hread : (d.read ((k.from_ : Int) + (n : Int) * 10 + (j : Int))) = (d.now (k.from_ + n * 10 + j), 0) := by
        rw [← hrd]
        congr 1
      have hcs := hL.kept.cells7
      have hs1 : IntKind.i64.wrap ((n : Int) * 10) = (n : Int) * 10 := IntWalk.i64_in _ (by omega)
      have hs2 : IntKind.i64.wrap ((k.from_ : Int) + (n : Int) * 10) = (k.from_ : Int) + (n : Int) * 10 := IntWalk.i64_in _ (by omega)
      have hs3 : IntKind.i64.wrap ((k.from_ : Int) + (n : Int) * 10 + (j : Int)) = (k.from_ : Int) + (n : Int) * 10 + (j : Int) := IntWalk.i64_in _ (by omega)
      have HL := Lib.hid (And.intro hL (And.intro hbad hD2))
      have HR2 := Lib.hid hread
      clear hL hbad hD2 hrd hread
      go_wp2_with fail
      go_region_held3 (fun w' => w'.cell? ⟨b, 0, none⟩ = some (.pointer (some ⟨p, 0, none⟩)) ∧ w'.cell? ⟨b, 1, none⟩ = some (.int .i64 (k.from_ : Int))) (go_keep) (first | (go_at_call 50; refine (read_in HL.out.2.2 _).mono ?_; rintro e w' ⟨rfl, rfl⟩))
      all_goals
        simp only [HR2.out]
        have hst := slotAt_succ d (k.from_ + n * 10) k.seen j
        have hsz := HD.out.1.wf.now_size (i := k.from_ + n * 10 + j) (by have := HD.out.2.2.1; omega)
        have hbd := fun h => slotAt_bad d (k.from_ + n * 10) k.seen (j + 1) 10 (by omega) h
        have HLd : SlotLeft w wr.drew b p k u6 (slotAt d (k.from_ + n * 10) k.seen j) := HL.out.1.below (Below.refl _ _).drew
        have hbad := HL.out.2.1
        generalize d.now (k.from_ + n * 10 + j) = sec at *
        have HW := Lib.hid (And.intro hst (And.intro hsz (And.intro hbd HLd)))
        have HB := Lib.hid hbad
        have HLk := Lib.hid (fun W => Look_c sec W (by omega))
        clear hst hsz hbd HLd hbad HR HR2 hcs hs1 hs2 hs3
        generalize wr.drew = w1 at *
        rcases lookL_cases sec.data.toList with hc | hc | hc
        · rw [hc] at HLk
          go_wp2_with (go_at_call 51; refine (HLk.out _).mono ?_; rintro e w2 ⟨rfl, hb2⟩)
          go_roundw
          case rel =>
            refine ⟨j + 1, by omega, by go_num, ?_, ?_, ?_⟩
            all_goals rw [HW.out.1, slotStep, if_neg (by rw [HB.out]; simp), if_neg (by rw [hc]; decide), if_neg (by rw [hc]; decide)]
            · exact HB.out
            · have h := HW.out.2.2.2.below hb2
              exact ⟨h.list, h.new, h.kept, h.upd⟩
          case measure => simp [intOf]; omega
        · obtain ⟨hbody, hlen⟩ := lookL_body hc
          have HRd := Lib.hid (fun W => read_k (str (lookL sec.data.toList).1) W (by rw [str_size, hbody]; simp [hlen]))
          rw [hc] at HLk
          have hdt : (str (lookL sec.data.toList).1).data.toList = (lookL sec.data.toList).1 := by simp [str]
          rw [hdt] at HRd
          have hS : slotAt d (k.from_ + n * 10) k.seen (j + 1) = { l := if (slotAt d (k.from_ + n * 10) k.seen j).row && (readL (lookL sec.data.toList).1).2 then (slotAt d (k.from_ + n * 10) k.seen j).l ++ [(readL (lookL sec.data.toList).1).1] else (slotAt d (k.from_ + n * 10) k.seen j).l, row := (slotAt d (k.from_ + n * 10) k.seen j).row && (readL (lookL sec.data.toList).1).2, seen := max (slotAt d (k.from_ + n * 10) k.seen j).seen (readL (lookL sec.data.toList).1).1.gen, bad := false } := by
            rw [HW.out.1, slotStep, if_neg (by rw [HB.out]; simp), if_neg (by rw [hc]; decide), if_pos hc]
          have HS := Lib.hid hS
          have HLL := Lib.hid HW.out.2.2.2
          clear hS hdt hbody hlen hc HW HB HL
          have stl : (slotAt d (k.from_ + n * 10) k.seen j).l.length ≤ j := slotAt_len _ _ _ _
          generalize slotAt d (k.from_ + n * 10) k.seen j = st at *
          generalize readL (lookL sec.data.toList).1 = pr at *
          obtain ⟨pt, is⟩ := pr
          simp only at *
          go_wp2_with (first
            | (go_at_call 51
               refine (HLk.out _).mono ?_
               rintro e w2 ⟨rfl, hb2⟩)
            | (go_at_call 52
               refine (HRd.out _).mono ?_
               rintro e w3 ⟨rfl, hb3⟩
               have HL3 := Lib.hid ((HLL.out.below hb2).below hb3))
            | (refine wpList_store_all rfl 81 _ _ rfl w3.heap.size #[.int .u64 pt.gen, .int .i64 pt.number, .int .i64 pt.all, .string (str pt.text)] rfl rfl _ _ (Blk.new w3 81 #[.int .u64 0, .int .i64 0, .int .i64 0, .string ⟨#[]⟩]) rfl (part_one _) (by kernel_rfl) ?_
               intro w4 hB4 hU4 hs4
               have hb4 : Below w3.heap.size w3 w4 := ⟨hU4.os, hU4.tape, hU4.output, by simp at hs4; omega, fun q hq => (hU4.block q (by simp; omega) (by omega)).trans (Below.heap_alloc w3 _ q hq)⟩
               have HL4 := Lib.hid (And.intro (HL3.out.below hb4) hB4)
               have hc4 := hB4.cells4
               have hk4 := HL4.out.1.kept.cells7
               have hz4 := HL4.out.1.kept.frozen 5
               clear hB4 hU4 hs4 hb4))
          go_region
          all_goals
            have hmx : max (st.seen : Int) (pt.gen : Int) = ((max st.seen pt.gen : Nat) : Int) := by omega
            simp only [hmx]
            have HL5 := Lib.hid ((HL4.out.1.saw (max st.seen pt.gen)).drew)
            have hB5 : Blk (w4.setCell ⟨b, 5, none⟩ (.int .u64 ((max st.seen pt.gen : Nat) : Int))).drew w3.heap.size 81 #[.int .u64 pt.gen, .int .i64 pt.number, .int .i64 pt.all, .string (str pt.text)] :=
              (HL4.out.2.far (p := ⟨b, 5, none⟩) (fun e => HL4.out.2.ne_ HL4.out.1.kept (by decide) e) _).drew
            have hc5 := hB5.cells4
            have HSs := HS.out
            clear hc4 hk4 hz4 hB5 hmx HS
            generalize (w4.setCell ⟨b, 5, none⟩ (.int .u64 ((max st.seen pt.gen : Nat) : Int))).drew = w5 at *
            cases hr : st.row
            · simp only [hr, Bool.false_and, Bool.false_eq_true, if_false] at HSs
              have HS := Lib.hid HSs
              clear HSs hc5
              go_wp2
              go_roundw
              case rel =>
                refine ⟨j + 1, by omega, by go_num, ?_, ?_, ?_⟩
                all_goals rw [HS.out]
                have h := HL5.out
                exact ⟨h.list, h.new, h.kept, h.upd⟩
              case measure => simp [intOf]; omega
            · cases his : is
              · simp only [hr, his, Bool.true_and, Bool.false_eq_true, if_false] at HSs
                have HS := Lib.hid HSs
                clear HSs hc5
                go_wp2
                go_roundw
                case rel =>
                  refine ⟨j + 1, by omega, by go_num, ?_, ?_, ?_⟩
                  all_goals rw [HS.out]
                  have h := HL5.out
                  exact ⟨h.list, h.new, h.kept, h.upd⟩
                case measure => simp [intOf]; omega
              · simp only [hr, his, Bool.true_and, if_true] at HSs
                have HS := Lib.hid HSs
                clear HSs
                go_wp2_with (at_builtin; refine wpList_append_src rfl _ _ _ _ rfl 81 i0 _ 4 40 Try.underlying75 hi0 hz0 hz1 hz2 rfl u6 st.l.length _ rfl (HL5.out.list.alloc _) _ 1 [_, _, _, _] rfl (Src.of_news Try.underlying75 _ rfl) (by simp [Value.oneCell']) (by have := stl; unfold maxLen; omega) (by have := stl; omega) ?_; intro v2 w6 hO2 hU2 hl2 hs2)
                go_roundw
                case rel =>
                  refine ⟨j + 1, by omega, by go_num, ?_, ?_, ?_⟩
                  all_goals rw [HS.out]
                  have h := HL5.out.app _ hO2 hU2 hl2
                  exact ⟨h.list, h.new, h.kept, h.upd⟩
                case measure => simp [intOf]; omega
        · rw [hc] at HLk
          go_wp2_with (go_at_call 51; refine (HLk.out _).mono ?_; rintro e w2 ⟨rfl, hb2⟩)
          have hS : slotAt d (k.from_ + n * 10) k.seen (j + 1) = { slotAt d (k.from_ + n * 10) k.seen j with bad := true } := by
            rw [HW.out.1, slotStep, if_neg (by rw [HB.out]; simp), if_pos hc]
          have h10 := HW.out.2.2.1 (by rw [hS])
          rw [hS] at h10
          have H10 := Lib.hid h10
          clear h10 hS
          go_ret2
          rw [H10.out]
          have h := HW.out.2.2.2.below hb2
          have hh : SlotLeft w w2 b p k u6 { slotAt d (k.from_ + n * 10) k.seen j with bad := true } := ⟨h.list, h.new, h.kept, h.upd⟩
          exact ⟨_, rfl, ⟨u6, by simp, hh⟩⟩
    · obtain rfl : j = 10 := by omega
      have HL := Lib.hid (And.intro hL hbad)
      clear hL hbad
      go_wp2
      go_ret2
      refine ⟨u6, ?_, ⟨u6, fun _ => rfl, HL.out.1⟩⟩
      rw [slotErr, HL.out.2]
      rfl
end Go.Proofs.Ytnmbhoidnbideaa
