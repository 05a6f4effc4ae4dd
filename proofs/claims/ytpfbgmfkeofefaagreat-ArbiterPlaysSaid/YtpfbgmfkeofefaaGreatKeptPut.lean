/-
  A record that is asked for, and one that is put.
-/
import Derived.Test.YtpfbgmfkeofefaaGreatKeptA
import Derived.Test.YtpfbgmfkeofefaaGreatDiskA
namespace Go.Proofs.YtpfbgmfkeofefaaGreat
open Go Go.RowKit

set_option maxRecDepth 100000 in
set_option maxHeartbeats 800000 in
theorem Get_c {w : World} {p b : Nat} {k : Kp} (hK : Blk w b 122 (k.cells p)) :
    Calls Tryz.prog 70 #[.pointer (some ⟨b, 0, none⟩)] w fun e w' => e = .returned (.tuple #[.string (str k.text), .bool (decide (0 < k.gen))]) ∧ Below w.heap.size w w' := by
  have hc := hK.cells7
  have HB := Lib.hid hK
  clear hK
  have hd : decide ((0 : Int) < (k.gen : Int)) = decide (0 < k.gen) := by
    by_cases h : 0 < k.gen
    · rw [decide_eq_true h, decide_eq_true (by omega)]
    · rw [decide_eq_false h, decide_eq_false (by omega)]
  go_enter Tryz.func70, Tryz.ntmps70
  go_wp2_with fail
  go_region_held3 (fun w' => w'.cell? ⟨b, 2, none⟩ = some (.string (str k.text)) ∧ w'.cell? ⟨b, 3, none⟩ = some (.int .u64 (k.gen : Int))) (go_keep) (first | fail)
  all_goals go_wp2
  all_goals
    go_ret2
    exact ⟨rfl, (Below.refl _ _).drew⟩
end Go.Proofs.YtpfbgmfkeofefaaGreat

/-
  A record that is put.
-/
namespace Go.Proofs.YtpfbgmfkeofefaaGreat
open Go Go.RowKit

/-- A part's sector. -/
def Pt.sec (p : Pt) : ByteArray := str (closeL p.body)
/-- The first j parts, written one behind the other till one is refused. -/
def writeN (d : Dk) (a : Nat) (l : List Pt) : Nat → Dk × Int
  | 0 => (d, 0)
  | j + 1 => if (writeN d a l j).2 ≠ 0 then writeN d a l j else (writeN d a l j).1.write ((a + j : Nat) : Int) (l.getD j ⟨0, 0, 0, []⟩).sec
theorem writeN_stop {d : Dk} {a : Nat} {l : List Pt} {j m : Nat} (h : (writeN d a l j).2 ≠ 0) (hm : j ≤ m) : writeN d a l m = writeN d a l j := by
  induction m with
  | zero => obtain rfl : j = 0 := by omega
            rfl
  | succ m ih =>
    by_cases e : j = m + 1
    · rw [e]
    · rw [writeN, ih (by omega), if_pos h]
theorem push_pend (d : Dk) (i : Nat) (b : ByteArray) (hi : i < d.waits.length) : (d.push i b).pend = d.pend + 1 := by
  unfold Dk.push Dk.pend Dk.at_
  simp only
  generalize d.waits = l at *
  induction l generalizing i with
  | nil => simp at hi
  | cons x l ih =>
    cases i with
    | zero => simp; omega
    | succ i =>
      have h := ih i (by simpa using hi)
      simp only [List.getD_cons_succ] at h ⊢
      simp only [List.set_cons_succ, List.map_cons, List.sum_cons]
      omega
theorem write_pend (d : Dk) (i : Int) (b : ByteArray) (hl : d.waits.length = d.lasts.length) : (d.write i b).1.pend ≤ d.pend + 1 := by
  unfold Dk.write
  split
  · simp
  · split
    · rename_i h
      split
      · have hi : i.toNat < d.burn.1.waits.length := by
          rw [Dk.burn_waits, hl]
          simp only [Dk.there, Bool.and_eq_true, decide_eq_true_eq] at h
          omega
        rw [push_pend _ _ _ hi, Dk.burn_pend]
        omega
      · rw [Dk.burn_pend]; omega
    · simp
theorem write_lasts (d : Dk) (i : Int) (b : ByteArray) : (d.write i b).1.lasts = d.lasts := by
  unfold Dk.write
  split
  · rfl
  · split
    · split
      · exact Dk.burn_lasts d
      · exact Dk.burn_lasts d
    · rfl
theorem write_waits (d : Dk) (i : Int) (b : ByteArray) : (d.write i b).1.waits.length = d.waits.length := by
  unfold Dk.write
  split
  · rfl
  · split
    · split
      · simp [Dk.push, Dk.burn_waits]
      · rw [Dk.burn_waits]
    · rfl
theorem writeN_same (d : Dk) (a : Nat) (l : List Pt) (hl : d.waits.length = d.lasts.length) (j : Nat) :
    (writeN d a l j).1.lasts = d.lasts ∧ (writeN d a l j).1.waits.length = d.waits.length ∧ (writeN d a l j).1.pend ≤ d.pend + j := by
  induction j with
  | zero => exact ⟨rfl, rfl, by simp [writeN]⟩
  | succ j ih =>
    rw [writeN]
    split
    · exact ⟨ih.1, ih.2.1, by omega⟩
    · refine ⟨(write_lasts _ _ _).trans ih.1, (write_waits _ _ _).trans ih.2.1, ?_⟩
      have h := write_pend (writeN d a l j).1 ((a + j : Nat) : Int) (l.getD j ⟨0, 0, 0, []⟩).sec (by rw [ih.2.1, ih.1, hl])
      omega

/-- What Put does. -/
def putK (d : Dk) (k : Kp) (text : List UInt8) : Dk × Kp × Int :=
  if k.broken then (d, k, 11) else if 400 < text.length then (d, k, 3) else if k.seen = 18446744073709551615 then (d, k, 6) else
  if (writeN d (k.from_ + (1 - k.at_) * 10) (cutL text (k.seen + 1)) (allOf text.length)).2 ≠ 0 then
    ((writeN d (k.from_ + (1 - k.at_) * 10) (cutL text (k.seen + 1)) (allOf text.length)).1, { k with broken := true }, (writeN d (k.from_ + (1 - k.at_) * 10) (cutL text (k.seen + 1)) (allOf text.length)).2) else
  if (writeN d (k.from_ + (1 - k.at_) * 10) (cutL text (k.seen + 1)) (allOf text.length)).1.sync.2 ≠ 0 then
    ((writeN d (k.from_ + (1 - k.at_) * 10) (cutL text (k.seen + 1)) (allOf text.length)).1.sync.1, { k with broken := true }, (writeN d (k.from_ + (1 - k.at_) * 10) (cutL text (k.seen + 1)) (allOf text.length)).1.sync.2) else
  ((writeN d (k.from_ + (1 - k.at_) * 10) (cutL text (k.seen + 1)) (allOf text.length)).1.sync.1, { k with seen := k.seen + 1, text := text, gen := k.seen + 1, at_ := 1 - k.at_, broken := false }, 0)

/-- What Put leaves. -/
structure PutLeft (w w' : World) (p b : Nat) (d : Dk) (k : Kp) (F : List Nat) : Prop where
  disk : ∃ F', DiskAt w' p d F' ∧ ∀ q ∈ F', q ∈ F ∨ w.heap.size ≤ q
  kept : Blk w' b 122 (k.cells p)
  upd : Upd (fun q => q = b ∨ q ∈ F) w w'

set_option maxRecDepth 100000 in
set_option maxHeartbeats 800000 in
theorem Put_refused {w : World} {p b : Nat} {k : Kp} (hK : Blk w b 122 (k.cells p)) (s : ByteArray) (h : k.broken = true ∨ 400 < s.size ∨ k.seen = 18446744073709551615) :
    Calls Tryz.prog 23 #[.pointer (some ⟨b, 0, none⟩), .string s] w fun e w' => e = .returned (.int .i64 (if k.broken then 11 else if 400 < s.size then 3 else 6)) ∧ w = w' := by
  have hc := hK.cells7
  clear hK
  cases hb : k.broken
  · rw [hb] at hc
    by_cases h4 : 400 < s.size
    · rw [if_neg (by simp), if_pos h4]
      have h4' : (400 : Int) < (s.size : Int) := by omega
      clear h hb
      go_enter Tryz.func23, Tryz.ntmps23
      go_wp2
      go_ret
      exact ⟨rfl, rfl⟩
    · rw [if_neg (by simp), if_neg h4]
      have h5 : k.seen = 18446744073709551615 := by
        rcases h with h | h | h
        · rw [hb] at h; simp at h
        · omega
        · exact h
      rw [h5] at hc
      have h4' : ¬ (400 : Int) < (s.size : Int) := by omega
      clear h hb h5
      go_enter Tryz.func23, Tryz.ntmps23
      go_wp2
      go_ret
      exact ⟨rfl, rfl⟩
  · rw [hb] at hc
    rw [if_pos rfl]
    clear h hb
    go_enter Tryz.func23, Tryz.ntmps23
    go_wp2
    go_ret
    exact ⟨rfl, rfl⟩
end Go.Proofs.YtpfbgmfkeofefaaGreat

/-
  A record that is put: the walk.
-/
namespace Go.Proofs.YtpfbgmfkeofefaaGreat
open Go Go.RowKit

theorem DiskAt.not_own {w : World} {p n size : Nat} {d : Dk} {F : List Nat} {e : TypeId} {v : Value} {xs : List Value} (h : DiskAt w p d F) (hO : Own w e size v n xs) (h1 : e ≠ 93) (h2 : e ≠ 9) : ∀ q, v.ownBlock = some q → q ∉ F := by
  obtain ⟨bl, cap, bm, m, g1, g2, g3, g4, g5, rfl, g7⟩ := h
  intro q hq hb
  rcases hO.2 with ⟨rfl, _⟩ | ⟨g, cp, cur, fr, rfl, hg, _⟩
  · simp [Value.ownBlock] at hq
  · obtain rfl : g = q := by simpa [Value.ownBlock] using hq
    have own2 : ∀ {v2 : Value} {n2 : Nat} {xs2 : List Value}, Own w 9 1 v2 n2 xs2 → v2.ownBlock = some g → False := by
      intro v2 n2 xs2 h hv
      rcases h.2 with ⟨rfl, _⟩ | ⟨g', cp', cur', fr', rfl, hg', _⟩
      · simp [Value.ownBlock] at hv
      · obtain rfl : g' = g := by simpa [Value.ownBlock] using hv
        rw [hg] at hg'
        have h3 := Option.some.inj hg'
        injection h3 with _ h4
        exact h2 h4
    simp only [List.mem_cons, List.mem_filterMap] at hb
    rcases hb with rfl | rfl | rfl | ⟨x, hx, hk⟩
    · exact hO.ne_blk g1 h1 (by simp [Value.ownBlock])
    · exact own2 g2 (by simp [Value.ownBlock])
    · exact hO.ne_map g3 (by simp [Value.ownBlock])
    · obtain ⟨i, _, _, _, h8⟩ := g4.each x hx
      exact own2 h8 hk

/-- What Put has behind some of its writes. -/
structure Putting (w wr : World) (p b : Nat) (d : Dk) (k : Kp) (F F' : List Nat) (v : Value) (l : List Pt) : Prop where
  disk : DiskAt wr p d F'
  sub : ∀ q ∈ F', q ∈ F ∨ w.heap.size ≤ q
  kept : Blk wr b 122 (k.cells p)
  upd : Upd (fun q => q = b ∨ q ∈ F) w wr
  list : Own wr 137 4 v l.length (partsV l)

theorem Putting.below {w w1 w2 : World} {p b : Nat} {d : Dk} {k : Kp} {F F' : List Nat} {v : Value} {l : List Pt} (h : Putting w w1 p b d k F F' v l) (hb : Below w1.heap.size w1 w2) : Putting w w2 p b d k F F' v l :=
  ⟨h.disk.below hb, h.sub, h.kept.eqb (hb.block _ h.kept.lt), h.upd.then (Upd.of_below hb (fun _ => False)) (fun _ e => e.elim), h.list.eqb fun q hq => hb.block q (h.list.lt hq)⟩
theorem Putting.wrote {w w1 w2 : World} {p b : Nat} {d d2 : Dk} {k : Kp} {F F' F2 : List Nat} {v : Value} {l : List Pt} (h : Putting w w1 p b d k F F' v l) (hL : Left w1 w2 p d2 F' F2) : Putting w w2 p b d2 k F F2 v l := by
  have hs := h.upd.size
  refine ⟨hL.disk, fun q hq => ?_, h.kept.upd hL.upd (h.disk.not_mem h.kept (by decide) (by decide)), h.upd.then hL.upd (fun q e => (h.sub q e).imp .inr id), h.list.upd hL.upd fun q hq => h.disk.not_own h.list (by decide) (by decide) q hq⟩
  rcases hL.sub q hq with e | e
  · exact h.sub q e
  · exact .inr (by omega)
theorem cutL_get (t : List UInt8) (g j : Nat) (hj : j < (cutL t g).length) : (cutL t g)[j].gen = g ∧ (cutL t g)[j].number = j ∧ (cutL t g)[j].all = allOf t.length ∧ (cutL t g)[j].text.length ≤ 48 := by
  simp [cutL]
  omega

set_option maxRecDepth 100000 in
set_option maxHeartbeats 800000 in
theorem Put_goes {w : World} {p b : Nat} {d : Dk} {F : List Nat} {k : Kp} (hD : DiskAt w p d F) (hK : Blk w b 122 (k.cells p)) (s : ByteArray)
    (hb : k.broken = false) (hs : s.size ≤ 400) (hseen : k.seen < 18446744073709551615) (hat : k.at_ ≤ 1) (hf : k.from_ ≤ 4096) (hp : d.pend + 20 < 1000000) :
    Calls Tryz.prog 23 #[.pointer (some ⟨b, 0, none⟩), .string s] w fun e w' => e = .returned (.int .i64 (putK d k s.data.toList).2.2) ∧ PutLeft w w' p b (putK d k s.data.toList).1 (putK d k s.data.toList).2.1 F := by
  have hc := hK.cells7
  have hz6 := hK.frozen 6
  have hbF := hD.not_mem hK (by decide) (by decide)
  have hseen' : ((k.seen : Int) == 18446744073709551615) = false := by rw [beq_eq_false_iff_ne]; omega
  have hs' : ¬ (400 : Int) < (s.size : Int) := by omega
  have hsub : IntKind.i64.wrap (1 - (k.at_ : Int)) = ((1 - k.at_ : Nat) : Int) := by rw [IntWalk.i64_in _ (by omega)]; omega
  have hsub' : (1 - (k.at_ : Int)) = ((1 - k.at_ : Nat) : Int) := by omega
  have HCut : Hid (∀ W, Calls Tryz.prog 63 #[.string s, .int .u64 ((k.seen : Int) + 1)] W fun e w' => ∃ v, e = .returned v ∧ Own w' 137 4 v (allOf s.size) (partsV (cutL s.data.toList (k.seen + 1))) ∧ Below W.heap.size W w' ∧ (∀ q, v.ownBlock = some q → W.heap.size ≤ q)) := by
    intro W
    have h := cut_c s (k.seen + 1) W (by omega)
    rw [show ((k.seen + 1 : Nat) : Int) = (k.seen : Int) + 1 from by omega] at h
    exact h
  have hKb : Blk (w.setCell ⟨b, 6, none⟩ (.bool true)) b 122 ({ k with broken := true }.cells p) := by
    have h := hK.set_ 6 (.bool true)
    simpa [Kp.cells] using h
  have hDb : DiskAt (w.setCell ⟨b, 6, none⟩ (.bool true)) p d F := hD.eqb fun q hq => Below.heap_setCell w _ _ q (fun e => hbF (by have e' : q = b := e; rw [← e']; exact hq))
  have hUb : Upd (fun q => q = b ∨ q ∈ F) w (w.setCell ⟨b, 6, none⟩ (.bool true)) := (Upd.refl _ w).setCell (p := ⟨b, 6, none⟩) (.inl (.inl rfl)) _
  have hcb := hKb.cells7
  have hsz : (w.setCell ⟨b, 6, none⟩ (.bool true)).heap.size = w.heap.size := by simp
  have HB := Lib.hid (And.intro hKb (And.intro hDb (And.intro hUb (And.intro hsz hbF))))
  have hlt := hK.lt
  rw [hb] at hc
  have HP := Lib.hid (And.intro hb (And.intro hs (And.intro hseen (And.intro hp hlt))))
  clear hD hK hbF hKb hDb hUb hsz hb hp hlt
  go_enter Tryz.func23, Tryz.ntmps23
  go_wp2_with (go_at_call 63; refine (HCut.out _).mono ?_; rintro e w1 ⟨v1, rfl, hO1, hb1, hl1⟩; obtain ⟨g1, cap1, rfl, hx1, hx2⟩ := hO1.head (by unfold allOf; omega))
  have hCs : s.data.toList.length = s.size := by simp
  have hCl : (cutL s.data.toList (k.seen + 1)).length = allOf s.size := by rw [cutL_len, hCs]
  have hPut : Putting w w1 p b d { k with broken := true } F F (.slice (some ⟨g1, 0, none⟩) (allOf s.size) cap1) (cutL s.data.toList (k.seen + 1)) := by
    obtain ⟨hKb, hDb, hUb, hsz, hbF⟩ := HB.out
    refine ⟨hDb.below hb1, fun q hq => .inl hq, hKb.eqb (hb1.block _ hKb.lt), hUb.then (Upd.of_below hb1 (fun _ => False)) (fun _ e => e.elim), ?_⟩
    rw [hCl]
    exact hO1
  have HPt := Lib.hid hPut
  have hA : allOf s.size ≤ 9 := by unfold allOf; omega
  clear hO1 hb1 hl1 hPut hc hcb hz6
  go_loopw [51] (fun i wr => ∃ (j : Nat) (F' : List Nat), j ≤ allOf s.size ∧ i = .int .i64 j ∧ (writeN d (k.from_ + (1 - k.at_) * 10) (cutL s.data.toList (k.seen + 1)) j).2 = 0 ∧ Putting w wr p b (writeN d (k.from_ + (1 - k.at_) * 10) (cutL s.data.toList (k.seen + 1)) j).1 { k with broken := true } F F' (.slice (some ⟨g1, 0, none⟩) (allOf s.size) cap1) (cutL s.data.toList (k.seen + 1))) (fun i _ => allOf s.size - (intOf i).toNat)
  case atStart => exact ⟨0, F, by omega, rfl, rfl, HPt.out⟩
  case round =>
    obtain ⟨j, F', hj, rfl, he, hL⟩ := hrel
    by_cases hlt : j < allOf s.size
    · have hjC : j < (cutL s.data.toList (k.seen + 1)).length := by omega
      obtain ⟨c1, c2, c3, c4⟩ := cutL_get s.data.toList (k.seen + 1) j hjC
      have hsec := Lib.hid (sector_c (cutL s.data.toList (k.seen + 1))[j] (hg := by rw [c1]; have := HP.out.2.2.1; omega) (ht := c4) (hn := by rw [c2]; omega) (ha := by rw [c3, hCs]; omega))
      have hLl := hL.list
      rw [hCl] at hLl
      have hp0 : ∀ i, i < 4 → wr.cell? ⟨g1, j * 4 + i, none⟩ = (Pt.cells (cutL s.data.toList (k.seen + 1))[j])[i]? := by
        intro i hi
        rw [hLl.cellAt (j * 4 + i) (by omega), partsV_get _ j hjC i hi]
      have hd0 := hp0 0 (by omega)
      have hd1 := hp0 1 (by omega)
      have hd2 := hp0 2 (by omega)
      have hd3 := hp0 3 (by omega)
      simp only [Nat.add_zero, Pt.cells, List.getElem?_cons_zero, List.getElem?_cons_succ] at hd0 hd1 hd2 hd3
      have hws := writeN_same d (k.from_ + (1 - k.at_) * 10) (cutL s.data.toList (k.seen + 1)) HB.out.2.1.wf.len j
      have hst : writeN d (k.from_ + (1 - k.at_) * 10) (cutL s.data.toList (k.seen + 1)) (j + 1) = (writeN d (k.from_ + (1 - k.at_) * 10) (cutL s.data.toList (k.seen + 1)) j).1.write ((k.from_ + (1 - k.at_) * 10 + j : Nat) : Int) (cutL s.data.toList (k.seen + 1))[j].sec := by
        rw [writeN, if_neg (by rw [he]; simp), List.getD_eq_getElem?_getD, List.getElem?_eq_getElem hjC]
        rfl
      have HW := Lib.hid (And.intro hws (And.intro hst (And.intro he hL)))
      have hto : (1 - k.at_ : Nat) ≤ 1 := by omega
      clear hp0 hLl hws hst he hL c1 c2 c3 c4
      generalize (cutL s.data.toList (k.seen + 1))[j] = pt at *
      generalize hto2 : (1 - k.at_ : Nat) = to_ at *
      have HTO := Lib.hid hto2
      clear hto2
      have hs1 : IntKind.i64.wrap ((to_ : Int) * 10) = (to_ : Int) * 10 := IntWalk.i64_in _ (by omega)
      have hs2 : IntKind.i64.wrap ((k.from_ : Int) + (to_ : Int) * 10) = (k.from_ : Int) + (to_ : Int) * 10 := IntWalk.i64_in _ (by omega)
      have hs3 : IntKind.i64.wrap ((k.from_ : Int) + (to_ : Int) * 10 + (j : Int)) = (k.from_ : Int) + (to_ : Int) * 10 + (j : Int) := IntWalk.i64_in _ (by omega)
      go_wp2_with (first
        | (refine wpList_store_all rfl 137 _ _ rfl wr.heap.size #[.int .u64 pt.gen, .int .i64 pt.number, .int .i64 pt.all, .string (str pt.text)] rfl rfl _ _ (Blk.new wr 137 #[.int .u64 0, .int .i64 0, .int .i64 0, .string ⟨#[]⟩]) rfl (part_one pt) (by kernel_rfl) ?_
           intro w4 hB4 hU4 hs4
           have hb4 : Below wr.heap.size wr w4 := ⟨hU4.os, hU4.tape, hU4.output, by simp at hs4; omega, fun q hq => (hU4.block q (by simp; omega) (by omega)).trans (Below.heap_alloc wr _ q hq)⟩
           have HP4 := Lib.hid (And.intro (HW.out.2.2.2.below hb4) (And.intro hB4 hb4))
           have hc4 := hB4.cells4
           have hk4 := HP4.out.1.kept.cells7
           clear hB4 hU4 hs4 hb4 hd0 hd1 hd2 hd3))
      have hpw := HP.out.2.2.2.1
      have HSP := Lib.hid (show ((k.from_ : Int) + (to_ : Int) * 10 + (j : Int)) = ((k.from_ + to_ * 10 + j : Nat) : Int) by omega)
      go_region_held3 (fun w' => w'.cell? ⟨b, 0, none⟩ = some (.pointer (some ⟨p, 0, none⟩)) ∧ w'.cell? ⟨b, 1, none⟩ = some (.int .i64 (k.from_ : Int)) ∧ w'.cell? ⟨wr.heap.size, 0, none⟩ = some (.int .u64 pt.gen) ∧ w'.cell? ⟨wr.heap.size, 1, none⟩ = some (.int .i64 pt.number) ∧ w'.cell? ⟨wr.heap.size, 2, none⟩ = some (.int .i64 pt.all) ∧ w'.cell? ⟨wr.heap.size, 3, none⟩ = some (.string (str pt.text)))
        (first | go_keep | (refine ⟨?_, ?_, ?_, ?_, ?_, ?_⟩ <;> simp [*]))
        (first
          | (go_at_call 64
             refine (hsec.out _).mono ?_
             rintro e w5 ⟨rfl, hb5⟩
             have hb5' : Below w4.heap.size w4 w5 := below_of_drew hb5
             have HP5 := Lib.hid (And.intro (HP4.out.1.below hb5') (And.intro (HP4.out.2.1.eqb (hb5'.block _ HP4.out.2.1.lt)) (HP4.out.2.2.trans (hb5'.mono HP4.out.2.2.size))))
             have hk5 := HP5.out.1.kept.cells7
             have hc5 := HP5.out.2.1.cells4
             clear hb5 hb5')
          | (go_at_call 17
             rw [HSP.out]
             refine (write_c HP5.out.1.disk _ _ (by have := HW.out.1.2.2; omega)).mono ?_
             rintro e w6 ⟨rfl, F2, hW6⟩
             have HP6 := Lib.hid (And.intro (HP5.out.1.wrote hW6) hW6)
             have hk6 := HP6.out.1.kept.cells7
             have hc6 := (HP5.out.2.1.upd hW6.upd (fun e => by have h1 := HW.out.2.2.2.disk.lt _ e; omega)).cells4
             clear hW6))
      all_goals
        have hst' : (writeN d (k.from_ + to_ * 10) (cutL s.data.toList (k.seen + 1)) j).1.write ((k.from_ + to_ * 10 + j : Nat) : Int) (str (closeL pt.body)) = writeN d (k.from_ + to_ * 10) (cutL s.data.toList (k.seen + 1)) (j + 1) := HW.out.2.1.symm
        have hst2 := hst'
        rw [← HSP.out] at hst2
        rw [hst'] at HP6
        rw [hst2]
        generalize hre : writeN d (k.from_ + to_ * 10) (cutL s.data.toList (k.seen + 1)) (j + 1) = r at HP6 ⊢
        have HRE := Lib.hid hre
        clear hst' hst2 hre hk6 hc6 hk5 hc5 hc4 hk4
        by_cases hr : r.2 = 0
        · rw [hr]
          go_wp2
          go_roundw
          case rel => exact ⟨j + 1, F2, by omega, by go_num, by rw [HRE.out]; exact hr, by rw [HRE.out]; exact HP6.out.1⟩
          case measure => simp [intOf]; omega
        · have hr' : (r.2 != 0) = true := by rw [bne_iff_ne]; exact hr
          have HR := Lib.hid hr
          clear hr
          have hk : putK d k s.data.toList = (r.1, { k with broken := true }, r.2) := by
            have hns : writeN d (k.from_ + (1 - k.at_) * 10) (cutL s.data.toList (k.seen + 1)) (allOf s.data.toList.length) = r := by
              rw [hCs, HTO.out, writeN_stop (j := j + 1) (by rw [HRE.out]; exact HR.out) (by omega), HRE.out]
            unfold putK
            rw [HP.out.1, if_neg (by simp), if_neg (by omega), if_neg (by have := HP.out.2.2.1; omega), hns, if_pos HR.out]
          have HK := Lib.hid hk
          clear hk
          go_wp2
          go_ret
          rw [HK.out]
          exact ⟨rfl, ⟨F2, HP6.out.1.disk, HP6.out.1.sub⟩, HP6.out.1.kept, HP6.out.1.upd⟩
    · obtain rfl : j = allOf s.size := by omega
      have hSy := sync_c hL.disk
      generalize hd1 : writeN d (k.from_ + (1 - k.at_) * 10) (cutL s.data.toList (k.seen + 1)) (allOf s.size) = r at *
      have hput : putK d k s.data.toList = if r.1.sync.2 ≠ 0 then (r.1.sync.1, { k with broken := true }, r.1.sync.2) else (r.1.sync.1, { k with seen := k.seen + 1, text := s.data.toList, gen := k.seen + 1, at_ := 1 - k.at_, broken := false }, 0) := by
        unfold putK
        rw [HP.out.1, if_neg (by simp), if_neg (by omega), if_neg (by have := HP.out.2.2.1; omega), hCs, hd1, if_neg (by rw [he]; simp)]
      have HL := Lib.hid (And.intro hL he)
      have hk0 := hL.kept.cells7
      clear hL he hd1 hCl hCs HPt
      by_cases hr : r.1.sync.2 = 0
      · rw [if_neg (by rw [hr]; simp)] at hput
        rw [hr] at hSy
        have HSy := Lib.hid hSy
        have HPu := Lib.hid hput
        clear hSy hput hr
        go_wp2_with (go_at_call 43; refine HSy.out.mono ?_; rintro e w7 ⟨rfl, F3, hS⟩; have HP7 := Lib.hid (HL.out.1.wrote hS); have hk7 := HP7.out.kept.cells7; have hf2 := HP7.out.kept.frozen 2; have hf3 := HP7.out.kept.frozen 3; have hf4 := HP7.out.kept.frozen 4; have hf5 := HP7.out.kept.frozen 5; have hf6 := HP7.out.kept.frozen 6; clear hS)
        go_ret
        rw [HPu.out]
        have hnb := HP7.out.disk.not_mem HP7.out.kept (by decide) (by decide)
        have h := ((((HP7.out.kept.set_ 5 (.int .u64 ((k.seen : Int) + 1))).set_ 2 (.string s)).set_ 3 (.int .u64 ((k.seen : Int) + 1))).set_ 4 (.int .i64 ((1 - k.at_ : Nat) : Int))).set_ 6 (.bool false)
        refine ⟨rfl, ⟨F3, HP7.out.disk.eqb fun q hq => ?_, HP7.out.sub⟩, ?_, ((((HP7.out.upd.setCell (p := ⟨b, 5, none⟩) (.inl (.inl rfl)) _).setCell (p := ⟨b, 2, none⟩) (.inl (.inl rfl)) _).setCell (p := ⟨b, 3, none⟩) (.inl (.inl rfl)) _).setCell (p := ⟨b, 4, none⟩) (.inl (.inl rfl)) _).setCell (p := ⟨b, 6, none⟩) (.inl (.inl rfl)) _⟩
        · have hne : q ≠ b := fun e => hnb (e ▸ hq)
          rw [Below.heap_setCell _ _ _ q hne, Below.heap_setCell _ _ _ q hne, Below.heap_setCell _ _ _ q hne, Below.heap_setCell _ _ _ q hne, Below.heap_setCell _ _ _ q hne]
        · have he : (str s.data.toList) = s := str_eta s
          simp only [Kp.cells, List.setIfInBounds_toArray, List.set_cons_zero, List.set_cons_succ] at h
          simp only [Kp.cells, he]
          exact h
      · rw [if_pos hr] at hput
        have hr' : (r.1.sync.2 != 0) = true := by rw [bne_iff_ne]; exact hr
        have HSy := Lib.hid hSy
        have HPu := Lib.hid hput
        clear hSy hput hr
        go_wp2_with (go_at_call 43; refine HSy.out.mono ?_; rintro e w7 ⟨rfl, F3, hS⟩; have HP7 := Lib.hid (HL.out.1.wrote hS); clear hS)
        go_ret
        rw [HPu.out]
        exact ⟨rfl, ⟨F3, HP7.out.disk, HP7.out.sub⟩, HP7.out.kept, HP7.out.upd⟩
end Go.Proofs.YtpfbgmfkeofefaaGreat
