/-
  What ten sectors hold, as the document has it: the same as what a slot's parts hold (plain).
-/
import Derived.Test.YtpfbgmfkeofefaaGreatLawB
import Derived.Test.YtpfbgmfkeofefaaGreatClose
import Derived.Test.YtpfbgmfkeofefaaGreatRef07
namespace Go.Proofs.YtpfbgmfkeofefaaGreat
open Go Go.RowKit

theorem look_one {s : List UInt8} (h : (lookL s).2 = 1) : s.length = 64 ∧ s = closeL (lookL s).1 ∧ (lookL s).1.length = 60 := by
  unfold lookL at h ⊢
  split at h
  · simp at h
  · rename_i h1
    have h64 : s.length = 64 := by omega
    rw [if_neg h1]
    split at h
    · simp at h
    · rename_i h2
      rw [if_neg h2]
      split at h
      · simp at h
      · rename_i h3
        rw [if_neg h3]
        exact ⟨h64, ((close_take h64).2 (by omega)).symm, by simp [h64]⟩
theorem readL_gen (b : List UInt8) : (readL b).1.gen = leN (b.take 8) := by
  unfold readL
  split <;> rfl
/-- A part that is one has just its bytes. -/
theorem read_body {b : List UInt8} (hb : b.length = 60) (h : (readL b).2 = true) :
    (readL b).1.body = b ∧ (b.getD 10 0).toNat ≤ 48 ∧ (readL b).1.text = (b.drop 12).take (b.getD 10 0).toNat ∧ (readL b).1.all = (b.getD 9 0).toNat ∧ (readL b).1.text.length = (b.getD 10 0).toNat := by
  unfold readL at h ⊢
  split at h
  · simp at h
  · rename_i h48
    rw [if_neg h48]
    have h48' : (b.getD 10 0).toNat ≤ 48 := by omega
    have hd := of_decide_eq_true h
    have hl : ((b.drop 12).take (b.getD 10 0).toNat).length = (b.getD 10 0).toNat := by
      rw [List.length_take, List.length_drop]; omega
    refine ⟨?_, h48', rfl, rfl, hl⟩
    unfold Pt.body
    simp only
    rw [hl, ← hd.2]
    have e8 : leB (leN (b.take 8)) 8 = b.take 8 := by
      have := leB_leN (b.take 8)
      rw [List.length_take, hb] at this
      exact this
    rw [e8]
    have e4 : [UInt8.ofNat (b.getD 8 0).toNat, UInt8.ofNat (b.getD 9 0).toNat, UInt8.ofNat (b.getD 10 0).toNat, 0] = (b.drop 8).take 4 := by
      rw [UInt8.ofNat_toNat, UInt8.ofNat_toNat, UInt8.ofNat_toNat]
      have h11 := hd.1
      apply List.ext_getElem
      · simp [hb]
      · intro i h1 h2
        simp at h1
        rw [List.getElem_take, List.getElem_drop]
        match i, h1 with
        | 0, _ => simp [List.getD_eq_getElem?_getD, hb]
        | 1, _ => simp [List.getD_eq_getElem?_getD, hb]
        | 2, _ => simp [List.getD_eq_getElem?_getD, hb]
        | 3, _ =>
          rw [List.getD_eq_getElem?_getD, List.getElem?_eq_getElem (by omega)] at h11
          simp at h11
          simp [h11]
    rw [e4]
    have a1 : b.take 8 ++ (b.drop 8).take 4 = b.take 12 := by
      rw [← List.take_add]
    rw [a1]
    have a2 : b.take 12 ++ (b.drop 12).take (b.getD 10 0).toNat = b.take (12 + (b.getD 10 0).toNat) := by
      rw [← List.take_add]
    rw [a2, List.take_append_drop]
/-- The parts ahead of the first sector that is none. -/
def rowS : List (List UInt8) → List Pt
  | [] => []
  | s :: r => if (lookL s).2 = 1 ∧ (readL (lookL s).1).2 = true then (readL (lookL s).1).1 :: rowS r else []
def partL (s : List UInt8) : Bool := decide ((lookL s).2 = 1 ∧ (readL (lookL s).1).2 = true)
def seeS (m : Nat) (s : List UInt8) : Nat := if (lookL s).2 = 1 then max m (leN ((lookL s).1.take 8)) else m
theorem slot_fold : ∀ (L : List (List UInt8)) (acc : List Pt) (row : Bool) (seen : Nat), (∀ s ∈ L, (lookL s).2 ≠ 2) →
    L.foldl slotStep ⟨acc, row, seen, false⟩ = ⟨if row then acc ++ rowS L else acc, row && L.all partL, L.foldl seeS seen, false⟩
  | [], acc, row, seen, _ => by simp [rowS]
  | s :: L, acc, row, seen, h => by
    have hs := h s (by simp)
    have hL := fun s' h' => h s' (List.mem_cons_of_mem _ h')
    rw [List.foldl_cons, List.foldl_cons, List.all_cons]
    have step : slotStep ⟨acc, row, seen, false⟩ s = if (lookL s).2 = 1 then ⟨if (row && (readL (lookL s).1).2) = true then acc ++ [(readL (lookL s).1).1] else acc, row && (readL (lookL s).1).2, max seen (leN ((lookL s).1.take 8)), false⟩ else ⟨acc, false, seen, false⟩ := by
      unfold slotStep
      simp only [Bool.false_eq_true, if_false, if_neg hs, readL_gen]
    rw [step]
    by_cases h1 : (lookL s).2 = 1
    · rw [if_pos h1]
      have hsee : seeS seen s = max seen (leN ((lookL s).1.take 8)) := by unfold seeS; rw [if_pos h1]
      cases h2 : (readL (lookL s).1).2
      · have hp : partL s = false := by unfold partL; simp [h2]
        have hr : rowS (s :: L) = [] := by unfold rowS; simp [h2]
        rw [hp, hr, hsee]
        simp only [Bool.and_false, Bool.false_and, Bool.false_eq_true, if_false, List.append_nil]
        rw [slot_fold L _ _ _ hL]
        simp
      · have hp : partL s = true := by unfold partL; simp [h1, h2]
        have hr : rowS (s :: L) = (readL (lookL s).1).1 :: rowS L := by rw [rowS, if_pos ⟨h1, h2⟩]
        rw [hp, hr, hsee]
        simp only [Bool.and_true, Bool.true_and]
        rw [slot_fold L _ _ _ hL]
        cases row <;> simp
    · rw [if_neg h1]
      have hp : partL s = false := by unfold partL; simp [h1]
      have hr : rowS (s :: L) = [] := by unfold rowS; simp [h1]
      have hsee : seeS seen s = seen := by unfold seeS; rw [if_neg h1]
      rw [hp, hr, hsee, slot_fold L _ _ _ hL]
      simp
theorem slot_bad : ∀ (L : List (List UInt8)) (st : SlotSt), (st.bad = true ∨ ∃ s ∈ L, (lookL s).2 = 2) → (L.foldl slotStep st).bad = true
  | [], st, h => by
    rcases h with h | ⟨s, hs, _⟩
    · exact h
    · simp at hs
  | s :: L, st, h => by
    rw [List.foldl_cons]
    apply slot_bad
    rcases h with h | ⟨s', hs, h2⟩
    · left; unfold slotStep; rw [if_pos h]; exact h
    · rcases List.mem_cons.1 hs with rfl | hs
      · left
        unfold slotStep
        split
        · assumption
        · first | rfl | rw [if_pos h2] | simp [h2]
      · exact .inr ⟨s', hs, h2⟩
/-- What ten sectors hold, by the document. -/
def holdsR (L : List (List UInt8)) : List UInt8 × Nat :=
  if (lookL (L.getD 0 [])).2 ≠ 1 ∨ leN ((lookL (L.getD 0 [])).1.take 8) = 0 then ([], 0) else
  if ((lookL (L.getD 0 [])).1.getD 9 0).toNat < 1 ∨ 9 < ((lookL (L.getD 0 [])).1.getD 9 0).toNat then ([], 0) else
  if ∃ i, i < ((lookL (L.getD 0 [])).1.getD 9 0).toNat ∧ ((lookL (L.getD i [])).2 ≠ 1 ∨ 48 < ((lookL (L.getD i [])).1.getD 10 0).toNat) then ([], 0) else
  if 400 < (textR L ((lookL (L.getD 0 [])).1.getD 9 0).toNat).length then ([], 0) else
  if allOf (textR L ((lookL (L.getD 0 [])).1.getD 9 0).toNat).length ≠ ((lookL (L.getD 0 [])).1.getD 9 0).toNat then ([], 0) else
  if ∀ i, i < ((lookL (L.getD 0 [])).1.getD 9 0).toNat → ((cutL (textR L ((lookL (L.getD 0 [])).1.getD 9 0).toNat) (leN ((lookL (L.getD 0 [])).1.take 8))).map fun p => closeL p.body).getD i [] = L.getD i [] then
    (textR L ((lookL (L.getD 0 [])).1.getD 9 0).toNat, leN ((lookL (L.getD 0 [])).1.take 8)) else ([], 0)
where
  /-- The texts of the first n sectors. -/
  textR (L : List (List UInt8)) (n : Nat) : List UInt8 := (List.range n).flatMap fun i => ((lookL (L.getD i [])).1.drop 12).take ((lookL (L.getD i [])).1.getD 10 0).toNat
/-- A record stands in the first of these sectors. -/
structure IsRec (L : List (List UInt8)) (t : List UInt8) (g : Nat) : Prop where
  pos : 0 < g
  lt : g < 2 ^ (8 * 8)
  len : t.length ≤ 400
  sec : ∀ i (h : i < (cutL t g).length), L[i]? = some (closeL (cutL t g)[i].body)
theorem rowS_app (ps : List Pt) (R : List (List UInt8)) (h : ∀ p ∈ ps, p.ok) : rowS (ps.map (fun p => closeL p.body) ++ R) = ps ++ rowS R := by
  induction ps with
  | nil => rfl
  | cons p ps ih =>
    have hp := h p (by simp)
    have h1 := look_sec p hp
    unfold Pt.sec at h1
    rw [str_list] at h1
    have h2 := readL_body p hp.gen' hp.number hp.all hp.text
    rw [List.map_cons, List.cons_append, rowS, h1, h2, if_pos ⟨rfl, rfl⟩, ih (fun q hq => h q (List.mem_cons_of_mem _ hq))]
    rfl
theorem rowS_get : ∀ {L : List (List UInt8)} {i : Nat} (h : i < (rowS L).length), ∃ s, L[i]? = some s ∧ (lookL s).2 = 1 ∧ readL (lookL s).1 = ((rowS L)[i], true)
  | [], i, h => by simp [rowS] at h
  | s :: r, i, h => by
    by_cases hp : (lookL s).2 = 1 ∧ (readL (lookL s).1).2 = true
    · have e : rowS (s :: r) = (readL (lookL s).1).1 :: rowS r := by rw [rowS, if_pos hp]
      cases i with
      | zero =>
        refine ⟨s, rfl, hp.1, ?_⟩
        simp only [e, List.getElem_cons_zero]
        rw [← hp.2]
      | succ i =>
        have h' : i < (rowS r).length := by rw [e] at h; simpa using h
        obtain ⟨s', g1, g2, g3⟩ := rowS_get h'
        exact ⟨s', by simpa using g1, g2, by simp only [e, List.getElem_cons_succ]; exact g3⟩
    · rw [rowS, if_neg hp] at h
      simp at h
theorem IsRec.at_ {L : List (List UInt8)} {t : List UInt8} {g : Nat} (h : IsRec L t g) (i : Nat) (hi : i < (cutL t g).length) :
    lookL (L.getD i []) = ((cutL t g)[i].body, 1) ∧ ((cutL t g)[i].body.getD 9 0).toNat = allOf t.length ∧ ((cutL t g)[i].body.getD 10 0).toNat ≤ 48 ∧
      ((cutL t g)[i].body.drop 12).take ((cutL t g)[i].body.getD 10 0).toNat = (cutL t g)[i].text ∧ leN ((cutL t g)[i].body.take 8) = g := by
  have hok := cutL_ok t g h.pos h.lt h.len _ (List.getElem_mem hi)
  obtain ⟨c1, c2, c3, c4⟩ := cutL_get t g i hi
  have h1 := look_sec _ hok
  unfold Pt.sec at h1
  rw [str_list] at h1
  have h2 := readL_body _ hok.gen' hok.number hok.all hok.text
  have hb := Pt.body_len _ hok.text
  obtain ⟨r1, r2, r3, r4, r5⟩ := read_body hb (by rw [h2])
  have r6 := readL_gen (cutL t g)[i].body
  rw [h2] at r3 r4 r6
  simp only at r3 r4 r6
  refine ⟨?_, by rw [← r4, c3], r2, r3.symm, by rw [← r6, c1]⟩
  rw [List.getD_eq_getElem?_getD, h.sec i hi]
  exact h1
theorem rec_hold {L : List (List UInt8)} {t : List UInt8} {g : Nat} (h : IsRec L t g) : holdL (rowS L) = (t, g) := by
  have e : L = (cutL t g).map (fun p => closeL p.body) ++ L.drop (cutL t g).length := by
    have hl : (cutL t g).length ≤ L.length := by
      apply Classical.byContradiction
      intro c
      have := h.sec L.length (by omega)
      simp at this
    conv => lhs; rw [← List.take_append_drop (cutL t g).length L]
    congr 1
    apply List.ext_getElem
    · simp; omega
    · intro i h1 h2
      have := h.sec i (by simpa using h2)
      rw [List.getElem?_eq_getElem (by simp at h1; omega)] at this
      simp at this
      simpa using this
  rw [e, rowS_app _ _ (cutL_ok t g h.pos h.lt h.len)]
  exact holdL_cut t g _ (by have := h.pos; omega) h.len
theorem hold_rec {L : List (List UInt8)} (h : (holdL (rowS L)).2 ≠ 0) : ∃ t g, holdL (rowS L) = (t, g) ∧ IsRec L t g := by
  obtain ⟨t, g, rest, h1, h2, h3, h4⟩ := holdL_true h
  refine ⟨t, g, h4, by omega, ?_, h2, fun i hi => ?_⟩
  · have h0 : 0 < (rowS L).length := by rw [h3, List.length_append, cutL_len]; have := allOf_pos t.length; omega
    obtain ⟨s, g1, g2, g3⟩ := rowS_get h0
    have hg := congrArg (fun q : Pt × Bool => q.1.gen) g3
    simp only [readL_gen] at hg
    have hc : (rowS L)[0].gen = g := by
      have hl : 0 < (cutL t g).length := by rw [cutL_len]; have := allOf_pos t.length; omega
      have e : (rowS L)[0] = (cutL t g)[0] := by
        have := congrArg (fun l : List Pt => l[0]?) h3
        simp only [List.getElem?_append_left hl] at this
        rw [List.getElem?_eq_getElem h0, List.getElem?_eq_getElem hl] at this
        exact Option.some.inj this
      rw [e]
      exact (cutL_get t g 0 hl).1
    rw [hc] at hg
    rw [← hg]
    refine Nat.lt_of_lt_of_le (leN_lt _) (Nat.pow_le_pow_right (by omega) ?_)
    rw [List.length_take]
    omega
  · have hr : i < (rowS L).length := by rw [h3, List.length_append]; omega
    obtain ⟨s, g1, g2, g3⟩ := rowS_get hr
    have e : (rowS L)[i] = (cutL t g)[i] := by
      have := congrArg (fun l : List Pt => l[i]?) h3
      simp only [List.getElem?_append_left hi] at this
      rw [List.getElem?_eq_getElem hr, List.getElem?_eq_getElem hi] at this
      exact Option.some.inj this
    obtain ⟨l1, l2, l3⟩ := look_one g2
    have hb := (read_body l3 (by rw [g3])).1
    rw [g3, e] at hb
    simp only at hb
    rw [g1, hb, ← l2]
theorem holds_rec {L : List (List UInt8)} (hL : L.length = 10) (h : (holdsR L).2 ≠ 0) : ∃ t g, holdsR L = (t, g) ∧ IsRec L t g := by
  unfold holdsR at h ⊢
  split at h
  · simp at h
  · rename_i h1
    rw [if_neg h1]
    split at h
    · simp at h
    · rename_i h2
      rw [if_neg h2]
      split at h
      · simp at h
      · rename_i h3
        rw [if_neg h3]
        split at h
        · simp at h
        · rename_i h4
          rw [if_neg h4]
          split at h
          · simp at h
          · rename_i h5
            rw [if_neg h5]
            split at h
            · rename_i h6
              rw [if_pos h6]
              generalize holdsR.textR L ((lookL (L.getD 0 [])).1.getD 9 0).toNat = t at *
              generalize hn : ((lookL (L.getD 0 [])).1.getD 9 0).toNat = n at *
              refine ⟨t, _, rfl, by omega, ?_, by omega, fun i hi => ?_⟩
              · refine Nat.lt_of_lt_of_le (leN_lt _) (Nat.pow_le_pow_right (by omega) ?_)
                rw [List.length_take]
                omega
              · have hin : i < n := by rw [cutL_len] at hi; omega
                have := h6 i hin
                rw [List.getD_eq_getElem?_getD, List.getElem?_eq_getElem (by simpa using hi)] at this
                simp only [Option.getD_some, List.getElem_map] at this
                rw [this, List.getD_eq_getElem?_getD, List.getElem?_eq_getElem (by omega)]
                rfl
            · simp at h
theorem allOf_le9 {n : Nat} (h : n ≤ 400) : allOf n ≤ 9 := by unfold allOf; omega
theorem rec_holds {L : List (List UInt8)} {t : List UInt8} {g : Nat} (h : IsRec L t g) : holdsR L = (t, g) := by
  have h0 : 0 < (cutL t g).length := by rw [cutL_len]; have := allOf_pos t.length; omega
  obtain ⟨a1, a2, a3, a4, a5⟩ := h.at_ 0 h0
  have hlen := cutL_len t g
  have hp := allOf_pos t.length
  have h9 := allOf_le9 h.len
  have hpos := h.pos
  have h400 := h.len
  have htext : holdsR.textR L (allOf t.length) = t := by
    unfold holdsR.textR
    have : (List.range (allOf t.length)).flatMap (fun i => ((lookL (L.getD i [])).1.drop 12).take ((lookL (L.getD i [])).1.getD 10 0).toNat) = textL (cutL t g) := by
      unfold textL
      have e : cutL t g = (List.range (allOf t.length)).map fun i => (cutL t g).getD i ⟨0, 0, 0, []⟩ := by
        apply List.ext_getElem
        · simp [hlen]
        · intro i h1 h2
          rw [List.getElem_map, List.getElem_range, List.getD_eq_getElem?_getD, List.getElem?_eq_getElem h1]
          rfl
      conv => rhs; rw [e]
      rw [List.flatMap_map]
      rw [List.flatMap_def, List.flatMap_def]
      refine congrArg List.flatten (List.map_congr_left fun i hi => ?_)
      have hi' : i < (cutL t g).length := by rw [hlen]; exact List.mem_range.1 hi
      obtain ⟨b1, b2, b3, b4, b5⟩ := h.at_ i hi'
      have e2 : (cutL t g).getD i ⟨0, 0, 0, []⟩ = (cutL t g)[i] := by
        rw [List.getD_eq_getElem?_getD, List.getElem?_eq_getElem hi']
        rfl
      rw [b1, e2]
      exact b4
    rw [this, textL_cut]
  unfold holdsR
  rw [a1]
  simp only
  rw [a2, a5, htext, if_neg (by simp; omega), if_neg (by omega), if_neg ?_, if_neg (by omega), if_neg (by omega), if_pos ?_]
  · intro i hi
    have hi' : i < (cutL t g).length := by omega
    rw [List.getD_eq_getElem?_getD, List.getD_eq_getElem?_getD, h.sec i hi', List.getElem?_map, List.getElem?_eq_getElem hi']
    rfl
  · rintro ⟨i, hi, hc⟩
    obtain ⟨b1, b2, b3, b4, b5⟩ := h.at_ i (by omega)
    rw [b1] at hc
    simp only at hc
    omega
theorem holdL_zero {l : List Pt} (h : (holdL l).2 = 0) : holdL l = ([], 0) := by
  unfold holdL at h ⊢
  by_cases h1 : firstGen l = 0
  · rw [if_pos h1]
  · rw [if_neg h1] at h ⊢
    split
    · rfl
    · rename_i h2
      rw [if_neg h2] at h
      split
      · rename_i h3
        rw [if_pos h3] at h
        exact absurd h h1
      · rfl
theorem holdsR_zero {L : List (List UInt8)} (h : (holdsR L).2 = 0) : holdsR L = ([], 0) := by
  unfold holdsR at h ⊢
  repeat' split
  all_goals first | rfl | skip
  rename_i h1 h2 h3 h4 h5 h6
  rw [if_neg h1, if_neg h2, if_neg h3, if_neg h4, if_neg h5, if_pos h6] at h
  simp only at h
  exact absurd (Or.inr h) h1
/-- What ten sectors hold is what a slot's parts hold. -/
theorem holds_same {L : List (List UInt8)} (hL : L.length = 10) : holdsR L = holdL (rowS L) := by
  by_cases h : (holdL (rowS L)).2 = 0
  · rw [holdL_zero h]
    apply holdsR_zero
    apply Classical.byContradiction
    intro c
    obtain ⟨t, g, h1, h2⟩ := holds_rec hL c
    rw [rec_hold h2] at h
    have := h2.pos
    simp at h
    omega
  · obtain ⟨t, g, h1, h2⟩ := hold_rec h
    rw [h1, rec_holds h2]
end Go.Proofs.YtpfbgmfkeofefaaGreat

/-
  Open and Put of a record, as the document has them: the same as the program's (plain).
-/
namespace Go.Proofs.YtpfbgmfkeofefaaGreat
open Go Go.RowKit

/-- The sectors of a disk from one on, as they are read. -/
def secsL (d : Dk) (a n : Nat) : List (List UInt8) := (List.range n).map fun i => (d.now (a + i)).data.toList
theorem secsL_len (d : Dk) (a n : Nat) : (secsL d a n).length = n := by simp [secsL]
theorem secsL_add (d : Dk) (a n m : Nat) : secsL d a (n + m) = secsL d a n ++ secsL d (a + n) m := by
  unfold secsL
  rw [List.range_add, List.map_append, List.map_map]
  congr 1
  refine List.map_congr_left fun i _ => ?_
  simp [Nat.add_assoc]
theorem secsL_succ (d : Dk) (a n : Nat) : secsL d a (n + 1) = secsL d a n ++ [(d.now (a + n)).data.toList] := by
  rw [secsL_add]
  rfl
def badL (L : List (List UInt8)) : Bool := L.any fun s => decide ((lookL s).2 = 2)
theorem badL_app (A B : List (List UInt8)) : badL (A ++ B) = (badL A || badL B) := by simp [badL]
theorem badL_no {L : List (List UInt8)} (h : badL L = false) : ∀ s ∈ L, (lookL s).2 ≠ 2 := by
  intro s hs e
  have : badL L = true := by
    unfold badL
    rw [List.any_eq_true]
    exact ⟨s, hs, decide_eq_true e⟩
  rw [h] at this
  cases this
theorem badL_yes {L : List (List UInt8)} (h : badL L = true) : ∃ s ∈ L, (lookL s).2 = 2 := by
  unfold badL at h
  rw [List.any_eq_true] at h
  obtain ⟨s, hs, e⟩ := h
  exact ⟨s, hs, of_decide_eq_true e⟩
/-- What twenty sectors keep, by the document. -/
def pickR (f : Nat) (L : List (List UInt8)) : Kp :=
  if 0 < (holdsR (L.take 10)).2 ∧ (holdsR (L.drop 10)).2 ≤ (holdsR (L.take 10)).2 then ⟨f, (holdsR (L.take 10)).1, (holdsR (L.take 10)).2, 0, L.foldl seeS 0, false⟩
  else if 0 < (holdsR (L.drop 10)).2 then ⟨f, (holdsR (L.drop 10)).1, (holdsR (L.drop 10)).2, 1, L.foldl seeS 0, false⟩
  else ⟨f, [], 0, 1, L.foldl seeS 0, false⟩
def openR (d : Dk) (f : Nat) : Option Kp := if badL (secsL d f 20) then none else some (pickR f (secsL d f 20))
theorem slot_secs (d : Dk) (a seen : Nat) : slotAt d a seen 10 = (secsL d a 10).foldl slotStep ⟨[], true, seen, false⟩ := rfl
theorem slot_good {d : Dk} {a seen : Nat} (h : badL (secsL d a 10) = false) : slotAt d a seen 10 = ⟨rowS (secsL d a 10), (secsL d a 10).all partL, (secsL d a 10).foldl seeS seen, false⟩ := by
  rw [slot_secs, slot_fold _ _ _ _ (badL_no h)]
  simp
theorem open_ref (d : Dk) (f : Nat) : openN d f 2 = openR d f := by
  have e20 : secsL d f 20 = secsL d f 10 ++ secsL d (f + 10) 10 := secsL_add d f 10 10
  have hN : openN d f 2 = (openStep d 0 ⟨f, [], 0, 1, 0, false⟩).bind (openStep d 1) := rfl
  rw [hN]
  unfold openR
  rw [e20, badL_app]
  have l0 := secsL_len d f 10
  have l1 := secsL_len d (f + 10) 10
  cases h0 : badL (secsL d f 10)
  · have s0 := slot_good (seen := 0) h0
    have step0 : openStep d 0 ⟨f, [], 0, 1, 0, false⟩ = some (if 0 < (holdL (rowS (secsL d f 10))).2 then ⟨f, (holdL (rowS (secsL d f 10))).1, (holdL (rowS (secsL d f 10))).2, 0, (secsL d f 10).foldl seeS 0, false⟩ else ⟨f, [], 0, 1, (secsL d f 10).foldl seeS 0, false⟩) := by
      unfold openStep
      simp only [Nat.zero_mul, Nat.add_zero]
      rw [s0]
      simp
    rw [step0]
    simp only [Option.bind_some]
    generalize hk : (if 0 < (holdL (rowS (secsL d f 10))).2 then (⟨f, (holdL (rowS (secsL d f 10))).1, (holdL (rowS (secsL d f 10))).2, 0, (secsL d f 10).foldl seeS 0, false⟩ : Kp) else ⟨f, [], 0, 1, (secsL d f 10).foldl seeS 0, false⟩) = k
    have kf : k.from_ = f := by rw [← hk]; split <;> rfl
    have ks : k.seen = (secsL d f 10).foldl seeS 0 := by rw [← hk]; split <;> rfl
    unfold openStep
    rw [kf, Nat.one_mul, ks]
    cases h1 : badL (secsL d (f + 10) 10)
    · rw [slot_good h1]
      simp only [Bool.false_eq_true, if_false, Bool.or_self, Option.some.injEq]
      unfold pickR
      rw [List.take_left' l0, List.drop_left' l0, List.foldl_append, holds_same l0, holds_same l1]
      generalize (secsL d (f + 10) 10).foldl seeS ((secsL d f 10).foldl seeS 0) = S
      have hz := @holdL_zero (rowS (secsL d f 10))
      have hz1 := @holdL_zero (rowS (secsL d (f + 10) 10))
      generalize holdL (rowS (secsL d f 10)) = A at *
      generalize holdL (rowS (secsL d (f + 10) 10)) = B at *
      rw [← hk]
      by_cases hA : 0 < A.2
      · rw [if_pos hA]
        simp only
        by_cases hB : A.2 < B.2
        · rw [if_pos hB, if_neg (by omega), if_pos (by omega)]
        · rw [if_neg hB, if_pos (by omega)]
      · rw [if_neg hA]
        simp only
        by_cases hB : 0 < B.2
        · rw [if_pos hB, if_neg (by omega)]
        · rw [if_neg hB, if_neg (by omega)]
    · have hb : (slotAt d (f + 10) ((secsL d f 10).foldl seeS 0) 10).bad = true := slot_bad _ _ (.inr (badL_yes h1))
      rw [if_pos hb]
      simp
  · have hb : (slotAt d f 0 10).bad = true := slot_bad _ _ (.inr (badL_yes h0))
    have step0 : openStep d 0 ⟨f, [], 0, 1, 0, false⟩ = none := by
      unfold openStep
      simp only [Nat.zero_mul, Nat.add_zero]
      rw [if_pos hb]
    rw [step0]
    simp
/-- The first j sectors, written to the document's disk. -/
def writeNR (r : Rd) (a : Nat) (l : List Pt) : Nat → Rd × Int
  | 0 => (r, 0)
  | j + 1 => if (writeNR r a l j).2 ≠ 0 then writeNR r a l j else (writeNR r a l j).1.write ((a + j : Nat) : Int) (l.getD j ⟨0, 0, 0, []⟩).sec
theorem writeNR_stop {r : Rd} {a : Nat} {l : List Pt} {j m : Nat} (h : (writeNR r a l j).2 ≠ 0) (hm : j ≤ m) : writeNR r a l m = writeNR r a l j := by
  induction m with
  | zero =>
    obtain rfl : j = 0 := by omega
    rfl
  | succ m ih =>
    by_cases e : j = m + 1
    · subst e; rfl
    · have := ih (by omega)
      rw [writeNR, this, if_pos h]
def putR (r : Rd) (k : Kp) (text : List UInt8) : Rd × Kp × Int :=
  if k.broken then (r, k, 11) else if 400 < text.length then (r, k, 3) else if k.seen = 18446744073709551615 then (r, k, 6) else
  if (writeNR r (k.from_ + (1 - k.at_) * 10) (cutL text (k.seen + 1)) (allOf text.length)).2 ≠ 0 then
    ((writeNR r (k.from_ + (1 - k.at_) * 10) (cutL text (k.seen + 1)) (allOf text.length)).1, { k with broken := true }, (writeNR r (k.from_ + (1 - k.at_) * 10) (cutL text (k.seen + 1)) (allOf text.length)).2) else
  if (writeNR r (k.from_ + (1 - k.at_) * 10) (cutL text (k.seen + 1)) (allOf text.length)).1.sync.2 ≠ 0 then
    ((writeNR r (k.from_ + (1 - k.at_) * 10) (cutL text (k.seen + 1)) (allOf text.length)).1.sync.1, { k with broken := true }, (writeNR r (k.from_ + (1 - k.at_) * 10) (cutL text (k.seen + 1)) (allOf text.length)).1.sync.2) else
  ((writeNR r (k.from_ + (1 - k.at_) * 10) (cutL text (k.seen + 1)) (allOf text.length)).1.sync.1, { k with seen := k.seen + 1, text := text, gen := k.seen + 1, at_ := 1 - k.at_, broken := false }, 0)
theorem writeNR_is {d : Dk} {r : Rd} (h : RdIs d r) (hw : d.waits.length = d.lasts.length) (a : Nat) (l : List Pt) (j : Nat) :
    RdIs (writeN d a l j).1 (writeNR r a l j).1 ∧ (writeNR r a l j).2 = (writeN d a l j).2 := by
  induction j with
  | zero => exact ⟨h, rfl⟩
  | succ j ih =>
    rw [writeN, writeNR, ih.2]
    split
    · exact ih
    · obtain ⟨s1, s2, s3⟩ := writeN_same d a l hw j
      exact ih.1.write (by rw [s2, s1, hw]) _ _
theorem put_ref {d : Dk} {r : Rd} (h : RdIs d r) (hw : d.waits.length = d.lasts.length) (k : Kp) (t : List UInt8) :
    RdIs (putK d k t).1 (putR r k t).1 ∧ (putR r k t).2 = (putK d k t).2 := by
  unfold putK putR
  split
  · exact ⟨h, rfl⟩
  · split
    · exact ⟨h, rfl⟩
    · split
      · exact ⟨h, rfl⟩
      · obtain ⟨w1, w2⟩ := writeNR_is h hw (k.from_ + (1 - k.at_) * 10) (cutL t (k.seen + 1)) (allOf t.length)
        generalize writeN d (k.from_ + (1 - k.at_) * 10) (cutL t (k.seen + 1)) (allOf t.length) = W at *
        generalize writeNR r (k.from_ + (1 - k.at_) * 10) (cutL t (k.seen + 1)) (allOf t.length) = V at *
        rw [w2]
        split
        · exact ⟨w1, rfl⟩
        · obtain ⟨s1, s2⟩ := w1.sync
          rw [s2]
          split
          · exact ⟨s1, rfl⟩
          · exact ⟨s1, rfl⟩
end Go.Proofs.YtpfbgmfkeofefaaGreat
