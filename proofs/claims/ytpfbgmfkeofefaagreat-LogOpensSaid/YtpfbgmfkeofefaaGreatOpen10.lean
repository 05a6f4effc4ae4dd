/-
  What sectors hold of a log, as the document has it: the same as what their parts hold (plain).
-/
import Derived.Test.YtpfbgmfkeofefaaGreatLogLaw
import Derived.Test.YtpfbgmfkeofefaaGreatOpen9
namespace Go.Proofs.YtpfbgmfkeofefaaGreat
open Go Go.RowKit

theorem readG_salt (b : List UInt8) : (readG b).1.salt = leN ((b.drop 8).take 8) := by
  unfold readG
  split <;> rfl
/-- A part that is one has just its bytes. -/
theorem readG_is {b : List UInt8} (hb : b.length = 60) (h : (readG b).2 = true) :
    (readG b).1.body = b ∧ (b.getD 26 0).toNat ≤ 32 ∧ (readG b).1.text = (b.drop 28).take (b.getD 26 0).toNat ∧ (readG b).1.all = (b.getD 25 0).toNat ∧ (readG b).1.text.length = (b.getD 26 0).toNat := by
  unfold readG at h ⊢
  split at h
  · simp at h
  · rename_i h32
    rw [if_neg h32]
    have h32' : (b.getD 26 0).toNat ≤ 32 := by omega
    have hd := of_decide_eq_true h
    have hl : ((b.drop 28).take (b.getD 26 0).toNat).length = (b.getD 26 0).toNat := by
      rw [List.length_take, List.length_drop]; omega
    refine ⟨?_, h32', rfl, rfl, hl⟩
    unfold Lp.body
    simp only
    rw [hl, ← hd.2]
    have e8 : ∀ k, k + 8 ≤ 60 → leB (leN ((b.drop k).take 8)) 8 = (b.drop k).take 8 := by
      intro k hk
      have := leB_leN ((b.drop k).take 8)
      rw [List.length_take, List.length_drop, hb, show min 8 (60 - k) = 8 by omega] at this
      exact this
    have e0 := e8 0 (by omega)
    rw [List.drop_zero] at e0
    rw [e0, e8 8 (by omega), e8 16 (by omega)]
    have e4 : [UInt8.ofNat (b.getD 24 0).toNat, UInt8.ofNat (b.getD 25 0).toNat, UInt8.ofNat (b.getD 26 0).toNat, 0] = (b.drop 24).take 4 := by
      rw [UInt8.ofNat_toNat, UInt8.ofNat_toNat, UInt8.ofNat_toNat]
      have h27 := hd.1
      apply List.ext_getElem
      · simp [hb]
      · intro i h1 h2
        simp at h1
        rw [List.getElem_take, List.getElem_drop]
        match i, h1 with
        | 0, _ => simp [List.getD_eq_getElem?_getD, hb]
        | 1, _ => simp [List.getD_eq_getElem?_getD, hb]
        | 2, _ => simp [List.getD_eq_getElem?_getD, hb]
        | 3, _ =>
          rw [List.getD_eq_getElem?_getD, List.getElem?_eq_getElem (by omega)] at h27
          simp at h27
          simp [h27]
    rw [e4]
    have a1 : b.take 8 ++ (b.drop 8).take 8 = b.take 16 := by rw [← List.take_add]
    have a2 : b.take 16 ++ (b.drop 16).take 8 = b.take 24 := by rw [← List.take_add]
    have a3 : b.take 24 ++ (b.drop 24).take 4 = b.take 28 := by rw [← List.take_add]
    have a4 : b.take 28 ++ (b.drop 28).take (b.getD 26 0).toNat = b.take (28 + (b.getD 26 0).toNat) := by rw [← List.take_add]
    rw [a1, a2, a3, a4, List.take_append_drop]
/-- The parts ahead of the first sector that is none. -/
def rowG : List (List UInt8) → List Lp
  | [] => []
  | s :: r => if (lookL s).2 = 1 ∧ (readG (lookL s).1).2 = true then (readG (lookL s).1).1 :: rowG r else []
def partG (s : List UInt8) : Bool := decide ((lookL s).2 = 1 ∧ (readG (lookL s).1).2 = true)
def seeG (m : Nat) (s : List UInt8) : Nat := if (lookL s).2 = 1 then max m (leN (((lookL s).1.drop 8).take 8)) else m
theorem scan_fold : ∀ (L : List (List UInt8)) (acc : List Lp) (row : Bool) (seen : Nat), (∀ s ∈ L, (lookL s).2 ≠ 2) →
    L.foldl scanStep ⟨acc, row, seen, false⟩ = ⟨if row then acc ++ rowG L else acc, row && L.all partG, L.foldl seeG seen, false⟩
  | [], acc, row, seen, _ => by simp [rowG]
  | s :: L, acc, row, seen, h => by
    have hs := h s (by simp)
    have hL := fun s' h' => h s' (List.mem_cons_of_mem _ h')
    rw [List.foldl_cons, List.foldl_cons, List.all_cons]
    have step : scanStep ⟨acc, row, seen, false⟩ s = if (lookL s).2 = 1 then ⟨if (row && (readG (lookL s).1).2) = true then acc ++ [(readG (lookL s).1).1] else acc, row && (readG (lookL s).1).2, max seen (leN (((lookL s).1.drop 8).take 8)), false⟩ else ⟨acc, false, seen, false⟩ := by
      unfold scanStep
      simp only [Bool.false_eq_true, if_false, if_neg hs, readG_salt]
    rw [step]
    by_cases h1 : (lookL s).2 = 1
    · rw [if_pos h1]
      have hsee : seeG seen s = max seen (leN (((lookL s).1.drop 8).take 8)) := by unfold seeG; rw [if_pos h1]
      cases h2 : (readG (lookL s).1).2
      · have hp : partG s = false := by unfold partG; simp [h2]
        have hr : rowG (s :: L) = [] := by unfold rowG; simp [h2]
        rw [hp, hr, hsee]
        simp only [Bool.and_false, Bool.false_and, Bool.false_eq_true, if_false, List.append_nil]
        rw [scan_fold L _ _ _ hL]
        simp
      · have hp : partG s = true := by unfold partG; simp [h1, h2]
        have hr : rowG (s :: L) = (readG (lookL s).1).1 :: rowG L := by rw [rowG, if_pos ⟨h1, h2⟩]
        rw [hp, hr, hsee]
        simp only [Bool.and_true, Bool.true_and]
        rw [scan_fold L _ _ _ hL]
        cases row <;> simp
    · rw [if_neg h1]
      have hp : partG s = false := by unfold partG; simp [h1]
      have hr : rowG (s :: L) = [] := by unfold rowG; simp [h1]
      have hsee : seeG seen s = seen := by unfold seeG; rw [if_neg h1]
      rw [hp, hr, hsee, scan_fold L _ _ _ hL]
      simp
theorem scan_bad : ∀ (L : List (List UInt8)) (st : ScanSt), (st.bad = true ∨ ∃ s ∈ L, (lookL s).2 = 2) → (L.foldl scanStep st).bad = true
  | [], st, h => by
    rcases h with h | ⟨s, hs, _⟩
    · exact h
    · simp at hs
  | s :: L, st, h => by
    rw [List.foldl_cons]
    apply scan_bad
    rcases h with h | ⟨s', hs, h2⟩
    · left; unfold scanStep; rw [if_pos h]; exact h
    · rcases List.mem_cons.1 hs with rfl | hs
      · left
        unfold scanStep
        split
        · assumption
        · first | rfl | rw [if_pos h2] | simp [h2]
      · exact .inr ⟨s', hs, h2⟩
/-- The texts of the first n sectors. -/
def texG (L : List (List UInt8)) (n : Nat) : List UInt8 := (List.range n).flatMap fun i => ((lookL (L.getD i [])).1.drop 28).take ((lookL (L.getD i [])).1.getD 26 0).toNat
/-- The record at the beginning of sectors, by the document: its text, its salt, whether there is one. -/
def atR (e a : Nat) (L : List (List UInt8)) : List UInt8 × Nat × Bool :=
  if (lookL (L.getD 0 [])).2 ≠ 1 then ([], 0, false) else
  if ∃ i, i < ((lookL (L.getD 0 [])).1.getD 25 0).toNat ∧ ((lookL (L.getD i [])).2 ≠ 1 ∨ 32 < ((lookL (L.getD i [])).1.getD 26 0).toNat) then ([], 0, false) else
  if ((lookL (L.getD 0 [])).1.getD 25 0).toNat = 0 ∨ 1024 < (texG L ((lookL (L.getD 0 [])).1.getD 25 0).toNat).length then ([], 0, false) else
  if partsOf (texG L ((lookL (L.getD 0 [])).1.getD 25 0).toNat).length ≠ ((lookL (L.getD 0 [])).1.getD 25 0).toNat then ([], 0, false) else
  if ∀ i, i < ((lookL (L.getD 0 [])).1.getD 25 0).toNat → ((cutG (texG L ((lookL (L.getD 0 [])).1.getD 25 0).toNat) e (leN (((lookL (L.getD 0 [])).1.drop 8).take 8)) a).map fun p => closeL p.body).getD i [] = L.getD i [] then
    (texG L ((lookL (L.getD 0 [])).1.getD 25 0).toNat, leN (((lookL (L.getD 0 [])).1.drop 8).take 8), true) else ([], 0, false)
/-- A record of a log stands in the first of these sectors. -/
structure IsRecG (e a : Nat) (L : List (List UInt8)) (t : List UInt8) (s : Nat) : Prop where
  epoch0 : 0 < e
  epoch : e < 2 ^ (8 * 8)
  salt : s < 2 ^ (8 * 8)
  ahead : a < 2 ^ (8 * 8)
  len : t.length ≤ 1024
  sec : ∀ i (h : i < (cutG t e s a).length), L[i]? = some (closeL (cutG t e s a)[i].body)
theorem rowG_app (ps : List Lp) (R : List (List UInt8)) (h : ∀ p ∈ ps, p.ok) : rowG (ps.map (fun p => closeL p.body) ++ R) = ps ++ rowG R := by
  induction ps with
  | nil => rfl
  | cons p ps ih =>
    have hp := h p (by simp)
    have h1 := look_secG p hp
    unfold Lp.sec at h1
    rw [str_list] at h1
    have h2 := readG_body p hp
    rw [List.map_cons, List.cons_append, rowG, h1, h2, if_pos ⟨rfl, rfl⟩, ih (fun q hq => h q (List.mem_cons_of_mem _ hq))]
    rfl
theorem rowG_get : ∀ {L : List (List UInt8)} {i : Nat} (h : i < (rowG L).length), ∃ s, L[i]? = some s ∧ (lookL s).2 = 1 ∧ readG (lookL s).1 = ((rowG L)[i], true)
  | [], i, h => by simp [rowG] at h
  | s :: r, i, h => by
    by_cases hp : (lookL s).2 = 1 ∧ (readG (lookL s).1).2 = true
    · have e : rowG (s :: r) = (readG (lookL s).1).1 :: rowG r := by rw [rowG, if_pos hp]
      cases i with
      | zero =>
        refine ⟨s, rfl, hp.1, ?_⟩
        simp only [e, List.getElem_cons_zero]
        rw [← hp.2]
      | succ i =>
        have h' : i < (rowG r).length := by rw [e] at h; simpa using h
        obtain ⟨s', g1, g2, g3⟩ := rowG_get h'
        exact ⟨s', by simpa using g1, g2, by simp only [e, List.getElem_cons_succ]; exact g3⟩
    · rw [rowG, if_neg hp] at h
      simp at h
section
variable {e a s : Nat} {L : List (List UInt8)} {t : List UInt8}
theorem IsRecG.oks (h : IsRecG e a L t s) : ∀ p ∈ cutG t e s a, p.ok := cutG_ok t e s a h.epoch0 h.epoch h.salt h.ahead h.len
theorem IsRecG.at_ (h : IsRecG e a L t s) (i : Nat) (hi : i < (cutG t e s a).length) :
    lookL (L.getD i []) = ((cutG t e s a)[i].body, 1) ∧ ((cutG t e s a)[i].body.getD 25 0).toNat = partsOf t.length ∧ ((cutG t e s a)[i].body.getD 26 0).toNat ≤ 32 ∧
      ((cutG t e s a)[i].body.drop 28).take ((cutG t e s a)[i].body.getD 26 0).toNat = (cutG t e s a)[i].text ∧ leN (((cutG t e s a)[i].body.drop 8).take 8) = s := by
  have hok := h.oks _ (List.getElem_mem hi)
  obtain ⟨c1, c2, c3, c4, c5, c6⟩ := cutG_get t e s a i hi
  have h1 := look_secG _ hok
  unfold Lp.sec at h1
  rw [str_list] at h1
  have h2 := readG_body _ hok
  have hb := Lp.body_len _ hok.text
  obtain ⟨r1, r2, r3, r4, r5⟩ := readG_is hb (by rw [h2])
  have r6 := readG_salt (cutG t e s a)[i].body
  rw [h2] at r3 r4 r6
  simp only at r3 r4 r6
  refine ⟨?_, by rw [← r4, c5], r2, r3.symm, by rw [← r6, c2]⟩
  rw [List.getD_eq_getElem?_getD, h.sec i hi]
  exact h1
theorem IsRecG.split (h : IsRecG e a L t s) : L = (cutG t e s a).map (fun p => closeL p.body) ++ L.drop (partsOf t.length) := by
  have hl : (cutG t e s a).length ≤ L.length := by
    apply Classical.byContradiction
    intro c
    have := h.sec L.length (by omega)
    simp at this
  conv => lhs; rw [← List.take_append_drop (cutG t e s a).length L]
  rw [cutG_len]
  congr 1
  rw [cutG_len] at hl
  apply List.ext_getElem
  · simp [cutG_len]; omega
  · intro i h1 h2
    have := h.sec i (by simpa using h2)
    rw [List.getElem?_eq_getElem (by simp at h1; omega)] at this
    simp at this
    simpa using this
theorem IsRecG.row (h : IsRecG e a L t s) : rowG L = cutG t e s a ++ rowG (L.drop (partsOf t.length)) := by
  conv => lhs; rw [h.split]
  exact rowG_app _ _ h.oks
theorem IsRecG.len_le (h : IsRecG e a L t s) : partsOf t.length ≤ L.length := by
  have := congrArg List.length h.split
  rw [List.length_append, List.length_map, cutG_len] at this
  omega
theorem IsRecG.head (h : IsRecG e a L t s) : ((rowG L).headD ⟨0, 0, 0, 0, 0, []⟩).salt = s := by
  obtain ⟨p, r, hc, c1, c2, c3, c4⟩ := cutG_cons t e s a
  rw [h.row, hc]
  exact c2
theorem IsRecG.first (h : IsRecG e a L t s) : firstG e a (rowG L) = (t, true) := by
  rw [h.row]
  exact firstG_cut t e s a _ h.len
theorem first_rec (he : 0 < e) (he2 : e < 2 ^ (8 * 8)) (ha : a < 2 ^ (8 * 8)) (h : (firstG e a (rowG L)).2 = true) : ∃ t s, IsRecG e a L t s := by
  obtain ⟨t, s, rest, ht, hr⟩ := firstG_true h
  refine ⟨t, s, he, he2, ?_, ha, ht, fun i hi => ?_⟩
  · have h0 : 0 < (rowG L).length := by rw [hr, List.length_append, cutG_len]; have := partsOf_pos t.length; omega
    obtain ⟨x, g1, g2, g3⟩ := rowG_get h0
    have hg := congrArg (fun q : Lp × Bool => q.1.salt) g3
    simp only [readG_salt] at hg
    have hc : (rowG L)[0].salt = s := by
      have hl : 0 < (cutG t e s a).length := by rw [cutG_len]; have := partsOf_pos t.length; omega
      have e : (rowG L)[0] = (cutG t e s a)[0] := by
        have := congrArg (fun l : List Lp => l[0]?) hr
        simp only [List.getElem?_append_left hl] at this
        rw [List.getElem?_eq_getElem h0, List.getElem?_eq_getElem hl] at this
        exact Option.some.inj this
      rw [e]
      exact (cutG_get t _ s a 0 hl).2.1
    rw [hc] at hg
    rw [← hg]
    refine Nat.lt_of_lt_of_le (leN_lt _) (Nat.pow_le_pow_right (by omega) ?_)
    rw [List.length_take]
    omega
  · have hrl : i < (rowG L).length := by rw [hr, List.length_append]; omega
    obtain ⟨x, g1, g2, g3⟩ := rowG_get hrl
    have e' : (rowG L)[i] = (cutG t e s a)[i] := by
      have := congrArg (fun l : List Lp => l[i]?) hr
      simp only [List.getElem?_append_left hi] at this
      rw [List.getElem?_eq_getElem hrl, List.getElem?_eq_getElem hi] at this
      exact Option.some.inj this
    obtain ⟨l1, l2, l3⟩ := look_one g2
    have hb := (readG_is l3 (by rw [g3])).1
    rw [g3, e'] at hb
    simp only at hb
    rw [g1, hb, ← l2]
theorem IsRecG.atR (h : IsRecG e a L t s) : Go.Proofs.YtpfbgmfkeofefaaGreat.atR e a L = (t, s, true) := by
  have h0 : 0 < (cutG t e s a).length := by rw [cutG_len]; have := partsOf_pos t.length; omega
  obtain ⟨a1, a2, a3, a4, a5⟩ := h.at_ 0 h0
  have hlen := cutG_len t e s a
  have hp := partsOf_pos t.length
  have h1024 := h.len
  have htext : texG L (partsOf t.length) = t := by
    unfold texG
    have : (List.range (partsOf t.length)).flatMap (fun i => ((lookL (L.getD i [])).1.drop 28).take ((lookL (L.getD i [])).1.getD 26 0).toNat) = textG (cutG t e s a) := by
      unfold textG
      have ec : cutG t e s a = (List.range (partsOf t.length)).map fun i => (cutG t e s a).getD i ⟨0, 0, 0, 0, 0, []⟩ := by
        apply List.ext_getElem
        · simp [hlen]
        · intro i h1 h2
          rw [List.getElem_map, List.getElem_range, List.getD_eq_getElem?_getD, List.getElem?_eq_getElem h1]
          rfl
      conv => rhs; rw [ec]
      rw [List.flatMap_map]
      rw [List.flatMap_def, List.flatMap_def]
      refine congrArg List.flatten (List.map_congr_left fun i hi => ?_)
      have hi' : i < (cutG t e s a).length := by rw [hlen]; exact List.mem_range.1 hi
      obtain ⟨b1, b2, b3, b4, b5⟩ := h.at_ i hi'
      have e2 : (cutG t e s a).getD i ⟨0, 0, 0, 0, 0, []⟩ = (cutG t e s a)[i] := by
        rw [List.getD_eq_getElem?_getD, List.getElem?_eq_getElem hi']
        rfl
      rw [b1, e2]
      exact b4
    rw [this, textG_cut]
  unfold Go.Proofs.YtpfbgmfkeofefaaGreat.atR
  rw [a1]
  simp only
  rw [a2, a5, htext, if_neg (by simp), if_neg ?_, if_neg (by omega), if_neg (by omega), if_pos ?_]
  · intro i hi
    have hi' : i < (cutG t e s a).length := by omega
    rw [List.getD_eq_getElem?_getD, List.getD_eq_getElem?_getD, h.sec i hi', List.getElem?_map, List.getElem?_eq_getElem hi']
    rfl
  · rintro ⟨i, hi, hc⟩
    obtain ⟨b1, b2, b3, b4, b5⟩ := h.at_ i (by omega)
    rw [b1] at hc
    simp only at hc
    omega
theorem atR_no (h : (atR e a L).2.2 = false) : atR e a L = ([], 0, false) := by
  unfold atR at h ⊢
  repeat' split
  all_goals first | rfl | skip
  rename_i h1 h2 h3 h4 h5
  rw [if_neg h1, if_neg h2, if_neg h3, if_neg h4, if_pos h5] at h
  simp at h
theorem atR_rec (he : 0 < e) (he2 : e < 2 ^ (8 * 8)) (ha : a < 2 ^ (8 * 8)) (h : (atR e a L).2.2 = true) : ∃ t s, IsRecG e a L t s := by
  unfold atR at h
  split at h
  · simp at h
  · rename_i h1
    split at h
    · simp at h
    · rename_i h2
      split at h
      · simp at h
      · rename_i h3
        split at h
        · simp at h
        · rename_i h4
          split at h
          · rename_i h5
            generalize texG L ((lookL (L.getD 0 [])).1.getD 25 0).toNat = t at *
            generalize hn : ((lookL (L.getD 0 [])).1.getD 25 0).toNat = n at *
            refine ⟨t, leN (((lookL (L.getD 0 [])).1.drop 8).take 8), he, he2, ?_, ha, by omega, fun i hi => ?_⟩
            · refine Nat.lt_of_lt_of_le (leN_lt _) (Nat.pow_le_pow_right (by omega) ?_)
              rw [List.length_take]
              omega
            · have hin : i < n := by rw [cutG_len] at hi; omega
              have := h5 i hin
              rw [List.getD_eq_getElem?_getD, List.getElem?_eq_getElem (by simpa using hi)] at this
              simp only [Option.getD_some, List.getElem_map] at this
              have hiL : i < L.length := by
                apply Classical.byContradiction
                intro c
                apply h2
                refine ⟨i, hin, .inl ?_⟩
                rw [List.getD_eq_getElem?_getD, List.getElem?_eq_none (by omega)]
                decide
              rw [this, List.getD_eq_getElem?_getD, List.getElem?_eq_getElem hiL]
              rfl
          · simp at h
/-- What stands at the beginning of sectors is what stands at the beginning of their parts. -/
theorem at_first (he : 0 < e) (he2 : e < 2 ^ (8 * 8)) (ha : a < 2 ^ (8 * 8)) :
    (firstG e a (rowG L)).2 = (atR e a L).2.2 ∧ ((atR e a L).2.2 = true → (firstG e a (rowG L)).1 = (atR e a L).1 ∧ ((rowG L).headD ⟨0, 0, 0, 0, 0, []⟩).salt = (atR e a L).2.1 ∧ (atR e a L).2.1 < 2 ^ (8 * 8) ∧
      rowG (L.drop (partsOf (atR e a L).1.length)) = (rowG L).drop (partsOf (atR e a L).1.length) ∧ partsOf (atR e a L).1.length ≤ L.length ∧ (atR e a L).1.length ≤ 1024) := by
  cases h : (atR e a L).2.2
  · refine ⟨?_, fun c => by cases c⟩
    cases h2 : (firstG e a (rowG L)).2
    · rfl
    · obtain ⟨t, s, h3⟩ := first_rec he he2 ha h2
      rw [h3.atR] at h
      cases h
  · obtain ⟨t, s, h3⟩ := atR_rec he he2 ha h
    rw [h3.atR, h3.first]
    refine ⟨rfl, fun _ => ⟨rfl, h3.head, h3.salt, ?_, h3.len_le, h3.len⟩⟩
    simp only
    rw [h3.row, List.drop_left' (cutG_len _ _ _ _)]
end
/-- The records one behind the other, by the document. -/
def loopR : Nat → Lg → List (List UInt8) → Lg
  | 0, g, _ => g
  | n + 1, g, L =>
    if (atR g.epoch g.last L).2.2 then
      loopR n { g with l := g.l ++ [str (atR g.epoch g.last L).1], last := (atR g.epoch g.last L).2.1, used := g.used + partsOf (atR g.epoch g.last L).1.length } (L.drop (partsOf (atR g.epoch g.last L).1.length))
    else g
theorem loop_ref : ∀ (n m : Nat) (g : Lg) (L : List (List UInt8)), 0 < g.epoch → g.epoch < 2 ^ (8 * 8) → g.last < 2 ^ (8 * 8) → (rowG L).length < n → L.length < m → loopG n g (rowG L) = loopR m g L
  | 0, m, g, L, _, _, _, h, _ => by omega
  | n + 1, 0, g, L, _, _, _, _, h => by omega
  | n + 1, m + 1, g, L, h0, h1, h2, hn, hm => by
    obtain ⟨e1, e2⟩ := at_first (L := L) h0 h1 h2
    rw [loopG, loopR, e1]
    cases hb : (atR g.epoch g.last L).2.2
    · rfl
    · obtain ⟨a1, a2, a3, a4, a5, a6⟩ := e2 hb
      rw [a1, a2, if_pos rfl, if_pos rfl, ← a4]
      have hp := partsOf_pos (atR g.epoch g.last L).1.length
      refine loop_ref n m _ _ h0 h1 a3 ?_ ?_
      · rw [a4, List.length_drop]
        have : partsOf (atR g.epoch g.last L).1.length ≤ (rowG L).length ∨ (rowG L).length < partsOf (atR g.epoch g.last L).1.length := by omega
        have hz : 0 < (rowG L).length := by
          rw [hb] at e1
          cases hr : rowG L with
          | nil => rw [hr] at e1; cases e1
          | cons _ _ => simp
        omega
      · rw [List.length_drop]; omega
/-- What Open finds, by the document. -/
def openGR (d : Dk) (f n e : Nat) : Option Lg :=
  if badL (secsL d f n) then none else some (loopR (n + 1) ⟨f, n, e, [], 0, 0, (secsL d f n).foldl seeG 0, false⟩ (secsL d f n))
theorem scan_secs (d : Dk) (a k : Nat) : scanAt d a k = (secsL d a k).foldl scanStep ⟨[], true, 0, false⟩ := rfl
theorem openG_ref (d : Dk) (f n e : Nat) (h0 : 0 < e) (he : e < 2 ^ (8 * 8)) : openG d f n e = openGR d f n e := by
  unfold openG openGR
  rw [scan_secs]
  cases hb : badL (secsL d f n)
  · rw [scan_fold _ _ _ _ (badL_no hb)]
    simp only [Bool.false_eq_true, if_false, if_true, List.nil_append, Option.some.injEq]
    exact loop_ref _ _ _ _ h0 he (by show 0 < _; decide) (by omega) (by rw [secsL_len]; omega)
  · rw [scan_bad _ _ (.inr (badL_yes hb))]
    rfl
/-- The first j sectors, written to the document's disk. -/
def writeBR (r : Rd) (a : Nat) (l : List ByteArray) : Nat → Rd × Int
  | 0 => (r, 0)
  | j + 1 => if (writeBR r a l j).2 ≠ 0 then writeBR r a l j else (writeBR r a l j).1.write ((a + j : Nat) : Int) (l.getD j ByteArray.empty)
theorem writeBR_stop {r : Rd} {a : Nat} {l : List ByteArray} {j m : Nat} (h : (writeBR r a l j).2 ≠ 0) (hm : j ≤ m) : writeBR r a l m = writeBR r a l j := by
  induction m with
  | zero =>
    obtain rfl : j = 0 := by omega
    rfl
  | succ m ih =>
    by_cases e : j = m + 1
    · subst e; rfl
    · have := ih (by omega)
      rw [writeBR, this, if_pos h]
def wroteR (r : Rd) (g : Lg) (text : List UInt8) : Rd × Int := writeBR r (g.from_ + g.used) (secsG g text) (partsOf text.length)
/-- What Add does, by the document. -/
def addR (r : Rd) (g : Lg) (s : ByteArray) : Rd × Lg × Int :=
  if g.broken then (r, g, 11) else if 1024 < s.size then (r, g, 3) else if g.sectors - g.used < partsOf s.size ∨ g.salt = 18446744073709551615 then (r, g, 6) else
  if (wroteR r g s.data.toList).2 ≠ 0 then ((wroteR r g s.data.toList).1, { g with broken := true }, (wroteR r g s.data.toList).2) else
  if (wroteR r g s.data.toList).1.sync.2 ≠ 0 then ((wroteR r g s.data.toList).1.sync.1, { g with broken := true }, (wroteR r g s.data.toList).1.sync.2) else
  ((wroteR r g s.data.toList).1.sync.1, { g with salt := g.salt + 1, last := g.salt + 1, broken := false, l := g.l ++ [s], used := g.used + partsOf s.size }, 0)
theorem writeBR_is {d : Dk} {r : Rd} (h : RdIs d r) (hw : d.waits.length = d.lasts.length) (a : Nat) (l : List ByteArray) (j : Nat) :
    RdIs (writeB d a l j).1 (writeBR r a l j).1 ∧ (writeBR r a l j).2 = (writeB d a l j).2 := by
  induction j with
  | zero => exact ⟨h, rfl⟩
  | succ j ih =>
    rw [writeB, writeBR, ih.2]
    split
    · exact ih
    · obtain ⟨s1, s2, s3⟩ := writeB_same d a l hw j
      exact ih.1.write (by rw [s2, s1, hw]) _ _
theorem add_ref {d : Dk} {r : Rd} (h : RdIs d r) (hw : d.waits.length = d.lasts.length) (g : Lg) (s : ByteArray) :
    RdIs (addG d g s).1 (addR r g s).1 ∧ (addR r g s).2 = (addG d g s).2 := by
  unfold addG addR
  split
  · exact ⟨h, rfl⟩
  · split
    · exact ⟨h, rfl⟩
    · split
      · exact ⟨h, rfl⟩
      · obtain ⟨w1, w2⟩ := writeBR_is h hw (g.from_ + g.used) (secsG g s.data.toList) (partsOf s.data.toList.length)
        unfold wroteG wroteR
        generalize writeB d (g.from_ + g.used) (secsG g s.data.toList) (partsOf s.data.toList.length) = W at *
        generalize writeBR r (g.from_ + g.used) (secsG g s.data.toList) (partsOf s.data.toList.length) = V at *
        rw [w2]
        split
        · exact ⟨w1, rfl⟩
        · obtain ⟨s1, s2⟩ := w1.sync
          rw [s2]
          split
          · exact ⟨s1, rfl⟩
          · exact ⟨s1, rfl⟩
end Go.Proofs.YtpfbgmfkeofefaaGreat
