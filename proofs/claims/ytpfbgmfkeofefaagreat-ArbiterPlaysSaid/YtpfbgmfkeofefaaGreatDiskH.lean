/-
  The disk's Crash.
-/
import Derived.Test.YtpfbgmfkeofefaaGreatKeys
import Derived.Test.YtpfbgmfkeofefaaGreatArgs
namespace Go.Proofs.YtpfbgmfkeofefaaGreat
open Go Go.RowKit

namespace Dk
/-- The sectors for which writes wait, rising. -/
def busy (d : Dk) : List Nat := (List.range d.lasts.length).filter fun i => !(d.at_ i).isEmpty
/-- Which of a sector's writes a crash keeps (0: none): k is its number among those for which writes wait. -/
def choice (l : List ByteArray) (keep : List Int) (k : Nat) : Nat := if k < keep.length then (keep.getD k 0 % ((l.length : Int) + 1)).toNat else 0
def keptAt (d : Dk) (keep : List Int) (k i : Nat) : ByteArray := if 0 < choice (d.at_ i) keep k then (d.at_ i).getD (choice (d.at_ i) keep k - 1) ByteArray.empty else d.last i
/-- A crash that has done the first j of these sectors. -/
def part (d : Dk) (keep : List Int) (j : Nat) : Dk :=
  { d with lasts := (List.range d.lasts.length).map fun i => if i ∈ d.busy.take j then d.keptAt keep (d.busy.idxOf i) i else d.last i, waits := (List.range d.waits.length).map fun i => if i ∈ d.busy.take j then [] else d.at_ i }
def crash (d : Dk) (keep : List Int) : Dk := { d.part keep d.busy.length with off := false, fuse := -1 }
theorem busy_nodup (d : Dk) : d.busy.Nodup := List.nodup_range.filter _
theorem busy_mem {d : Dk} {i : Nat} : i ∈ d.busy ↔ i < d.lasts.length ∧ d.at_ i ≠ [] := by
  unfold busy
  rw [List.mem_filter, List.mem_range]
  simp
theorem part_at (d : Dk) (keep : List Int) (j i : Nat) : (d.part keep j).at_ i = if i ∈ d.busy.take j then [] else d.at_ i := by
  show ((List.range d.waits.length).map _).getD i [] = _
  rw [List.getD_eq_getElem?_getD, List.getElem?_map]
  by_cases hi : i < d.waits.length
  · rw [List.getElem?_range hi]; rfl
  · rw [List.getElem?_eq_none (by simpa using hi)]
    have : d.at_ i = [] := by unfold at_; rw [List.getD_eq_getElem?_getD, List.getElem?_eq_none (by omega)]; rfl
    rw [this]
    split <;> rfl
theorem part_len (d : Dk) (keep : List Int) (j : Nat) : (d.part keep j).lasts.length = d.lasts.length := by simp [part]
theorem part_get (d : Dk) (keep : List Int) (j i : Nat) (hi : i < d.lasts.length) : (d.part keep j).lasts[i]? = some (if i ∈ d.busy.take j then d.keptAt keep (d.busy.idxOf i) i else d.last i) := by
  show ((List.range d.lasts.length).map _)[i]? = _
  rw [List.getElem?_map, List.getElem?_range hi]
  rfl
theorem part_zero (d : Dk) (keep : List Int) : d.part keep 0 = d := by
  have h1 : ((List.range d.lasts.length).map fun i => if i ∈ d.busy.take 0 then d.keptAt keep (d.busy.idxOf i) i else d.last i) = d.lasts := by
    apply List.ext_getElem?
    intro i
    rw [List.getElem?_map]
    by_cases hi : i < d.lasts.length
    · rw [List.getElem?_range hi, List.getElem?_eq_getElem hi]
      simp [last, hi]
    · rw [List.getElem?_eq_none (by simpa using hi), List.getElem?_eq_none (by omega)]
      rfl
  have h2 : ((List.range d.waits.length).map fun i => if i ∈ d.busy.take 0 then [] else d.at_ i) = d.waits := by
    apply List.ext_getElem?
    intro i
    rw [List.getElem?_map]
    by_cases hi : i < d.waits.length
    · rw [List.getElem?_range hi, List.getElem?_eq_getElem hi]
      simp [at_, hi]
    · rw [List.getElem?_eq_none (by simpa using hi), List.getElem?_eq_none (by omega)]
      rfl
  unfold part
  rw [h1, h2]
theorem busy_take_succ (d : Dk) (j i : Nat) (hj : j < d.busy.length) : i ∈ d.busy.take (j + 1) ↔ i ∈ d.busy.take j ∨ i = d.busy[j] := by
  rw [List.take_succ_eq_append_getElem hj, List.mem_append, List.mem_singleton]
theorem busy_idx (d : Dk) (j : Nat) (hj : j < d.busy.length) : d.busy.idxOf d.busy[j] = j := d.busy_nodup.idxOf_getElem j hj
theorem busy_get_notin (d : Dk) (j : Nat) (hj : j < d.busy.length) : d.busy[j] ∉ d.busy.take j := by
  intro h
  obtain ⟨k, hk, e⟩ := List.mem_iff_getElem.1 h
  rw [List.getElem_take] at e
  have hk2 : k < j := by rw [List.length_take] at hk; omega
  have h1 := busy_idx d k (by omega)
  have h2 := busy_idx d j hj
  rw [e, h2] at h1
  omega
theorem part_succ (d : Dk) (keep : List Int) (j : Nat) (hj : j < d.busy.length) : (d.part keep (j + 1)).lasts = (d.part keep j).lasts.set d.busy[j] (d.keptAt keep j d.busy[j]) := by
  apply List.ext_getElem?
  intro i
  have hb := (busy_mem.1 (List.getElem_mem hj)).1
  by_cases hi : i < d.lasts.length
  · rw [part_get _ _ _ _ hi, List.getElem?_set, part_len]
    by_cases e : d.busy[j] = i
    · subst e
      rw [if_pos rfl, if_pos hi, if_pos ((busy_take_succ d j _ hj).2 (.inr rfl)), busy_idx d j hj]
    · rw [if_neg e, part_get _ _ _ _ hi]
      have : (i ∈ d.busy.take (j + 1)) ↔ (i ∈ d.busy.take j) := by
        rw [busy_take_succ d j i hj]
        exact ⟨fun h => h.elim id (fun h => absurd h.symm e), .inl⟩
      simp only [this]
  · rw [List.getElem?_eq_none (by rw [part_len]; omega), List.getElem?_eq_none (by rw [List.length_set, part_len]; omega)]
theorem crash_now {d : Dk} (hl : d.waits.length = d.lasts.length) (keep : List Int) (i : Nat) : (d.crash keep).at_ i = [] := by
  show (d.part keep d.busy.length).at_ i = []
  rw [part_at, List.take_length]
  split
  · rfl
  · rename_i h
    rw [busy_mem] at h
    by_cases hi : i < d.lasts.length
    · apply Classical.byContradiction
      intro hc
      exact h ⟨hi, hc⟩
    · unfold at_
      rw [List.getD_eq_getElem?_getD, List.getElem?_eq_none (by omega)]
      rfl
theorem kept_size {d : Dk} (h : d.wf) (keep : List Int) (k i : Nat) (hi : i < d.lasts.length) : (d.keptAt keep k i).size = 64 := by
  unfold keptAt
  split
  · rename_i hc
    have hlt : choice (d.at_ i) keep k - 1 < (d.at_ i).length := by
      unfold choice at hc ⊢
      split at hc
      · rename_i hk
        rw [if_pos hk]
        have h1 := Int.emod_lt_of_pos (keep.getD k 0) (show (0 : Int) < ((d.at_ i).length : Int) + 1 by omega)
        have h2 := Int.emod_nonneg (keep.getD k 0) (show ((d.at_ i).length : Int) + 1 ≠ 0 by omega)
        omega
      · omega
    rw [List.getD_eq_getElem?_getD, List.getElem?_eq_getElem hlt]
    have hm : (d.at_ i)[choice (d.at_ i) keep k - 1] ∈ d.at_ i := List.getElem_mem hlt
    have hmem : d.at_ i ∈ d.waits := by
      unfold at_
      rw [List.getD_eq_getElem?_getD, List.getElem?_eq_getElem (by rw [h.len]; exact hi)]
      exact List.getElem_mem _
    exact h.waits _ hmem _ hm
  · unfold last
    rw [List.getD_eq_getElem?_getD, List.getElem?_eq_getElem hi]
    exact h.lasts _ (List.getElem_mem _)
theorem crash_pend {d : Dk} (h : d.wf) (keep : List Int) : (d.crash keep).pend = 0 := by
  unfold pend
  have : ∀ l ∈ (d.crash keep).waits, l = [] := by
    intro l hl
    obtain ⟨i, hi, rfl⟩ := List.mem_iff_getElem.1 hl
    have := crash_now h.len keep i
    unfold at_ at this
    rw [List.getD_eq_getElem?_getD, List.getElem?_eq_getElem hi] at this
    exact this
  generalize (d.crash keep).waits = L at *
  induction L with
  | nil => rfl
  | cons x L ih => rw [List.map_cons, List.sum_cons, ih (fun l hl => this l (by simp [hl])), this x (by simp)]; rfl
theorem crash_wf {d : Dk} (h : d.wf) (keep : List Int) : (d.crash keep).wf := by
  have hl : (d.crash keep).lasts.length = d.lasts.length := part_len _ _ _
  refine ⟨by rw [hl]; simp [crash, part, h.len], by rw [hl]; exact h.pos, by rw [hl]; exact h.most, ?_, ?_, by simp [crash], by simp [crash], by rw [crash_pend h]; omega⟩
  · intro b hb
    have hb' : b ∈ (d.part keep d.busy.length).lasts := hb
    obtain ⟨i, hi, rfl⟩ := List.mem_iff_getElem.1 hb'
    rw [part_len] at hi
    have := part_get d keep d.busy.length i hi
    rw [List.getElem?_eq_getElem (by rw [part_len]; exact hi)] at this
    rw [Option.some.inj this]
    split
    · exact kept_size h keep _ i hi
    · unfold last
      rw [List.getD_eq_getElem?_getD, List.getElem?_eq_getElem hi]
      exact h.lasts _ (List.getElem_mem _)
  · intro l hl b hb
    obtain ⟨i, hi, rfl⟩ := List.mem_iff_getElem.1 hl
    have := crash_now h.len keep i
    unfold at_ at this
    rw [List.getD_eq_getElem?_getD, List.getElem?_eq_getElem hi] at this
    have e : (d.crash keep).waits[i] = [] := this
    rw [e] at hb
    simp at hb
end Dk

/-- The entries of the first j sectors are struck. -/
def mPart (m : List (Int × Value)) (K : List Nat) (j : Nat) : List (Int × Value) := m.filter fun q => decide (q.1 ∉ (K.take j).map (Nat.cast : Nat → Int))
theorem mPart_zero (m : List (Int × Value)) (K : List Nat) : mPart m K 0 = m := by
  unfold mPart
  rw [List.filter_eq_self]
  simp
theorem mPart_succ (m : List (Int × Value)) (K : List Nat) (j : Nat) (hj : j < K.length) : delA (mPart m K j) (K[j] : Int) = mPart m K (j + 1) := by
  unfold mPart delA
  rw [List.filter_filter]
  refine List.filter_congr fun q _ => ?_
  rw [List.take_succ_eq_append_getElem hj]
  simp only [List.map_append, List.map_cons, List.map_nil, List.mem_append, List.mem_singleton, not_or, Bool.decide_and]
  rw [Bool.and_comm]
theorem keys_sorted {w : World} {d : Dk} {m : List (Int × Value)} (h4 : WaitsAt w m d.waits) (hl : d.waits.length = d.lasts.length) (hn : (m.map (·.1)).Nodup) :
    (m.map (·.1)).mergeSort leI = d.busy.map (Nat.cast : Nat → Int) := by
  have hb : (d.busy.map (Nat.cast : Nat → Int)).Nodup := by
    rw [List.Nodup, List.pairwise_map]
    exact List.Pairwise.imp (fun h e => h (Int.ofNat.inj e)) d.busy_nodup
  have hp : (m.map (·.1)).Perm (d.busy.map (Nat.cast : Nat → Int)) := by
    refine (List.perm_ext_iff_of_nodup hn hb).2 fun x => ?_
    rw [List.mem_map]
    constructor
    · rintro ⟨q, hq, rfl⟩
      obtain ⟨i, e, hi, h0, -⟩ := h4.each q hq
      exact List.mem_map.2 ⟨i, Dk.busy_mem.2 ⟨by omega, h0⟩, by rw [e]⟩
    · intro hx
      obtain ⟨i, hi, rfl⟩ := List.mem_map.1 hx
      obtain ⟨-, h0⟩ := Dk.busy_mem.1 hi
      exact List.mem_map.1 (h4.all i h0)
  have tr : ∀ a b c : Int, leI a b = true → leI b c = true → leI a c = true := fun a b c h1 h2 => by simp only [leI, decide_eq_true_eq] at *; omega
  have to : ∀ a b : Int, (leI a b || leI b a) = true := fun a b => by simp only [leI, Bool.or_eq_true, decide_eq_true_eq]; omega
  refine List.Perm.eq_of_pairwise (le := fun a b => leI a b = true) (fun a b _ _ h1 h2 => ?_) (List.pairwise_mergeSort tr to _) ?_ ((List.mergeSort_perm _ leI).trans hp)
  · simp only [leI, decide_eq_true_eq] at h1 h2
    omega
  · rw [List.pairwise_map]
    have : (List.range d.lasts.length).Pairwise (· < ·) := List.pairwise_lt_range
    refine (this.filter _).imp fun h => ?_
    simp only [leI, decide_eq_true_eq]
    exact Int.ofNat_le.2 (Nat.le_of_lt h)
end Go.Proofs.YtpfbgmfkeofefaaGreat
