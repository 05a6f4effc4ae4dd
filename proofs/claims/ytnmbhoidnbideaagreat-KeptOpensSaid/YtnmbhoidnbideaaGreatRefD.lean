/-
  The document's disk, as plain data; and that it does what the disk does.
-/
import Derived.Test.YtnmbhoidnbideaaGreatFree
import Derived.Test.YtnmbhoidnbideaaGreatLaw7
namespace Go.Proofs.YtnmbhoidnbideaaGreat
open Go Go.RowKit

/-- The document's disk: what lasts, a list of writes, the fuse, whether the power is off. -/
structure Rd where
  lasts : List ByteArray
  ws : List (Int × ByteArray)
  fuse : Int
  off : Bool
/-- The writes of a sector. -/
def ofL (ws : List (Int × ByteArray)) (i : Int) : List ByteArray := (ws.filter fun x => decide (x.1 = i)).map (·.2)
theorem ofL_snoc (ws : List (Int × ByteArray)) (x : Int × ByteArray) (i : Int) : ofL (ws ++ [x]) i = if x.1 = i then ofL ws i ++ [x.2] else ofL ws i := by
  unfold ofL
  rw [List.filter_append, List.map_append]
  by_cases h : x.1 = i
  · rw [if_pos h]; simp [h]
  · rw [if_neg h]; simp [h]
theorem ofL_out {ws : List (Int × ByteArray)} {i : Int} (h : ∀ x ∈ ws, x.1 ≠ i) : ofL ws i = [] := by
  unfold ofL
  rw [List.map_eq_nil_iff, List.filter_eq_nil_iff]
  intro x hx
  simpa using h x hx
/-- Writes done, one behind the other. -/
def setL (l : List ByteArray) (ws : List (Int × ByteArray)) : List ByteArray := ws.foldl (fun l x => l.set x.1.toNat x.2) l
theorem setL_snoc (l : List ByteArray) (ws : List (Int × ByteArray)) (x : Int × ByteArray) : setL l (ws ++ [x]) = (setL l ws).set x.1.toNat x.2 := by
  unfold setL
  rw [List.foldl_append]
  rfl
theorem setL_len (l : List ByteArray) (ws : List (Int × ByteArray)) : (setL l ws).length = l.length := by
  unfold setL
  induction ws generalizing l with
  | nil => rfl
  | cons x ws ih => rw [List.foldl_cons, ih, List.length_set]
theorem rev_cases {α : Type} {P : List α → Prop} (h0 : P []) (h1 : ∀ l x, P l → P (l ++ [x])) (l : List α) : P l := by
  have : ∀ n, ∀ l : List α, l.length = n → P l := by
    intro n
    induction n with
    | zero => intro l hl; rw [List.eq_nil_of_length_eq_zero hl]; exact h0
    | succ n ih =>
      intro l hl
      have hne : l ≠ [] := fun e => by rw [e] at hl; simp at hl
      rw [← List.dropLast_concat_getLast hne]
      exact h1 _ _ (ih _ (by rw [List.length_dropLast]; omega))
  exact this _ l rfl
theorem setL_get (l : List ByteArray) (ws : List (Int × ByteArray)) (hws : ∀ x ∈ ws, 0 ≤ x.1) (i : Nat) (hi : i < l.length) : (setL l ws)[i]? = some (((ofL ws (i : Int)).getLast?).getD (l.getD i ByteArray.empty)) := by
  revert hws
  refine rev_cases (P := fun ws => (∀ x ∈ ws, 0 ≤ x.1) → (setL l ws)[i]? = some (((ofL ws (i : Int)).getLast?).getD (l.getD i ByteArray.empty))) ?_ ?_ ws
  · intro _
    show l[i]? = some (l.getD i ByteArray.empty)
    rw [List.getD_eq_getElem?_getD, List.getElem?_eq_getElem hi]
    rfl
  · intro ws x ih hws
    have h0 := hws x (by simp)
    rw [setL_snoc, ofL_snoc, List.getElem?_set, setL_len]
    by_cases h : x.1 = (i : Int)
    · rw [if_pos (by omega), if_pos (by omega), if_pos h]
      simp
    · rw [if_neg (by omega), if_neg h]
      exact ih fun y hy => hws y (by simp [hy])
namespace Rd
def of_ (r : Rd) (i : Int) : List ByteArray := ofL r.ws i
def last (r : Rd) (i : Nat) : ByteArray := r.lasts.getD i ByteArray.empty
def out (r : Rd) (i : Int) : Bool := decide (i < 0 ∨ (r.lasts.length : Int) ≤ i)
def read (r : Rd) (i : Int) : ByteArray × Int :=
  if r.off then (ByteArray.empty, 14) else if r.out i then (ByteArray.empty, 1) else ((r.of_ i).getLast?.getD (r.last i.toNat), 0)
def act (r : Rd) : Rd × Bool := if r.fuse = 0 then ({ r with off := true }, false) else if 0 < r.fuse then ({ r with fuse := r.fuse - 1 }, true) else (r, true)
def push (r : Rd) (i : Int) (b : ByteArray) : Rd := { r with ws := r.ws ++ [(i, b)] }
def write (r : Rd) (i : Int) (b : ByteArray) : Rd × Int :=
  if r.off then (r, 14) else if r.out i || !decide (b.size = 64) then (r, 1) else if r.act.2 then (r.act.1.push i b, 0) else (r.act.1, 14)
def flush (r : Rd) : Rd := { r with lasts := setL r.lasts r.ws, ws := [] }
def sync (r : Rd) : Rd × Int := if r.off then (r, 14) else if r.act.2 then (r.act.1.flush, 0) else (r.act.1, 14)
/-- How many sectors ahead of one have writes. -/
def busyTo (r : Rd) (i : Nat) : Nat := ((List.range i).filter fun (j : Nat) => !(r.of_ (j : Int)).isEmpty).length
/-- What a crash leaves of a sector. -/
def keptOf (r : Rd) (keep : List Int) (i : Nat) : ByteArray :=
  if (r.of_ (i : Int)).isEmpty then r.last i else
  if 0 < Dk.choice (r.of_ (i : Int)) keep (r.busyTo i) then (r.of_ (i : Int)).getD (Dk.choice (r.of_ (i : Int)) keep (r.busyTo i) - 1) ByteArray.empty else r.last i
def crash (r : Rd) (keep : List Int) : Rd := ⟨(List.range r.lasts.length).map (r.keptOf keep), [], -1, false⟩
def setFuse (r : Rd) (n : Int) : Rd := { r with fuse := max n (-1) }
end Rd

/-- The document's disk is the disk. -/
structure RdIs (d : Dk) (r : Rd) : Prop where
  lasts : r.lasts = d.lasts
  fuse : r.fuse = d.fuse
  off : r.off = d.off
  pend : r.ws.length = d.pend
  low : ∀ x ∈ r.ws, 0 ≤ x.1 ∧ x.1 < d.lasts.length
  of_ : ∀ i : Nat, r.of_ (i : Int) = d.at_ i
section
variable {d : Dk} {r : Rd}
theorem RdIs.fresh (n : Nat) : RdIs (Dk.fresh n) ⟨List.replicate n zeros64, [], -1, false⟩ :=
  ⟨rfl, rfl, rfl, by show 0 = _; unfold Dk.pend Dk.fresh; simp, fun x hx => by simp at hx, fun i => by
    show [] = (Dk.fresh n).at_ i
    unfold Dk.at_ Dk.fresh
    simp only [List.getD_eq_getElem?_getD, List.getElem?_replicate]
    split <;> rfl⟩
theorem RdIs.out (h : RdIs d r) (i : Int) : r.out i = !d.there i := by
  unfold Rd.out Dk.there
  rw [h.lasts]
  by_cases c : 0 ≤ i ∧ i < d.lasts.length
  · rw [decide_eq_true c, decide_eq_false (by omega)]; rfl
  · rw [decide_eq_false c, decide_eq_true (by omega)]; rfl
theorem RdIs.read (h : RdIs d r) (i : Int) : r.read i = d.read i := by
  unfold Rd.read Dk.read
  rw [h.off, h.out]
  cases d.off
  · cases ht : d.there i
    · rfl
    · have hi : 0 ≤ i ∧ i < d.lasts.length := by simpa [Dk.there] using ht
      have e : r.of_ i = d.at_ i.toNat := by
        rw [← h.of_ i.toNat, Int.toNat_of_nonneg hi.1]
      rw [if_neg (by simp), if_neg (by simp), if_neg (by simp), if_pos rfl, e, Dk.now, Rd.last, Dk.last, h.lasts]
  · rfl
theorem RdIs.act (h : RdIs d r) : RdIs d.burn.1 r.act.1 ∧ r.act.2 = d.burn.2 := by
  unfold Rd.act Dk.burn
  rw [h.fuse]
  split
  · exact ⟨⟨h.lasts, rfl, rfl, h.pend, h.low, h.of_⟩, rfl⟩
  · split
    · exact ⟨⟨h.lasts, by show d.fuse - 1 = d.fuse - 1; rfl, h.off, h.pend, h.low, h.of_⟩, rfl⟩
    · exact ⟨h, rfl⟩
theorem RdIs.push (h : RdIs d r) (hw : d.waits.length = d.lasts.length) (i : Nat) (b : ByteArray) (hi : i < d.lasts.length) : RdIs (d.push i b) (r.push (i : Int) b) := by
  refine ⟨h.lasts, h.fuse, h.off, ?_, fun x hx => ?_, fun j => ?_⟩
  · show (r.ws ++ [((i : Int), b)]).length = _
    rw [push_pend _ _ _ (by omega), List.length_append, h.pend]
    rfl
  · rcases List.mem_append.1 hx with e | e
    · exact h.low x e
    · rw [List.mem_singleton.1 e]
      show 0 ≤ (i : Int) ∧ (i : Int) < (d.lasts.length : Int)
      omega
  · show ofL (r.ws ++ [((i : Int), b)]) (j : Int) = _
    rw [ofL_snoc, push_at _ _ (by omega)]
    have e := h.of_ j
    unfold Rd.of_ at e
    rw [e]
    by_cases c : j = i
    · subst c; rw [if_pos rfl, if_pos rfl]
    · rw [if_neg (by show ¬ (i : Int) = (j : Int); omega), if_neg c]
theorem RdIs.write (h : RdIs d r) (hw : d.waits.length = d.lasts.length) (i : Int) (b : ByteArray) : RdIs (d.write i b).1 (r.write i b).1 ∧ (r.write i b).2 = (d.write i b).2 := by
  obtain ⟨a1, a2⟩ := h.act
  cases ho : d.off
  · cases ht : d.there i
    · have eD : d.write i b = (d, 1) := by unfold Dk.write; rw [ho, ht]; rfl
      have eR : r.write i b = (r, 1) := by unfold Rd.write; rw [h.off, ho, h.out, ht]; rfl
      rw [eD, eR]
      exact ⟨h, rfl⟩
    · have hi : 0 ≤ i ∧ i < d.lasts.length := by simpa [Dk.there] using ht
      by_cases hb : b.size = 64
      · have eD : d.write i b = if d.burn.2 then (d.burn.1.push i.toNat b, 0) else (d.burn.1, 14) := by unfold Dk.write; rw [ho, ht, decide_eq_true hb]; rfl
        have eR : r.write i b = if r.act.2 then (r.act.1.push i b, 0) else (r.act.1, 14) := by unfold Rd.write; rw [h.off, ho, h.out, ht, decide_eq_true hb]; rfl
        rw [eD, eR, a2]
        cases d.burn.2
        · exact ⟨a1, rfl⟩
        · refine ⟨?_, rfl⟩
          have := a1.push (by rw [Dk.burn_waits, Dk.burn_lasts]; exact hw) i.toNat b (by rw [Dk.burn_lasts]; omega)
          rw [Int.toNat_of_nonneg hi.1] at this
          exact this
      · have eD : d.write i b = (d, 1) := by unfold Dk.write; rw [ho, ht, decide_eq_false hb]; rfl
        have eR : r.write i b = (r, 1) := by unfold Rd.write; rw [h.off, ho, h.out, ht, decide_eq_false hb]; rfl
        rw [eD, eR]
        exact ⟨h, rfl⟩
  · have eD : d.write i b = (d, 14) := by unfold Dk.write; rw [ho]; rfl
    have eR : r.write i b = (r, 14) := by unfold Rd.write; rw [h.off, ho]; rfl
    rw [eD, eR]
    exact ⟨h, rfl⟩
theorem RdIs.flush (h : RdIs d r) : RdIs d.flush r.flush := by
  refine ⟨?_, h.fuse, h.off, ?_, fun x hx => by simp [Rd.flush] at hx, fun i => ?_⟩
  · show setL r.lasts r.ws = (List.range d.lasts.length).map d.now
    refine List.ext_getElem? fun i => ?_
    by_cases hi : i < d.lasts.length
    · rw [setL_get _ _ (fun x hx => (h.low x hx).1) i (by rw [h.lasts]; exact hi), List.getElem?_map, List.getElem?_range hi, Option.map_some]
      have e := h.of_ i
      unfold Rd.of_ at e
      rw [e, Dk.now, Dk.last, h.lasts]
    · rw [List.getElem?_eq_none (by rw [setL_len, h.lasts]; omega), List.getElem?_eq_none (by simpa using hi)]
  · rw [Dk.flush_pend]; rfl
  · show [] = ((d.waits.map fun _ => ([] : List ByteArray)).getD i [])
    rw [List.getD_eq_getElem?_getD, List.getElem?_map]
    cases d.waits[i]? <;> rfl
theorem RdIs.sync (h : RdIs d r) : RdIs d.sync.1 r.sync.1 ∧ r.sync.2 = d.sync.2 := by
  obtain ⟨a1, a2⟩ := h.act
  unfold Rd.sync Dk.sync
  rw [h.off, a2]
  cases d.off
  · cases d.burn.2
    · exact ⟨a1, rfl⟩
    · exact ⟨a1.flush, rfl⟩
  · exact ⟨h, rfl⟩
theorem idxOf_filter (p : Nat → Bool) {n i : Nat} (hi : i < n) (hp : p i = true) : ((List.range n).filter p).idxOf i = ((List.range i).filter p).length := by
  have e : List.range n = List.range i ++ (i :: (List.range (n - i - 1)).map (fun j => i + 1 + j)) := by
    refine List.ext_getElem? fun j => ?_
    by_cases hj : j < n
    · rw [List.getElem?_range hj]
      by_cases h1 : j < i
      · rw [List.getElem?_append_left (by simpa using h1), List.getElem?_range h1]
      · rw [List.getElem?_append_right (by simpa using h1), List.length_range]
        by_cases h2 : j = i
        · subst h2; simp
        · obtain ⟨k, rfl⟩ : ∃ k, j = i + (k + 1) := ⟨j - i - 1, by omega⟩
          rw [Nat.add_sub_cancel_left, List.getElem?_cons_succ, List.getElem?_map, List.getElem?_range (by omega)]
          simp only [Option.map_some, Option.some.injEq]
          omega
    · rw [List.getElem?_eq_none (by simpa using hj), List.getElem?_eq_none]
      simp
      omega
  rw [e, List.filter_append, List.filter_cons_of_pos hp, List.idxOf_append, if_neg]
  · simp
  · intro hm
    have := (List.mem_filter.1 hm).1
    simp at this
theorem RdIs.crash (h : RdIs d r) (hwf : d.wf) (keep : List Int) : RdIs (d.crash keep) (r.crash keep) := by
  refine ⟨?_, rfl, rfl, ?_, fun x hx => by simp [Rd.crash] at hx, fun i => ?_⟩
  · show (List.range r.lasts.length).map (r.keptOf keep) = (d.part keep d.busy.length).lasts
    rw [h.lasts]
    refine List.ext_getElem? fun i => ?_
    by_cases hi : i < d.lasts.length
    · rw [List.getElem?_map, List.getElem?_range hi, Option.map_some, Dk.part_get _ _ _ _ hi, List.take_length]
      congr 1
      have hlast : r.last i = d.last i := by rw [Rd.last, Dk.last, h.lasts]
      have hbt : ∀ j : Nat, r.of_ (j : Int) = d.at_ j := h.of_
      unfold Rd.keptOf
      rw [hbt i, hlast]
      by_cases h0 : d.at_ i = []
      · rw [if_pos (by rw [h0]; rfl), if_neg]
        rw [Dk.busy_mem]
        exact fun c => c.2 h0
      · have hne : (d.at_ i).isEmpty = false := by
          cases hx : d.at_ i with
          | nil => exact absurd hx h0
          | cons _ _ => rfl
        have hidx : r.busyTo i = d.busy.idxOf i := by
          unfold Dk.busy Rd.busyTo
          rw [idxOf_filter _ hi (by rw [hne]; rfl)]
          simp only [hbt]
        rw [hne, if_neg (by simp), if_pos (Dk.busy_mem.2 ⟨hi, h0⟩), hidx]
        rfl
    · rw [List.getElem?_eq_none (by simpa using hi), List.getElem?_eq_none (by rw [Dk.part_len]; omega)]
  · rw [Dk.crash_pend hwf]; rfl
  · rw [Dk.crash_now hwf.len]; rfl
theorem RdIs.setFuse (h : RdIs d r) (n : Int) : RdIs (d.setFuse n) (r.setFuse n) := ⟨h.lasts, rfl, h.off, h.pend, h.low, h.of_⟩
end
end Go.Proofs.YtnmbhoidnbideaaGreat
