/-
  The document's disk, as plain data; and that it does what the disk does.
-/
import Derived.Test.YtpfbgmfkeofefaaGreatFree
import Derived.Test.YtpfbgmfkeofefaaGreatLaw7
import Derived.Test.YtpfbgmfkeofefaaGreatKeptA
import Derived.Outline
import Derived.Test.YtpfbgmfkeofefaaGreatLawB
import Derived.Test.YtpfbgmfkeofefaaGreatTakeT
namespace Go.Proofs.YtpfbgmfkeofefaaGreat
open Go Go.RowKit

/-- The document's disk: what lasts, a list of writes, the fuse, whether the power is off. -/
structure Rd where
  lasts : List ByteArray
  ws : List (Int × ByteArray)
  fuse : Int
  off : Bool
/-- The writes of a sector. -/
def ofL (ws : List (Int × ByteArray)) (i : Int) : List ByteArray := (ws.filter fun x => decide (x.1 = i)).map (·.2)
theorem ofL_snoc (ws : List (Int × ByteArray)) (x : Int × ByteArray) (i : Int) : ofL (ws ++ [x]) i = if x.1 = i then ofL ws i ++ [x.2] else ofL ws i := by
  unfold ofL
  rw [List.filter_append, List.map_append]
  by_cases h : x.1 = i
  · rw [if_pos h]; simp [h]
  · rw [if_neg h]; simp [h]
theorem ofL_out {ws : List (Int × ByteArray)} {i : Int} (h : ∀ x ∈ ws, x.1 ≠ i) : ofL ws i = [] := by
  unfold ofL
  rw [List.map_eq_nil_iff, List.filter_eq_nil_iff]
  intro x hx
  simpa using h x hx
/-- Writes done, one behind the other. -/
def setL (l : List ByteArray) (ws : List (Int × ByteArray)) : List ByteArray := ws.foldl (fun l x => l.set x.1.toNat x.2) l
theorem setL_snoc (l : List ByteArray) (ws : List (Int × ByteArray)) (x : Int × ByteArray) : setL l (ws ++ [x]) = (setL l ws).set x.1.toNat x.2 := by
  unfold setL
  rw [List.foldl_append]
  rfl
theorem setL_len (l : List ByteArray) (ws : List (Int × ByteArray)) : (setL l ws).length = l.length := by
  unfold setL
  induction ws generalizing l with
  | nil => rfl
  | cons x ws ih => rw [List.foldl_cons, ih, List.length_set]
theorem rev_cases {α : Type} {P : List α → Prop} (h0 : P []) (h1 : ∀ l x, P l → P (l ++ [x])) (l : List α) : P l := by
  have : ∀ n, ∀ l : List α, l.length = n → P l := by
    intro n
    induction n with
    | zero => intro l hl; rw [List.eq_nil_of_length_eq_zero hl]; exact h0
    | succ n ih =>
      intro l hl
      have hne : l ≠ [] := fun e => by rw [e] at hl; simp at hl
      rw [← List.dropLast_concat_getLast hne]
      exact h1 _ _ (ih _ (by rw [List.length_dropLast]; omega))
  exact this _ l rfl
theorem setL_get (l : List ByteArray) (ws : List (Int × ByteArray)) (hws : ∀ x ∈ ws, 0 ≤ x.1) (i : Nat) (hi : i < l.length) : (setL l ws)[i]? = some (((ofL ws (i : Int)).getLast?).getD (l.getD i ByteArray.empty)) := by
  revert hws
  refine rev_cases (P := fun ws => (∀ x ∈ ws, 0 ≤ x.1) → (setL l ws)[i]? = some (((ofL ws (i : Int)).getLast?).getD (l.getD i ByteArray.empty))) ?_ ?_ ws
  · intro _
    show l[i]? = some (l.getD i ByteArray.empty)
    rw [List.getD_eq_getElem?_getD, List.getElem?_eq_getElem hi]
    rfl
  · intro ws x ih hws
    have h0 := hws x (by simp)
    rw [setL_snoc, ofL_snoc, List.getElem?_set, setL_len]
    by_cases h : x.1 = (i : Int)
    · rw [if_pos (by omega), if_pos (by omega), if_pos h]
      simp
    · rw [if_neg (by omega), if_neg h]
      exact ih fun y hy => hws y (by simp [hy])
namespace Rd
def of_ (r : Rd) (i : Int) : List ByteArray := ofL r.ws i
def last (r : Rd) (i : Nat) : ByteArray := r.lasts.getD i ByteArray.empty
def out (r : Rd) (i : Int) : Bool := decide (i < 0 ∨ (r.lasts.length : Int) ≤ i)
def read (r : Rd) (i : Int) : ByteArray × Int :=
  if r.off then (ByteArray.empty, 14) else if r.out i then (ByteArray.empty, 1) else ((r.of_ i).getLast?.getD (r.last i.toNat), 0)
def act (r : Rd) : Rd × Bool := if r.fuse = 0 then ({ r with off := true }, false) else if 0 < r.fuse then ({ r with fuse := r.fuse - 1 }, true) else (r, true)
def push (r : Rd) (i : Int) (b : ByteArray) : Rd := { r with ws := r.ws ++ [(i, b)] }
def write (r : Rd) (i : Int) (b : ByteArray) : Rd × Int :=
  if r.off then (r, 14) else if r.out i || !decide (b.size = 64) then (r, 1) else if r.act.2 then (r.act.1.push i b, 0) else (r.act.1, 14)
def flush (r : Rd) : Rd := { r with lasts := setL r.lasts r.ws, ws := [] }
def sync (r : Rd) : Rd × Int := if r.off then (r, 14) else if r.act.2 then (r.act.1.flush, 0) else (r.act.1, 14)
/-- How many sectors ahead of one have writes. -/
def busyTo (r : Rd) (i : Nat) : Nat := ((List.range i).filter fun (j : Nat) => !(r.of_ (j : Int)).isEmpty).length
/-- What a crash leaves of a sector. -/
def keptOf (r : Rd) (keep : List Int) (i : Nat) : ByteArray :=
  if (r.of_ (i : Int)).isEmpty then r.last i else
  if 0 < Dk.choice (r.of_ (i : Int)) keep (r.busyTo i) then (r.of_ (i : Int)).getD (Dk.choice (r.of_ (i : Int)) keep (r.busyTo i) - 1) ByteArray.empty else r.last i
def crash (r : Rd) (keep : List Int) : Rd := ⟨(List.range r.lasts.length).map (r.keptOf keep), [], -1, false⟩
def setFuse (r : Rd) (n : Int) : Rd := { r with fuse := max n (-1) }
end Rd

/-- The document's disk is the disk. -/
structure RdIs (d : Dk) (r : Rd) : Prop where
  lasts : r.lasts = d.lasts
  fuse : r.fuse = d.fuse
  off : r.off = d.off
  pend : r.ws.length = d.pend
  low : ∀ x ∈ r.ws, 0 ≤ x.1 ∧ x.1 < d.lasts.length
  of_ : ∀ i : Nat, r.of_ (i : Int) = d.at_ i
section
variable {d : Dk} {r : Rd}
theorem RdIs.fresh (n : Nat) : RdIs (Dk.fresh n) ⟨List.replicate n zeros64, [], -1, false⟩ :=
  ⟨rfl, rfl, rfl, by show 0 = _; unfold Dk.pend Dk.fresh; simp, fun x hx => by simp at hx, fun i => by
    show [] = (Dk.fresh n).at_ i
    unfold Dk.at_ Dk.fresh
    simp only [List.getD_eq_getElem?_getD, List.getElem?_replicate]
    split <;> rfl⟩
theorem RdIs.out (h : RdIs d r) (i : Int) : r.out i = !d.there i := by
  unfold Rd.out Dk.there
  rw [h.lasts]
  by_cases c : 0 ≤ i ∧ i < d.lasts.length
  · rw [decide_eq_true c, decide_eq_false (by omega)]; rfl
  · rw [decide_eq_false c, decide_eq_true (by omega)]; rfl
theorem RdIs.read (h : RdIs d r) (i : Int) : r.read i = d.read i := by
  unfold Rd.read Dk.read
  rw [h.off, h.out]
  cases d.off
  · cases ht : d.there i
    · rfl
    · have hi : 0 ≤ i ∧ i < d.lasts.length := by simpa [Dk.there] using ht
      have e : r.of_ i = d.at_ i.toNat := by
        rw [← h.of_ i.toNat, Int.toNat_of_nonneg hi.1]
      rw [if_neg (by simp), if_neg (by simp), if_neg (by simp), if_pos rfl, e, Dk.now, Rd.last, Dk.last, h.lasts]
  · rfl
theorem RdIs.act (h : RdIs d r) : RdIs d.burn.1 r.act.1 ∧ r.act.2 = d.burn.2 := by
  unfold Rd.act Dk.burn
  rw [h.fuse]
  split
  · exact ⟨⟨h.lasts, rfl, rfl, h.pend, h.low, h.of_⟩, rfl⟩
  · split
    · exact ⟨⟨h.lasts, by show d.fuse - 1 = d.fuse - 1; rfl, h.off, h.pend, h.low, h.of_⟩, rfl⟩
    · exact ⟨h, rfl⟩
theorem RdIs.push (h : RdIs d r) (hw : d.waits.length = d.lasts.length) (i : Nat) (b : ByteArray) (hi : i < d.lasts.length) : RdIs (d.push i b) (r.push (i : Int) b) := by
  refine ⟨h.lasts, h.fuse, h.off, ?_, fun x hx => ?_, fun j => ?_⟩
  · show (r.ws ++ [((i : Int), b)]).length = _
    rw [push_pend _ _ _ (by omega), List.length_append, h.pend]
    rfl
  · rcases List.mem_append.1 hx with e | e
    · exact h.low x e
    · rw [List.mem_singleton.1 e]
      show 0 ≤ (i : Int) ∧ (i : Int) < (d.lasts.length : Int)
      omega
  · show ofL (r.ws ++ [((i : Int), b)]) (j : Int) = _
    rw [ofL_snoc, push_at _ _ (by omega)]
    have e := h.of_ j
    unfold Rd.of_ at e
    rw [e]
    by_cases c : j = i
    · subst c; rw [if_pos rfl, if_pos rfl]
    · rw [if_neg (by show ¬ (i : Int) = (j : Int); omega), if_neg c]
theorem RdIs.write (h : RdIs d r) (hw : d.waits.length = d.lasts.length) (i : Int) (b : ByteArray) : RdIs (d.write i b).1 (r.write i b).1 ∧ (r.write i b).2 = (d.write i b).2 := by
  obtain ⟨a1, a2⟩ := h.act
  cases ho : d.off
  · cases ht : d.there i
    · have eD : d.write i b = (d, 1) := by unfold Dk.write; rw [ho, ht]; rfl
      have eR : r.write i b = (r, 1) := by unfold Rd.write; rw [h.off, ho, h.out, ht]; rfl
      rw [eD, eR]
      exact ⟨h, rfl⟩
    · have hi : 0 ≤ i ∧ i < d.lasts.length := by simpa [Dk.there] using ht
      by_cases hb : b.size = 64
      · have eD : d.write i b = if d.burn.2 then (d.burn.1.push i.toNat b, 0) else (d.burn.1, 14) := by unfold Dk.write; rw [ho, ht, decide_eq_true hb]; rfl
        have eR : r.write i b = if r.act.2 then (r.act.1.push i b, 0) else (r.act.1, 14) := by unfold Rd.write; rw [h.off, ho, h.out, ht, decide_eq_true hb]; rfl
        rw [eD, eR, a2]
        cases d.burn.2
        · exact ⟨a1, rfl⟩
        · refine ⟨?_, rfl⟩
          have := a1.push (by rw [Dk.burn_waits, Dk.burn_lasts]; exact hw) i.toNat b (by rw [Dk.burn_lasts]; omega)
          rw [Int.toNat_of_nonneg hi.1] at this
          exact this
      · have eD : d.write i b = (d, 1) := by unfold Dk.write; rw [ho, ht, decide_eq_false hb]; rfl
        have eR : r.write i b = (r, 1) := by unfold Rd.write; rw [h.off, ho, h.out, ht, decide_eq_false hb]; rfl
        rw [eD, eR]
        exact ⟨h, rfl⟩
  · have eD : d.write i b = (d, 14) := by unfold Dk.write; rw [ho]; rfl
    have eR : r.write i b = (r, 14) := by unfold Rd.write; rw [h.off, ho]; rfl
    rw [eD, eR]
    exact ⟨h, rfl⟩
theorem RdIs.flush (h : RdIs d r) : RdIs d.flush r.flush := by
  refine ⟨?_, h.fuse, h.off, ?_, fun x hx => by simp [Rd.flush] at hx, fun i => ?_⟩
  · show setL r.lasts r.ws = (List.range d.lasts.length).map d.now
    refine List.ext_getElem? fun i => ?_
    by_cases hi : i < d.lasts.length
    · rw [setL_get _ _ (fun x hx => (h.low x hx).1) i (by rw [h.lasts]; exact hi), List.getElem?_map, List.getElem?_range hi, Option.map_some]
      have e := h.of_ i
      unfold Rd.of_ at e
      rw [e, Dk.now, Dk.last, h.lasts]
    · rw [List.getElem?_eq_none (by rw [setL_len, h.lasts]; omega), List.getElem?_eq_none (by simpa using hi)]
  · rw [Dk.flush_pend]; rfl
  · show [] = ((d.waits.map fun _ => ([] : List ByteArray)).getD i [])
    rw [List.getD_eq_getElem?_getD, List.getElem?_map]
    cases d.waits[i]? <;> rfl
theorem RdIs.sync (h : RdIs d r) : RdIs d.sync.1 r.sync.1 ∧ r.sync.2 = d.sync.2 := by
  obtain ⟨a1, a2⟩ := h.act
  unfold Rd.sync Dk.sync
  rw [h.off, a2]
  cases d.off
  · cases d.burn.2
    · exact ⟨a1, rfl⟩
    · exact ⟨a1.flush, rfl⟩
  · exact ⟨h, rfl⟩
theorem idxOf_filter (p : Nat → Bool) {n i : Nat} (hi : i < n) (hp : p i = true) : ((List.range n).filter p).idxOf i = ((List.range i).filter p).length := by
  have e : List.range n = List.range i ++ (i :: (List.range (n - i - 1)).map (fun j => i + 1 + j)) := by
    refine List.ext_getElem? fun j => ?_
    by_cases hj : j < n
    · rw [List.getElem?_range hj]
      by_cases h1 : j < i
      · rw [List.getElem?_append_left (by simpa using h1), List.getElem?_range h1]
      · rw [List.getElem?_append_right (by simpa using h1), List.length_range]
        by_cases h2 : j = i
        · subst h2; simp
        · obtain ⟨k, rfl⟩ : ∃ k, j = i + (k + 1) := ⟨j - i - 1, by omega⟩
          rw [Nat.add_sub_cancel_left, List.getElem?_cons_succ, List.getElem?_map, List.getElem?_range (by omega)]
          simp only [Option.map_some, Option.some.injEq]
          omega
    · rw [List.getElem?_eq_none (by simpa using hj), List.getElem?_eq_none]
      simp
      omega
  rw [e, List.filter_append, List.filter_cons_of_pos hp, List.idxOf_append, if_neg]
  · simp
  · intro hm
    have := (List.mem_filter.1 hm).1
    simp at this
theorem RdIs.crash (h : RdIs d r) (hwf : d.wf) (keep : List Int) : RdIs (d.crash keep) (r.crash keep) := by
  refine ⟨?_, rfl, rfl, ?_, fun x hx => by simp [Rd.crash] at hx, fun i => ?_⟩
  · show (List.range r.lasts.length).map (r.keptOf keep) = (d.part keep d.busy.length).lasts
    rw [h.lasts]
    refine List.ext_getElem? fun i => ?_
    by_cases hi : i < d.lasts.length
    · rw [List.getElem?_map, List.getElem?_range hi, Option.map_some, Dk.part_get _ _ _ _ hi, List.take_length]
      congr 1
      have hlast : r.last i = d.last i := by rw [Rd.last, Dk.last, h.lasts]
      have hbt : ∀ j : Nat, r.of_ (j : Int) = d.at_ j := h.of_
      unfold Rd.keptOf
      rw [hbt i, hlast]
      by_cases h0 : d.at_ i = []
      · rw [if_pos (by rw [h0]; rfl), if_neg]
        rw [Dk.busy_mem]
        exact fun c => c.2 h0
      · have hne : (d.at_ i).isEmpty = false := by
          cases hx : d.at_ i with
          | nil => exact absurd hx h0
          | cons _ _ => rfl
        have hidx : r.busyTo i = d.busy.idxOf i := by
          unfold Dk.busy Rd.busyTo
          rw [idxOf_filter _ hi (by rw [hne]; rfl)]
          simp only [hbt]
        rw [hne, if_neg (by simp), if_pos (Dk.busy_mem.2 ⟨hi, h0⟩), hidx]
        rfl
    · rw [List.getElem?_eq_none (by simpa using hi), List.getElem?_eq_none (by rw [Dk.part_len]; omega)]
  · rw [Dk.crash_pend hwf]; rfl
  · rw [Dk.crash_now hwf.len]; rfl
theorem RdIs.setFuse (h : RdIs d r) (n : Int) : RdIs (d.setFuse n) (r.setFuse n) := ⟨h.lasts, rfl, h.off, h.pend, h.low, h.of_⟩
end
end Go.Proofs.YtpfbgmfkeofefaaGreat

/-
  The document's disk: what its calls do, to its value in memory.
-/
namespace Go.Proofs.YtpfbgmfkeofefaaGreat
open Go Go.RowKit

def wrs (ws : List (Int × ByteArray)) : List Value := ws.flatMap fun x => [.int .i64 x.1, .string x.2]
theorem wrs_len (ws : List (Int × ByteArray)) : (wrs ws).length = ws.length * 2 := by
  induction ws with
  | nil => rfl
  | cons x ws ih => simp only [wrs, List.flatMap_cons, List.length_append, List.length_cons, List.length_nil] at ih ⊢; omega
theorem wrs_one (ws : List (Int × ByteArray)) : ∀ u ∈ wrs ws, u.oneCell' = true := by
  intro u hu
  obtain ⟨x, _, hx⟩ := List.mem_flatMap.1 hu
  simp only [List.mem_cons, List.not_mem_nil, or_false] at hx
  rcases hx with rfl | rfl <;> rfl
theorem wrs_get (ws : List (Int × ByteArray)) (i : Nat) (hi : i < ws.length) : (wrs ws)[i * 2]? = some (.int .i64 ws[i].1) ∧ (wrs ws)[i * 2 + 1]? = some (.string ws[i].2) := by
  induction ws generalizing i with
  | nil => simp at hi
  | cons x ws ih =>
    cases i with
    | zero => simp [wrs]
    | succ i =>
      have h := ih i (by simpa using hi)
      have e : (i + 1) * 2 = i * 2 + 1 + 1 := by omega
      rw [e]
      simp only [wrs, List.flatMap_cons, List.cons_append, List.nil_append, List.getElem?_cons_succ, List.getElem_cons_succ]
      exact h
theorem infoWr : (Tryz.prog.info? 117).map (fun i => (i.zero, i.size, i.bytes)) = some (some (.agg #[.int .i64 0, .string ByteArray.empty]), 2, 24) := by kernel_rfl

/-- The document's disk, as a value. -/
structure RdAt (w : World) (vl vw : Value) (r : Rd) : Prop where
  lasts : Own w 9 1 vl r.lasts.length (strs r.lasts)
  ws : Own w 117 2 vw r.ws.length (wrs r.ws)
abbrev Rd.row (vl vw : Value) (r : Rd) : Array Value := #[vl, vw, .int .i64 r.fuse, .bool r.off]
/-- What bounds it. -/
structure Rd.fits (r : Rd) : Prop where
  pos : 1 ≤ r.lasts.length
  lasts : r.lasts.length ≤ 5000
  ws : r.ws.length ≤ 1000000
  fuse : -1 ≤ r.fuse ∧ r.fuse ≤ 9223372036854775807
  low : ∀ x ∈ r.ws, 0 ≤ x.1 ∧ x.1 < r.lasts.length
  size : ∀ b ∈ r.lasts, b.size = 64
theorem RdIs.fits {d : Dk} {r : Rd} (h : RdIs d r) (hd : d.wf) : r.fits :=
  ⟨by rw [h.lasts]; exact hd.pos, by rw [h.lasts]; have := hd.most; omega, by rw [h.pend]; have := hd.room; omega, by rw [h.fuse]; exact ⟨hd.fuse, hd.fuse'⟩, by rw [h.lasts]; exact h.low, by rw [h.lasts]; exact hd.lasts⟩
theorem RdAt.upd {w w' : World} {vl vw : Value} {r : Rd} (h : RdAt w vl vw r) (hu : Upd (fun _ => False) w w') : RdAt w' vl vw r := ⟨h.lasts.upd hu (fun _ _ e => e), h.ws.upd hu (fun _ _ e => e)⟩
/-- What a call leaves: the disk's value, in its old memory or in new. -/
structure RdLeft (w w' : World) (vl vw vl' vw' : Value) (r : Rd) : Prop where
  at_ : RdAt w' vl' vw' r
  upd : Upd (fun _ => False) w w'
  loc : ∀ q, (vl'.ownBlock = some q ∨ vw'.ownBlock = some q) → (vl.ownBlock = some q ∨ vw.ownBlock = some q) ∨ w.heap.size ≤ q
set_option maxRecDepth 100000 in
set_option maxHeartbeats 800000 in
theorem of_c {w : World} {vl vw : Value} {r : Rd} (h : RdAt w vl vw r) (hf : r.fits) (i : Int) :
    Calls Tryz.prog 91 #[.agg (r.row vl vw), .int .i64 i] w fun e w' => ∃ v, e = .returned v ∧ Own w' 9 1 v (r.of_ i).length (strs (r.of_ i)) ∧ Upd (fun _ => False) w w' ∧ (∀ q, v.ownBlock = some q → w.heap.size ≤ q) := by
  obtain ⟨i0, hi0, hz0, hz1, hz2⟩ := info_parts infoStr
  obtain ⟨fl, fo, hfl⟩ : ∃ fl fo, r.row vl vw = #[vl, vw, .int .i64 fl, .bool fo] := ⟨_, _, rfl⟩
  rw [hfl]
  clear hfl
  have hn := hf.ws
  have hof : ∀ k, (hk : k < r.ws.length) → ofL (r.ws.take (k + 1)) i = if r.ws[k].1 = i then ofL (r.ws.take k) i ++ [r.ws[k].2] else ofL (r.ws.take k) i := by
    intro k hk
    rw [List.take_succ_eq_append_getElem hk, ofL_snoc]
  have hle : ∀ k, (ofL (r.ws.take k) i).length ≤ k := by
    intro k
    unfold ofL
    rw [List.length_map]
    exact Nat.le_trans (List.length_filter_le _ _) (by rw [List.length_take]; omega)
  have hall : ofL (r.ws.take r.ws.length) i = r.of_ i := by rw [List.take_length]; rfl
  obtain ⟨A, cap, rfl, -, -⟩ := h.ws.shape
  have hcell : ∀ w', Upd (fun _ => False) w w' → ∀ k (hk : k < r.ws.length), ∃ g, A = some ⟨g, 0, none⟩ ∧ w'.cell? ⟨g, k * 2, none⟩ = some (.int .i64 r.ws[k].1) ∧ w'.cell? ⟨g, k * 2 + 1, none⟩ = some (.string r.ws[k].2) := by
    intro w' hu k hk
    obtain ⟨g, cap', e, -, -⟩ := h.ws.head (by omega)
    injection e with e1 e2 e3
    subst e1
    have hO := h.ws.upd hu (fun _ _ e => e)
    obtain ⟨c1, c2⟩ := wrs_get r.ws k hk
    exact ⟨g, rfl, by rw [hO.cellAt (k * 2) (by omega)]; exact c1, by rw [hO.cellAt (k * 2 + 1) (by omega)]; exact c2⟩
  have HC := Lib.hid hcell
  have HO := Lib.hid (And.intro hof (And.intro hle hall))
  clear h hf hof hle hall hcell
  go_enter Tryz.func91, Tryz.ntmps91
  go_wp2_with fail
  go_loopw [5, 6] (fun lv iv wr => ∃ k : Nat, k ≤ r.ws.length ∧ iv = .int .i64 (k : Int) ∧ Own wr 9 1 lv (ofL (r.ws.take k) i).length (strs (ofL (r.ws.take k) i)) ∧ Upd (fun _ => False) w wr ∧ (∀ q, lv.ownBlock = some q → w.heap.size + 1 ≤ q) ∧ Blk wr w.heap.size 33 #[vl, .slice A r.ws.length cap, .int .i64 fl, .bool fo]) (fun _ iv _ => r.ws.length - (intOf iv).toNat)
  case atStart => exact ⟨0, by omega, rfl, Own.nil _ _ _, (Upd.refl _ w).alloc _, by simp [Value.ownBlock], Blk.new w _ _⟩
  case round =>
    obtain ⟨k, hk, rfl, hO, hU, hN, hB⟩ := hrel
    have hcb := hB.cells4
    by_cases hlt : k < r.ws.length
    · obtain ⟨g, rfl, c0, c1⟩ := HC.out wr hU k hlt
      have hst := HO.out.1 k hlt
      have hlk := HO.out.2.1 k
      obtain ⟨x, hx⟩ : ∃ x, r.ws[k] = x := ⟨_, rfl⟩
      rw [hx] at c0 c1 hst
      obtain ⟨x1, x2⟩ := x
      simp only at c0 c1 hst
      have HS := Lib.hid (And.intro hO (And.intro hU (And.intro hN hB)))
      clear hx hO hU hN hB
      by_cases he : x1 = i
      · have he' : (x1 == i) = true := by rw [he, beq_self_eq_true]
        rw [if_pos he] at hst
        have HT := Lib.hid hst
        clear he hst
        go_wp2_with (at_builtin; refine wpList_append_src rfl _ _ _ _ rfl 9 i0 _ 1 16 Tryz.underlying30 hi0 hz0 hz1 hz2 rfl u5 (ofL (r.ws.take k) i).length _ rfl (HS.out.1.alloc _) _ 1 [_] rfl (Src.of_new Tryz.underlying30 _) (by simp [Value.oneCell']) (by unfold maxLen; omega) (by omega) ?_; intro v2 w2 hO2 hU2 hl2 hs2)
        have hbx : Blk w2 w.heap.size 33 #[vl, .slice (some ⟨g, 0, none⟩) r.ws.length cap, .int .i64 fl, .bool fo] := (HS.out.2.2.2.alloc _).upd hU2 (fun e => by have := HS.out.2.2.1 _ e; omega)
        have H2 := Lib.hid (And.intro hO2 (And.intro hU2 (And.intro hl2 hbx)))
        clear hO2 hU2 hl2 hs2 hbx
        go_roundw
        case rel =>
          have hs1 := HS.out.2.1.size
          have hlb := HS.out.2.2.2.lt
          refine ⟨k + 1, by omega, by go_num, ?_, (HS.out.2.1.alloc _).then H2.out.2.1 (fun q e => .inr (by have := HS.out.2.2.1 q e; omega)), fun q hq => ?_, H2.out.2.2.2⟩
          · rw [HT.out]
            simpa [strs] using H2.out.1
          · rcases H2.out.2.2.1 with e | e
            · exact HS.out.2.2.1 q (by rw [← e]; exact hq)
            · rw [e] at hq
              have h5 := Option.some.inj hq
              simp at h5
              omega
        case measure => simp [intOf] <;> omega
      · have he' : (x1 == i) = false := by rw [beq_eq_false_iff_ne]; exact he
        rw [if_neg he] at hst
        have HT := Lib.hid hst
        clear he hst
        go_wp2_with fail
        go_roundw
        case rel => exact ⟨k + 1, by omega, by go_num, by rw [HT.out]; exact HS.out.1, HS.out.2.1, HS.out.2.2.1, HS.out.2.2.2⟩
        case measure => simp [intOf] <;> omega
    · obtain rfl : k = r.ws.length := by omega
      have HS := Lib.hid (And.intro hO (And.intro hU hN))
      clear hO hU hN hB
      go_wp2_with fail
      go_ret
      refine ⟨_, rfl, ?_, HS.out.2.1, fun q hq => by have := HS.out.2.2 q hq; omega⟩
      rw [← HO.out.2.2]
      exact HS.out.1
set_option maxRecDepth 100000 in
set_option maxHeartbeats 800000 in
theorem rread_c {w : World} {vl vw : Value} {r : Rd} (h : RdAt w vl vw r) (hf : r.fits) (i : Int) :
    Calls Tryz.prog 57 #[.agg (r.row vl vw), .int .i64 i] w fun e w' => e = .returned (.tuple #[.string (r.read i).1, .int .i64 (r.read i).2]) ∧ Upd (fun _ => False) w w' := by
  have hU0 : Upd (fun _ => False) w (w.alloc (.cells (r.row vl vw) 33)) := (Upd.refl _ w).alloc _
  have HOf := Lib.hid (of_c (h.upd hU0) hf i)
  have HU0 := Lib.hid hU0
  have hl := hf.lasts
  obtain ⟨A, cap, rfl, -, -⟩ := h.lasts.shape
  have hcell : ∀ w', Upd (fun _ => False) w w' → ∀ k (_ : k < r.lasts.length), ∃ g, A = some ⟨g, 0, none⟩ ∧ w'.cell? ⟨g, k, none⟩ = some (.string (r.last k)) := by
    intro w' hu k hk
    obtain ⟨g, cap', e, -, -⟩ := h.lasts.head (by omega)
    injection e with e1 e2 e3
    subst e1
    have hO := h.lasts.upd hu (fun _ _ e => e)
    refine ⟨g, rfl, ?_⟩
    rw [hO.cellAt k (by omega), strs_get, Rd.last, List.getD_eq_getElem?_getD, List.getElem?_eq_getElem hk]
    rfl
  have HC := Lib.hid hcell
  have hrd : r.read i = if r.off then (ByteArray.empty, 14) else if r.out i then (ByteArray.empty, 1) else ((r.of_ i).getLast?.getD (r.last i.toNat), 0) := rfl
  have hB0 := Blk.new w 33 (r.row (.slice A r.lasts.length cap) vw)
  have hc0 := hB0.cells4
  have HB0 := Lib.hid hB0
  clear h hf hcell hU0 hB0
  simp only [Rd.row] at hc0 HOf HB0 HU0 ⊢
  cases ho : r.off
  · rw [ho] at hc0 HU0
    rw [ho, if_neg (by simp)] at hrd
    by_cases hout : r.out i = true
    · rw [if_pos hout] at hrd
      rw [hrd]
      unfold Rd.out at hout
      rw [decide_eq_true_eq] at hout
      clear hrd ho
      by_cases hi : i < 0
      · go_enter Tryz.func57, Tryz.ntmps57
        go_wp2_with fail
        go_ret2
        exact ⟨rfl, HU0.out⟩
      · have hi2 : (r.lasts.length : Int) ≤ i := by omega
        go_enter Tryz.func57, Tryz.ntmps57
        go_wp2_with fail
        go_ret2
        exact ⟨rfl, HU0.out⟩
    · rw [if_neg hout] at hrd
      have hi : 0 ≤ i ∧ i < r.lasts.length := by
        unfold Rd.out at hout
        rw [decide_eq_true_eq] at hout
        omega
      obtain ⟨k, rfl⟩ := Int.eq_ofNat_of_zero_le hi.1
      have hk : k < r.lasts.length := by omega
      have hk2 : ¬ (r.lasts.length : Int) ≤ (k : Int) := by omega
      rw [hrd]
      have hOf := HOf.out
      rw [ho] at hOf
      have hB0 := HB0.out
      rw [ho] at hB0
      have HB2 := Lib.hid hB0
      have HOf2 := Lib.hid hOf
      clear hrd hout hi hOf HOf hB0 HB0
      simp only [Int.toNat_natCast]
      generalize r.of_ (k : Int) = L at *
      generalize hy : L.getLast?.getD (r.last k) = y at *
      have HY := Lib.hid hy
      clear hy
      go_enter Tryz.func57, Tryz.ntmps57
      go_wp2_with fail
      refine HOf2.out.mono ?_
      rintro e w2 ⟨v2, rfl, hO2, hU2, -⟩
      have hU02 := HU0.out.then hU2 (fun _ e => e.elim)
      have hx := HC.out w2 hU02 k hk
      obtain ⟨g, rfl, hcl⟩ := hx
      have hc2 := (HB2.out.upd hU2 (fun e => e)).cells4
      have HU2 := Lib.hid hU02
      clear hU2 hU02 hc0
      by_cases h0 : L = []
      · subst h0
        obtain rfl : r.last k = y := HY.out
        obtain ⟨A2, cap2, rfl, -, -⟩ := hO2.shape
        have HO2 := Lib.hid hO2
        clear hO2
        simp only [List.length_nil] at HO2 ⊢
        go_wp2_with fail
        go_ret2
        exact ⟨rfl, HU2.out⟩
      · have hlen : 0 < L.length := List.length_pos_iff.2 h0
        obtain ⟨g2, cap2, rfl, hx1, hx2⟩ := hO2.head hlen
        have hlast : w2.cell? ⟨g2, L.length - 1, none⟩ = some (.string y) := by
          rw [← HY.out, hO2.cellAt _ (by omega), strs_get, List.getLast?_eq_getElem?, List.getElem?_eq_getElem (by omega)]
          rfl
        clear hO2 h0 HY
        unfold maxLen at hx2
        generalize L.length = m at *
        go_wp2_with fail
        go_ret2
        exact ⟨rfl, HU2.out⟩
  · rw [ho] at hc0 HU0
    rw [ho, if_pos rfl] at hrd
    rw [hrd]
    clear hrd ho
    go_enter Tryz.func57, Tryz.ntmps57
    go_wp2_with fail
    go_ret2
    exact ⟨rfl, HU0.out⟩
end Go.Proofs.YtpfbgmfkeofefaaGreat

/-
  The document's disk: act, Write.
-/
namespace Go.Proofs.YtpfbgmfkeofefaaGreat
open Go Go.RowKit

abbrev zeroRd : Array Value := #[.slice none 0 0, .slice none 0 0, .int .i64 0, .bool false]
theorem row_one (a b : Value) (ha : a.oneCell' = true) (hb : b.oneCell' = true) (n : Int) (o : Bool) : (#[a, b, .int .i64 n, .bool o] : Array Value).all (·.oneCell') = true := by
  rw [Array.all_eq_true']
  intro x hx
  simp only [List.mem_toArray, List.mem_cons, List.not_mem_nil, or_false] at hx
  rcases hx with rfl | rfl | rfl | rfl
  · exact ha
  · exact hb
  · rfl
  · rfl
set_option maxRecDepth 100000 in
set_option maxHeartbeats 800000 in
theorem ract_c {w : World} {vl vw : Value} {r : Rd} (h : RdAt w vl vw r) (hf : r.fits) :
    Calls Tryz.prog 50 #[.agg #[vl, vw, .int .i64 r.fuse, .bool r.off]] w fun e w' => e = .returned (.tuple #[.agg #[vl, vw, .int .i64 r.act.1.fuse, .bool r.act.1.off], .bool r.act.2]) ∧ Upd (fun _ => False) w w' := by
  have ha := h.lasts.one
  have hb := h.ws.one
  have hfu := hf.fuse
  have hact : r.act = if r.fuse = 0 then ({ r with off := true }, false) else if 0 < r.fuse then ({ r with fuse := r.fuse - 1 }, true) else (r, true) := rfl
  obtain ⟨la, ws, fl, fo⟩ := r
  simp only at ha hb hfu hact ⊢
  have hB0 := (Blk.new w 33 #[vl, vw, .int .i64 fl, .bool fo]).alloc (.cells zeroRd 33)
  have hB1 : Blk ((w.alloc (.cells #[vl, vw, .int .i64 fl, .bool fo] 33)).alloc (.cells zeroRd 33)) (w.heap.size + 1) 33 zeroRd := by
    have := Blk.new (w.alloc (.cells #[vl, vw, .int .i64 fl, .bool fo] 33)) 33 zeroRd
    simpa using this
  have hc0 := hB0.cells4
  have hz2 := hB0.frozen 2
  have hz3 := hB0.frozen 3
  have HB := Lib.hid (And.intro hB0 hB1)
  have HU := Lib.hid (show Upd (fun q => w.heap.size ≤ q) w ((w.alloc (.cells #[vl, vw, .int .i64 fl, .bool fo] 33)).alloc (.cells zeroRd 33)) from ((Upd.refl _ w).alloc _).alloc _)
  clear h hf hB0 hB1
  by_cases h0 : fl = 0
  · subst h0
    rw [if_pos rfl] at hact
    rw [hact]
    clear hact
    go_enter Tryz.func50, Tryz.ntmps50
    go_wp2_with (first
      | (refine wpList_store_one rfl 4 _ _ rfl w.heap.size 3 (.bool true) rfl rfl _ _ HB.out.1 (by simp) rfl (by kernel_rfl) ?_
         intro w3 hB3 hU3 hs3
         simp only [List.setIfInBounds_toArray, List.set_cons_succ, List.set_cons_zero] at hB3
         have hB13 := HB.out.2.upd hU3 (by omega)
         have hc3 := hB3.cells4
         clear hc0 hz2 hz3)
      | (refine wpList_load_all rfl _ _ rfl w.heap.size rfl _ _ _ hB3 Tryz.underlying33 rfl rfl ?_)
      | (refine wpList_store_all rfl 33 _ _ rfl (w.heap.size + 1) #[vl, vw, .int .i64 0, .bool true] rfl rfl _ _ hB13 rfl (row_one _ _ ha hb _ _) (by kernel_rfl) ?_
         intro w4 hB4 hU4 hs4))
    refine bodyPost_ret (results_cell_slot rfl _ _ (w.heap.size + 1) _ _ _ _ rfl hB4 Tryz.underlying33 rfl rfl (.bool false) rfl) rfl ⟨rfl, ?_⟩
    exact ((HU.out.then hU3 (fun q e => .inl (by omega))).then hU4 (fun q e => .inl (by omega))).mono (fun q e => .inr e)
  · have h0' : (fl == 0) = false := by rw [beq_eq_false_iff_ne]; exact h0
    rw [if_neg h0] at hact
    by_cases h1 : 0 < fl
    · rw [if_pos h1] at hact
      rw [hact]
      clear hact h0
      have hsub : IntKind.i64.wrap (fl - 1) = fl - 1 := IntWalk.i64_in _ (by omega)
      go_enter Tryz.func50, Tryz.ntmps50
      go_wp2_with (first
        | (refine wpList_store_one rfl 3 _ _ rfl w.heap.size 2 (.int .i64 (fl - 1)) rfl rfl _ _ HB.out.1 (by simp) rfl (by kernel_rfl) ?_
           intro w3 hB3 hU3 hs3
           simp only [List.setIfInBounds_toArray, List.set_cons_succ, List.set_cons_zero] at hB3
           have hB13 := HB.out.2.upd hU3 (by omega)
           have hc3 := hB3.cells4
           clear hc0 hz2 hz3)
        | (refine wpList_load_all rfl _ _ rfl w.heap.size rfl _ _ _ hB3 Tryz.underlying33 rfl rfl ?_)
        | (refine wpList_store_all rfl 33 _ _ rfl (w.heap.size + 1) #[vl, vw, .int .i64 (fl - 1), .bool fo] rfl rfl _ _ hB13 rfl (row_one _ _ ha hb _ _) (by kernel_rfl) ?_
           intro w4 hB4 hU4 hs4))
      refine bodyPost_ret (results_cell_slot rfl _ _ (w.heap.size + 1) _ _ _ _ rfl hB4 Tryz.underlying33 rfl rfl (.bool true) rfl) rfl ⟨rfl, ?_⟩
      exact ((HU.out.then hU3 (fun q e => .inl (by omega))).then hU4 (fun q e => .inl (by omega))).mono (fun q e => .inr e)
    · rw [if_neg h1] at hact
      rw [hact]
      clear hact h0
      go_enter Tryz.func50, Tryz.ntmps50
      go_wp2_with (first
        | (refine wpList_load_all rfl _ _ rfl w.heap.size rfl _ _ _ HB.out.1 Tryz.underlying33 rfl rfl ?_)
        | (refine wpList_store_all rfl 33 _ _ rfl (w.heap.size + 1) #[vl, vw, .int .i64 fl, .bool fo] rfl rfl _ _ HB.out.2 rfl (row_one _ _ ha hb _ _) (by kernel_rfl) ?_
           intro w4 hB4 hU4 hs4))
      refine bodyPost_ret (results_cell_slot rfl _ _ (w.heap.size + 1) _ _ _ _ rfl hB4 Tryz.underlying33 rfl rfl (.bool true) rfl) rfl ⟨rfl, ?_⟩
      exact (HU.out.then hU4 (fun q e => .inl (by omega))).mono (fun q e => .inr e)
set_option maxRecDepth 100000 in
set_option maxHeartbeats 1600000 in
theorem rwrite_c {w : World} {vl vw : Value} {r : Rd} (h : RdAt w vl vw r) (hf : r.fits) (i : Int) (b : ByteArray) (hp : r.ws.length + 1 ≤ 1000000) :
    Calls Tryz.prog 16 #[.agg #[vl, vw, .int .i64 r.fuse, .bool r.off], .int .i64 i, .string b] w fun e w' => ∃ vw', e = .returned (.tuple #[.agg #[vl, vw', .int .i64 (r.write i b).1.fuse, .bool (r.write i b).1.off], .int .i64 (r.write i b).2]) ∧ RdLeft w w' vl vw vl vw' (r.write i b).1 := by
  have hl1 := hf.lasts
  have hl2 := hf.ws
  have hRd := Lib.hid h
  have ha := h.lasts.one
  have hb := h.ws.one
  obtain ⟨A, cap, rfl, -, -⟩ := h.lasts.shape
  have hwr : r.write i b = if r.off then (r, 14) else if r.out i || !decide (b.size = 64) then (r, 1) else if r.act.2 then (r.act.1.push i b, 0) else (r.act.1, 14) := rfl
  have hact : r.act.1.lasts = r.lasts ∧ r.act.1.ws = r.ws := by
    unfold Rd.act
    split
    · exact ⟨rfl, rfl⟩
    · split <;> exact ⟨rfl, rfl⟩
  have HAct := Lib.hid (fun W (hU : Upd (fun _ => False) w W) => ract_c (h.upd hU) hf)
  have HA2 := Lib.hid hact
  clear h hf hact
  obtain ⟨la, ws, fl, fo⟩ := r
  simp only at hl1 hl2 ha hb hwr HAct HA2 ⊢
  have hB0 := (Blk.new w 33 #[.slice A la.length cap, vw, .int .i64 fl, .bool fo]).alloc (.cells zeroRd 33)
  have hB1 : Blk ((w.alloc (.cells #[.slice A la.length cap, vw, .int .i64 fl, .bool fo] 33)).alloc (.cells zeroRd 33)) (w.heap.size + 1) 33 zeroRd := by
    have := Blk.new (w.alloc (.cells #[.slice A la.length cap, vw, .int .i64 fl, .bool fo] 33)) 33 zeroRd
    simpa using this
  have hc0 := hB0.cells4
  have hU0 : Upd (fun _ => False) w ((w.alloc (.cells #[.slice A la.length cap, vw, .int .i64 fl, .bool fo] 33)).alloc (.cells zeroRd 33)) := ((Upd.refl _ w).alloc _).alloc _
  have HB := Lib.hid (And.intro hB0 hB1)
  have HU := Lib.hid hU0
  have HAc := Lib.hid (HAct.out _ hU0)
  clear hB0 hB1 hU0 HAct
  cases fo
  · rw [if_neg (by simp)] at hwr
    by_cases hbad : ((⟨la, ws, fl, false⟩ : Rd).out i || !decide (b.size = 64)) = true
    · rw [if_pos hbad] at hwr
      rw [hwr]
      have hcase : i < 0 ∨ (0 ≤ i ∧ (la.length : Int) ≤ i) ∨ (0 ≤ i ∧ i < (la.length : Int) ∧ ((b.size : Int) != 64) = true) := by
        rw [Bool.or_eq_true, Rd.out, decide_eq_true_eq] at hbad
        simp only at hbad
        by_cases c0 : i < 0
        · exact .inl c0
        · by_cases c1 : (la.length : Int) ≤ i
          · exact .inr (.inl ⟨by omega, c1⟩)
          · refine .inr (.inr ⟨by omega, by omega, ?_⟩)
            rcases hbad with e | e
            · omega
            · rw [bne_iff_ne]
              simp at e
              omega
      clear hwr hbad
      rcases hcase with c0 | ⟨c0, c1⟩ | ⟨c0, c1, c2⟩
      all_goals
        go_enter Tryz.func16, Tryz.ntmps16
        go_wp2_with (first
          | (refine wpList_load_all rfl _ _ rfl w.heap.size rfl _ _ _ HB.out.1 Tryz.underlying33 rfl rfl ?_)
          | (refine wpList_store_all rfl 33 _ _ rfl (w.heap.size + 1) #[.slice A la.length cap, vw, .int .i64 fl, .bool false] rfl rfl _ _ HB.out.2 rfl (row_one _ _ ha hb _ _) (by kernel_rfl) ?_
             intro w4 hB4 hU4 hs4))
        refine bodyPost_ret (results_cell_slot rfl _ _ (w.heap.size + 1) _ _ _ _ rfl hB4 Tryz.underlying33 rfl rfl (.int .i64 1) rfl) rfl ⟨vw, rfl, ?_⟩
        have hU := HU.out.then hU4 (fun q e => .inr (by omega))
        exact ⟨hRd.out.upd hU, hU, fun q hq => .inl hq⟩
    · rw [if_neg hbad] at hwr
      have hi : 0 ≤ i ∧ i < (la.length : Int) ∧ ((b.size : Int) != 64) = false := by
        rw [Bool.or_eq_true, Rd.out, decide_eq_true_eq] at hbad
        simp only [not_or] at hbad
        refine ⟨by omega, by omega, ?_⟩
        have := hbad.2
        simp at this
        rw [this]
        rfl
      clear hbad
      obtain ⟨c0, c1, c2⟩ := hi
      generalize hra : (⟨la, ws, fl, false⟩ : Rd).act = ra at *
      obtain ⟨⟨la2, ws2, fl2, fo2⟩, ok⟩ := ra
      simp only at hwr HAc HA2
      obtain ⟨e1, e2⟩ := HA2.out
      have e1 := e1.symm
      have e2 := e2.symm
      subst e1 e2
      clear hra HA2
      cases ok
      · rw [if_neg (by simp)] at hwr
        rw [hwr]
        clear hwr
        go_enter Tryz.func16, Tryz.ntmps16
        go_wp2_with (first
          | (refine wpList_load_all rfl _ _ rfl w.heap.size rfl _ _ _ HB.out.1 Tryz.underlying33 rfl rfl ?_))
        refine HAc.out.mono ?_
        rintro e w2 ⟨rfl, hU2⟩
        have hB2 := HB.out.1.upd hU2 (fun e => e)
        have hB12 := HB.out.2.upd hU2 (fun e => e)
        have hU02 := HU.out.then hU2 (fun _ e => e.elim)
        have hws2 := hRd.out.ws.upd hU02 (fun _ _ e => e)
        have H2 := Lib.hid (And.intro hB2 (And.intro hB12 (And.intro hU02 hws2)))
        clear hB2 hB12 hU02 hws2 hU2 hc0
        go_wp2_with (first
          | (refine wpList_store_all rfl 33 _ _ rfl w.heap.size #[.slice A la.length cap, vw, .int .i64 fl2, .bool fo2] rfl rfl _ _ H2.out.1 rfl (row_one _ _ ha hb _ _) (by kernel_rfl) ?_
             intro w3 hB3 hU3 hs3
             have hB13 := H2.out.2.1.upd hU3 (by omega)
             have hc3 := hB3.cells4)
          | (refine wpList_load_all rfl _ _ rfl w.heap.size rfl _ _ _ hB3 Tryz.underlying33 rfl rfl ?_)
          | (refine wpList_store_all rfl 33 _ _ rfl (w.heap.size + 1) #[.slice A la.length cap, vw, .int .i64 fl2, .bool fo2] rfl rfl _ _ hB13 rfl (row_one _ _ ha hb _ _) (by kernel_rfl) ?_
             intro w4 hB4 hU4 hs4))
        refine bodyPost_ret (results_cell_slot rfl _ _ (w.heap.size + 1) _ _ _ _ rfl hB4 Tryz.underlying33 rfl rfl (.int .i64 14) rfl) rfl ⟨vw, rfl, ?_⟩
        have hU := (H2.out.2.2.1.then hU3 (fun q e => .inr (by omega))).then hU4 (fun q e => .inr (by omega))
        exact ⟨⟨(hRd.out.upd hU).lasts, (hRd.out.upd hU).ws⟩, hU, fun q hq => .inl hq⟩
      · rw [if_pos rfl] at hwr
        rw [hwr]
        clear hwr
        go_enter Tryz.func16, Tryz.ntmps16
        go_wp2_with (first
          | (refine wpList_load_all rfl _ _ rfl w.heap.size rfl _ _ _ HB.out.1 Tryz.underlying33 rfl rfl ?_))
        refine HAc.out.mono ?_
        rintro e w2 ⟨rfl, hU2⟩
        have hB2 := HB.out.1.upd hU2 (fun e => e)
        have hB12 := HB.out.2.upd hU2 (fun e => e)
        have hU02 := HU.out.then hU2 (fun _ e => e.elim)
        have hws2 := hRd.out.ws.upd hU02 (fun _ _ e => e)
        have H2 := Lib.hid (And.intro hB2 (And.intro hB12 (And.intro hU02 hws2)))
        clear hB2 hB12 hU02 hws2 hU2 hc0
        obtain ⟨i1, hi1, hz0, hz1, hz2⟩ := info_parts infoWr
        have hwl := wrs_len ws
        have HWo := Lib.hid (wrs_one ws)
        obtain ⟨A2, cap2, rfl, -, -⟩ := H2.out.2.2.2.shape
        go_wp2_with (first
          | (refine wpList_store_all rfl 33 _ _ rfl w.heap.size #[.slice A la.length cap, .slice A2 ws.length cap2, .int .i64 fl2, .bool fo2] rfl rfl _ _ H2.out.1 rfl (row_one _ _ ha hb _ _) (by kernel_rfl) ?_
             intro w3 hB3 hU3 hs3
             have hB13 := H2.out.2.1.upd hU3 (by omega)
             have hU03 := H2.out.2.2.1.then hU3 (fun q e => .inr (by omega))
             have hws3 := hRd.out.ws.upd hU03 (fun _ _ e => e)
             have hc3 := hB3.cells4)
          | (at_builtin
             refine wpList_append_src rfl _ _ _ _ rfl 117 i1 _ 2 24 Tryz.underlying31 hi1 hz0 hz1 hz2 rfl v5 (0 + ws.length) _ rfl (hO5.alloc _) _ 1 [.int .i64 i, .string b] rfl (Src.of_news Tryz.underlying31 [.int .i64 i, .string b] rfl) (by simp [Value.oneCell']) (by unfold maxLen; omega) (by omega) ?_
             intro v6 w6 hO6 hU6 hl6 hs6
             have hv6 := hO6.one
             have hB6 := (hB5.alloc (.cells #[.int .i64 i, .string b] 117)).upd hU6 hn5
             have hB16 := (hB15.alloc (.cells #[.int .i64 i, .string b] 117)).upd hU6 hn15
             have hc6 := hB6.cells4
             have hz6 := hB6.frozen 1)
          | (at_builtin
             refine wpList_append_src rfl _ _ _ _ rfl 117 i1 _ 2 24 Tryz.underlying31 hi1 hz0 hz1 hz2 rfl (.slice none 0 0) 0 [] rfl (Own.nil _ _ _) _ ws.length (wrs ws) rfl (Src.of_own Tryz.underlying31 hws3) HWo.out (by unfold maxLen; omega) (by omega) ?_
             intro v5 w5 hO5 hU5 hl5 hs5
             have hU35 : Upd (fun _ => False) w3 w5 := hU5.mono (fun q e => by simp [Value.ownBlock] at e)
             have hn5 : v5.ownBlock ≠ some w.heap.size := fun e => by
               rcases hl5 with c | c
               · rw [c] at e; simp [Value.ownBlock] at e
               · rw [c] at e; have := Option.some.inj e; have := hB3.lt; omega
             have hn15 : v5.ownBlock ≠ some (w.heap.size + 1) := fun e => by
               rcases hl5 with c | c
               · rw [c] at e; simp [Value.ownBlock] at e
               · rw [c] at e; have := Option.some.inj e; have := hB13.lt; omega
             have hnew5 : ∀ q, v5.ownBlock = some q → w3.heap.size ≤ q := fun q hq => by
               rcases hl5 with c | c
               · rw [c] at hq; simp [Value.ownBlock] at hq
               · rw [c] at hq; have := Option.some.inj hq; omega
             have hB5 := hB3.upd hU35 (fun e => e)
             have hB15 := hB13.upd hU35 (fun e => e)
             have hc5 := hB5.cells4)
          | (refine wpList_store_one rfl 31 _ _ rfl w.heap.size 1 v6 rfl rfl _ _ hB6 (by simp) hv6 (by kernel_rfl) ?_
             intro w7 hB7 hU7 hs7
             simp only [List.setIfInBounds_toArray, List.set_cons_succ, List.set_cons_zero] at hB7
             have hB17 := hB16.upd hU7 (by omega)
             have hc7 := hB7.cells4)
          | (refine wpList_load_all rfl _ _ rfl w.heap.size rfl _ _ _ hB7 Tryz.underlying33 rfl rfl ?_)
          | (refine wpList_store_all rfl 33 _ _ rfl (w.heap.size + 1) #[.slice A la.length cap, v6, .int .i64 fl2, .bool fo2] rfl rfl _ _ hB17 rfl (row_one _ _ ha hv6 _ _) (by kernel_rfl) ?_
             intro w8 hB8 hU8 hs8))
        refine bodyPost_ret (results_cell_slot rfl _ _ (w.heap.size + 1) _ _ _ _ rfl hB8 Tryz.underlying33 rfl rfl (.int .i64 0) rfl) rfl ⟨v6, rfl, ?_⟩
        have hs0 := hU03.size
        have hs35 := hU35.size
        have hU06 : Upd (fun _ => False) w w6 := (hU03.then (hU35.alloc _) (fun _ e => e.elim)).then hU6 (fun q e => .inr (by have := hnew5 q e; omega))
        have hU := (hU06.then hU7 (fun q e => .inr (by omega))).then hU8 (fun q e => .inr (by omega))
        have hnew6 : ∀ q, v6.ownBlock = some q → w3.heap.size ≤ q := fun q hq => by
          rcases hl6 with c | c
          · exact hnew5 q (by rw [← c]; exact hq)
          · rw [c] at hq
            have h5 := Option.some.inj hq
            simp at h5
            omega
        have hlt3 := hB3.lt
        have hlt13 := hB13.lt
        refine ⟨⟨hRd.out.lasts.upd hU (fun _ _ e => e), ?_⟩, hU, fun q hq => ?_⟩
        · have h6 : Own w8 117 2 v6 (0 + ws.length + 1) ([] ++ wrs ws ++ [.int .i64 i, .string b]) := (hO6.upd hU7 (fun q hq e => by have := hnew6 q hq; omega)).upd hU8 (fun q hq e => by have := hnew6 q hq; omega)
          have e1 : (ws ++ [(i, b)]).length = 0 + ws.length + 1 := by simp
          have e2 : wrs (ws ++ [(i, b)]) = [] ++ wrs ws ++ [.int .i64 i, .string b] := by simp [wrs]
          show Own w8 _ 2 v6 (ws ++ [(i, b)]).length (wrs (ws ++ [(i, b)]))
          rw [e1, e2]
          exact h6
        · rcases hq with hq | hq
          · exact .inl (.inl hq)
          · exact .inr (by have := hnew6 q hq; omega)
  · rw [if_pos rfl] at hwr
    rw [hwr]
    clear hwr
    go_enter Tryz.func16, Tryz.ntmps16
    go_wp2_with (first
      | (refine wpList_load_all rfl _ _ rfl w.heap.size rfl _ _ _ HB.out.1 Tryz.underlying33 rfl rfl ?_)
      | (refine wpList_store_all rfl 33 _ _ rfl (w.heap.size + 1) #[.slice A la.length cap, vw, .int .i64 fl, .bool true] rfl rfl _ _ HB.out.2 rfl (row_one _ _ ha hb _ _) (by kernel_rfl) ?_
         intro w4 hB4 hU4 hs4))
    refine bodyPost_ret (results_cell_slot rfl _ _ (w.heap.size + 1) _ _ _ _ rfl hB4 Tryz.underlying33 rfl rfl (.int .i64 14) rfl) rfl ⟨vw, rfl, ?_⟩
    have hU := HU.out.then hU4 (fun q e => .inr (by omega))
    exact ⟨hRd.out.upd hU, hU, fun q hq => .inl hq⟩
end Go.Proofs.YtpfbgmfkeofefaaGreat

/-
  The document's disk: Sync.
-/
namespace Go.Proofs.YtpfbgmfkeofefaaGreat
open Go Go.RowKit

theorem own_empty (w : World) : Own (w.alloc (.cells #[] 9)) 9 1 (.slice (some ⟨w.heap.size, 0, none⟩) 0 0) 0 [] :=
  ⟨by simp, .inr ⟨w.heap.size, 0, #[], (0, 0), rfl, heap_alloc_new w _, .inl rfl, Nat.le_refl _, by unfold maxLen; omega, rfl, by simp⟩⟩
set_option maxRecDepth 100000 in
set_option maxHeartbeats 1600000 in
theorem rsync_c {w : World} {vl vw : Value} {r : Rd} (h : RdAt w vl vw r) (hf : r.fits) :
    Calls Tryz.prog 62 #[.agg #[vl, vw, .int .i64 r.fuse, .bool r.off]] w fun e w' => ∃ vl' vw', e = .returned (.tuple #[.agg #[vl', vw', .int .i64 r.sync.1.fuse, .bool r.sync.1.off], .int .i64 r.sync.2]) ∧ RdLeft w w' vl vw vl' vw' r.sync.1 := by
  have hl0 := hf.pos
  have hl1 := hf.lasts
  have hl2 := hf.ws
  have hlow := Lib.hid hf.low
  have hRd := Lib.hid h
  have ha := h.lasts.one
  have hb := h.ws.one
  obtain ⟨A, cap, rfl, -, -⟩ := h.lasts.shape
  obtain ⟨A2, cap2, rfl, -, -⟩ := h.ws.shape
  have hwr : r.sync = if r.off then (r, 14) else if r.act.2 then (r.act.1.flush, 0) else (r.act.1, 14) := rfl
  have hact : r.act.1.lasts = r.lasts ∧ r.act.1.ws = r.ws := by
    unfold Rd.act
    split
    · exact ⟨rfl, rfl⟩
    · split <;> exact ⟨rfl, rfl⟩
  have HAct := Lib.hid (fun W (hU : Upd (fun _ => False) w W) => ract_c (h.upd hU) hf)
  have HA2 := Lib.hid hact
  clear h hf hact
  obtain ⟨la, ws, fl, fo⟩ := r
  simp only at hl0 hl1 hl2 hlow ha hb hwr HAct HA2 ⊢
  have hB0 := (Blk.new w 33 #[.slice A la.length cap, .slice A2 ws.length cap2, .int .i64 fl, .bool fo]).alloc (.cells zeroRd 33)
  have hB1 : Blk ((w.alloc (.cells #[.slice A la.length cap, .slice A2 ws.length cap2, .int .i64 fl, .bool fo] 33)).alloc (.cells zeroRd 33)) (w.heap.size + 1) 33 zeroRd := by
    have := Blk.new (w.alloc (.cells #[.slice A la.length cap, .slice A2 ws.length cap2, .int .i64 fl, .bool fo] 33)) 33 zeroRd
    simpa using this
  have hc0 := hB0.cells4
  have hU0 : Upd (fun _ => False) w ((w.alloc (.cells #[.slice A la.length cap, .slice A2 ws.length cap2, .int .i64 fl, .bool fo] 33)).alloc (.cells zeroRd 33)) := ((Upd.refl _ w).alloc _).alloc _
  have HB := Lib.hid (And.intro hB0 hB1)
  have HU := Lib.hid hU0
  have HAc := Lib.hid (HAct.out _ hU0)
  clear hB0 hB1 hU0 HAct
  cases fo
  · rw [if_neg (by simp)] at hwr
    generalize hra : (⟨la, ws, fl, false⟩ : Rd).act = ra at *
    obtain ⟨⟨la2, ws2, fl2, fo2⟩, ok⟩ := ra
    simp only at hwr HAc HA2
    obtain ⟨e1, e2⟩ := HA2.out
    have e1 := e1.symm
    have e2 := e2.symm
    subst e1 e2
    clear hra HA2
    cases ok
    · rw [if_neg (by simp)] at hwr
      rw [hwr]
      clear hwr
      go_enter Tryz.func62, Tryz.ntmps62
      go_wp2_with (first
        | (refine wpList_load_all rfl _ _ rfl w.heap.size rfl _ _ _ HB.out.1 Tryz.underlying33 rfl rfl ?_))
      refine HAc.out.mono ?_
      rintro e w2 ⟨rfl, hU2⟩
      have hB2 := HB.out.1.upd hU2 (fun e => e)
      have hB12 := HB.out.2.upd hU2 (fun e => e)
      have hU02 := HU.out.then hU2 (fun _ e => e.elim)
      have H2 := Lib.hid (And.intro hB2 (And.intro hB12 hU02))
      clear hB2 hB12 hU02 hU2 hc0
      go_wp2_with (first
        | (refine wpList_store_all rfl 33 _ _ rfl w.heap.size #[.slice A la.length cap, .slice A2 ws.length cap2, .int .i64 fl2, .bool fo2] rfl rfl _ _ H2.out.1 rfl (row_one _ _ ha hb _ _) (by kernel_rfl) ?_
           intro w3 hB3 hU3 hs3
           have hB13 := H2.out.2.1.upd hU3 (by omega)
           have hc3 := hB3.cells4)
        | (refine wpList_load_all rfl _ _ rfl w.heap.size rfl _ _ _ hB3 Tryz.underlying33 rfl rfl ?_)
        | (refine wpList_store_all rfl 33 _ _ rfl (w.heap.size + 1) #[.slice A la.length cap, .slice A2 ws.length cap2, .int .i64 fl2, .bool fo2] rfl rfl _ _ hB13 rfl (row_one _ _ ha hb _ _) (by kernel_rfl) ?_
           intro w4 hB4 hU4 hs4))
      refine bodyPost_ret (results_cell_slot rfl _ _ (w.heap.size + 1) _ _ _ _ rfl hB4 Tryz.underlying33 rfl rfl (.int .i64 14) rfl) rfl ⟨_, _, rfl, ?_⟩
      have hU := (H2.out.2.2.then hU3 (fun q e => .inr (by omega))).then hU4 (fun q e => .inr (by omega))
      exact ⟨⟨(hRd.out.upd hU).lasts, (hRd.out.upd hU).ws⟩, hU, fun q hq => .inl hq⟩
    · rw [if_pos rfl] at hwr
      rw [hwr]
      clear hwr
      obtain ⟨i0, hi0, hz0, hz1, hz2⟩ := info_parts infoStr
      have hsl : (strs la).length = la.length := strs_len la
      have HSo := Lib.hid (strs_one la)
      go_enter Tryz.func62, Tryz.ntmps62
      go_wp2_with (first
        | (refine wpList_load_all rfl _ _ rfl w.heap.size rfl _ _ _ HB.out.1 Tryz.underlying33 rfl rfl ?_))
      refine HAc.out.mono ?_
      rintro e w2 ⟨rfl, hU2⟩
      have hB2 := HB.out.1.upd hU2 (fun e => e)
      have hB12 := HB.out.2.upd hU2 (fun e => e)
      have hU02 := HU.out.then hU2 (fun _ e => e.elim)
      have H2 := Lib.hid (And.intro hB2 (And.intro hB12 hU02))
      clear hB2 hB12 hU02 hU2 hc0
      go_wp2_with (first
        | (refine wpList_store_all rfl 33 _ _ rfl w.heap.size #[.slice A la.length cap, .slice A2 ws.length cap2, .int .i64 fl2, .bool fo2] rfl rfl _ _ H2.out.1 rfl (row_one _ _ ha hb _ _) (by kernel_rfl) ?_
           intro w3 hB3 hU3 hs3
           have hB13 := H2.out.2.1.upd hU3 (by omega)
           have hU03 := H2.out.2.2.then hU3 (fun q e => .inr (by omega))
           have hla3 := hRd.out.lasts.upd hU03 (fun _ _ e => e)
           have hc3 := (hB3.alloc (.cells #[] 9)).cells4
           clear hs3)
        | (at_builtin
           refine wpList_append_src rfl _ _ _ _ rfl 9 i0 _ 1 16 Tryz.underlying30 hi0 hz0 hz1 hz2 rfl (.slice (some ⟨w3.heap.size, 0, none⟩) 0 0) 0 [] rfl (own_empty w3) _ la.length (strs la) rfl (Src.of_own Tryz.underlying30 (hla3.alloc (.cells #[] 9))) HSo.out (by unfold maxLen; omega) (by omega) ?_
           intro v5 w5 hO5 hU5 hl5 hs5
           have hnew5 : ∀ q, v5.ownBlock = some q → w3.heap.size ≤ q := fun q hq => by
             rcases hl5 with c | c
             · rw [c] at hq; simp [Value.ownBlock] at hq; omega
             · rw [c] at hq; have h5 := Option.some.inj hq; simp at h5; omega
           have hU35 : Upd (fun _ => False) w3 w5 := ((Upd.refl _ w3).alloc (.cells #[] 9)).then hU5 (fun q e => by
             have e' : some w3.heap.size = some q := e
             have := Option.some.inj e'
             exact .inr (by omega))
           have hB5 := hB3.upd hU35 (fun e => e)
           have hB15 := hB13.upd hU35 (fun e => e)
           have H5 := Lib.hid (And.intro hO5 (And.intro hB5 (And.intro hB15 (And.intro hnew5 (And.intro (hU03.then hU35 (fun _ e => e.elim)) (And.intro hB3.lt hB13.lt))))))
           clear hO5 hU5 hl5 hs5 hU35 hB5 hB15 hnew5 hB3 hB13 hU3 hla3 hc3 hU03))
      have hO5 : Own w5 9 1 v5 la.length (strs la) := by
        have := H5.out.1
        rw [Nat.zero_add, List.nil_append] at this
        exact this
      obtain ⟨g5, cap5, rfl, hx1, hx2⟩ := hO5.head (by omega)
      have hg5 : w3.heap.size ≤ g5 := H5.out.2.2.2.1 g5 rfl
      have hbw := H5.out.2.2.2.2.2
      have hws5 := hRd.out.ws.upd H5.out.2.2.2.2.1 (fun _ _ e => e)
      have hcw : ∀ w', Upd (fun q => q = g5) w5 w' → ∀ k (hk : k < ws.length), ∃ g, A2 = some ⟨g, 0, none⟩ ∧ w'.cell? ⟨g, k * 2, none⟩ = some (.int .i64 ws[k].1) ∧ w'.cell? ⟨g, k * 2 + 1, none⟩ = some (.string ws[k].2) := by
        intro w' hu k hk
        obtain ⟨g, cap', e, -, -⟩ := hws5.head (show 0 < ws.length by omega)
        injection e with e1 e2 e3
        subst e1
        have hlg := hRd.out.ws.lt (k := g) (by simp [Value.ownBlock])
        have hO := hws5.upd hu (fun q hq e => by
          have e' : some g = some q := hq
          have := Option.some.inj e'
          omega)
        obtain ⟨c1, c2⟩ := wrs_get ws k hk
        exact ⟨g, rfl, by rw [hO.cellAt (k * 2) (show k * 2 < ws.length * 2 by omega)]; exact c1, by rw [hO.cellAt (k * 2 + 1) (show k * 2 + 1 < ws.length * 2 by omega)]; exact c2⟩
      have HCw := Lib.hid hcw
      have HSt := Lib.hid (show setL la (ws.take 0) = la from rfl)
      have hsucc : ∀ k (hk : k < ws.length), setL la (ws.take (k + 1)) = (setL la (ws.take k)).set ws[k].1.toNat ws[k].2 := by
        intro k hk
        rw [List.take_succ_eq_append_getElem hk, setL_snoc]
      have HSc := Lib.hid hsucc
      have HO5 := Lib.hid hO5
      have HG := Lib.hid (And.intro hg5 hbw)
      unfold maxLen at hx2
      clear hws5 hcw hsucc hO5 hg5 hbw
      go_wp2_with fail
      go_loopw [6] (fun iv wr => ∃ k : Nat, k ≤ ws.length ∧ iv = .int .i64 (k : Int) ∧ Own wr 9 1 (.slice (some ⟨g5, 0, none⟩) la.length cap5) la.length (strs (setL la (ws.take k))) ∧
        Blk wr w.heap.size 33 #[.slice A la.length cap, .slice A2 ws.length cap2, .int .i64 fl2, .bool fo2] ∧ Blk wr (w.heap.size + 1) 33 zeroRd ∧ Upd (fun q => q = g5) w5 wr) (fun iv _ => ws.length - (intOf iv).toNat)
      case atStart => exact ⟨0, by omega, rfl, HO5.out, H5.out.2.1, H5.out.2.2.1, Upd.refl _ _⟩
      case round =>
        obtain ⟨k, hk, rfl, hO, hB, hBz, hU⟩ := hrel
        have hcb := hB.cells4
        by_cases hlt : k < ws.length
        · obtain ⟨g, rfl, c0, c1⟩ := HCw.out wr hU k hlt
          have hst := HSc.out k hlt
          have hlw := hlow.out _ (List.getElem_mem hlt)
          obtain ⟨x, hx⟩ : ∃ x, ws[k] = x := ⟨_, rfl⟩
          rw [hx] at c0 c1 hst hlw
          obtain ⟨x1, y⟩ := x
          simp only at c0 c1 hst hlw
          obtain ⟨a, rfl⟩ := Int.eq_ofNat_of_zero_le hlw.1
          have hal : a < la.length := by have := hlw.2; omega
          have hal' : (a : Int) < (la.length : Int) := hlw.2
          have hcell := hO.cellAt a (by omega)
          have hfro := hO.frozenAt a (by omega)
          have hsl2 : (setL la (ws.take k)).length = la.length := setL_len _ _
          rw [strs_get, List.getElem?_eq_getElem (by rw [hsl2]; exact hal)] at hcell
          simp only [Option.map_some] at hcell
          obtain ⟨z, hz⟩ : ∃ z, (setL la (ws.take k))[a]'(by rw [hsl2]; exact hal) = z := ⟨_, rfl⟩
          rw [hz] at hcell
          have HS := Lib.hid (And.intro hO (And.intro hB (And.intro hBz (And.intro hU hst))))
          clear hx hO hB hBz hU hst hlw hz hsl2
          go_wp2_with fail
          go_region
          all_goals
            clear hcell hfro c0 c1 hcb
            go_wp2_with fail
            go_roundw
            case rel =>
              obtain ⟨h1, h2, h3, h4, h5⟩ := HS.out
              have hg1 := HG.out.1
              have hg2 := HG.out.2
              refine ⟨k + 1, by omega, by go_num, ?_, (h2.far (p := ⟨g5, a, none⟩) (by show w.heap.size ≠ g5; omega) _).drew, (h3.far (p := ⟨g5, a, none⟩) (by show w.heap.size + 1 ≠ g5; omega) _).drew, (h4.setCell (p := ⟨g5, a, none⟩) (.inl rfl) _).drew⟩
              rw [h5]
              have := (h1.stored a (.string y)).drew
              simpa [strs, List.map_set] using this
            case measure => simp [intOf] <;> omega
        · obtain rfl : k = ws.length := by omega
          rw [List.take_length] at hO
          have HS := Lib.hid (And.intro hO (And.intro hB (And.intro hBz hU)))
          have hz0 := hB.frozen 0
          have hz1 := hB.frozen 1
          clear hO hB hBz hU
          go_wp2_with (first
            | (refine wpList_store_one rfl 30 _ _ rfl w.heap.size 0 (.slice (some ⟨g5, 0, none⟩) la.length cap5) rfl rfl _ _ HS.out.2.1 (by simp) rfl (by kernel_rfl) ?_
               intro w7 hB7 hU7 hs7
               simp only [List.setIfInBounds_toArray, List.set_cons_zero] at hB7
               have hB17 := HS.out.2.2.1.upd hU7 (by omega)
               have hc7 := hB7.cells4
               clear hcb hz0 hz1)
            | (refine wpList_store_one rfl 31 _ _ rfl w.heap.size 1 (.slice none 0 0) rfl rfl _ _ hB7 (by simp) rfl (by kernel_rfl) ?_
               intro w8 hB8 hU8 hs8
               simp only [List.setIfInBounds_toArray, List.set_cons_succ, List.set_cons_zero] at hB8
               have hB18 := hB17.upd hU8 (by omega)
               have hc8 := hB8.cells4)
            | (refine wpList_load_all rfl _ _ rfl w.heap.size rfl _ _ _ hB8 Tryz.underlying33 rfl rfl ?_)
            | (refine wpList_store_all rfl 33 _ _ rfl (w.heap.size + 1) #[.slice (some ⟨g5, 0, none⟩) la.length cap5, .slice none 0 0, .int .i64 fl2, .bool fo2] rfl rfl _ _ hB18 rfl (row_one _ _ rfl rfl _ _) (by kernel_rfl) ?_
               intro w9 hB9 hU9 hs9))
          refine bodyPost_ret (results_cell_slot rfl _ _ (w.heap.size + 1) _ _ _ _ rfl hB9 Tryz.underlying33 rfl rfl (.int .i64 0) rfl) rfl ⟨_, _, rfl, ?_⟩
          obtain ⟨h1, h2, h3, h4⟩ := HS.out
          have hg1 := HG.out.1
          have hg2 := HG.out.2
          have hUa : Upd (fun _ => False) w w9 := (((H5.out.2.2.2.2.1.then h4 (fun q e => .inr (by omega))).then hU7 (fun q e => .inr (by omega))).then hU8 (fun q e => .inr (by omega))).then hU9 (fun q e => .inr (by omega))
          refine ⟨⟨?_, Own.nil _ _ _⟩, hUa, fun q hq => ?_⟩
          · have h6 := ((h1.upd hU7 (fun q hq e => by have e' : some g5 = some q := hq; have := Option.some.inj e'; omega)).upd hU8 (fun q hq e => by have e' : some g5 = some q := hq; have := Option.some.inj e'; omega)).upd hU9 (fun q hq e => by have e' : some g5 = some q := hq; have := Option.some.inj e'; omega)
            have e1 : (setL la ws).length = la.length := setL_len _ _
            show Own w9 _ 1 _ (setL la ws).length (strs (setL la ws))
            rw [e1]
            exact h6
          · rcases hq with e | e
            · have e' : some g5 = some q := e
              have := Option.some.inj e'
              exact .inr (by omega)
            · simp [Value.ownBlock] at e
  · rw [if_pos rfl] at hwr
    rw [hwr]
    clear hwr
    go_enter Tryz.func62, Tryz.ntmps62
    go_wp2_with (first
      | (refine wpList_load_all rfl _ _ rfl w.heap.size rfl _ _ _ HB.out.1 Tryz.underlying33 rfl rfl ?_)
      | (refine wpList_store_all rfl 33 _ _ rfl (w.heap.size + 1) #[.slice A la.length cap, .slice A2 ws.length cap2, .int .i64 fl, .bool true] rfl rfl _ _ HB.out.2 rfl (row_one _ _ ha hb _ _) (by kernel_rfl) ?_
         intro w4 hB4 hU4 hs4))
    refine bodyPost_ret (results_cell_slot rfl _ _ (w.heap.size + 1) _ _ _ _ rfl hB4 Tryz.underlying33 rfl rfl (.int .i64 14) rfl) rfl ⟨_, _, rfl, ?_⟩
    have hU := HU.out.then hU4 (fun q e => .inr (by omega))
    exact ⟨hRd.out.upd hU, hU, fun q hq => .inl hq⟩
end Go.Proofs.YtpfbgmfkeofefaaGreat

/-
  The document's disk: Crash.
-/
namespace Go.Proofs.YtpfbgmfkeofefaaGreat
open Go Go.RowKit

namespace Rd
/-- What lasts behind a crash that has come to a sector. -/
def crTo (r : Rd) (keep : List Int) (j : Nat) : List ByteArray := (List.range r.lasts.length).map fun i => if i < j then r.keptOf keep i else r.last i
theorem crTo_len (r : Rd) (keep : List Int) (j : Nat) : (r.crTo keep j).length = r.lasts.length := by simp [crTo]
theorem crTo_get (r : Rd) (keep : List Int) (j i : Nat) (hi : i < r.lasts.length) : (r.crTo keep j)[i]? = some (if i < j then r.keptOf keep i else r.last i) := by
  unfold crTo
  rw [List.getElem?_map, List.getElem?_range hi]
  rfl
theorem crTo_zero (r : Rd) (keep : List Int) : r.crTo keep 0 = r.lasts := by
  refine List.ext_getElem? fun i => ?_
  by_cases hi : i < r.lasts.length
  · rw [crTo_get _ _ _ _ hi, if_neg (by omega), List.getElem?_eq_getElem hi, last, List.getD_eq_getElem?_getD, List.getElem?_eq_getElem hi]
    rfl
  · rw [List.getElem?_eq_none (by rw [crTo_len]; omega), List.getElem?_eq_none (by omega)]
theorem crTo_succ (r : Rd) (keep : List Int) (j : Nat) : r.crTo keep (j + 1) = (r.crTo keep j).set j (r.keptOf keep j) := by
  refine List.ext_getElem? fun i => ?_
  by_cases hi : i < r.lasts.length
  · rw [crTo_get _ _ _ _ hi, List.getElem?_set, crTo_len]
    by_cases e : j = i
    · subst e
      rw [if_pos (by omega), if_pos rfl, if_pos hi]
    · rw [if_neg e, crTo_get _ _ _ _ hi]
      by_cases e2 : i < j
      · rw [if_pos (by omega), if_pos e2]
      · rw [if_neg (by omega), if_neg e2]
  · rw [List.getElem?_eq_none (by rw [crTo_len]; omega), List.getElem?_eq_none (by rw [List.length_set, crTo_len]; omega)]
theorem crTo_same (r : Rd) (keep : List Int) (j : Nat) (h : r.keptOf keep j = r.last j) : r.crTo keep (j + 1) = r.crTo keep j := by
  refine List.ext_getElem? fun i => ?_
  by_cases hi : i < r.lasts.length
  · rw [crTo_get _ _ _ _ hi, crTo_get _ _ _ _ hi]
    by_cases e : i = j
    · subst e
      rw [if_pos (by omega), if_neg (by omega), h]
    · by_cases e2 : i < j
      · rw [if_pos (by omega), if_pos e2]
      · rw [if_neg (by omega), if_neg e2]
  · rw [List.getElem?_eq_none (by rw [crTo_len]; omega), List.getElem?_eq_none (by rw [crTo_len]; omega)]
theorem crTo_all (r : Rd) (keep : List Int) : r.crTo keep r.lasts.length = (r.crash keep).lasts := by
  show (List.range r.lasts.length).map _ = (List.range r.lasts.length).map _
  refine List.map_congr_left fun i hi => ?_
  rw [if_pos (List.mem_range.1 hi)]
theorem busy_succ (r : Rd) (j : Nat) : r.busyTo (j + 1) = r.busyTo j + if (r.of_ (j : Int)).isEmpty then 0 else 1 := by
  unfold busyTo
  rw [List.range_succ, List.filter_append, List.length_append]
  congr 1
  cases h : (r.of_ (j : Int)).isEmpty <;> simp [h]
theorem busy_le (r : Rd) (j : Nat) : r.busyTo j ≤ j := by
  unfold busyTo
  exact Nat.le_trans (List.length_filter_le _ _) (by simp)
end Rd
/-- The choice, as the document reckons it. -/
theorem choice_mod (z : Int) (n : Nat) (hn : 0 < n) : (z.tmod (n : Int) < 0 → z.tmod (n : Int) + n = ((z % (n : Int)).toNat : Int) ∧ 0 < (z % (n : Int)).toNat) ∧ (0 ≤ z.tmod (n : Int) → z.tmod (n : Int) = ((z % (n : Int)).toNat : Int)) ∧ (z % (n : Int)).toNat < n := by
  have h1 := Int.lt_tmod_of_pos z (show (0 : Int) < (n : Int) by omega)
  have h2 := Int.tmod_lt_of_pos z (show (0 : Int) < (n : Int) by omega)
  have h3 := Int.tmod_add_mul_tdiv z (n : Int)
  have h4 : z % (n : Int) = (z.tmod (n : Int)) % (n : Int) := by
    conv => lhs; rw [← h3]
    rw [Int.add_mul_emod_self_left]
  have h5 := Int.emod_nonneg z (show (n : Int) ≠ 0 by omega)
  have h6 := Int.emod_lt_of_pos z (show (0 : Int) < (n : Int) by omega)
  refine ⟨fun h => ?_, fun h => ?_, by omega⟩
  · have h7 : (z.tmod (n : Int)) % (n : Int) = z.tmod (n : Int) + n := by
      rw [← Int.add_emod_right, Int.emod_eq_of_lt (by omega) (by omega)]
    omega
  · rw [Int.emod_eq_of_lt h h2] at h4
    omega
/-- The list of a crash, in memory. -/
structure CrAt (w w5 wr : World) (r : Rd) (keep : List Int) (g5 cap5 j : Nat) (vl vw : Value) : Prop where
  own : Own wr 9 1 (.slice (some ⟨g5, 0, none⟩) r.lasts.length cap5) r.lasts.length (strs (r.crTo keep j))
  box : Blk wr w.heap.size 33 #[vl, vw, .int .i64 r.fuse, .bool r.off]
  res : Blk wr (w.heap.size + 1) 33 zeroRd
  upd : Upd (fun q => q = g5) w5 wr
theorem CrAt.still {w w5 wr w6 : World} {r : Rd} {keep : List Int} {g5 cap5 j : Nat} {vl vw : Value} (h : CrAt w w5 wr r keep g5 cap5 j vl vw) (hu : Upd (fun _ => False) wr w6) : CrAt w w5 w6 r keep g5 cap5 j vl vw :=
  ⟨h.own.upd hu (fun _ _ e => e), h.box.upd hu (fun e => e), h.res.upd hu (fun e => e), h.upd.then hu (fun _ e => e.elim)⟩
theorem CrAt.skip {w w5 wr : World} {r : Rd} {keep : List Int} {g5 cap5 j : Nat} {vl vw : Value} (h : CrAt w w5 wr r keep g5 cap5 j vl vw) (hk : r.keptOf keep j = r.last j) : CrAt w w5 wr r keep g5 cap5 (j + 1) vl vw :=
  ⟨by rw [Rd.crTo_same _ _ _ hk]; exact h.own, h.box, h.res, h.upd⟩
theorem CrAt.store {w w5 wr : World} {r : Rd} {keep : List Int} {g5 cap5 j : Nat} {vl vw : Value} {y : ByteArray} (h : CrAt w w5 wr r keep g5 cap5 j vl vw) (hk : r.keptOf keep j = y) (hg : w.heap.size + 2 ≤ g5) : CrAt w w5 (wr.setCell ⟨g5, j, none⟩ (.string y)) r keep g5 cap5 (j + 1) vl vw := by
  refine ⟨?_, h.box.far (p := ⟨g5, j, none⟩) (by show w.heap.size ≠ g5; omega) _, h.res.far (p := ⟨g5, j, none⟩) (by show w.heap.size + 1 ≠ g5; omega) _, h.upd.setCell (p := ⟨g5, j, none⟩) (.inl rfl) _⟩
  rw [Rd.crTo_succ, hk]
  have := h.own.stored j (.string y)
  simpa [strs, List.map_set] using this
set_option maxRecDepth 100000 in
set_option maxHeartbeats 3200000 in
theorem rcrash_c {w : World} {vl vw v : Value} {r : Rd} {keep : List Int} (h : RdAt w vl vw r) (hf : r.fits) (hA : IsInts w v keep) :
    Calls Tryz.prog 45 #[.agg #[vl, vw, .int .i64 r.fuse, .bool r.off], v] w fun e w' => ∃ vl' vw', e = .returned (.agg #[vl', vw', .int .i64 (-1), .bool false]) ∧ RdLeft w w' vl vw vl' vw' (r.crash keep) := by
  have hl0 := hf.pos
  have hl1 := hf.lasts
  have hl2 := hf.ws
  have hRd := Lib.hid h
  obtain ⟨A, cap, rfl, -, -⟩ := h.lasts.shape
  obtain ⟨A2, cap2, rfl, -, -⟩ := h.ws.shape
  obtain ⟨kA, kcap, kb, koff, rfl, km, kA0, kcells, kok⟩ := hA.open_
  have HKc := Lib.hid (And.intro kcells kok)
  have HOf := Lib.hid (fun W (hU : Upd (fun _ => False) w W) (i : Int) => of_c (h.upd hU) hf i)
  have HSo := Lib.hid (strs_one r.lasts)
  have hsl : (strs r.lasts).length = r.lasts.length := strs_len _
  have hoflen : ∀ i, (r.of_ i).length ≤ r.ws.length := by
    intro i
    unfold Rd.of_ ofL
    rw [List.length_map]
    exact List.length_filter_le _ _
  have HLen := Lib.hid hoflen
  obtain ⟨i0, hi0, hz0, hz1, hz2⟩ := info_parts infoStr
  have hB0 := (Blk.new w 33 #[.slice A r.lasts.length cap, .slice A2 r.ws.length cap2, .int .i64 r.fuse, .bool r.off]).alloc (.cells zeroRd 33)
  have hB1 : Blk ((w.alloc (.cells #[.slice A r.lasts.length cap, .slice A2 r.ws.length cap2, .int .i64 r.fuse, .bool r.off] 33)).alloc (.cells zeroRd 33)) (w.heap.size + 1) 33 zeroRd := by
    have := Blk.new (w.alloc (.cells #[.slice A r.lasts.length cap, .slice A2 r.ws.length cap2, .int .i64 r.fuse, .bool r.off] 33)) 33 zeroRd
    simpa using this
  have hU0 : Upd (fun _ => False) w ((w.alloc (.cells #[.slice A r.lasts.length cap, .slice A2 r.ws.length cap2, .int .i64 r.fuse, .bool r.off] 33)).alloc (.cells zeroRd 33)) := ((Upd.refl _ w).alloc _).alloc _
  have hsz0 : ((w.alloc (.cells #[.slice A r.lasts.length cap, .slice A2 r.ws.length cap2, .int .i64 r.fuse, .bool r.off] 33)).alloc (.cells zeroRd 33)).heap.size = w.heap.size + 2 := by simp
  have H3 := Lib.hid (And.intro hB0 (And.intro hB1 (And.intro hU0 hsz0)))
  clear h hf hA kcells kok hoflen hB0 hB1 hU0 hsz0
  go_enter Tryz.func45, Tryz.ntmps45
  go_upto_region 1 with fail
  generalize (w.alloc (.cells #[.slice A r.lasts.length cap, .slice A2 r.ws.length cap2, .int .i64 r.fuse, .bool r.off] 33)).alloc (.cells zeroRd 33) = w3 at *
  have hc3 := (H3.out.1.alloc (.cells #[] 9)).cells4
  have hla3 := hRd.out.lasts.upd H3.out.2.2.1 (fun _ _ e => e)
  go_wp2_with (first
    | (at_builtin
       refine wpList_append_src rfl _ _ _ _ rfl 9 i0 _ 1 16 Tryz.underlying30 hi0 hz0 hz1 hz2 rfl (.slice (some ⟨w3.heap.size, 0, none⟩) 0 0) 0 [] rfl (own_empty w3) _ r.lasts.length (strs r.lasts) rfl (Src.of_own Tryz.underlying30 (hla3.alloc (.cells #[] 9))) HSo.out (by unfold maxLen; omega) (by omega) ?_
       intro v5 w5 hO5 hU5 hl5 hs5
       have hnew5 : ∀ q, v5.ownBlock = some q → w3.heap.size ≤ q := fun q hq => by
         rcases hl5 with c | c
         · rw [c] at hq; simp [Value.ownBlock] at hq; omega
         · rw [c] at hq; have h5 := Option.some.inj hq; simp at h5; omega
       have hU35 : Upd (fun _ => False) w3 w5 := ((Upd.refl _ w3).alloc (.cells #[] 9)).then hU5 (fun q e => by
         have e' : some w3.heap.size = some q := e
         have := Option.some.inj e'
         exact .inr (by omega))
       have hO5' : Own w5 9 1 v5 r.lasts.length (strs r.lasts) := by
         have := hO5
         rw [Nat.zero_add, List.nil_append] at this
         exact this
       have H5 := Lib.hid (And.intro hO5' (And.intro (H3.out.1.upd hU35 (fun e => e)) (And.intro (H3.out.2.1.upd hU35 (fun e => e)) (And.intro hnew5 (H3.out.2.2.1.then hU35 (fun _ e => e.elim))))))
       clear hO5 hU5 hl5 hs5 hU35 hnew5 hla3 hc3 hO5'))
  obtain ⟨g5, cap5, rfl, hx1, hx2⟩ := H5.out.1.head (by omega)
  have hg5 : w.heap.size + 2 ≤ g5 := by have := H5.out.2.2.2.1 g5 rfl; have := H3.out.2.2.2; omega
  have hcr0 : CrAt w w5 w5 r keep g5 cap5 0 (.slice A r.lasts.length cap) (.slice A2 r.ws.length cap2) := ⟨by rw [Rd.crTo_zero]; exact H5.out.1, H5.out.2.1, H5.out.2.2.1, Upd.refl _ _⟩
  have HC0 := Lib.hid hcr0
  have HU5 := Lib.hid H5.out.2.2.2.2
  have HG := Lib.hid hg5
  unfold maxLen at hx2
  clear hcr0 hg5 H5 H3
  go_wp2_with fail
  go_loopw [6, 7] (fun kv iv wr => ∃ j : Nat, j ≤ r.lasts.length ∧ kv = .int .i64 (r.busyTo j : Int) ∧ iv = .int .i64 (j : Int) ∧ CrAt w w5 wr r keep g5 cap5 j (.slice A r.lasts.length cap) (.slice A2 r.ws.length cap2)) (fun _ iv _ => r.lasts.length - (intOf iv).toNat)
  case atStart => exact ⟨0, by omega, rfl, rfl, HC0.out⟩
  case round =>
    obtain ⟨j, hj, rfl, rfl, hC⟩ := hrel
    clear HC0
    by_cases hlt : j < r.lasts.length
    · have hUw : Upd (fun _ => False) w wr := HU5.out.then hC.upd (fun q e => .inr (by have := HG.out; omega))
      have hof := HOf.out wr hUw (j : Int)
      have hcb := hC.box.cells4
      have HC := Lib.hid (And.intro hC hUw)
      have hlen := HLen.out (j : Int)
      have hbl := r.busy_le j
      have hkept : r.keptOf keep j = if (r.of_ (j : Int)).isEmpty then r.last j else if 0 < Dk.choice (r.of_ (j : Int)) keep (r.busyTo j) then (r.of_ (j : Int)).getD (Dk.choice (r.of_ (j : Int)) keep (r.busyTo j) - 1) ByteArray.empty else r.last j := rfl
      have hbs := r.busy_succ j
      obtain ⟨Lo, hLo⟩ : ∃ Lo, r.of_ (j : Int) = Lo := ⟨_, rfl⟩
      obtain ⟨K, hK⟩ : ∃ K, r.busyTo j = K := ⟨_, rfl⟩
      rw [hLo] at hof hlen hkept hbs
      rw [hK] at hkept hbs hbl ⊢
      have HF := Lib.hid (And.intro hkept hbs)
      have HOf2 := Lib.hid hof
      clear hkept hbs hof hC hUw hLo hK
      go_wp2_with (first
        | (refine wpList_load_all rfl _ _ rfl w.heap.size rfl _ _ _ HC.out.1.box Tryz.underlying33 rfl rfl ?_))
      refine HOf2.out.mono ?_
      rintro e w6 ⟨v6, rfl, hO6, hU6, -⟩
      have H6 := Lib.hid (And.intro (HC.out.1.still hU6) (HC.out.2.then hU6 (fun _ e => e.elim)))
      clear hU6 HC HOf2 hcb
      by_cases h0 : Lo = []
      · subst h0
        obtain ⟨A6, cap6, rfl, -, -⟩ := hO6.shape
        clear hO6
        simp only [List.length_nil]
        go_wp2_with fail
        go_roundw
        case rel => exact ⟨j + 1, by omega, by rw [HF.out.2]; rfl, by go_num, H6.out.1.skip (by rw [HF.out.1]; rfl)⟩
        case measure => simp [intOf] <;> omega
      · have hL0 : 0 < Lo.length := List.length_pos_iff.2 h0
        have hem : Lo.isEmpty = false := by
          cases Lo with
          | nil => exact absurd rfl h0
          | cons _ _ => rfl
        have hF2 := HF.out
        simp only [hem, Bool.false_eq_true, if_false] at hF2
        have HF2 := Lib.hid hF2
        obtain ⟨g6, cap6, rfl, hx3, hx4⟩ := hO6.head hL0
        unfold maxLen at hx4
        have hne : ((Lo.length : Int) == 0) = false := by rw [beq_eq_false_iff_ne]; omega
        clear HF h0 hem hF2
        by_cases hk : K < keep.length
        · have hk' : (K : Int) < (keep.length : Int) := by omega
          obtain rfl := kA0 (by omega)
          obtain ⟨z, hz⟩ : ∃ z, keep[K] = z := ⟨_, rfl⟩
          have hkc : w6.cell? ⟨kb, koff + K, none⟩ = some (.int .i64 z) := by
            rw [← hz]
            exact HKc.out.1 w6 H6.out.2 K hk
          have hch : Dk.choice Lo keep K = (z % ((Lo.length + 1 : Nat) : Int)).toNat := by
            unfold Dk.choice
            rw [if_pos hk, List.getD_eq_getElem?_getD, List.getElem?_eq_getElem hk, hz]
            rfl
          obtain ⟨m1, m2, m3⟩ := choice_mod z (Lo.length + 1) (by omega)
          rw [← hch] at m1 m2 m3
          have ht1 := Int.lt_tmod_of_pos z (show (0 : Int) < ((Lo.length + 1 : Nat) : Int) by omega)
          have ht2 := Int.tmod_lt_of_pos z (show (0 : Int) < ((Lo.length + 1 : Nat) : Int) by omega)
          have ecast : ((Lo.length + 1 : Nat) : Int) = (Lo.length : Int) + 1 := by omega
          rw [ecast] at m1 m2 ht1 ht2
          obtain ⟨c, hc⟩ : ∃ c, Dk.choice Lo keep K = c := ⟨_, rfl⟩
          rw [hc] at m1 m2 m3 HF2
          clear hz hch ecast hc
          have hold : ∃ y0, w6.cell? ⟨g5, j, none⟩ = some (.string y0) := by
            rw [H6.out.1.own.cellAt j (by omega), strs_get, Rd.crTo_get _ _ _ _ hlt]
            exact ⟨_, rfl⟩
          obtain ⟨y0, hold⟩ := hold
          have hfro := H6.out.1.own.frozenAt j (by omega)
          by_cases hneg : z.tmod ((Lo.length : Int) + 1) < 0
          · obtain ⟨n1, n2⟩ := m1 hneg
            have n3 : z.tmod ((Lo.length : Int) + 1) + (Lo.length : Int) + 1 = (c : Int) := by omega
            have hc0 : (0 : Int) < (c : Int) := by omega
            have hnew : w6.cell? ⟨g6, c - 1, none⟩ = some (.string (Lo.getD (c - 1) ByteArray.empty)) := by
              rw [hO6.cellAt _ (by omega), strs_get, List.getD_eq_getElem?_getD, List.getElem?_eq_getElem (by omega)]
              rfl
            have hfin : r.keptOf keep j = Lo.getD (c - 1) ByteArray.empty := by rw [HF2.out.1, if_pos n2]
            have HFin := Lib.hid (And.intro hfin HF2.out.2)
            have hw1 : IntKind.i64.wrap (z.tmod ((Lo.length : Int) + 1) + (Lo.length : Int)) = z.tmod ((Lo.length : Int) + 1) + (Lo.length : Int) := IntWalk.i64_in _ (by omega)
            have hcL : (c : Int) - 1 < (Lo.length : Int) := by omega
            have hc1 : 0 < c := n2
            clear hfin HF2 n1 n2 m1 m2 hO6
            generalize Lo.getD (c - 1) ByteArray.empty = y at *
            generalize Lo.length = L at *
            go_wp2_with fail
            go_roundw
            case rel => exact ⟨j + 1, by omega, by rw [HFin.out.2]; go_num, by go_num, H6.out.1.store HFin.out.1 HG.out⟩
            case measure => simp [intOf] <;> omega
          · have n3 := m2 (by omega)
            by_cases hc0 : 0 < c
            · have hc0' : (0 : Int) < (c : Int) := by omega
              have hnew : w6.cell? ⟨g6, c - 1, none⟩ = some (.string (Lo.getD (c - 1) ByteArray.empty)) := by
                rw [hO6.cellAt _ (by omega), strs_get, List.getD_eq_getElem?_getD, List.getElem?_eq_getElem (by omega)]
                rfl
              have hfin : r.keptOf keep j = Lo.getD (c - 1) ByteArray.empty := by rw [HF2.out.1, if_pos hc0]
              have HFin := Lib.hid (And.intro hfin HF2.out.2)
              have hcL : (c : Int) - 1 < (Lo.length : Int) := by omega
              clear hfin HF2 m1 m2 hO6 hneg
              generalize Lo.getD (c - 1) ByteArray.empty = y at *
              generalize Lo.length = L at *
              go_wp2_with fail
              go_roundw
              case rel => exact ⟨j + 1, by omega, by rw [HFin.out.2]; go_num, by go_num, H6.out.1.store HFin.out.1 HG.out⟩
              case measure => simp [intOf] <;> omega
            · obtain rfl : c = 0 := by omega
              have hfin : r.keptOf keep j = r.last j := by rw [HF2.out.1, if_neg (by omega)]
              have HFin := Lib.hid (And.intro hfin HF2.out.2)
              clear hfin HF2 m1 m2 hO6 hneg
              simp only [Int.ofNat_zero] at n3
              generalize Lo.length = L at *
              go_wp2_with fail
              go_roundw
              case rel => exact ⟨j + 1, by omega, by rw [HFin.out.2]; go_num, by go_num, H6.out.1.skip HFin.out.1⟩
              case measure => simp [intOf] <;> omega
        · have hk' : ¬ (K : Int) < (keep.length : Int) := by omega
          have hfin : r.keptOf keep j = r.last j := by
            rw [HF2.out.1, if_neg]
            unfold Dk.choice
            rw [if_neg hk]
            omega
          have HFin := Lib.hid (And.intro hfin HF2.out.2)
          clear hfin HF2 hO6
          generalize Lo.length = L at *
          go_wp2_with fail
          go_roundw
          case rel => exact ⟨j + 1, by omega, by rw [HFin.out.2]; go_num, by go_num, H6.out.1.skip HFin.out.1⟩
          case measure => simp [intOf] <;> omega
    · obtain rfl : j = r.lasts.length := by omega
      have HC := Lib.hid hC
      clear hC
      go_wp2_with (first
        | (refine wpList_store_all rfl 33 _ _ rfl (w.heap.size + 1) #[.slice (some ⟨g5, 0, none⟩) r.lasts.length cap5, .slice none 0 0, .int .i64 (-1), .bool false] rfl rfl _ _ HC.out.res rfl (row_one _ _ rfl rfl _ _) (by kernel_rfl) ?_
           intro w9 hB9 hU9 hs9))
      refine bodyPost_ret (results_cell_row rfl _ _ (w.heap.size + 1) _ _ _ _ rfl hB9 Tryz.underlying33 rfl rfl) rfl ⟨_, _, rfl, ?_⟩
      have hg1 := HG.out
      have hUa : Upd (fun _ => False) w w9 := (HU5.out.then HC.out.upd (fun q e => .inr (by omega))).then hU9 (fun q e => .inr (by omega))
      refine ⟨⟨?_, Own.nil _ _ _⟩, hUa, fun q hq => ?_⟩
      · have h6 := HC.out.own.upd hU9 (fun q hq e => by have e' : some g5 = some q := hq; have := Option.some.inj e'; omega)
        rw [Rd.crTo_all] at h6
        have e1 : (r.crash keep).lasts.length = r.lasts.length := by rw [← Rd.crTo_all, Rd.crTo_len]
        rw [e1]
        exact h6
      · rcases hq with e | e
        · have e' : some g5 = some q := e
          have := Option.some.inj e'
          exact .inr (by omega)
        · simp [Value.ownBlock] at e
end Go.Proofs.YtpfbgmfkeofefaaGreat

/-
  The document's disk: Spoil.
-/
namespace Go.Proofs.YtpfbgmfkeofefaaGreat
open Go Go.RowKit

/-- A byte of what was turned. -/
theorem turnK_at (l : List UInt8) (a : Nat) (x : List UInt8) (m k : Nat) (hk : k < l.length) (hm : m ≤ x.length) : (turnK l a x m).getD k 0 = if a ≤ k ∧ k < a + m then l.getD k 0 ^^^ x.getD (k - a) 0 else l.getD k 0 := by
  induction m with
  | zero => rw [if_neg (by omega)]; rfl
  | succ m ih =>
    have ih' := ih (by omega)
    rw [turnK, List.getD_eq_getElem?_getD, List.getElem?_set]
    by_cases e : a + m = k
    · subst e
      rw [if_pos rfl, if_pos (by rw [turnK_len]; exact hk), ih', if_neg (by omega), if_pos (by omega), Nat.add_sub_cancel_left]
      rfl
    · rw [if_neg e, ← List.getD_eq_getElem?_getD, ih']
      by_cases c : a ≤ k ∧ k < a + m
      · rw [if_pos c, if_pos (by omega)]
      · rw [if_neg c, if_neg (by omega)]
def Rd.spoil (r : Rd) (i at_ : Int) (x : ByteArray) : Rd × Int :=
  if !r.out i && decide (x.size ≤ 4 ∧ 0 ≤ at_ ∧ at_ ≤ 64 - x.size) then
    ({ r with lasts := r.lasts.set i.toNat (str (turnK (r.last i.toNat).data.toList at_.toNat x.data.toList x.size)) }, 0)
  else (r, 1)
theorem RdIs.spoil {d : Dk} {r : Rd} (h : RdIs d r) (i a : Int) (x : ByteArray) : RdIs (d.spoil i a x).1 (r.spoil i a x).1 ∧ (r.spoil i a x).2 = (d.spoil i a x).2 := by
  unfold Rd.spoil Dk.spoil
  rw [h.out, Bool.not_not]
  cases hc : (d.there i && decide (x.size ≤ 4 ∧ 0 ≤ a ∧ a ≤ 64 - x.size))
  · rw [if_neg (by simp), if_neg (by simp)]
    exact ⟨h, rfl⟩
  · rw [if_pos rfl, if_pos rfl]
    refine ⟨⟨?_, h.fuse, h.off, h.pend, ?_, h.of_⟩, rfl⟩
    · show r.lasts.set _ _ = d.lasts.set _ _
      rw [h.lasts, Rd.last, Dk.last, h.lasts]
    · show ∀ x ∈ r.ws, 0 ≤ x.1 ∧ x.1 < ((d.lasts.set _ _).length : Int)
      rw [List.length_set]
      exact h.low
theorem bget (x : ByteArray) (k : Nat) (h : k < x.size) : x.data.toList.getD k 0 = x[k] := by simp [List.getD, h, ByteArray.getElem_eq_getElem_data]
set_option maxRecDepth 100000 in
set_option maxHeartbeats 1600000 in
theorem rspoil_bad {w : World} {vl vw : Value} {r : Rd} (h : RdAt w vl vw r) (hf : r.fits) (i a : Int) (x : ByteArray) (ha : -9223372036854775808 ≤ a ∧ a ≤ 9223372036854775807) (hx : x.size ≤ 9223372036854775807) (hb : (!r.out i && decide (x.size ≤ 4 ∧ 0 ≤ a ∧ a ≤ 64 - x.size)) = false) :
    Calls Tryz.prog 46 #[.agg #[vl, vw, .int .i64 r.fuse, .bool r.off], .int .i64 i, .int .i64 a, .string x] w fun e w' => e = .returned (.tuple #[.agg #[vl, vw, .int .i64 r.fuse, .bool r.off], .int .i64 1]) ∧ Upd (fun _ => False) w w' := by
  have hl1 := hf.lasts
  have h1 := h.lasts.one
  have h2 := h.ws.one
  obtain ⟨A, cap, rfl, -, -⟩ := h.lasts.shape
  have hcase : i < 0 ∨ (0 ≤ i ∧ (r.lasts.length : Int) ≤ i) ∨ (0 ≤ i ∧ i < (r.lasts.length : Int) ∧ (4 : Int) < (x.size : Int)) ∨ (0 ≤ i ∧ i < (r.lasts.length : Int) ∧ (x.size : Int) ≤ 4 ∧ a < 0) ∨ (0 ≤ i ∧ i < (r.lasts.length : Int) ∧ (x.size : Int) ≤ 4 ∧ 0 ≤ a ∧ 64 - (x.size : Int) < a) := by
    unfold Rd.out at hb
    by_cases c0 : i < 0
    · exact .inl c0
    · by_cases c1 : (r.lasts.length : Int) ≤ i
      · exact .inr (.inl ⟨by omega, c1⟩)
      · rw [decide_eq_false (by omega), Bool.not_false, Bool.true_and, decide_eq_false_iff_not] at hb
        by_cases c2 : (4 : Int) < (x.size : Int)
        · exact .inr (.inr (.inl ⟨by omega, by omega, c2⟩))
        · by_cases c3 : a < 0
          · exact .inr (.inr (.inr (.inl ⟨by omega, by omega, by omega, c3⟩)))
          · exact .inr (.inr (.inr (.inr ⟨by omega, by omega, by omega, by omega, by omega⟩)))
  have hB0 := (Blk.new w 33 #[.slice A r.lasts.length cap, vw, .int .i64 r.fuse, .bool r.off]).alloc (.cells zeroRd 33)
  have hB1 : Blk ((w.alloc (.cells #[.slice A r.lasts.length cap, vw, .int .i64 r.fuse, .bool r.off] 33)).alloc (.cells zeroRd 33)) (w.heap.size + 1) 33 zeroRd := by
    have := Blk.new (w.alloc (.cells #[.slice A r.lasts.length cap, vw, .int .i64 r.fuse, .bool r.off] 33)) 33 zeroRd
    simpa using this
  have hc0 := hB0.cells4
  have HU := Lib.hid (show Upd (fun _ => False) w ((w.alloc (.cells #[.slice A r.lasts.length cap, vw, .int .i64 r.fuse, .bool r.off] 33)).alloc (.cells zeroRd 33)) from ((Upd.refl _ w).alloc _).alloc _)
  have HB := Lib.hid (And.intro hB0 hB1)
  clear h hf hB0 hB1 hb
  rcases hcase with c | ⟨c0, c1⟩ | ⟨c0, c1, c2⟩ | ⟨c0, c1, c2, c3⟩ | ⟨c0, c1, c2, c3, c4⟩
  all_goals
    go_enter Tryz.func46, Tryz.ntmps46
    go_wp2_with (first
      | (refine wpList_load_all rfl _ _ rfl w.heap.size rfl _ _ _ HB.out.1 Tryz.underlying33 rfl rfl ?_)
      | (refine wpList_store_all rfl 33 _ _ rfl (w.heap.size + 1) #[.slice A r.lasts.length cap, vw, .int .i64 r.fuse, .bool r.off] rfl rfl _ _ HB.out.2 rfl (row_one _ _ h1 h2 _ _) (by kernel_rfl) ?_
         intro w4 hB4 hU4 hs4))
    refine bodyPost_ret (results_cell_slot rfl _ _ (w.heap.size + 1) _ _ _ _ rfl hB4 Tryz.underlying33 rfl rfl (.int .i64 1) rfl) rfl ⟨rfl, ?_⟩
    exact HU.out.then hU4 (fun q e => .inr (by omega))
/-- A row of sectors of which one is being turned. -/
structure SpAt (w w5 wr : World) (r : Rd) (g5 cap5 : Nat) (vl vw : Value) : Prop where
  own : Own wr 9 1 (.slice (some ⟨g5, 0, none⟩) r.lasts.length cap5) r.lasts.length (strs r.lasts)
  box : Blk wr w.heap.size 33 #[vl, vw, .int .i64 r.fuse, .bool r.off]
  res : Blk wr (w.heap.size + 1) 33 zeroRd
  upd : Upd (fun _ => False) w5 wr
theorem SpAt.still {w w5 wr w6 : World} {r : Rd} {g5 cap5 : Nat} {vl vw : Value} (h : SpAt w w5 wr r g5 cap5 vl vw) (hu : Upd (fun _ => False) wr w6) : SpAt w w5 w6 r g5 cap5 vl vw :=
  ⟨h.own.upd hu (fun _ _ e => e), h.box.upd hu (fun e => e), h.res.upd hu (fun e => e), h.upd.then hu (fun _ e => e.elim)⟩
set_option maxRecDepth 100000 in
set_option maxHeartbeats 3200000 in
theorem rspoil_good {w : World} {vl vw : Value} {r : Rd} (h : RdAt w vl vw r) (hf : r.fits) (I a : Nat) (x : ByteArray) (hI : I < r.lasts.length) (hx4 : x.size ≤ 4) (ha : a + x.size ≤ 64) :
    Calls Tryz.prog 46 #[.agg #[vl, vw, .int .i64 r.fuse, .bool r.off], .int .i64 (I : Int), .int .i64 (a : Int), .string x] w fun e w' => ∃ vl', e = .returned (.tuple #[.agg #[vl', vw, .int .i64 r.fuse, .bool r.off], .int .i64 0]) ∧
      RdLeft w w' vl vw vl' vw { r with lasts := r.lasts.set I (str (turnK (r.last I).data.toList a x.data.toList x.size)) } := by
  have hl0 := hf.pos
  have hl1 := hf.lasts
  have hRd := Lib.hid h
  have h2 := h.ws.one
  obtain ⟨A, cap, rfl, -, -⟩ := h.lasts.shape
  have HSo := Lib.hid (strs_one r.lasts)
  have hsl : (strs r.lasts).length = r.lasts.length := strs_len _
  have h64 : (r.last I).size = 64 := by
    rw [Rd.last, List.getD_eq_getElem?_getD, List.getElem?_eq_getElem hI]
    exact hf.size _ (List.getElem_mem _)
  obtain ⟨i0, hi0, hz0, hz1, hz2⟩ := info_parts infoStr
  have hB0 := (Blk.new w 33 #[.slice A r.lasts.length cap, vw, .int .i64 r.fuse, .bool r.off]).alloc (.cells zeroRd 33)
  have hB1 : Blk ((w.alloc (.cells #[.slice A r.lasts.length cap, vw, .int .i64 r.fuse, .bool r.off] 33)).alloc (.cells zeroRd 33)) (w.heap.size + 1) 33 zeroRd := by
    have := Blk.new (w.alloc (.cells #[.slice A r.lasts.length cap, vw, .int .i64 r.fuse, .bool r.off] 33)) 33 zeroRd
    simpa using this
  have hU0 : Upd (fun _ => False) w ((w.alloc (.cells #[.slice A r.lasts.length cap, vw, .int .i64 r.fuse, .bool r.off] 33)).alloc (.cells zeroRd 33)) := ((Upd.refl _ w).alloc _).alloc _
  have hsz0 : ((w.alloc (.cells #[.slice A r.lasts.length cap, vw, .int .i64 r.fuse, .bool r.off] 33)).alloc (.cells zeroRd 33)).heap.size = w.heap.size + 2 := by simp
  have hc00 := hB0.cells4
  have H3 := Lib.hid (And.intro hB0 (And.intro hB1 (And.intro hU0 hsz0)))
  have hx4' : ¬ (4 : Int) < (x.size : Int) := by omega
  have ha6 : ¬ 64 - (x.size : Int) < (a : Int) := by omega
  have hI' : ¬ (r.lasts.length : Int) ≤ (I : Int) := by omega
  have hI2 : (I : Int) < (r.lasts.length : Int) := by omega
  clear h hf hB0 hB1 hU0 hsz0
  obtain ⟨T, hT⟩ : ∃ T, turnK (r.last I).data.toList a x.data.toList x.size = T := ⟨_, rfl⟩
  have hTl : T.length = 64 := by rw [← hT, turnK_len]; simpa using h64
  have hTk : ∀ k (hk : k < 64), T.getD k 0 = if a ≤ k ∧ k < a + x.size then (r.last I).data.toList.getD k 0 ^^^ x.data.toList.getD (k - a) 0 else (r.last I).data.toList.getD k 0 := by
    intro k hk
    rw [← hT]
    exact turnK_at _ _ _ _ _ (by simpa [h64] using hk) (by simp)
  obtain ⟨y, hy⟩ : ∃ y, r.last I = y := ⟨_, rfl⟩
  rw [hT]
  rw [hy] at hTk h64
  have HT := Lib.hid hTk
  have HTl := Lib.hid (And.intro hTl hy)
  clear hT hTk hTl hy
  go_enter Tryz.func46, Tryz.ntmps46
  go_upto_region 3 with fail
  clear hc00
  generalize (w.alloc (.cells #[.slice A r.lasts.length cap, vw, .int .i64 r.fuse, .bool r.off] 33)).alloc (.cells zeroRd 33) = w3 at *
  have hc3 := (H3.out.1.alloc (.cells #[] 9)).cells4
  have hla3 := hRd.out.lasts.upd H3.out.2.2.1 (fun _ _ e => e)
  go_wp2_with (first
    | (at_builtin
       refine wpList_append_src rfl _ _ _ _ rfl 9 i0 _ 1 16 Tryz.underlying30 hi0 hz0 hz1 hz2 rfl (.slice (some ⟨w3.heap.size, 0, none⟩) 0 0) 0 [] rfl (own_empty w3) _ r.lasts.length (strs r.lasts) rfl (Src.of_own Tryz.underlying30 (hla3.alloc (.cells #[] 9))) HSo.out (by unfold maxLen; omega) (by omega) ?_
       intro v5 w5 hO5 hU5 hl5 hs5
       have hnew5 : ∀ q, v5.ownBlock = some q → w3.heap.size ≤ q := fun q hq => by
         rcases hl5 with c | c
         · rw [c] at hq; simp [Value.ownBlock] at hq; omega
         · rw [c] at hq; have h5 := Option.some.inj hq; simp at h5; omega
       have hU35 : Upd (fun _ => False) w3 w5 := ((Upd.refl _ w3).alloc (.cells #[] 9)).then hU5 (fun q e => by
         have e' : some w3.heap.size = some q := e
         have := Option.some.inj e'
         exact .inr (by omega))
       have hO5' : Own w5 9 1 v5 r.lasts.length (strs r.lasts) := by
         have := hO5
         rw [Nat.zero_add, List.nil_append] at this
         exact this
       have H5 := Lib.hid (And.intro hO5' (And.intro (H3.out.1.upd hU35 (fun e => e)) (And.intro (H3.out.2.1.upd hU35 (fun e => e)) (And.intro hnew5 (H3.out.2.2.1.then hU35 (fun _ e => e.elim))))))
       clear hO5 hU5 hl5 hs5 hU35 hnew5 hla3 hc3 hO5'))
  obtain ⟨g5, cap5, rfl, hx1, hx2⟩ := H5.out.1.head (by omega)
  have hg5 : w.heap.size + 2 ≤ g5 := by have := H5.out.2.2.2.1 g5 rfl; have := H3.out.2.2.2; omega
  have hsp0 : SpAt w w5 w5 r g5 cap5 (.slice A r.lasts.length cap) vw := ⟨H5.out.1, H5.out.2.1, H5.out.2.2.1, Upd.refl _ _⟩
  have HC0 := Lib.hid hsp0
  have HU5 := Lib.hid H5.out.2.2.2.2
  have HG := Lib.hid hg5
  unfold maxLen at hx2
  clear hsp0 hg5 H5 H3
  go_wp2_with fail
  go_loopw [11, 12] (fun sv kv wr => ∃ k : Nat, k ≤ 64 ∧ sv = .string (str (T.take k)) ∧ kv = .int .i64 (k : Int) ∧ SpAt w w5 wr r g5 cap5 (.slice A r.lasts.length cap) vw) (fun _ kv _ => 64 - (intOf kv).toNat)
  case atStart => exact ⟨0, by omega, rfl, rfl, HC0.out⟩
  case round =>
    obtain ⟨k, hk, rfl, rfl, hC⟩ := hrel
    clear HC0
    by_cases hlt : k < 64
    · have hcell := hC.own.cellAt I (by omega)
      rw [strs_get, List.getElem?_eq_getElem hI] at hcell
      have hyI : r.lasts[I] = y := by
        rw [← HTl.out.2, Rd.last, List.getD_eq_getElem?_getD, List.getElem?_eq_getElem hI]
        rfl
      simp only [Option.map_some, hyI] at hcell
      have hky : k < y.size := by omega
      have hky' : (k : Int) < (y.size : Int) := by omega
      have hTk := HT.out k hlt
      have hlenk : (str (T.take k)).size = k := by
        rw [str_size, List.length_take, HTl.out.1]
        omega
      have hsucc : T.take (k + 1) = T.take k ++ [T.getD k 0] := by
        have hkT : k < T.length := by rw [HTl.out.1]; exact hlt
        rw [List.take_succ_eq_append_getElem hkT, List.getD_eq_getElem?_getD, List.getElem?_eq_getElem hkT]
        rfl
      rw [bget y k hky] at hTk
      have HC := Lib.hid hC
      clear hyI hC
      by_cases hin : a ≤ k ∧ k < a + x.size
      · rw [if_pos hin] at hTk
        have hxk : k - a < x.size := by omega
        rw [bget x (k - a) hxk] at hTk
        have hi1 : (a : Int) ≤ (k : Int) := by omega
        have hi2 : (k : Int) < (a : Int) + (x.size : Int) := by omega
        have htn : ((k : Int) - (a : Int)).toNat = k - a := by omega
        have hi3 : (0 : Int) ≤ (k : Int) - (a : Int) := by omega
        have hi4 : (k : Int) - (a : Int) < (x.size : Int) := by omega
        have hxr := u8_xor y[k] x[k - a]
        rw [UInt8.toNat_xor] at hxr
        have hTn : (T.getD k 0).toNat = y[k].toNat ^^^ x[k - a].toNat := by rw [hTk, UInt8.toNat_xor]
        have hb256 : y[k].toNat ^^^ x[k - a].toNat < 256 := by rw [← hTn]; exact (T.getD k 0).toNat_lt
        have hcv := conv_b wr (y[k].toNat ^^^ x[k - a].toNat) hb256
        have HS := Lib.hid (And.intro hsucc hTk)
        clear hsucc hTk hTn
        go_wp2_with fail
        go_roundw
        case rel =>
          refine ⟨k + 1, by omega, ?_, by go_num, HC.out.still ((Upd.refl _ wr).alloc _)⟩
          rw [HS.out.1, HS.out.2, ← str_app]
          rfl
        case measure => simp [intOf] <;> omega
      · rw [if_neg hin] at hTk
        have hcv := conv_b wr y[k].toNat y[k].toNat_lt
        have HS := Lib.hid (And.intro hsucc hTk)
        clear hsucc hTk
        by_cases hka : k < a
        · have hi1 : (k : Int) < (a : Int) := by omega
          clear hin
          go_wp2_with fail
          go_roundw
          case rel =>
            refine ⟨k + 1, by omega, ?_, by go_num, HC.out.still ((Upd.refl _ wr).alloc _)⟩
            rw [HS.out.1, HS.out.2, ← str_app]
            rfl
          case measure => simp [intOf] <;> omega
        · have hi1 : (a : Int) ≤ (k : Int) := by omega
          have hi2 : (a : Int) + (x.size : Int) ≤ (k : Int) := by omega
          clear hin
          go_wp2_with fail
          go_roundw
          case rel =>
            refine ⟨k + 1, by omega, ?_, by go_num, HC.out.still ((Upd.refl _ wr).alloc _)⟩
            rw [HS.out.1, HS.out.2, ← str_app]
            rfl
          case measure => simp [intOf] <;> omega
    · obtain rfl : k = 64 := by omega
      have hTT : T.take 64 = T := List.take_of_length_le (by rw [HTl.out.1]; omega)
      rw [hTT]
      have hcell := hC.own.cellAt I (by omega)
      rw [strs_get, List.getElem?_eq_getElem hI] at hcell
      simp only [Option.map_some] at hcell
      have hfro := hC.own.frozenAt I (by omega)
      have HC := Lib.hid hC
      have hg1 := HG.out
      have hgs : w.heap.size ≠ g5 ∧ w.heap.size + 1 ≠ g5 := by omega
      have hBx : Blk (wr.setCell ⟨g5, I, none⟩ (.string (str T))) w.heap.size 33 #[.slice A r.lasts.length cap, vw, .int .i64 r.fuse, .bool r.off] := hC.box.far (p := ⟨g5, I, none⟩) hgs.1 _
      have hRx : Blk (wr.setCell ⟨g5, I, none⟩ (.string (str T))) (w.heap.size + 1) 33 zeroRd := hC.res.far (p := ⟨g5, I, none⟩) hgs.2 _
      have HX := Lib.hid (And.intro hBx hRx)
      clear hC hTT hBx hRx hgs
      go_wp2_with (first
        | (refine wpList_store_one rfl 30 _ _ rfl w.heap.size 0 (.slice (some ⟨g5, 0, none⟩) r.lasts.length cap5) rfl rfl _ _ HX.out.1 (by simp) rfl (by kernel_rfl) ?_
           intro w7 hB7 hU7 hs7
           simp only [List.setIfInBounds_toArray, List.set_cons_zero] at hB7
           have hB17 := HX.out.2.upd hU7 (by omega)
           clear hcell hfro)
        | (refine wpList_load_all rfl _ _ rfl w.heap.size rfl _ _ _ hB7 Tryz.underlying33 rfl rfl ?_)
        | (refine wpList_store_all rfl 33 _ _ rfl (w.heap.size + 1) #[.slice (some ⟨g5, 0, none⟩) r.lasts.length cap5, vw, .int .i64 r.fuse, .bool r.off] rfl rfl _ _ hB17 rfl (row_one _ _ rfl h2 _ _) (by kernel_rfl) ?_
           intro w9 hB9 hU9 hs9))
      refine bodyPost_ret (results_cell_slot rfl _ _ (w.heap.size + 1) _ _ _ _ rfl hB9 Tryz.underlying33 rfl rfl (.int .i64 0) rfl) rfl ⟨_, rfl, ?_⟩
      have hUs : Upd (fun q => q = g5) wr (wr.setCell ⟨g5, I, none⟩ (.string (str T))) := (Upd.refl (fun q => q = g5) wr).setCell (p := ⟨g5, I, none⟩) (.inl (show g5 = g5 from rfl)) _
      have hUa : Upd (fun _ => False) w w9 := (((HU5.out.then HC.out.upd (fun q e => e.elim)).then hUs (fun q e => .inr (by omega))).then hU7 (fun q e => .inr (by omega))).then hU9 (fun q e => .inr (by omega))
      have hown := HC.out.own.stored I (.string (str T))
      refine ⟨⟨?_, (hRd.out.upd hUa).ws⟩, hUa, fun q hq => ?_⟩
      · have h6 := (hown.upd hU7 (fun q hq e => by have e' : some g5 = some q := hq; have := Option.some.inj e'; omega)).upd hU9 (fun q hq e => by have e' : some g5 = some q := hq; have := Option.some.inj e'; omega)
        show Own w9 _ 1 _ (r.lasts.set I (str T)).length (strs (r.lasts.set I (str T)))
        rw [List.length_set]
        simpa [strs, List.map_set] using h6
      · rcases hq with e | e
        · have e' : some g5 = some q := e
          have := Option.some.inj e'
          exact .inr (by omega)
        · exact .inl (.inr e)
end Go.Proofs.YtpfbgmfkeofefaaGreat

/-
  The document's disk: New.
-/
namespace Go.Proofs.YtpfbgmfkeofefaaGreat
open Go Go.RowKit

set_option maxRecDepth 100000 in
set_option maxHeartbeats 800000 in
theorem rnew_bad (n : Int) (w : World) (h : n < 1 ∨ 4096 < n) :
    Calls Tryz.prog 10 #[.int .i64 n] w fun e w' => e = .returned (.tuple #[.agg zeroRd, .int .i64 1]) ∧ Upd (fun _ => False) w w' := by
  have hB0 := Blk.new w 33 zeroRd
  have HB := Lib.hid hB0
  clear hB0
  rcases h with h | h
  · go_enter Tryz.func10, Tryz.ntmps10
    go_wp2_with (first
      | (refine wpList_store_all rfl 33 _ _ rfl w.heap.size #[.slice none 0 0, .slice none 0 0, .int .i64 0, .bool false] rfl rfl _ _ HB.out rfl (row_one _ _ rfl rfl _ _) (by kernel_rfl) ?_
         intro w3 hB3 hU3 hs3))
    refine bodyPost_ret (results_cell_slot rfl _ _ w.heap.size _ _ _ _ rfl hB3 Tryz.underlying33 rfl rfl (.int .i64 1) rfl) rfl ⟨rfl, ?_⟩
    exact ((Upd.refl _ w).alloc _).then hU3 (fun q e => .inr (by omega))
  · have h1 : ¬ n < 1 := by omega
    go_enter Tryz.func10, Tryz.ntmps10
    go_wp2_with (first
      | (refine wpList_store_all rfl 33 _ _ rfl w.heap.size #[.slice none 0 0, .slice none 0 0, .int .i64 0, .bool false] rfl rfl _ _ HB.out rfl (row_one _ _ rfl rfl _ _) (by kernel_rfl) ?_
         intro w3 hB3 hU3 hs3))
    refine bodyPost_ret (results_cell_slot rfl _ _ w.heap.size _ _ _ _ rfl hB3 Tryz.underlying33 rfl rfl (.int .i64 1) rfl) rfl ⟨rfl, ?_⟩
    exact ((Upd.refl _ w).alloc _).then hU3 (fun q e => .inr (by omega))
set_option maxRecDepth 100000 in
set_option maxHeartbeats 1600000 in
theorem rnew_c (n : Nat) (w : World) (h1 : 1 ≤ n) (h2 : n ≤ 4096) :
    Calls Tryz.prog 10 #[.int .i64 (n : Int)] w fun e w' => ∃ vl, e = .returned (.tuple #[.agg #[vl, .slice none 0 0, .int .i64 (-1), .bool false], .int .i64 0]) ∧
      RdAt w' vl (.slice none 0 0) ⟨List.replicate n zeros64, [], -1, false⟩ ∧ Upd (fun _ => False) w w' ∧ (∀ q, vl.ownBlock = some q → w.heap.size ≤ q) := by
  obtain ⟨i0, hi0, hz0, hz1, hz2⟩ := info_parts infoStr
  have hmk := make64
  have hcv : ∀ W : World, (convert 94 9 (.slice (some ⟨W.heap.size, 0, none⟩) 64 64)).run Tryz.prog (W.alloc (.cells (zcells 64) 5)) = .ok (.string zeros64) (W.alloc (.cells (zcells 64) 5)) := fun W => conv_z W 64 (by omega)
  have hcv2 : ∀ W : World, (convert 94 9 (.slice (some ⟨W.heap.size, 0, none⟩) 64 64)).run Tryz.prog (W.alloc (.cells (zcells 64) 5)).drew = .ok (.string zeros64) (W.alloc (.cells (zcells 64) 5)).drew := fun W => hcv W.drew
  have hB0 := (Blk.new w 33 zeroRd).alloc (.cells zeroRd 33)
  have hBn : Blk ((w.alloc (.cells zeroRd 33)).alloc (.cells zeroRd 33)) (w.heap.size + 1) 33 zeroRd := by
    have := Blk.new (w.alloc (.cells zeroRd 33)) 33 zeroRd
    simpa using this
  have HB := Lib.hid (And.intro hB0 hBn)
  have HU := Lib.hid (show Upd (fun _ => False) w ((w.alloc (.cells zeroRd 33)).alloc (.cells zeroRd 33)) from ((Upd.refl _ w).alloc _).alloc _)
  clear hB0 hBn
  go_enter Tryz.func10, Tryz.ntmps10
  go_wp2_with (first
    | (refine wpList_store_all rfl 33 _ _ rfl (w.heap.size + 1) #[.slice none 0 0, .slice none 0 0, .int .i64 (-1), .bool false] rfl rfl _ _ HB.out.2 rfl (row_one _ _ rfl rfl _ _) (by kernel_rfl) ?_
       intro w3 hB3 hU3 hs3
       have hB03 := HB.out.1.upd hU3 (by omega)
       have H3 := Lib.hid (And.intro hB3 (And.intro hB03 (HU.out.then hU3 (fun q e => .inr (by omega)))))
       clear hB3 hU3 hs3 hB03))
  go_loopw [5] (fun iv wr => ∃ (k : Nat) (v : Value), k ≤ n ∧ iv = .int .i64 (k : Int) ∧ Blk wr (w.heap.size + 1) 33 #[v, .slice none 0 0, .int .i64 (-1), .bool false] ∧ Own wr 9 1 v k (strs (List.replicate k zeros64)) ∧ Blk wr w.heap.size 33 zeroRd ∧ Upd (fun _ => False) w wr ∧ (∀ q, v.ownBlock = some q → w.heap.size + 2 ≤ q)) (fun iv _ => n - (intOf iv).toNat)
  case atStart => exact ⟨0, .slice none 0 0, by omega, rfl, H3.out.1, Own.nil _ _ _, H3.out.2.1, H3.out.2.2, by simp [Value.ownBlock]⟩
  case round =>
    obtain ⟨k, v, hk, rfl, hB, hO, hz, hU, hl⟩ := hrel
    clear H3
    by_cases hlt : k < n
    · have hc := hB.cell 0
      simp only [List.getElem?_toArray, List.getElem?_cons_zero] at hc
      have hfz := hB.frozen 0
      have HX := Lib.hid (And.intro hB (And.intro hO (And.intro hz (And.intro hU hl))))
      clear hB hz hU hl hO
      have hne : v.ownBlock ≠ some (w.heap.size + 1) := HX.out.2.1.ne_blk HX.out.1 (by decide)
      go_wp2_with fail
      have hSS : ∀ w', Upd (fun q => v.ownBlock = some q) wr w' → w'.cell? ⟨w.heap.size + 1, 0, none⟩ = some v := fun w' hu => by
        have h := HX.out.1.upd hu hne
        exact h.cell 0
      have HSS := Lib.hid hSS
      clear hSS hc hfz hcv
      refine wp_region_noPanic ?_
      refine wp_region_T (S := fun w' => w'.cell? ⟨w.heap.size + 1, 0, none⟩ = some v) (T := fun i => Nat.beq 7 i) (by kernel_rfl) ?_
      have hS0 := HSS.out _ (Upd.refl _ wr).drew
      refine wpAnyT_takeW (i := 0) (v := .pointer (some ⟨w.heap.size + 1, 0, none⟩)) rfl (by kernel_rfl) (by kernel_rfl) (by kernel_rfl) (by kernel_rfl) (fun _ _ _ h => h) (takes_yield rfl (Or.inl ⟨by rfl, ?_⟩)) (by first | exact Or.inr (by assumption) | exact Or.inl (by kernel_rfl)) ?_
      · intro w' hSw; go_simp
      simp only [Act.put, List.getElem_toArray, List.getElem_cons_zero, List.setIfInBounds_toArray, List.set_cons_zero, List.set_cons_succ]
      refine wpAnyT_take (i := 1) (v := v) rfl (by kernel_rfl) (by kernel_rfl) (by kernel_rfl) (by kernel_rfl) (fun _ _ _ h => h) (takes_yield rfl (Or.inl ⟨by rfl, ?_⟩)) (by assumption) (by kernel_rfl) ?_
      · intro w' hSw; go_split_ands; go_simp
      simp only [Act.put, List.getElem_toArray, List.getElem_cons_zero, List.getElem_cons_succ, List.setIfInBounds_toArray, List.set_cons_zero, List.set_cons_succ]
      refine wpAnyT_one (i := 2) (by kernel_rfl) rfl (fun K hK => ?_)
      go_simp
      refine hK.out _ _ ?_ ?_
      · exact HSS.out _ ((Upd.refl _ wr).alloc _).drew
      refine wpAnyT_one (i := 3) (by kernel_rfl) rfl (fun K hK => ?_)
      go_simp
      refine hK.out _ _ ?_ ?_
      · exact HSS.out _ ((Upd.refl _ wr).alloc _).drew
      refine wpAnyT_one (i := 4) (by kernel_rfl) rfl (fun K hK => ?_)
      go_simp
      refine hK.out _ _ ?_ ?_
      · exact HSS.out _ (((Upd.refl _ wr).alloc _).alloc _).drew
      have hsrc : Src Tryz.prog (((wr.alloc (.cells (zcells 64) 5)).alloc (.cells #[.string zeros64] 9)).drew) 30 1 (.slice (some ⟨wr.heap.size + 1, 0, none⟩) 1 1) 1 [.string zeros64] := by
        have h := Src.of_new_drew (P := Tryz.prog) (w := wr.alloc (.cells (zcells 64) 5)) (e := 9) Tryz.underlying30 (.string zeros64)
        rw [show (wr.alloc (.cells (zcells 64) 5)).heap.size = wr.heap.size + 1 by simp] at h
        exact h
      have HSr := Lib.hid hsrc
      clear hsrc
      refine wpAnyT_one (i := 5) (by kernel_rfl) rfl (fun K hK => ?_)
      refine step_append_src (by rfl) _ _ _ _ (by rfl) 9 i0 _ 1 16 Tryz.underlying30 hi0 hz0 hz1 hz2 rfl v k _ (by rfl) (((HX.out.2.1.alloc (.cells (zcells 64) 5)).alloc (.cells #[.string zeros64] 9)).drew) _ 1 [.string zeros64] (by rfl) HSr.out (by simp [Value.oneCell']) (by unfold maxLen; omega) (by omega) ?_
      intro v' w2 hO2 hU2 hl2 hs2
      obtain ⟨gq, cq, rfl, -, -⟩ := hO2.head (by omega)
      have hB2 : Blk w2 (w.heap.size + 1) 33 #[v, .slice none 0 0, .int .i64 (-1), .bool false] := (((HX.out.1.alloc (.cells (zcells 64) 5)).alloc (.cells #[.string zeros64] 9)).drew).upd hU2 hne
      have hz2' : Blk w2 w.heap.size 33 zeroRd := (((HX.out.2.2.1.alloc (.cells (zcells 64) 5)).alloc (.cells #[.string zeros64] 9)).drew).upd hU2 (fun e => by have := HX.out.2.2.2.2 _ e; omega)
      have hU02 : Upd (fun q => v.ownBlock = some q) wr w2 := (((Upd.refl _ wr).alloc _).alloc _).drew.then hU2 (fun _ e => .inl e)
      have hone := hO2.one
      have hc2 := hB2.cell 0
      simp only [List.getElem?_toArray, List.getElem?_cons_zero] at hc2
      have hfz2 := hB2.frozen 0
      have H2 := Lib.hid (And.intro hO2 (And.intro hU02 (And.intro hl2 (And.intro hB2 hz2'))))
      clear hO2 hU2 hl2 hs2 hB2 hz2' hU02
      refine hK.out _ _ (HSS.out _ H2.out.2.1) ?_
      clear hK
      have hS2 := HSS.out _ H2.out.2.1
      refine wpAnyT_takeW (i := 6) (v := .pointer (some ⟨w.heap.size + 1, 0, none⟩)) rfl (by kernel_rfl) (by kernel_rfl) (by kernel_rfl) (by kernel_rfl) (fun _ _ _ h => h) (takes_yield rfl (Or.inl ⟨by rfl, ?_⟩)) (by first | exact Or.inr (by assumption) | exact Or.inl (by kernel_rfl)) ?_
      · intro w' hSw; go_simp
      simp only [Act.put, List.getElem_toArray, List.getElem_cons_zero, List.getElem_cons_succ, List.setIfInBounds_toArray, List.set_cons_zero, List.set_cons_succ]
      refine wpAnyT_oneT (i := 7) (by kernel_rfl) rfl (by kernel_rfl) (fun K hK => ?_)
      go_simp
      refine hK.out _ _ ?_
      clear hK hc2 hfz2
      refine wpAnyT_done (by kernel_rfl) ?_ _
      refine NoPanic.normal ?_
      go_wp2_with fail
      go_roundw
      case rel =>
        obtain ⟨hO2, hU02, hl2, hB2, hz2'⟩ := H2.out
        obtain ⟨hB, hO, hz, hU, hl⟩ := HX.out
        have hs := hU.size
        have hne2 : (Value.slice (some ⟨gq, 0, none⟩) (k + 1) cq).ownBlock ≠ some (w.heap.size + 1) := hO2.ne_blk hB2 (by decide)
        refine ⟨k + 1, (.slice (some ⟨gq, 0, none⟩) (k + 1) cq), by omega, by go_num, ?_, ?_, hz2'.far (p := ⟨w.heap.size + 1, 0, none⟩) (by show w.heap.size ≠ w.heap.size + 1; omega) _, (hU.then hU02 (fun q e => .inr (by have := hl q e; omega))).setCell (p := ⟨w.heap.size + 1, 0, none⟩) (.inr (by show w.heap.size ≤ w.heap.size + 1; omega)) _, fun q hq => ?_⟩
        · have h := hB2.set_ 0 (.slice (some ⟨gq, 0, none⟩) (k + 1) cq)
          simpa using h
        · rw [List.replicate_succ']
          have h := hO2.far (p := ⟨w.heap.size + 1, 0, none⟩) hne2 (.slice (some ⟨gq, 0, none⟩) (k + 1) cq)
          simpa [strs] using h
        · rcases hl2 with e | e
          · exact hl q (by rw [← e]; exact hq)
          · rw [e] at hq
            have h5 := Option.some.inj hq
            have h6 := hB.lt
            simp at h5
            omega
      case measure => simp [intOf] <;> omega
    · obtain rfl : k = n := by omega
      have HX := Lib.hid (And.intro hB (And.intro hO (And.intro hz (And.intro hU hl))))
      have ho1 := hO.one
      clear hB hO hz hU hl
      go_wp2_with (first
        | (refine wpList_load_all rfl _ _ rfl (w.heap.size + 1) rfl _ _ _ HX.out.1 Tryz.underlying33 rfl rfl ?_)
        | (refine wpList_store_all rfl 33 _ _ rfl w.heap.size #[v, .slice none 0 0, .int .i64 (-1), .bool false] rfl rfl _ _ HX.out.2.2.1 rfl (row_one _ _ ho1 rfl _ _) (by kernel_rfl) ?_
           intro w9 hB9 hU9 hs9))
      refine bodyPost_ret (results_cell_slot rfl _ _ w.heap.size _ _ _ _ rfl hB9 Tryz.underlying33 rfl rfl (.int .i64 0) rfl) rfl ⟨v, rfl, ?_, HX.out.2.2.2.1.then hU9 (fun q e => .inr (by omega)), fun q hq => by have := HX.out.2.2.2.2 q hq; omega⟩
      refine ⟨?_, Own.nil _ _ _⟩
      have h := HX.out.2.1.upd hU9 (fun q hq e => by have := HX.out.2.2.2.2 q hq; omega)
      show Own w9 _ 1 v (List.replicate k zeros64).length _
      rw [List.length_replicate]
      exact h
end Go.Proofs.YtpfbgmfkeofefaaGreat
