/-
  The plain law of what is kept: what was written is what is read.
-/
import Derived.Test.YtpfbgmfkeofefaaGreatKeptPut
namespace Go.Proofs.YtpfbgmfkeofefaaGreat
open Go Go.RowKit

theorem lookL_closeL (b : List UInt8) (hb : b.length = 60) (hz : b ≠ List.replicate 60 0) (hs : sumN b < 2 ^ (8 * 4)) : lookL (closeL b) = (b, 1) := by
  have hl : (leB (sumN b) 4).length = 4 := leB_len _ _
  have h1 : (closeL b).length = 64 := by simp [closeL, hb, hl]
  have h2 : (closeL b).take 60 = b := by rw [closeL, List.take_append_of_le_length (by omega), List.take_of_length_le (by omega)]
  have h3 : (closeL b).drop 60 = leB (sumN b) 4 := by rw [closeL, List.drop_append_of_le_length (by omega), List.drop_of_length_le (by omega)]; rfl
  have h4 : closeL b ≠ List.replicate 64 0 := by
    intro e
    apply hz
    rw [← h2, e]
    rfl
  rw [lookL, if_neg (by omega), if_neg h4, h2, h3, leN_leB _ _ hs, if_neg (by simp)]

theorem readL_body (p : Pt) (hg : p.gen < 2 ^ (8 * 8)) (hn : p.number < 256) (ha : p.all < 256) (ht : p.text.length ≤ 48) : readL p.body = (p, true) := by
  obtain ⟨g, n, a, t⟩ := p
  simp only at hg hn ha ht
  have hl : (leB g 8).length = 8 := leB_len _ _
  have hb : (⟨g, n, a, t⟩ : Pt).body = leB g 8 ++ ([UInt8.ofNat n, UInt8.ofNat a, UInt8.ofNat t.length, 0] ++ (t ++ List.replicate (48 - t.length) 0)) := by simp [Pt.body]
  have h1 : (Pt.body ⟨g, n, a, t⟩).take 8 = leB g 8 := by rw [hb, List.take_append_of_le_length (by omega), List.take_of_length_le (by omega)]
  have hd : ∀ i, (Pt.body ⟨g, n, a, t⟩).getD (8 + i) 0 = ([UInt8.ofNat n, UInt8.ofNat a, UInt8.ofNat t.length, 0] ++ (t ++ List.replicate (48 - t.length) 0)).getD i 0 := by
    intro i
    rw [hb, List.getD_eq_getElem?_getD, List.getD_eq_getElem?_getD, List.getElem?_append_right (by omega), hl, Nat.add_sub_cancel_left]
  have h8 : (Pt.body ⟨g, n, a, t⟩).getD 8 0 = UInt8.ofNat n := hd 0
  have h9 : (Pt.body ⟨g, n, a, t⟩).getD 9 0 = UInt8.ofNat a := hd 1
  have h10 : (Pt.body ⟨g, n, a, t⟩).getD 10 0 = UInt8.ofNat t.length := hd 2
  have h11 : (Pt.body ⟨g, n, a, t⟩).getD 11 0 = 0 := hd 3
  have hdr : ∀ i, (Pt.body ⟨g, n, a, t⟩).drop (12 + i) = (t ++ List.replicate (48 - t.length) 0).drop i := by
    intro i
    rw [hb, ← List.append_assoc, ← List.drop_drop, List.drop_left' (by simp [hl])]
  have hu : ∀ x, x < 256 → (UInt8.ofNat x).toNat = x := fun x hx => by simp; omega
  rw [readL, h8, h9, h10, h11, h1, hu n hn, hu a ha, hu t.length (by omega), if_neg (by omega), leN_leB _ _ hg]
  have e0 := hdr 0
  rw [Nat.add_zero] at e0
  rw [e0, hdr t.length]
  simp

theorem chunks (t : List UInt8) (n : Nat) : ((List.range n).flatMap fun i => (t.drop (48 * i)).take 48) = t.take (48 * n) := by
  induction n with
  | zero => simp
  | succ n ih => rw [List.range_succ, List.flatMap_append, ih]; simp [List.take_add, Nat.mul_add]
theorem textL_cut (t : List UInt8) (g : Nat) : textL (cutL t g) = t := by
  have h := chunks t (allOf t.length)
  rw [textL, cutL, List.flatMap_map]
  rw [h, List.take_of_length_le]
  unfold allOf
  omega
theorem holdL_cut (t : List UInt8) (g : Nat) (rest : List Pt) (hg : g ≠ 0) (ht : t.length ≤ 400) : holdL (cutL t g ++ rest) = (t, g) := by
  have hn : 0 < (cutL t g).length := by rw [cutL_len]; unfold allOf; omega
  have h0 := cutL_get t g 0 hn
  obtain ⟨p, l, e⟩ : ∃ p l, cutL t g = p :: l := by
    cases h : cutL t g with
    | nil => rw [h] at hn; simp at hn
    | cons p l => exact ⟨p, l, rfl⟩
  have hp : p.gen = g ∧ p.all = allOf t.length := by
    have h1 : (cutL t g)[0] = p := by simp [e]
    rw [h1] at h0
    exact ⟨h0.1, h0.2.2.1⟩
  have hfg : firstGen (cutL t g ++ rest) = g := by rw [e]; exact hp.1
  have hfa : firstAll (cutL t g ++ rest) = allOf t.length := by rw [e]; exact hp.2
  have htk : (cutL t g ++ rest).take (allOf t.length) = cutL t g := by rw [List.take_append_of_le_length (by rw [cutL_len]; omega), List.take_of_length_le (by rw [cutL_len]; omega)]
  rw [holdL, hfg, hfa, htk, textL_cut, htk, if_neg hg, if_neg (by omega), if_pos rfl]
end Go.Proofs.YtpfbgmfkeofefaaGreat

/-
  The plain law of a disk without a fuse.
-/
namespace Go.Proofs.YtpfbgmfkeofefaaGreat
open Go Go.RowKit

theorem Dk.burn_free {d : Dk} (h : d.fuse = -1) : d.burn = (d, true) := by
  unfold Dk.burn
  rw [if_neg (by omega), if_neg (by omega)]
theorem Dk.write_free {d : Dk} (h : d.fuse = -1) (ho : d.off = false) {i : Nat} (hi : i < d.lasts.length) {b : ByteArray} (hb : b.size = 64) : d.write (i : Int) b = (d.push i b, 0) := by
  have ht : d.there (i : Int) = true := by simp [Dk.there]; omega
  unfold Dk.write
  rw [ho, ht, Dk.burn_free h]
  simp [hb]
theorem Dk.push_now (d : Dk) (i j : Nat) (b : ByteArray) (hi : i < d.waits.length) : (d.push i b).now j = if i = j then b else d.now j := by
  unfold Dk.now Dk.push Dk.at_ Dk.last
  simp only [List.getD_eq_getElem?_getD, List.getElem?_set]
  by_cases h : i = j
  · subst h
    simp [hi]
  · simp [h]
theorem Dk.sync_free {d : Dk} (h : d.fuse = -1) (ho : d.off = false) : d.sync = (d.flush, 0) := by
  unfold Dk.sync
  rw [ho, Dk.burn_free h]
  simp
theorem Dk.flush_now (d : Dk) (i : Nat) (hi : i < d.lasts.length) : d.flush.now i = d.now i := by
  have hw : (d.waits.map fun _ => ([] : List ByteArray)).getD i [] = [] := by
    rw [List.getD_eq_getElem?_getD, List.getElem?_map]
    cases d.waits[i]? <;> rfl
  show ((d.waits.map fun _ => ([] : List ByteArray)).getD i []).getLast?.getD (((List.range d.lasts.length).map d.now).getD i ByteArray.empty) = d.now i
  rw [hw, List.getD_eq_getElem?_getD, List.getElem?_map, List.getElem?_range hi]
  rfl
theorem Dk.flush_pend (d : Dk) : d.flush.pend = 0 := by
  show ((d.waits.map fun _ => ([] : List ByteArray)).map List.length).sum = 0
  rw [List.map_map]
  generalize d.waits = l
  induction l with
  | nil => rfl
  | cons x l ih => simp only [List.map_cons, List.sum_cons, ih]; rfl

theorem writeN_free {d : Dk} (h : d.fuse = -1) (ho : d.off = false) (hw : d.waits.length = d.lasts.length) (a : Nat) (l : List Pt) (hs : ∀ q ∈ l, q.sec.size = 64) (j : Nat) (hj : j ≤ l.length) (ha : a + j ≤ d.lasts.length) :
    (writeN d a l j).2 = 0 ∧ (writeN d a l j).1.fuse = -1 ∧ (writeN d a l j).1.off = false ∧
      ∀ i, (writeN d a l j).1.now i = if a ≤ i ∧ i < a + j then (l.getD (i - a) ⟨0, 0, 0, []⟩).sec else d.now i := by
  induction j with
  | zero => exact ⟨rfl, h, ho, fun i => by rw [if_neg (by omega)]; rfl⟩
  | succ j ih =>
    obtain ⟨i1, i2, i3, i4⟩ := ih (by omega) (by omega)
    obtain ⟨s1, s2, s3⟩ := writeN_same d a l hw j
    have hq : (l.getD j ⟨0, 0, 0, []⟩).sec.size = 64 := by
      rw [List.getD_eq_getElem?_getD, List.getElem?_eq_getElem (by omega)]
      exact hs _ (List.getElem_mem _)
    have hwr := Dk.write_free i2 i3 (i := a + j) (by rw [s1]; omega) hq
    rw [writeN, if_neg (by rw [i1]; simp), hwr]
    refine ⟨rfl, i2, i3, fun i => ?_⟩
    rw [Dk.push_now _ _ _ _ (by rw [s2, hw]; omega), i4]
    by_cases e : a + j = i
    · subst e
      rw [if_pos rfl, if_pos (by omega), Nat.add_sub_cancel_left]
    · rw [if_neg e]
      by_cases e2 : a ≤ i ∧ i < a + j
      · rw [if_pos e2, if_pos (by omega)]
      · rw [if_neg e2, if_neg (by omega)]
end Go.Proofs.YtpfbgmfkeofefaaGreat

/-
  The plain law of a slot.
-/
namespace Go.Proofs.YtpfbgmfkeofefaaGreat
open Go Go.RowKit

/-- A part that a record can have. -/
structure Pt.ok (p : Pt) : Prop where
  gen : 0 < p.gen
  gen' : p.gen < 2 ^ (8 * 8)
  number : p.number < 256
  all : p.all < 256
  text : p.text.length ≤ 48
  all0 : 0 < p.all
theorem body_ne (p : Pt) (h : p.ok) : p.body ≠ List.replicate 60 0 := by
  intro e
  have h1 := (readL_body p h.gen' h.number h.all h.text)
  rw [e] at h1
  have h2 : (readL (List.replicate 60 0)).1.gen = p.gen := by rw [h1]
  have h3 : (readL (List.replicate 60 0)).1.gen = 0 := by decide
  have := h.gen
  omega
theorem look_sec (p : Pt) (h : p.ok) : lookL p.sec.data.toList = (p.body, 1) := by
  have e : p.sec.data.toList = closeL p.body := by simp [Pt.sec, str]
  rw [e]
  exact lookL_closeL _ (p.body_len h.text) (body_ne p h) (by have := sumN_lt p.body; have e2 : (2 : Nat) ^ (8 * 4) = 4294967296 := by decide
                                                             omega)

/-- A slot: parts from its beginning on, blank behind them. -/
structure SlotIs (d : Dk) (a : Nat) (l : List Pt) : Prop where
  len : l.length ≤ 10
  ok : ∀ p ∈ l, p.ok
  full : ∀ i (h : i < l.length), d.now (a + i) = l[i].sec
  blank : ∀ i, l.length ≤ i → i < 10 → (d.now (a + i)).data.toList = List.replicate 64 0
def gensL (l : List Pt) (s : Nat) : Nat := l.foldl (fun m p => max m p.gen) s
theorem slotAt_is {d : Dk} {a : Nat} {l : List Pt} (h : SlotIs d a l) (seen j : Nat) (hj : j ≤ 10) :
    slotAt d a seen j = ⟨l.take j, decide (j ≤ l.length), gensL (l.take j) seen, false⟩ := by
  induction j with
  | zero => simp [slotAt, gensL]
  | succ j ih =>
    rw [slotAt_succ, ih (by omega), slotStep, if_neg (by simp)]
    by_cases hl : j < l.length
    · have hk := h.ok _ (List.getElem_mem hl)
      rw [h.full j hl, look_sec _ hk, if_neg (by simp), if_pos rfl, readL_body _ hk.gen' hk.number hk.all hk.text]
      rw [decide_eq_true (show j ≤ l.length by omega), decide_eq_true (show j + 1 ≤ l.length by omega), gensL, gensL, List.take_succ_eq_append_getElem hl, List.foldl_append]
      rfl
    · have hb : lookL (d.now (a + j)).data.toList = ([], 0) := by
        rw [h.blank j (by omega) (by omega)]
        unfold lookL
        rw [if_neg (by simp), if_pos rfl]
      rw [hb, if_neg (by decide), if_neg (by decide), decide_eq_false (show ¬ j + 1 ≤ l.length by omega), List.take_of_length_le (by omega), List.take_of_length_le (by omega)]
theorem cutL_ok (t : List UInt8) (g : Nat) (hg : 0 < g) (hg2 : g < 2 ^ (8 * 8)) (ht : t.length ≤ 400) : ∀ p ∈ cutL t g, p.ok := by
  intro p hp
  obtain ⟨i, hi, rfl⟩ := List.mem_iff_getElem.1 hp
  obtain ⟨c1, c2, c3, c4⟩ := cutL_get t g i hi
  have hn : (cutL t g).length ≤ 9 := by rw [cutL_len]; unfold allOf; omega
  rw [cutL_len] at hn
  exact ⟨by omega, by omega, by rw [cutL_len] at hi; omega, by omega, c4, by rw [c3]; unfold allOf; omega⟩
theorem sec_size (p : Pt) (h : p.ok) : p.sec.size = 64 := by
  rw [Pt.sec, str_size, closeL, List.length_append, p.body_len h.text, leB_len]
/-- A slot that is put. -/
theorem slot_put {d : Dk} (h : d.fuse = -1) (ho : d.off = false) (hw : d.waits.length = d.lasts.length) {a : Nat} {l : List Pt} (hl : SlotIs d a l) (ha : a + 10 ≤ d.lasts.length) (t : List UInt8) (g : Nat) (hg : 0 < g) (hg2 : g < 2 ^ (8 * 8)) (ht : t.length ≤ 400) :
    SlotIs (writeN d a (cutL t g) (allOf t.length)).1.flush a (cutL t g ++ l.drop (allOf t.length)) := by
  have hn : allOf t.length ≤ 9 := by unfold allOf; omega
  have hc := cutL_len t g
  have hk := cutL_ok t g hg hg2 ht
  have hlen := hl.len
  obtain ⟨w1, w2, w3, w4⟩ := writeN_free h ho hw a (cutL t g) (fun q hq => sec_size q (hk q hq)) (allOf t.length) (by omega) (by omega)
  obtain ⟨s1, s2, s3⟩ := writeN_same d a (cutL t g) hw (allOf t.length)
  have hnow : ∀ i, i < 10 → (writeN d a (cutL t g) (allOf t.length)).1.flush.now (a + i) = if i < allOf t.length then ((cutL t g).getD i ⟨0, 0, 0, []⟩).sec else d.now (a + i) := by
    intro i hi
    rw [Dk.flush_now _ _ (by rw [s1]; omega), w4]
    by_cases e : i < allOf t.length
    · rw [if_pos (by omega), if_pos e, Nat.add_sub_cancel_left]
    · rw [if_neg (by omega), if_neg e]
  refine ⟨?_, fun p hp => ?_, fun i hi => ?_, fun i hi hi2 => ?_⟩
  · rw [List.length_append, List.length_drop, hc]; omega
  · rcases List.mem_append.1 hp with e | e
    · exact hk p e
    · exact hl.ok p (List.mem_of_mem_drop e)
  · have hi' : i < 10 := by rw [List.length_append, List.length_drop, hc] at hi; omega
    rw [hnow i hi']
    by_cases e : i < allOf t.length
    · rw [if_pos e, List.getD_eq_getElem?_getD, List.getElem?_eq_getElem (by omega), List.getElem_append_left (by omega)]
      rfl
    · rw [List.length_append, List.length_drop, hc] at hi
      rw [if_neg e, hl.full i (by omega), List.getElem_append_right (by omega)]
      simp only [List.getElem_drop, hc]
      congr 2
      omega
  · rw [List.length_append, List.length_drop, hc] at hi
    rw [hnow i hi2, if_neg (by omega)]
    exact hl.blank i (by omega) hi2
/-- Another slot is as it was. -/
theorem slot_other {d : Dk} (h : d.fuse = -1) (ho : d.off = false) (hw : d.waits.length = d.lasts.length) {a b : Nat} {l : List Pt} (hl : SlotIs d b l) (ha : a + 10 ≤ d.lasts.length) (hb : b + 10 ≤ d.lasts.length) (hab : a + 10 ≤ b ∨ b + 10 ≤ a) (t : List UInt8) (g : Nat) (hg : 0 < g) (hg2 : g < 2 ^ (8 * 8)) (ht : t.length ≤ 400) :
    SlotIs (writeN d a (cutL t g) (allOf t.length)).1.flush b l := by
  have hn : allOf t.length ≤ 9 := by unfold allOf; omega
  have hc := cutL_len t g
  have hk := cutL_ok t g hg hg2 ht
  obtain ⟨w1, w2, w3, w4⟩ := writeN_free h ho hw a (cutL t g) (fun q hq => sec_size q (hk q hq)) (allOf t.length) (by omega) (by omega)
  obtain ⟨s1, s2, s3⟩ := writeN_same d a (cutL t g) hw (allOf t.length)
  have hnow : ∀ i, i < 10 → (writeN d a (cutL t g) (allOf t.length)).1.flush.now (b + i) = d.now (b + i) := by
    intro i hi
    rw [Dk.flush_now _ _ (by rw [s1]; omega), w4, if_neg (by omega)]
  have hlen := hl.len
  exact ⟨hl.len, hl.ok, fun i hi => by rw [hnow i (by omega)]; exact hl.full i hi, fun i hi hi2 => by rw [hnow i hi2]; exact hl.blank i hi hi2⟩
end Go.Proofs.YtpfbgmfkeofefaaGreat

/-
  What is opened behind a Put.
-/
namespace Go.Proofs.YtpfbgmfkeofefaaGreat
open Go Go.RowKit

theorem gensL_le {l : List Pt} {s m : Nat} (hs : s ≤ m) (h : ∀ p ∈ l, p.gen ≤ m) : gensL l s ≤ m := by
  unfold gensL
  induction l generalizing s with
  | nil => exact hs
  | cons p l ih => exact ih (s := max s p.gen) (by have := h p (by simp); omega) (fun q hq => h q (by simp [hq]))
theorem gensL_ge (l : List Pt) (s : Nat) : s ≤ gensL l s := by
  unfold gensL
  induction l generalizing s with
  | nil => exact Nat.le_refl _
  | cons p l ih => exact Nat.le_trans (by omega) (ih (max s p.gen))

/-- What one slot more makes of what is known. -/
def seeL (n : Nat) (l : List Pt) (k : Kp) : Kp :=
  if k.gen < (holdL l).2 then { k with seen := gensL l k.seen, text := (holdL l).1, gen := (holdL l).2, at_ := n } else { k with seen := gensL l k.seen }
theorem openStep_is {d : Dk} {n : Nat} {k : Kp} {l : List Pt} (h : SlotIs d (k.from_ + n * 10) l) : openStep d n k = some (seeL n l k) := by
  have hs := slotAt_is h k.seen 10 (by omega)
  rw [List.take_of_length_le h.len] at hs
  rw [openStep, hs]
  rfl
theorem seeL_from (n : Nat) (l : List Pt) (k : Kp) : (seeL n l k).from_ = k.from_ := by
  unfold seeL
  split <;> rfl
theorem open_is {d : Dk} {f : Nat} {l0 l1 : List Pt} (h0 : SlotIs d f l0) (h1 : SlotIs d (f + 10) l1) : openN d f 2 = some (seeL 1 l1 (seeL 0 l0 ⟨f, [], 0, 1, 0, false⟩)) := by
  have e0 : openN d f 1 = some (seeL 0 l0 ⟨f, [], 0, 1, 0, false⟩) := by
    rw [openN, openN]
    exact openStep_is (by simpa using h0)
  rw [openN, e0]
  exact openStep_is (by rw [seeL_from]; simpa using h1)
theorem holdL_le {l : List Pt} {m : Nat} (h : ∀ p ∈ l, p.gen ≤ m) : (holdL l).2 ≤ m := by
  have hf : firstGen l ≤ m := by
    cases l with
    | nil => simp [firstGen]
    | cons p l => exact h p (by simp)
  unfold holdL
  split
  · exact Nat.zero_le _
  · split
    · exact Nat.zero_le _
    · split
      · exact hf
      · exact Nat.zero_le _
theorem gensL_mem {l : List Pt} {p : Pt} (hp : p ∈ l) (s : Nat) : p.gen ≤ gensL l s := by
  unfold gensL
  induction l generalizing s with
  | nil => simp at hp
  | cons q l ih =>
    simp only [List.foldl_cons]
    rcases List.mem_cons.1 hp with rfl | h
    · have := gensL_ge l (max s p.gen)
      unfold gensL at this
      omega
    · exact ih h _

/-- A record that stands on a disk without a fuse. -/
structure KeptIs (d : Dk) (k : Kp) (l0 l1 : List Pt) : Prop where
  fuse : d.fuse = -1
  off : d.off = false
  waits : d.waits.length = d.lasts.length
  room : k.from_ + 20 ≤ d.lasts.length
  s0 : SlotIs d k.from_ l0
  s1 : SlotIs d (k.from_ + 10) l1
  g0 : ∀ p ∈ l0, p.gen ≤ k.seen
  g1 : ∀ p ∈ l1, p.gen ≤ k.seen
  at_ : k.at_ ≤ 1
  broken : k.broken = false
  opens : openN d k.from_ 2 = some k

theorem cut_gens (t : List UInt8) (g : Nat) (l : List Pt) (m n : Nat) (hg : g ≤ m) (h : ∀ p ∈ l, p.gen ≤ m) : ∀ p ∈ cutL t g ++ l.drop n, p.gen ≤ m := by
  intro p hp
  rcases List.mem_append.1 hp with e | e
  · obtain ⟨i, hi, rfl⟩ := List.mem_iff_getElem.1 e
    have := (cutL_get t g i hi).1
    omega
  · exact h p (List.mem_of_mem_drop e)
theorem cut_first (t : List UInt8) (g : Nat) (r : List Pt) : ∃ p ∈ cutL t g ++ r, p.gen = g := by
  have hn : 0 < (cutL t g).length := by rw [cutL_len]; unfold allOf; omega
  exact ⟨(cutL t g)[0], List.mem_append_left _ (List.getElem_mem _), (cutL_get t g 0 hn).1⟩

/-- Put, on a disk without a fuse. -/
theorem put_is {d : Dk} {k : Kp} {l0 l1 : List Pt} (h : KeptIs d k l0 l1) (t : List UInt8) (ht : t.length ≤ 400) (hs : k.seen + 1 < 18446744073709551616) :
    ∃ d' l0' l1', putK d k t = (d', { k with seen := k.seen + 1, text := t, gen := k.seen + 1, at_ := 1 - k.at_, broken := false }, 0) ∧
      KeptIs d' { k with seen := k.seen + 1, text := t, gen := k.seen + 1, at_ := 1 - k.at_, broken := false } l0' l1' ∧ d'.lasts.length = d.lasts.length ∧ d'.pend = 0 ∧
      d' = (writeN d (k.from_ + (1 - k.at_) * 10) (cutL t (k.seen + 1)) (allOf t.length)).1.flush := by
  have hroom := h.room
  have hat := h.at_
  have hn : allOf t.length ≤ 9 := by unfold allOf; omega
  have e64 : (2 : Nat) ^ (8 * 8) = 18446744073709551616 := by decide
  have hk := cutL_ok t (k.seen + 1) (by omega) (by omega) ht
  have hc := cutL_len t (k.seen + 1)
  obtain ⟨w1, w2, w3, w4⟩ := writeN_free h.fuse h.off h.waits (k.from_ + (1 - k.at_) * 10) (cutL t (k.seen + 1)) (fun q hq => sec_size q (hk q hq)) (allOf t.length) (by omega) (by omega)
  obtain ⟨s1, s2, s3⟩ := writeN_same d (k.from_ + (1 - k.at_) * 10) (cutL t (k.seen + 1)) h.waits (allOf t.length)
  have hsy := Dk.sync_free w2 w3
  have hput : putK d k t = ((writeN d (k.from_ + (1 - k.at_) * 10) (cutL t (k.seen + 1)) (allOf t.length)).1.flush, { k with seen := k.seen + 1, text := t, gen := k.seen + 1, at_ := 1 - k.at_, broken := false }, 0) := by
    unfold putK
    rw [h.broken, if_neg (by simp), if_neg (by omega), if_neg (by omega), if_neg (by rw [w1]; simp), hsy, if_neg (by simp)]
  have hlen : (writeN d (k.from_ + (1 - k.at_) * 10) (cutL t (k.seen + 1)) (allOf t.length)).1.flush.lasts.length = d.lasts.length := by
    show ((List.range _).map _).length = _
    rw [List.length_map, List.length_range, s1]
  have hwl : (writeN d (k.from_ + (1 - k.at_) * 10) (cutL t (k.seen + 1)) (allOf t.length)).1.flush.waits.length = d.lasts.length := by
    show (List.map _ _).length = _
    rw [List.length_map, s2, h.waits]
  have hcase : 1 - k.at_ = 0 ∨ 1 - k.at_ = 1 := by omega
  have hg0 : ∀ p ∈ l0, p.gen ≤ k.seen + 1 := fun p hp => by have := h.g0 p hp; omega
  have hg1 : ∀ p ∈ l1, p.gen ≤ k.seen + 1 := fun p hp => by have := h.g1 p hp; omega
  have hh0 := holdL_le h.g0
  have hh1 := holdL_le h.g1
  rcases hcase with e | e
  · rw [e] at hput hlen hwl w2 w3 ⊢
    have hS0 : SlotIs (writeN d (k.from_ + 0 * 10) (cutL t (k.seen + 1)) (allOf t.length)).1.flush k.from_ (cutL t (k.seen + 1) ++ l0.drop (allOf t.length)) := by
      have := slot_put h.fuse h.off h.waits (a := k.from_ + 0 * 10) (by simpa using h.s0) (by omega) t (k.seen + 1) (by omega) (by omega) ht
      simpa using this
    have hS1 : SlotIs (writeN d (k.from_ + 0 * 10) (cutL t (k.seen + 1)) (allOf t.length)).1.flush (k.from_ + 10) l1 :=
      slot_other h.fuse h.off h.waits (a := k.from_ + 0 * 10) h.s1 (by omega) (by omega) (by omega) t (k.seen + 1) (by omega) (by omega) ht
    have hG0 := cut_gens t (k.seen + 1) l0 (k.seen + 1) (allOf t.length) (Nat.le_refl _) hg0
    refine ⟨_, cutL t (k.seen + 1) ++ l0.drop (allOf t.length), l1, hput, ⟨w2, w3, by rw [hwl, hlen], by rw [hlen]; exact hroom, hS0, hS1, hG0, hg1, by simp, rfl, ?_⟩, hlen, Dk.flush_pend _, rfl⟩
    rw [open_is hS0 hS1]
    congr 1
    have hgl : gensL l1 (gensL (cutL t (k.seen + 1) ++ l0.drop (allOf t.length)) 0) = k.seen + 1 := by
      obtain ⟨p, hp, hpg⟩ := cut_first t (k.seen + 1) (l0.drop (allOf t.length))
      have h1 := gensL_mem hp 0
      have h2 := gensL_le (Nat.zero_le (k.seen + 1)) hG0
      have h3 := gensL_le h2 hg1
      have h4 := gensL_ge l1 (gensL (cutL t (k.seen + 1) ++ l0.drop (allOf t.length)) 0)
      omega
    have h0 : seeL 0 (cutL t (k.seen + 1) ++ l0.drop (allOf t.length)) ⟨k.from_, [], 0, 1, 0, false⟩ = ⟨k.from_, t, k.seen + 1, 0, gensL (cutL t (k.seen + 1) ++ l0.drop (allOf t.length)) 0, false⟩ := by
      rw [seeL, holdL_cut t (k.seen + 1) _ (by omega) ht, if_pos (by simp)]
    rw [h0, seeL, if_neg (by show ¬ k.seen + 1 < _; omega), hgl]
  · rw [e] at hput hlen hwl w2 w3 ⊢
    have hS1 : SlotIs (writeN d (k.from_ + 1 * 10) (cutL t (k.seen + 1)) (allOf t.length)).1.flush (k.from_ + 10) (cutL t (k.seen + 1) ++ l1.drop (allOf t.length)) := by
      have := slot_put h.fuse h.off h.waits (a := k.from_ + 1 * 10) (by simpa using h.s1) (by omega) t (k.seen + 1) (by omega) (by omega) ht
      simpa using this
    have hS0 : SlotIs (writeN d (k.from_ + 1 * 10) (cutL t (k.seen + 1)) (allOf t.length)).1.flush k.from_ l0 :=
      slot_other h.fuse h.off h.waits (a := k.from_ + 1 * 10) h.s0 (by omega) (by omega) (by omega) t (k.seen + 1) (by omega) (by omega) ht
    have hG1 := cut_gens t (k.seen + 1) l1 (k.seen + 1) (allOf t.length) (Nat.le_refl _) hg1
    refine ⟨_, l0, cutL t (k.seen + 1) ++ l1.drop (allOf t.length), hput, ⟨w2, w3, by rw [hwl, hlen], by rw [hlen]; exact hroom, hS0, hS1, hg0, hG1, by simp, rfl, ?_⟩, hlen, Dk.flush_pend _, rfl⟩
    rw [open_is hS0 hS1]
    congr 1
    have h0g : (seeL 0 l0 ⟨k.from_, [], 0, 1, 0, false⟩).gen ≤ k.seen ∧ (seeL 0 l0 ⟨k.from_, [], 0, 1, 0, false⟩).seen = gensL l0 0 ∧ (seeL 0 l0 ⟨k.from_, [], 0, 1, 0, false⟩).from_ = k.from_ ∧ (seeL 0 l0 ⟨k.from_, [], 0, 1, 0, false⟩).broken = false := by
      unfold seeL
      split
      · exact ⟨hh0, rfl, rfl, rfl⟩
      · exact ⟨Nat.zero_le _, rfl, rfl, rfl⟩
    obtain ⟨b1, b2, b3, b4⟩ := h0g
    have hgl : gensL (cutL t (k.seen + 1) ++ l1.drop (allOf t.length)) (gensL l0 0) = k.seen + 1 := by
      obtain ⟨p, hp, hpg⟩ := cut_first t (k.seen + 1) (l1.drop (allOf t.length))
      have h2 := gensL_le (Nat.zero_le (k.seen + 1)) hg0
      have h1 := gensL_mem hp (gensL l0 0)
      have h3 := gensL_le h2 hG1
      omega
    generalize seeL 0 l0 ⟨k.from_, [], 0, 1, 0, false⟩ = K at *
    rw [seeL, holdL_cut t (k.seen + 1) _ (by omega) ht, if_pos (by show K.gen < k.seen + 1; omega), b2, hgl]
    obtain ⟨q1, q2, q3, q4, q5, q6⟩ := K
    simp only at b3 b4
    rw [b3, b4]
end Go.Proofs.YtpfbgmfkeofefaaGreat

/-
  What is kept, in a world: open, put, get; the wake of the laws of chapter 09.
-/
namespace Go.Proofs.YtpfbgmfkeofefaaGreat
open Go Go.RowKit

theorem fresh_slot (n a : Nat) (h : a + 10 ≤ n) : SlotIs (Dk.fresh n) a [] := by
  refine ⟨by simp, by simp, by simp, fun i _ hi => ?_⟩
  have e : (Dk.fresh n).now (a + i) = zeros64 := by
    unfold Dk.now Dk.at_ Dk.last Dk.fresh
    simp only [List.getD_eq_getElem?_getD, List.getElem?_replicate]
    rw [if_pos (by omega), if_pos (by omega)]
    rfl
  rw [e]
  rfl
theorem fresh_is (n f : Nat) (h : f + 20 ≤ n) : KeptIs (Dk.fresh n) ⟨f, [], 0, 1, 0, false⟩ [] [] := by
  refine ⟨rfl, rfl, by simp [Dk.fresh], by simpa [Dk.fresh] using h, fresh_slot n f (by omega), fresh_slot n (f + 10) (by omega), by simp, by simp, by simp, rfl, ?_⟩
  rw [open_is (fresh_slot n f (by omega)) (fresh_slot n (f + 10) (by omega))]
  rfl
theorem KeptIs.from_eq {d : Dk} {k : Kp} {l0 l1 : List Pt} (h : KeptIs d k l0 l1) : openN d k.from_ 2 = some k := h.opens
theorem Open_s {w : World} {p : Nat} {d : Dk} {F : List Nat} {k : Kp} {l0 l1 : List Pt} (hD : DiskAt w p d F) (h : KeptIs d k l0 l1) :
    Calls Tryz.prog 20 #[.pointer (some ⟨p, 0, none⟩), .int .i64 (k.from_ : Int)] w fun e w' => ∃ b, e = .returned (.tuple #[.pointer (some ⟨b, 0, none⟩), .int .i64 0]) ∧ Blk w' b 122 (k.cells p) ∧ Upd (fun _ => False) w w' ∧ w.heap.size ≤ b := by
  refine (Open_on hD k.from_ h.room h.off).mono ?_
  rintro e w' ⟨v, rfl, hO⟩
  rw [h.opens] at hO
  obtain ⟨b, rfl, hB, hb⟩ := hO.ok k rfl
  exact ⟨b, by rw [h.opens]; rfl, hB, hO.upd, hb⟩
/-- The record behind a Put. -/
def Kp.put (k : Kp) (t : List UInt8) : Kp := { k with seen := k.seen + 1, text := t, gen := k.seen + 1, at_ := 1 - k.at_, broken := false }
/-- The disk behind a Put. -/
def putD (d : Dk) (k : Kp) (t : List UInt8) : Dk := (writeN d (k.from_ + (1 - k.at_) * 10) (cutL t (k.seen + 1)) (allOf t.length)).1.flush
theorem put_is' {d : Dk} {k : Kp} {l0 l1 : List Pt} (h : KeptIs d k l0 l1) (t : List UInt8) (ht : t.length ≤ 400) (hs : k.seen + 1 < 18446744073709551616) :
    putK d k t = (putD d k t, k.put t, 0) ∧ (∃ l0' l1', KeptIs (putD d k t) (k.put t) l0' l1') ∧ (putD d k t).lasts.length = d.lasts.length ∧ (putD d k t).pend = 0 := by
  obtain ⟨d', l0', l1', h1, h2, h3, h4, rfl⟩ := put_is h t ht hs
  exact ⟨h1, ⟨l0', l1', h2⟩, h3, h4⟩
theorem Put_s {w : World} {p b : Nat} {d : Dk} {F : List Nat} {k : Kp} {l0 l1 : List Pt} (hD : DiskAt w p d F) (hK : Blk w b 122 (k.cells p)) (h : KeptIs d k l0 l1) (s : ByteArray) (hs : s.size ≤ 400) (hn : k.seen < 1000) (hp : d.pend < 900000) :
    Calls Tryz.prog 23 #[.pointer (some ⟨b, 0, none⟩), .string s] w fun e w' => e = .returned (.int .i64 0) ∧ PutLeft w w' p b (putD d k s.data.toList) (k.put s.data.toList) F := by
  have hr := h.room
  have hm := hD.wf.most
  refine (Put_goes hD hK s h.broken hs (by omega) h.at_ (by omega) (by omega)).mono ?_
  rintro e w' ⟨rfl, hL⟩
  obtain ⟨h1, -⟩ := put_is' h s.data.toList (by simpa using hs) (by omega)
  rw [h1] at hL ⊢
  exact ⟨rfl, hL⟩
end Go.Proofs.YtpfbgmfkeofefaaGreat
