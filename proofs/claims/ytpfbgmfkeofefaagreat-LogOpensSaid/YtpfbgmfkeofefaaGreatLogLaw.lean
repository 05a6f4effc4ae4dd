/-
  The plain law of a log: what was added is what is opened.
-/
import Derived.Test.YtpfbgmfkeofefaaGreatLogOpen
import Derived.Test.YtpfbgmfkeofefaaGreatLawA
namespace Go.Proofs.YtpfbgmfkeofefaaGreat
open Go Go.RowKit

/-- A part that a record can have. -/
structure Lp.ok (p : Lp) : Prop where
  epoch0 : 0 < p.epoch
  epoch : p.epoch < 2 ^ (8 * 8)
  salt : p.salt < 2 ^ (8 * 8)
  ahead : p.ahead < 2 ^ (8 * 8)
  number : p.number < 256
  all : p.all < 256
  text : p.text.length ≤ 32
  all0 : 0 < p.all
theorem readG_body (p : Lp) (h : p.ok) : readG p.body = (p, true) := by
  obtain ⟨e, s, a, n, al, t⟩ := p
  obtain ⟨h0, he, hs, ha, hn, hal, ht, -⟩ := h
  simp only at h0 he hs ha hn hal ht
  have hb : Lp.body ⟨e, s, a, n, al, t⟩ = leB e 8 ++ (leB s 8 ++ (leB a 8 ++ ([UInt8.ofNat n, UInt8.ofNat al, UInt8.ofNat t.length, 0] ++ (t ++ List.replicate (32 - t.length) 0)))) := by simp [Lp.body]
  generalize Lp.body ⟨e, s, a, n, al, t⟩ = B at *
  have d0 : B.take 8 = leB e 8 := by rw [hb, List.take_left' (leB_len _ _)]
  have d8 : B.drop 8 = leB s 8 ++ (leB a 8 ++ ([UInt8.ofNat n, UInt8.ofNat al, UInt8.ofNat t.length, 0] ++ (t ++ List.replicate (32 - t.length) 0))) := by rw [hb, List.drop_left' (leB_len _ _)]
  have d16 : B.drop 16 = leB a 8 ++ ([UInt8.ofNat n, UInt8.ofNat al, UInt8.ofNat t.length, 0] ++ (t ++ List.replicate (32 - t.length) 0)) := by
    rw [show B.drop 16 = (B.drop 8).drop 8 by rw [List.drop_drop], d8, List.drop_left' (leB_len _ _)]
  have d24 : B.drop 24 = [UInt8.ofNat n, UInt8.ofNat al, UInt8.ofNat t.length, 0] ++ (t ++ List.replicate (32 - t.length) 0) := by
    rw [show B.drop 24 = (B.drop 16).drop 8 by rw [List.drop_drop], d16, List.drop_left' (leB_len _ _)]
  have hg : ∀ i, B.getD (24 + i) 0 = ([UInt8.ofNat n, UInt8.ofNat al, UInt8.ofNat t.length, 0] ++ (t ++ List.replicate (32 - t.length) 0)).getD i 0 := by
    intro i
    rw [List.getD_eq_getElem?_getD, List.getD_eq_getElem?_getD, ← d24, List.getElem?_drop]
  have g24 : B.getD 24 0 = UInt8.ofNat n := hg 0
  have g25 : B.getD 25 0 = UInt8.ofNat al := hg 1
  have g26 : B.getD 26 0 = UInt8.ofNat t.length := hg 2
  have g27 : B.getD 27 0 = 0 := hg 3
  have hdr : ∀ i, B.drop (28 + i) = (t ++ List.replicate (32 - t.length) 0).drop i := by
    intro i
    rw [show B.drop (28 + i) = ((B.drop 24).drop 4).drop i by rw [List.drop_drop, List.drop_drop, ← Nat.add_assoc], d24]
    rfl
  have hu : ∀ x, x < 256 → (UInt8.ofNat x).toNat = x := fun x hx => by simp; omega
  have e0 := hdr 0
  rw [Nat.add_zero] at e0
  rw [readG, g24, g25, g26, g27, hu n hn, hu al hal, hu t.length (by omega), if_neg (by omega), d0, d8, d16, List.take_left' (leB_len _ _), List.take_left' (leB_len _ _), leN_leB _ _ he, leN_leB _ _ hs, leN_leB _ _ ha, e0, hdr t.length]
  simp
theorem bodyG_ne (p : Lp) (h : p.ok) : p.body ≠ List.replicate 60 0 := by
  intro e
  have h1 := readG_body p h
  rw [e] at h1
  have h2 : (readG (List.replicate 60 0)).1.epoch = p.epoch := by rw [h1]
  have h3 : (readG (List.replicate 60 0)).1.epoch = 0 := by decide
  have := h.epoch0
  omega
theorem look_secG (p : Lp) (h : p.ok) : lookL p.sec.data.toList = (p.body, 1) := by
  have e : p.sec.data.toList = closeL p.body := by simp [Lp.sec, str]
  rw [e]
  exact lookL_closeL _ (p.body_len h.text) (bodyG_ne p h) (by have := sumN_lt p.body; have e2 : (2 : Nat) ^ (8 * 4) = 4294967296 := by decide
                                                              omega)
theorem secG_size (p : Lp) (h : p.ok) : p.sec.size = 64 := by
  rw [Lp.sec, str_size, closeL, List.length_append, p.body_len h.text, leB_len]
theorem partsOf_pos (n : Nat) : 1 ≤ partsOf n := by unfold partsOf; omega
theorem cutG_ok (t : List UInt8) (e s a : Nat) (h0 : 0 < e) (he : e < 2 ^ (8 * 8)) (hs : s < 2 ^ (8 * 8)) (ha : a < 2 ^ (8 * 8)) (ht : t.length ≤ 1024) : ∀ p ∈ cutG t e s a, p.ok := by
  intro p hp
  obtain ⟨i, hi, rfl⟩ := List.mem_iff_getElem.1 hp
  obtain ⟨c1, c2, c3, c4, c5, c6⟩ := cutG_get t e s a i hi
  rw [cutG_len] at hi
  have hn : partsOf t.length ≤ 32 := by unfold partsOf; omega
  have hn1 := partsOf_pos t.length
  exact ⟨by omega, by omega, by omega, by omega, by omega, by omega, c6, by omega⟩
theorem cutG_cons (t : List UInt8) (e s a : Nat) : ∃ p r, cutG t e s a = p :: r ∧ p.epoch = e ∧ p.salt = s ∧ p.ahead = a ∧ p.all = partsOf t.length := by
  have hn : 0 < (cutG t e s a).length := by rw [cutG_len]; exact partsOf_pos _
  obtain ⟨c1, c2, c3, c4, c5, c6⟩ := cutG_get t e s a 0 hn
  cases h : cutG t e s a with
  | nil => rw [h] at hn; simp at hn
  | cons p r =>
    simp only [h, List.getElem_cons_zero] at c1 c2 c3 c5
    exact ⟨p, r, rfl, c1, c2, c3, c5⟩

/-- What a sector has: a part, or nothing. -/
def secO : Option Lp → ByteArray
  | none => zeros64
  | some p => p.sec
/-- Sectors from a on: parts, or blank. -/
structure CellsIs (d : Dk) (a : Nat) (L : List (Option Lp)) : Prop where
  cell : ∀ i (h : i < L.length), d.now (a + i) = secO L[i]
  ok : ∀ p, some p ∈ L → p.ok
/-- The parts ahead of the first blank. -/
def rowL : List (Option Lp) → List Lp
  | some p :: r => p :: rowL r
  | _ => []
/-- The greatest salt. -/
def saltL (L : List (Option Lp)) : Nat := L.foldl (fun m o => max m (o.elim 0 Lp.salt)) 0
theorem rowL_some (A : List (Option Lp)) (p : Lp) : rowL (A ++ [some p]) = if A.all Option.isSome then rowL A ++ [p] else rowL A := by
  induction A with
  | nil => rfl
  | cons x A ih =>
    cases x with
    | none => rfl
    | some q =>
      simp only [List.cons_append, rowL, ih, List.all_cons, Option.isSome_some, Bool.true_and]
      split <;> rfl
theorem rowL_none (A : List (Option Lp)) : rowL (A ++ [none]) = rowL A := by
  induction A with
  | nil => rfl
  | cons x A ih =>
    cases x with
    | none => rfl
    | some q => simp only [List.cons_append, rowL, ih]
theorem rowL_map (l : List Lp) (R : List (Option Lp)) : rowL (l.map some ++ R) = l ++ rowL R := by
  induction l with
  | nil => rfl
  | cons p l ih => simp only [List.map_cons, List.cons_append, rowL, ih]
theorem rowL_mem {L : List (Option Lp)} {p : Lp} (h : p ∈ rowL L) : some p ∈ L := by
  induction L with
  | nil => simp [rowL] at h
  | cons x L ih =>
    cases x with
    | none => simp [rowL] at h
    | some q =>
      simp only [rowL, List.mem_cons] at h
      rcases h with rfl | h
      · simp
      · exact List.mem_cons_of_mem _ (ih h)
theorem rowL_len (L : List (Option Lp)) : (rowL L).length ≤ L.length := by
  induction L with
  | nil => simp [rowL]
  | cons x L ih => cases x <;> simp [rowL]; exact ih
theorem foldSalt_ge (L : List (Option Lp)) (s : Nat) : s ≤ L.foldl (fun m o => max m (o.elim 0 Lp.salt)) s := by
  induction L generalizing s with
  | nil => exact Nat.le_refl _
  | cons x L ih => exact Nat.le_trans (Nat.le_max_left _ _) (ih _)
theorem foldSalt_mem {L : List (Option Lp)} {p : Lp} (h : some p ∈ L) (s : Nat) : p.salt ≤ L.foldl (fun m o => max m (o.elim 0 Lp.salt)) s := by
  induction L generalizing s with
  | nil => simp at h
  | cons x L ih =>
    rcases List.mem_cons.1 h with rfl | h
    · exact Nat.le_trans (Nat.le_max_right _ _) (foldSalt_ge L _)
    · exact ih h _
theorem foldSalt_le {L : List (Option Lp)} {m : Nat} (h : ∀ p, some p ∈ L → p.salt ≤ m) (s : Nat) (hs : s ≤ m) : L.foldl (fun m o => max m (o.elim 0 Lp.salt)) s ≤ m := by
  induction L generalizing s with
  | nil => exact hs
  | cons x L ih =>
    refine ih (fun p hp => h p (by simp [hp])) _ ?_
    cases x with
    | none => simpa using hs
    | some q => exact Nat.max_le.2 ⟨hs, h q (by simp)⟩
theorem saltL_mem {L : List (Option Lp)} {p : Lp} (h : some p ∈ L) : p.salt ≤ saltL L := foldSalt_mem h 0
theorem saltL_le {L : List (Option Lp)} {m : Nat} (h : ∀ p, some p ∈ L → p.salt ≤ m) : saltL L ≤ m := foldSalt_le h 0 (Nat.zero_le _)
theorem look_zeros : lookL zeros64.data.toList = ([], 0) := by
  unfold lookL
  rw [if_neg (by simp [zeros64, str]), if_pos (by rfl)]

theorem scanAt_is {d : Dk} {a : Nat} {L : List (Option Lp)} (h : CellsIs d a L) (k : Nat) (hk : k ≤ L.length) : scanAt d a k = ⟨rowL (L.take k), (L.take k).all Option.isSome, saltL (L.take k), false⟩ := by
  induction k with
  | zero => rfl
  | succ k ih =>
    have hlt : k < L.length := by omega
    rw [scanAt_succ, ih (by omega), scanStep, if_neg (by simp), h.cell k hlt, List.take_succ_eq_append_getElem hlt]
    have hmem : L[k] ∈ L := List.getElem_mem hlt
    cases hx : L[k] with
    | none =>
      rw [show secO none = zeros64 from rfl, look_zeros, if_neg (by decide), if_neg (by decide), rowL_none]
      simp [saltL]
    | some p =>
      have hok := h.ok p (hx ▸ hmem)
      rw [show secO (some p) = p.sec from rfl, look_secG p hok, if_neg (by simp), if_pos rfl, readG_body p hok, rowL_some]
      simp [saltL]

theorem chunks32 (t : List UInt8) (n : Nat) : ((List.range n).flatMap fun i => (t.drop (32 * i)).take 32) = t.take (32 * n) := by
  induction n with
  | zero => simp
  | succ n ih => rw [List.range_succ, List.flatMap_append, ih]; simp [List.take_add, Nat.mul_add]
theorem textG_cut (t : List UInt8) (e s a : Nat) : textG (cutG t e s a) = t := by
  have h := chunks32 t (partsOf t.length)
  rw [textG, cutG, List.flatMap_map]
  rw [h, List.take_of_length_le]
  unfold partsOf
  omega
theorem firstG_cut (t : List UInt8) (e s a : Nat) (rest : List Lp) (ht : t.length ≤ 1024) : firstG e a (cutG t e s a ++ rest) = (t, true) := by
  obtain ⟨p, r, hc, c1, c2, c3, c4⟩ := cutG_cons t e s a
  have hl : (p :: r).length = partsOf t.length := by rw [← hc, cutG_len]
  have htk : (p :: (r ++ rest)).take (partsOf t.length) = cutG t e s a := by
    rw [← List.cons_append, ← hl, List.take_left' rfl, hc]
  have hl2 : partsOf t.length ≤ (p :: (r ++ rest)).length := by
    rw [← hl]; simp only [List.length_cons, List.length_append]; omega
  rw [hc, List.cons_append, firstG, c4, htk, textG_cut, if_neg (by omega), if_neg (by omega), htk, c2, decide_eq_true ⟨hl2, rfl⟩]
theorem firstG_true {e a : Nat} {row : List Lp} (h : (firstG e a row).2 = true) : ∃ t s rest, t.length ≤ 1024 ∧ row = cutG t e s a ++ rest := by
  unfold firstG at h
  split at h
  · simp at h
  · split at h
    · simp at h
    · split at h
      · simp at h
      · rename_i p r h1 h2
        simp only [decide_eq_true_eq] at h
        exact ⟨textG ((p :: r).take p.all), p.salt, (p :: r).drop (partsOf (textG ((p :: r).take p.all)).length), by omega, by rw [h.2, List.take_append_drop]⟩
theorem firstG_head {e a : Nat} {p : Lp} {r : List Lp} (h : (firstG e a (p :: r)).2 = true) : p.epoch = e ∧ p.ahead = a := by
  obtain ⟨t, s, rest, -, hr⟩ := firstG_true h
  obtain ⟨q, r', hc, c1, c2, c3, c4⟩ := cutG_cons t e s a
  rw [hc, List.cons_append] at hr
  injection hr with h3 h4
  rw [h3]
  exact ⟨c1, c3⟩
theorem firstG_stop {e a : Nat} {l : List Lp} (h : ∀ p ∈ l, p.epoch ≠ e ∨ p.ahead ≠ a) : (firstG e a l).2 = false := by
  cases l with
  | nil => rfl
  | cons p r =>
    cases hf : (firstG e a (p :: r)).2 with
    | false => rfl
    | true =>
      obtain ⟨h1, h2⟩ := firstG_head hf
      rcases h p (by simp) with h3 | h3
      · exact absurd h1 h3
      · exact absurd h2 h3

/-- The parts of records one behind the other, each with its salt. -/
def rowOf (e : Nat) : Nat → List (List UInt8 × Nat) → List Lp
  | _, [] => []
  | last, q :: r => cutG q.1 e q.2 last ++ rowOf e q.2 r
def lastOf : Nat → List (List UInt8 × Nat) → Nat
  | last, [] => last
  | _, q :: r => lastOf q.2 r
theorem rowOf_snoc (e last : Nat) (rs : List (List UInt8 × Nat)) (q : List UInt8 × Nat) : rowOf e last (rs ++ [q]) = rowOf e last rs ++ cutG q.1 e q.2 (lastOf last rs) := by
  induction rs generalizing last with
  | nil => simp [rowOf, lastOf]
  | cons x rs ih => simp only [List.cons_append, rowOf, lastOf, ih, List.append_assoc]
theorem lastOf_snoc (last : Nat) (rs : List (List UInt8 × Nat)) (q : List UInt8 × Nat) : lastOf last (rs ++ [q]) = q.2 := by
  induction rs generalizing last with
  | nil => rfl
  | cons x rs ih => simp only [List.cons_append, lastOf, ih]
theorem rowOf_len (e last : Nat) (rs : List (List UInt8 × Nat)) : rs.length ≤ (rowOf e last rs).length := by
  induction rs generalizing last with
  | nil => simp
  | cons x rs ih =>
    have := ih x.2
    have := partsOf_pos x.1.length
    simp only [rowOf, List.length_append, cutG_len, List.length_cons]
    omega
theorem rowOf_epoch {e last : Nat} {rs : List (List UInt8 × Nat)} : ∀ p ∈ rowOf e last rs, p.epoch = e := by
  induction rs generalizing last with
  | nil => simp [rowOf]
  | cons x rs ih =>
    intro p hp
    rcases List.mem_append.1 hp with h | h
    · obtain ⟨i, hi, rfl⟩ := List.mem_iff_getElem.1 h
      exact (cutG_get _ _ _ _ i hi).1
    · exact ih p h
theorem lastOf_le {e last m : Nat} {rs : List (List UInt8 × Nat)} (h : ∀ p ∈ rowOf e last rs, p.salt ≤ m) (hl : last ≤ m) : lastOf last rs ≤ m := by
  induction rs generalizing last with
  | nil => exact hl
  | cons x rs ih =>
    refine ih (fun p hp => h p (List.mem_append_right _ hp)) ?_
    obtain ⟨p, r, hc, c1, c2, c3, c4⟩ := cutG_cons x.1 e x.2 last
    have := h p (List.mem_append_left _ (by rw [hc]; simp))
    omega
theorem rowOf_cons {e last : Nat} {rs : List (List UInt8 × Nat)} (h : rs ≠ []) : ∃ p r, rowOf e last rs = p :: r ∧ p.epoch = e := by
  cases rs with
  | nil => exact absurd rfl h
  | cons x rs =>
    obtain ⟨p, r, hc, c1, -⟩ := cutG_cons x.1 e x.2 last
    exact ⟨p, r ++ rowOf e x.2 rs, by rw [rowOf, hc]; rfl, c1⟩
theorem loopG_row (rs : List (List UInt8 × Nat)) (hs : ∀ q ∈ rs, q.1.length ≤ 1024) (rest : List Lp) (g : Lg) (n : Nat) (hn : rs.length < n) (hst : (firstG g.epoch (lastOf g.last rs) rest).2 = false) :
    loopG n g (rowOf g.epoch g.last rs ++ rest) = { g with l := g.l ++ rs.map (fun q => str q.1), last := lastOf g.last rs, used := g.used + (rowOf g.epoch g.last rs).length } := by
  induction rs generalizing g n with
  | nil =>
    obtain ⟨m, rfl⟩ : ∃ m, n = m + 1 := ⟨n - 1, by omega⟩
    rw [loopG, if_neg]
    · simp [rowOf, lastOf]
    · simpa [rowOf, lastOf] using hst
  | cons x rs ih =>
    obtain ⟨m, rfl⟩ : ∃ m, n = m + 1 := ⟨n - 1, by simp at hn; omega⟩
    have hx := hs x (by simp)
    have hf := firstG_cut x.1 g.epoch x.2 g.last (rowOf g.epoch x.2 rs ++ rest) hx
    obtain ⟨p, r, hc, c1, c2, c3, c4⟩ := cutG_cons x.1 g.epoch x.2 g.last
    have hhd : ((cutG x.1 g.epoch x.2 g.last ++ (rowOf g.epoch x.2 rs ++ rest)).headD ⟨0, 0, 0, 0, 0, []⟩).salt = x.2 := by rw [hc]; exact c2
    have hdr : (cutG x.1 g.epoch x.2 g.last ++ (rowOf g.epoch x.2 rs ++ rest)).drop (partsOf x.1.length) = rowOf g.epoch x.2 rs ++ rest := by
      rw [List.drop_left' (cutG_len _ _ _ _)]
    rw [loopG, rowOf, List.append_assoc, hf, if_pos rfl, hhd, hdr]
    have := ih (fun q hq => hs q (by simp [hq])) { g with l := g.l ++ [str x.1], last := x.2, used := g.used + partsOf x.1.length } m (by simp at hn; omega) hst
    rw [this]
    simp [lastOf, cutG_len, Nat.add_assoc]

/-- A log that stands on a disk without a fuse. -/
structure LogIs (d : Dk) (g : Lg) (rs : List (List UInt8 × Nat)) (R : List (Option Lp)) : Prop where
  fuse : d.fuse = -1
  off : d.off = false
  waits : d.waits.length = d.lasts.length
  room : g.from_ + g.sectors ≤ d.lasts.length
  pos : 1 ≤ g.sectors
  epoch0 : 0 < g.epoch
  epoch : g.epoch < 18446744073709551616
  cells : CellsIs d g.from_ ((rowOf g.epoch 0 rs).map some ++ R)
  len : (rowOf g.epoch 0 rs).length + R.length = g.sectors
  recs : g.l = rs.map (fun q => str q.1)
  used : g.used = (rowOf g.epoch 0 rs).length
  last : g.last = lastOf 0 rs
  salt : g.salt = saltL ((rowOf g.epoch 0 rs).map some ++ R)
  aheads : ∀ p, some p ∈ (rowOf g.epoch 0 rs).map some ++ R → p.ahead ≤ g.salt
  small : ∀ q ∈ rs, q.1.length ≤ 1024
  broken : g.broken = false
  stop : (firstG g.epoch g.last (rowL R)).2 = false
theorem LogIs.opens {d : Dk} {g : Lg} {rs : List (List UInt8 × Nat)} {R : List (Option Lp)} (h : LogIs d g rs R) : openG d g.from_ g.sectors g.epoch = some g := by
  have hl : ((rowOf g.epoch 0 rs).map some ++ R).length = g.sectors := by rw [List.length_append, List.length_map]; exact h.len
  have hs := scanAt_is h.cells g.sectors (by omega)
  rw [List.take_of_length_le (by omega), rowL_map, ← h.salt] at hs
  unfold openG
  rw [hs, if_neg (by simp)]
  have hlo := loopG_row rs h.small (rowL R) ⟨g.from_, g.sectors, g.epoch, [], 0, 0, g.salt, false⟩ ((rowOf g.epoch 0 rs ++ rowL R).length + 1) (by have := rowOf_len g.epoch 0 rs; rw [List.length_append]; omega) (by have := h.stop; rw [h.last] at this; exact this)
  rw [hlo]
  congr 1
  obtain ⟨g1, g2, g3, g4, g5, g6, g7, g8⟩ := g
  have e1 := h.recs
  have e2 := h.used
  have e3 := h.last
  have e4 := h.broken
  simp only at e1 e2 e3 e4 ⊢
  rw [e1, e2, e3, e4]
  simp
theorem LogIs.last_le {d : Dk} {g : Lg} {rs : List (List UInt8 × Nat)} {R : List (Option Lp)} (h : LogIs d g rs R) : g.last ≤ g.salt := by
  rw [h.last]
  exact lastOf_le (e := g.epoch) (fun p hp => by rw [h.salt]; exact saltL_mem (List.mem_append_left _ (List.mem_map.2 ⟨p, hp, rfl⟩))) (Nat.zero_le _)
/-- Another epoch, of which there is no record at the beginning. -/
theorem LogIs.other {d : Dk} {g : Lg} {rs : List (List UInt8 × Nat)} {R : List (Option Lp)} (h : LogIs d g rs R) (e : Nat) (h0 : 0 < e) (he : e < 18446744073709551616) (hst : (firstG e 0 (rowL ((rowOf g.epoch 0 rs).map some ++ R))).2 = false) :
    LogIs d ⟨g.from_, g.sectors, e, [], 0, 0, g.salt, false⟩ [] ((rowOf g.epoch 0 rs).map some ++ R) :=
  ⟨h.fuse, h.off, h.waits, h.room, h.pos, h0, he, by simpa [rowOf] using h.cells, by simpa [rowOf] using h.len, rfl, rfl, rfl, by simpa [rowOf] using h.salt, by simpa [rowOf] using h.aheads, by simp, rfl, hst⟩
theorem stop_other {e e' : Nat} {rs : List (List UInt8 × Nat)} {R : List (Option Lp)} (hr : rs ≠ []) (hne : e ≠ e') : (firstG e' 0 (rowL ((rowOf e 0 rs).map some ++ R))).2 = false := by
  rw [rowL_map]
  obtain ⟨p, r, hc, c1⟩ := rowOf_cons (e := e) (last := 0) hr
  rw [hc, List.cons_append]
  cases hf : (firstG e' 0 (p :: (r ++ rowL R))).2 with
  | false => rfl
  | true => exact absurd (c1.symm.trans (firstG_head hf).1) hne
theorem fresh_log (n f m e : Nat) (h : f + m ≤ n) (hm : 1 ≤ m) (h0 : 0 < e) (he : e < 18446744073709551616) : LogIs (Dk.fresh n) ⟨f, m, e, [], 0, 0, 0, false⟩ [] (List.replicate m none) := by
  have hno : ∀ p : Lp, some p ∉ List.replicate m (none : Option Lp) := fun p hp => by have := List.eq_of_mem_replicate hp; simp at this
  have hrow : rowL (List.replicate m none) = [] := by cases m <;> rfl
  refine ⟨rfl, rfl, by simp [Dk.fresh], by simpa [Dk.fresh] using h, hm, h0, he, ⟨fun i hi => ?_, fun p hp => absurd hp (hno p)⟩, by simp [rowOf], rfl, rfl, rfl, ?_, fun p hp => absurd hp (hno p), by simp, rfl, by rw [hrow]; rfl⟩
  · have e : (Dk.fresh n).now (f + i) = zeros64 := by
      have hi' : i < m := by simpa [rowOf] using hi
      unfold Dk.now Dk.at_ Dk.last Dk.fresh
      simp only [List.getD_eq_getElem?_getD, List.getElem?_replicate]
      rw [if_pos (by omega), if_pos (by omega)]
      rfl
    simp [rowOf, e, secO]
  · have : saltL (List.replicate m none) ≤ 0 := saltL_le fun p hp => absurd hp (hno p)
    show 0 = saltL (List.replicate m none)
    omega

theorem writeB_free {d : Dk} (h : d.fuse = -1) (ho : d.off = false) (hw : d.waits.length = d.lasts.length) (a : Nat) (l : List ByteArray) (hs : ∀ q ∈ l, q.size = 64) (j : Nat) (hj : j ≤ l.length) (ha : a + j ≤ d.lasts.length) :
    (writeB d a l j).2 = 0 ∧ (writeB d a l j).1.fuse = -1 ∧ (writeB d a l j).1.off = false ∧
      ∀ i, (writeB d a l j).1.now i = if a ≤ i ∧ i < a + j then l.getD (i - a) ByteArray.empty else d.now i := by
  induction j with
  | zero => exact ⟨rfl, h, ho, fun i => by rw [if_neg (by omega)]; rfl⟩
  | succ j ih =>
    obtain ⟨i1, i2, i3, i4⟩ := ih (by omega) (by omega)
    obtain ⟨s1, s2, s3⟩ := writeB_same d a l hw j
    have hq : (l.getD j ByteArray.empty).size = 64 := by
      rw [List.getD_eq_getElem?_getD, List.getElem?_eq_getElem (by omega)]
      exact hs _ (List.getElem_mem _)
    have hwr := Dk.write_free i2 i3 (i := a + j) (by rw [s1]; omega) hq
    rw [writeB, if_neg (by rw [i1]; simp), hwr]
    refine ⟨rfl, i2, i3, fun i => ?_⟩
    rw [Dk.push_now _ _ _ _ (by rw [s2, hw]; omega), i4]
    by_cases e : a + j = i
    · subst e
      rw [if_pos rfl, if_pos (by omega), Nat.add_sub_cancel_left]
    · rw [if_neg e]
      by_cases e2 : a ≤ i ∧ i < a + j
      · rw [if_pos e2, if_pos (by omega)]
      · rw [if_neg e2, if_neg (by omega)]
/-- The log behind a record more. -/
def Lg.added (g : Lg) (s : ByteArray) : Lg := { g with salt := g.salt + 1, last := g.salt + 1, broken := false, l := g.l ++ [s], used := g.used + partsOf s.size }
/-- The disk behind a record more. -/
def addD (d : Dk) (g : Lg) (s : ByteArray) : Dk := (wroteG d g s.data.toList).1.flush
theorem added_is {d d2 : Dk} {g : Lg} {rs : List (List UInt8 × Nat)} {R : List (Option Lp)} (h : LogIs d g rs R) (s : ByteArray) (hs : s.size ≤ 1024) (hr : partsOf s.size ≤ R.length) (hsalt : g.salt < 18446744073709551615)
    (hf2 : d2.fuse = -1) (ho2 : d2.off = false) (hw2 : d2.waits.length = d2.lasts.length) (hl2 : d2.lasts.length = d.lasts.length)
    (hnow : ∀ i, i < g.sectors → d2.now (g.from_ + i) = if g.used ≤ i ∧ i < g.used + partsOf s.size then (secsG g s.data.toList).getD (i - g.used) ByteArray.empty else d.now (g.from_ + i)) :
    LogIs d2 (g.added s) (rs ++ [(s.data.toList, g.salt + 1)]) (R.drop (partsOf s.size)) := by
  have hlen := h.len
  have hroom := h.room
  have hused := h.used
  have e64 : (2 : Nat) ^ (8 * 8) = 18446744073709551616 := by decide
  have hl64 : s.data.toList.length = s.size := by simp
  have hep := h.epoch
  have hll := h.last_le
  have hok := cutG_ok s.data.toList g.epoch (g.salt + 1) g.last h.epoch0 (by omega) (by omega) (by omega) (by omega)
  have hcl := cutG_len s.data.toList g.epoch (g.salt + 1) g.last
  rw [hl64] at hcl
  have hsl := secsG_len g s.data.toList
  rw [hl64] at hsl
  have hrow : rowOf g.epoch 0 (rs ++ [(s.data.toList, g.salt + 1)]) = rowOf g.epoch 0 rs ++ cutG s.data.toList g.epoch (g.salt + 1) g.last := by
    rw [rowOf_snoc, ← h.last]
  have hmem : ∀ p, some p ∈ (rowOf g.epoch 0 rs ++ cutG s.data.toList g.epoch (g.salt + 1) g.last).map some ++ R.drop (partsOf s.size) → p ∈ cutG s.data.toList g.epoch (g.salt + 1) g.last ∨ some p ∈ (rowOf g.epoch 0 rs).map some ++ R := by
    intro p hp
    rcases List.mem_append.1 hp with e | e
    · obtain ⟨q, hq, e⟩ := List.mem_map.1 e
      injection e with e
      subst e
      rcases List.mem_append.1 hq with e | e
      · exact .inr (List.mem_append_left _ (List.mem_map.2 ⟨q, e, rfl⟩))
      · exact .inl e
    · exact .inr (List.mem_append_right _ (List.mem_of_mem_drop e))
  have hcut : ∀ p ∈ cutG s.data.toList g.epoch (g.salt + 1) g.last, p.salt = g.salt + 1 ∧ p.ahead = g.last := by
    intro p hp
    obtain ⟨i, hi, rfl⟩ := List.mem_iff_getElem.1 hp
    obtain ⟨c1, c2, c3, c4⟩ := cutG_get _ _ _ _ i hi
    exact ⟨c2, c3⟩
  have hsal : g.salt + 1 = saltL ((rowOf g.epoch 0 rs ++ cutG s.data.toList g.epoch (g.salt + 1) g.last).map some ++ R.drop (partsOf s.size)) := by
    apply Nat.le_antisymm
    · obtain ⟨p, r, hc, c1, c2, c3, c4⟩ := cutG_cons s.data.toList g.epoch (g.salt + 1) g.last
      have := saltL_mem (L := (rowOf g.epoch 0 rs ++ cutG s.data.toList g.epoch (g.salt + 1) g.last).map some ++ R.drop (partsOf s.size)) (p := p) (List.mem_append_left _ (List.mem_map.2 ⟨p, List.mem_append_right _ (by rw [hc]; simp), rfl⟩))
      omega
    · refine saltL_le fun p hp => ?_
      rcases hmem p hp with e | e
      · have := (hcut p e).1; omega
      · have := saltL_mem e
        rw [← h.salt] at this
        omega
  have hah : ∀ p, some p ∈ (rowOf g.epoch 0 rs ++ cutG s.data.toList g.epoch (g.salt + 1) g.last).map some ++ R.drop (partsOf s.size) → p.ahead ≤ g.salt + 1 := by
    intro p hp
    rcases hmem p hp with e | e
    · have := (hcut p e).2; omega
    · have := h.aheads p e; omega
  have hrl : ((rowOf g.epoch 0 rs).map some : List (Option Lp)).length = g.used := by rw [List.length_map, hused]
  have hepo : (g.added s).epoch = g.epoch := rfl
  have hfr : (g.added s).from_ = g.from_ := rfl
  refine ⟨hf2, ho2, hw2, by rw [hl2]; exact hroom, h.pos, h.epoch0, hep, ⟨fun i hi => ?_, fun p hp => ?_⟩, ?_, ?_, ?_, ?_, ?_, ?_, ?_, rfl, ?_⟩
  · have hi2 : i < g.used + partsOf s.size + (R.length - partsOf s.size) := by
      rw [hepo, hrow, List.length_append, List.length_map, List.length_append, hcl, List.length_drop, ← hused] at hi
      exact hi
    rw [hfr, hnow i (by omega)]
    have hL : ((rowOf (g.added s).epoch 0 (rs ++ [(s.data.toList, g.salt + 1)])).map some ++ R.drop (partsOf s.size)) = (rowOf g.epoch 0 rs).map some ++ ((cutG s.data.toList g.epoch (g.salt + 1) g.last).map some ++ R.drop (partsOf s.size)) := by
      rw [hepo, hrow, List.map_append, List.append_assoc]
    simp only [hL]
    by_cases e1 : i < g.used
    · rw [if_neg (by omega), h.cells.cell i (by rw [List.length_append]; omega), List.getElem_append_left (by omega), List.getElem_append_left (by omega)]
    · by_cases e2 : i < g.used + partsOf s.size
      · rw [if_pos (by omega), List.getElem_append_right (by omega)]
        rw [List.getElem_append_left (by simp only [List.length_map]; omega), List.getD_eq_getElem?_getD, List.getElem?_eq_getElem (by omega)]
        simp only [secsG, List.getElem_map, Option.getD_some, secO, hrl]
      · rw [if_neg (by omega), h.cells.cell i (by rw [List.length_append]; omega), List.getElem_append_right (by omega), List.getElem_append_right (by omega)]
        rw [List.getElem_append_right (by simp only [List.length_map]; omega)]
        simp only [List.getElem_drop, List.length_map, hcl, ← hused]
        congr 2
        omega
  · rw [hepo, hrow] at hp
    rcases hmem p hp with e | e
    · exact hok p e
    · exact h.cells.ok p e
  · show (rowOf g.epoch 0 _).length + _ = g.sectors
    rw [hrow, List.length_append, hcl, List.length_drop]
    omega
  · show g.l ++ [s] = _
    rw [List.map_append, h.recs]
    rfl
  · show g.used + partsOf s.size = (rowOf g.epoch 0 _).length
    rw [hrow, List.length_append, hcl, hused]
  · show g.salt + 1 = _
    rw [lastOf_snoc]
  · show g.salt + 1 = saltL ((rowOf g.epoch 0 _).map some ++ _)
    rw [hrow]
    exact hsal
  · intro p hp
    show p.ahead ≤ g.salt + 1
    rw [hepo, hrow] at hp
    exact hah p hp
  · intro q hq
    rcases List.mem_append.1 hq with e | e
    · exact h.small q e
    · rw [List.mem_singleton.1 e, hl64]; exact hs
  · show (firstG g.epoch (g.salt + 1) _).2 = false
    refine firstG_stop fun p hp => .inr ?_
    have := h.aheads p (List.mem_append_right _ (List.mem_of_mem_drop (rowL_mem hp)))
    omega
theorem add_is {d : Dk} {g : Lg} {rs : List (List UInt8 × Nat)} {R : List (Option Lp)} (h : LogIs d g rs R) (s : ByteArray) (hs : s.size ≤ 1024) (hr : partsOf s.size ≤ R.length) (hsalt : g.salt < 18446744073709551615) :
    addG d g s = (addD d g s, g.added s, 0) ∧ LogIs (addD d g s) (g.added s) (rs ++ [(s.data.toList, g.salt + 1)]) (R.drop (partsOf s.size)) ∧ (addD d g s).lasts.length = d.lasts.length ∧ (addD d g s).pend = 0 ∧
      ∀ i, i < d.lasts.length → (i < g.from_ ∨ g.from_ + g.sectors ≤ i) → (addD d g s).now i = d.now i := by
  have hlen := h.len
  have hroom := h.room
  have hused := h.used
  have e64 : (2 : Nat) ^ (8 * 8) = 18446744073709551616 := by decide
  have hl64 : s.data.toList.length = s.size := by simp
  have hep := h.epoch
  have hll := h.last_le
  have hok := cutG_ok s.data.toList g.epoch (g.salt + 1) g.last h.epoch0 (by omega) (by omega) (by omega) (by omega)
  have hsl := secsG_len g s.data.toList
  rw [hl64] at hsl
  have hsz : ∀ q ∈ secsG g s.data.toList, q.size = 64 := by
    intro q hq
    obtain ⟨p, hp, rfl⟩ := List.mem_map.1 hq
    exact secG_size p (hok p hp)
  obtain ⟨w1, w2, w3, w4⟩ := writeB_free h.fuse h.off h.waits (g.from_ + g.used) (secsG g s.data.toList) hsz (partsOf s.size) (by omega) (by omega)
  obtain ⟨s1, s2, s3⟩ := writeB_same d (g.from_ + g.used) (secsG g s.data.toList) h.waits (partsOf s.size)
  have hwg : wroteG d g s.data.toList = writeB d (g.from_ + g.used) (secsG g s.data.toList) (partsOf s.size) := by rw [wroteG, hl64]
  have hD : addD d g s = (writeB d (g.from_ + g.used) (secsG g s.data.toList) (partsOf s.size)).1.flush := by rw [addD, hwg]
  have hlasts : (addD d g s).lasts.length = d.lasts.length := by
    rw [hD]
    show ((List.range _).map _).length = _
    rw [List.length_map, List.length_range, s1]
  have hwaits : (addD d g s).waits.length = (addD d g s).lasts.length := by
    rw [hlasts, hD]
    show (List.map _ _).length = _
    rw [List.length_map, s2, h.waits]
  have hnow : ∀ i, i < d.lasts.length → (addD d g s).now i = if g.from_ + g.used ≤ i ∧ i < g.from_ + g.used + partsOf s.size then (secsG g s.data.toList).getD (i - (g.from_ + g.used)) ByteArray.empty else d.now i := by
    intro i hi
    rw [hD, Dk.flush_now _ _ (by rw [s1]; exact hi), w4]
  refine ⟨?_, added_is h s hs hr hsalt (by rw [hD]; exact w2) (by rw [hD]; exact w3) hwaits hlasts (fun i hi => ?_), hlasts, by rw [hD]; exact Dk.flush_pend _, fun i hi ho => ?_⟩
  · unfold addG
    rw [h.broken, if_neg (by simp), if_neg (by omega), if_neg (by omega), hwg, if_neg (by rw [w1]; simp), Dk.sync_free w2 w3, if_neg (by simp), hD]
    rfl
  · rw [hnow _ (by omega), Nat.add_sub_add_left]
    by_cases e : g.used ≤ i ∧ i < g.used + partsOf s.size
    · rw [if_pos (by omega), if_pos e]
    · rw [if_neg (by omega), if_neg e]
  · rw [hnow i hi, if_neg (by omega)]
theorem LogIs.used_le {d : Dk} {g : Lg} {rs : List (List UInt8 × Nat)} {R : List (Option Lp)} (h : LogIs d g rs R) : g.used + R.length = g.sectors := by rw [h.used]; exact h.len
theorem LogIs.recs_le {d : Dk} {g : Lg} {rs : List (List UInt8 × Nat)} {R : List (Option Lp)} (h : LogIs d g rs R) : g.l.length ≤ g.used := by
  rw [h.recs, List.length_map, h.used]
  exact rowOf_len _ _ _
end Go.Proofs.YtpfbgmfkeofefaaGreat

/-
  The plain law of a log whose last record was broken off: it is there whole, or not at all.
-/
namespace Go.Proofs.YtpfbgmfkeofefaaGreat
open Go Go.RowKit

theorem rowL_get {L : List (Option Lp)} {i : Nat} (h : i < (rowL L).length) : L[i]? = some (some (rowL L)[i]) := by
  induction L generalizing i with
  | nil => simp [rowL] at h
  | cons x L ih =>
    cases x with
    | none => simp [rowL] at h
    | some q =>
      cases i with
      | zero => simp [rowL]
      | succ i =>
        simp only [rowL, List.length_cons] at h
        have := ih (i := i) (by omega)
        simpa [rowL] using this
theorem rowL_prefix {A B : List (Option Lp)} {n : Nat} (h : ∀ i, i < n → A[i]? = B[i]?) (hn : n ≤ (rowL A).length) : n ≤ (rowL B).length ∧ (rowL A).take n = (rowL B).take n := by
  induction n generalizing A B with
  | zero => simp
  | succ n ih =>
    cases A with
    | nil => simp [rowL] at hn
    | cons x A =>
      cases x with
      | none => simp [rowL] at hn
      | some p =>
        have h0 := h 0 (by omega)
        cases B with
        | nil => simp at h0
        | cons y B =>
          simp only [List.getElem?_cons_zero, Option.some.injEq] at h0
          subst h0
          simp only [rowL, List.length_cons] at hn
          have := ih (A := A) (B := B) (fun i hi => by simpa using h (i + 1) (by omega)) (by omega)
          simp only [rowL, List.length_cons, List.take_succ_cons]
          exact ⟨by omega, by rw [this.2]⟩
/-- Parts of a record among others of lesser salts: no other record begins there. -/
theorem mix_stop {e last salt k : Nat} {R M : List (Option Lp)} {t : List UInt8} (hR : ∀ p, some p ∈ R → p.salt ≤ salt) (hk : k = partsOf t.length)
    (hM : ∀ i, M[i]? = R[i]? ∨ (i < k ∧ M[i]? = (cutG t e (salt + 1) last)[i]?.map some)) (hst : (firstG e last (rowL R)).2 = false)
    (hno : ¬ ∀ i, i < k → M[i]? = (cutG t e (salt + 1) last)[i]?.map some) : (firstG e last (rowL M)).2 = false := by
  cases hf : (firstG e last (rowL M)).2 with
  | false => rfl
  | true =>
    exfalso
    obtain ⟨t', s', rest, ht', hrow⟩ := firstG_true hf
    have hn' := partsOf_pos t'.length
    have hcl := cutG_len t' e s' last
    have hlen : partsOf t'.length ≤ (rowL M).length := by rw [hrow, List.length_append, hcl]; omega
    have hget : ∀ (i : Nat) (h : i < partsOf t'.length), M[i]? = some (some ((cutG t' e s' last)[i]'(by rw [hcl]; exact h))) := by
      intro i h
      rw [rowL_get (by omega)]
      simp only [hrow]
      rw [List.getElem_append_left (by rw [hcl]; exact h)]
    have hold : ∀ (i : Nat) (p : Lp), M[i]? = R[i]? → M[i]? = some (some p) → p.salt ≤ salt := by
      intro i p h1 h2
      rw [h1] at h2
      exact hR p (List.mem_of_getElem? h2)
    have hnew : ∀ (i : Nat) (p : Lp), (i < k ∧ M[i]? = (cutG t e (salt + 1) last)[i]?.map some) → M[i]? = some (some p) → p.salt = salt + 1 ∧ p.all = k := by
      intro i p h1 h2
      rw [h1.2, List.getElem?_eq_getElem (by rw [cutG_len]; omega)] at h2
      simp only [Option.map_some, Option.some.injEq] at h2
      obtain ⟨c1, c2, c3, c4, c5, c6⟩ := cutG_get t e (salt + 1) last i (by rw [cutG_len]; omega)
      rw [h2] at c2 c5
      exact ⟨c2, by omega⟩
    have hcut : ∀ (i : Nat) (h : i < partsOf t'.length), ((cutG t' e s' last)[i]'(by rw [hcl]; exact h)).salt = s' ∧ ((cutG t' e s' last)[i]'(by rw [hcl]; exact h)).all = partsOf t'.length := by
      intro i h
      obtain ⟨c1, c2, c3, c4, c5, c6⟩ := cutG_get t' e s' last i (by rw [hcl]; exact h)
      exact ⟨c2, c5⟩
    by_cases hs : s' = salt + 1
    · have all_new : ∀ i : Nat, i < partsOf t'.length → i < k ∧ M[i]? = (cutG t e (salt + 1) last)[i]?.map some := by
        intro i h
        rcases hM i with e1 | e1
        · have := hold i _ e1 (hget i h)
          have := (hcut i h).1
          omega
        · exact e1
      have h0 := hnew 0 _ (all_new 0 (by omega)) (hget 0 (by omega))
      have h1 := (hcut 0 (by omega)).2
      exact hno fun i hi => (all_new i (by omega)).2
    · have all_old : ∀ i : Nat, i < partsOf t'.length → M[i]? = R[i]? := by
        intro i h
        rcases hM i with e1 | e1
        · exact e1
        · have h1 := (hnew i _ e1 (hget i h)).1
          have h2 := (hcut i h).1
          omega
      obtain ⟨p1, p2⟩ := rowL_prefix all_old hlen
      have hR2 : rowL R = cutG t' e s' last ++ (rowL R).drop (partsOf t'.length) := by
        have e1 : (rowL M).take (partsOf t'.length) = cutG t' e s' last := by rw [hrow, List.take_left' hcl]
        rw [← e1, p2, List.take_append_drop]
      rw [hR2, firstG_cut _ _ _ _ _ ht'] at hst
      simp at hst
/-- What a crash leaves of a log to which a record was being added. -/
theorem mix_is {d d2 : Dk} {g : Lg} {rs : List (List UInt8 × Nat)} {R : List (Option Lp)} (h : LogIs d g rs R) (s : ByteArray) (hs : s.size ≤ 1024) (hr : partsOf s.size ≤ R.length) (hsalt : g.salt < 18446744073709551615)
    (hf2 : d2.fuse = -1) (ho2 : d2.off = false) (hw2 : d2.waits.length = d2.lasts.length) (hl2 : d2.lasts.length = d.lasts.length)
    (hnow : ∀ i, i < g.sectors → d2.now (g.from_ + i) = d.now (g.from_ + i) ∨ (g.used ≤ i ∧ i < g.used + partsOf s.size ∧ d2.now (g.from_ + i) = (secsG g s.data.toList).getD (i - g.used) ByteArray.empty)) :
    ∃ g' rs' R', LogIs d2 g' rs' R' ∧ (g'.from_ = g.from_ ∧ g'.sectors = g.sectors ∧ g'.epoch = g.epoch ∧ g'.salt ≤ g.salt + 1) ∧ (g'.l = g.l ∨ g'.l = g.l ++ [s]) := by
  classical
  have hlen := h.len
  have hused := h.used
  have e64 : (2 : Nat) ^ (8 * 8) = 18446744073709551616 := by decide
  have hl64 : s.data.toList.length = s.size := by simp
  have hep := h.epoch
  have hll := h.last_le
  have hok := cutG_ok s.data.toList g.epoch (g.salt + 1) g.last h.epoch0 (by omega) (by omega) (by omega) (by omega)
  have hcl := cutG_len s.data.toList g.epoch (g.salt + 1) g.last
  rw [hl64] at hcl
  by_cases hall : ∀ i, i < partsOf s.size → d2.now (g.from_ + (g.used + i)) = (secsG g s.data.toList).getD i ByteArray.empty
  · refine ⟨g.added s, _, _, added_is h s hs hr hsalt hf2 ho2 hw2 hl2 (fun i hi => ?_), ⟨rfl, rfl, rfl, Nat.le_refl _⟩, .inr rfl⟩
    by_cases e : g.used ≤ i ∧ i < g.used + partsOf s.size
    · rw [if_pos e]
      have := hall (i - g.used) (by omega)
      rw [show g.used + (i - g.used) = i by omega] at this
      exact this
    · rw [if_neg e]
      rcases hnow i hi with e1 | e1
      · exact e1
      · exact absurd ⟨e1.1, e1.2.1⟩ e
  · have hM : ∃ M : List (Option Lp), M.length = R.length ∧ ∀ i (hi : i < R.length), (M[i]? = some R[i] ∧ d2.now (g.from_ + (g.used + i)) = d.now (g.from_ + (g.used + i))) ∨
        (i < partsOf s.size ∧ M[i]? = (cutG s.data.toList g.epoch (g.salt + 1) g.last)[i]?.map some ∧ d2.now (g.from_ + (g.used + i)) = (secsG g s.data.toList).getD i ByteArray.empty) := by
      refine ⟨(List.range R.length).map fun i => if d2.now (g.from_ + (g.used + i)) = d.now (g.from_ + (g.used + i)) then R.getD i none else (cutG s.data.toList g.epoch (g.salt + 1) g.last)[i]?, by simp, fun i hi => ?_⟩
      rw [List.getElem?_map, List.getElem?_range hi, Option.map_some]
      by_cases e : d2.now (g.from_ + (g.used + i)) = d.now (g.from_ + (g.used + i))
      · refine .inl ⟨?_, e⟩
        rw [if_pos e, List.getD_eq_getElem?_getD, List.getElem?_eq_getElem hi]
        rfl
      · rcases hnow (g.used + i) (by omega) with e1 | e1
        · exact absurd e1 e
        · refine .inr ⟨by omega, ?_, ?_⟩
          · rw [if_neg e, List.getElem?_eq_getElem (by omega)]
            rfl
          · rw [e1.2.2, Nat.add_sub_cancel_left]
    obtain ⟨M, hMl, hMi⟩ := hM
    have hsec : ∀ i (hi : i < partsOf s.size), (secsG g s.data.toList).getD i ByteArray.empty = ((cutG s.data.toList g.epoch (g.salt + 1) g.last)[i]'(by omega)).sec := by
      intro i hi
      have hsl := secsG_len g s.data.toList
      rw [hl64] at hsl
      rw [List.getD_eq_getElem?_getD, List.getElem?_eq_getElem (by omega)]
      simp [secsG]
    have hRs : ∀ p, some p ∈ (rowOf g.epoch 0 rs).map some ++ R → p.salt ≤ g.salt := fun p hp => by rw [h.salt]; exact saltL_mem hp
    have hcut : ∀ p ∈ cutG s.data.toList g.epoch (g.salt + 1) g.last, p.salt = g.salt + 1 ∧ p.ahead = g.last := by
      intro p hp
      obtain ⟨i, hi, rfl⟩ := List.mem_iff_getElem.1 hp
      obtain ⟨c1, c2, c3, c4⟩ := cutG_get _ _ _ _ i hi
      exact ⟨c2, c3⟩
    have hMm : ∀ p, some p ∈ M → some p ∈ R ∨ p ∈ cutG s.data.toList g.epoch (g.salt + 1) g.last := by
      intro p hp
      obtain ⟨i, hi, hp⟩ := List.mem_iff_getElem.1 hp
      rcases hMi i (by omega) with e | e
      · rw [List.getElem?_eq_getElem hi, hp] at e
        exact .inl (by rw [Option.some.inj e.1]; exact List.getElem_mem _)
      · have e2 := e.2.1
        rw [List.getElem?_eq_getElem hi, hp, List.getElem?_eq_getElem (by omega)] at e2
        simp only [Option.map_some, Option.some.injEq] at e2
        exact .inr (by rw [e2]; exact List.getElem_mem _)
    have hge : g.salt ≤ saltL ((rowOf g.epoch 0 rs).map some ++ M) := by
      rw [h.salt]
      refine saltL_le fun p hp => ?_
      have hps := hRs p hp
      rcases List.mem_append.1 hp with e | e
      · exact saltL_mem (List.mem_append_left _ e)
      · obtain ⟨i, hi, hp'⟩ := List.mem_iff_getElem.1 e
        rcases hMi i hi with e1 | e1
        · refine saltL_mem (List.mem_append_right _ ?_)
          rw [← hp']
          exact List.mem_of_getElem? e1.1
        · have e2 := e1.2.1
          rw [List.getElem?_eq_getElem (by omega : i < (cutG s.data.toList g.epoch (g.salt + 1) g.last).length), Option.map_some] at e2
          have h1 := saltL_mem (L := (rowOf g.epoch 0 rs).map some ++ M) (List.mem_append_right _ (List.mem_of_getElem? e2))
          have h2 := (hcut _ (List.getElem_mem (by omega : i < (cutG s.data.toList g.epoch (g.salt + 1) g.last).length))).1
          omega
    have hMs : saltL ((rowOf g.epoch 0 rs).map some ++ M) ≤ g.salt + 1 := by
      refine saltL_le fun p hp => ?_
      rcases List.mem_append.1 hp with e | e
      · have := hRs p (List.mem_append_left _ e); omega
      · rcases hMm p e with e | e
        · have := hRs p (List.mem_append_right _ e); omega
        · have := (hcut p e).1; omega
    have hrl : ((rowOf g.epoch 0 rs).map some : List (Option Lp)).length = g.used := by rw [List.length_map, hused]
    refine ⟨{ g with salt := saltL ((rowOf g.epoch 0 rs).map some ++ M) }, rs, M, ⟨hf2, ho2, hw2, by rw [hl2]; exact h.room, h.pos, h.epoch0, h.epoch, ⟨fun i hi => ?_, fun p hp => ?_⟩, ?_, h.recs, h.used, h.last, rfl, fun p hp => ?_, h.small, h.broken, ?_⟩, ⟨rfl, rfl, rfl, hMs⟩, .inl rfl⟩
    · have hi2 : i < g.used + R.length := by
        rw [List.length_append, hrl, hMl] at hi
        exact hi
      show d2.now (g.from_ + i) = secO ((rowOf g.epoch 0 rs).map some ++ M)[i]
      by_cases e1 : i < g.used
      · rcases hnow i (by omega) with e | e
        · rw [e, h.cells.cell i (by rw [List.length_append]; omega), List.getElem_append_left (by omega), List.getElem_append_left (by omega)]
        · omega
      · have e3 : g.used + (i - g.used) = i := by omega
        rw [List.getElem_append_right (by omega)]
        simp only [hrl]
        rcases hMi (i - g.used) (by omega) with e | e
        · rw [e3] at e
          rw [e.2, h.cells.cell i (by rw [List.length_append]; omega), List.getElem_append_right (by omega)]
          have e4 := e.1
          rw [List.getElem?_eq_getElem (by omega)] at e4
          rw [Option.some.inj e4]
          simp only [hrl]
        · rw [e3] at e
          have e4 := e.2.1
          rw [List.getElem?_eq_getElem (by omega), List.getElem?_eq_getElem (by omega), Option.map_some] at e4
          rw [e.2.2, hsec _ e.1, Option.some.inj e4]
          rfl
    · rcases List.mem_append.1 hp with e | e
      · exact h.cells.ok p (List.mem_append_left _ e)
      · rcases hMm p e with e | e
        · exact h.cells.ok p (List.mem_append_right _ e)
        · exact hok p e
    · show (rowOf g.epoch 0 rs).length + M.length = g.sectors
      omega
    · show p.ahead ≤ saltL ((rowOf g.epoch 0 rs).map some ++ M)
      rcases List.mem_append.1 hp with e | e
      · have := h.aheads p (List.mem_append_left _ e); omega
      · rcases hMm p e with e | e
        · have := h.aheads p (List.mem_append_right _ e); omega
        · have := (hcut p e).2; omega
    · show (firstG g.epoch g.last (rowL M)).2 = false
      refine mix_stop (salt := g.salt) (k := partsOf s.size) (t := s.data.toList) (fun p hp => hRs p (List.mem_append_right _ hp)) (by rw [hl64]) (fun i => ?_) h.stop (fun hno => hall fun i hi => ?_)
      · by_cases hi : i < R.length
        · rcases hMi i hi with e | e
          · exact .inl (by rw [e.1, List.getElem?_eq_getElem hi])
          · exact .inr ⟨e.1, e.2.1⟩
        · exact .inl (by rw [List.getElem?_eq_none (by omega), List.getElem?_eq_none (by omega)])
      · rcases hMi i (by omega) with e | e
        · have e1 := hno i hi
          rw [e.1, List.getElem?_eq_getElem (by omega), Option.map_some] at e1
          rw [e.2, hsec i hi, h.cells.cell (g.used + i) (by rw [List.length_append]; omega), List.getElem_append_right (by omega)]
          simp only [hrl, Nat.add_sub_cancel_left]
          rw [Option.some.inj e1]
          rfl
        · exact e.2.2
end Go.Proofs.YtpfbgmfkeofefaaGreat
