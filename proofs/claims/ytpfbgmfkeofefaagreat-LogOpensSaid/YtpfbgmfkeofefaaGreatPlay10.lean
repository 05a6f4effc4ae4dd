/-
  A log beside the document's: what a law of chapter 10 keeps of both.
-/
import Derived.Test.YtpfbgmfkeofefaaGreatRef10
import Derived.Test.YtpfbgmfkeofefaaGreatLogBad
import Derived.Test.YtpfbgmfkeofefaaGreatPlayE
namespace Go.Proofs.YtpfbgmfkeofefaaGreat
open Go Go.RowKit

/-- A log whose numbers are bounded. -/
structure Lg.fits (g : Lg) : Prop where
  used : g.used ≤ g.sectors
  sectors : g.sectors ≤ 60
  from_ : g.from_ ≤ 60
  recs : g.l.length ≤ g.used
  salt : g.salt < 18446744073709551616
  last : g.last < 18446744073709551616
  epoch : g.epoch < 18446744073709551616
theorem seeG_lt (L : List (List UInt8)) (m : Nat) (hm : m < 18446744073709551616) : L.foldl seeG m < 18446744073709551616 := by
  induction L generalizing m with
  | nil => exact hm
  | cons s L ih =>
    rw [List.foldl_cons]
    apply ih
    unfold seeG
    split
    · have h1 := leN_lt (((lookL s).1.drop 8).take 8)
      have h2 : 2 ^ (8 * (((lookL s).1.drop 8).take 8).length) ≤ 2 ^ 64 := Nat.pow_le_pow_right (by omega) (by rw [List.length_take]; omega)
      omega
    · exact hm
theorem loopR_fits : ∀ (m : Nat) (g : Lg) (L : List (List UInt8)), 0 < g.epoch → g.epoch < 2 ^ (8 * 8) → g.last < 2 ^ (8 * 8) → g.used + L.length = g.sectors → g.l.length ≤ g.used →
    (loopR m g L).from_ = g.from_ ∧ (loopR m g L).sectors = g.sectors ∧ (loopR m g L).epoch = g.epoch ∧ (loopR m g L).salt = g.salt ∧ (loopR m g L).used ≤ g.sectors ∧ (loopR m g L).l.length ≤ (loopR m g L).used ∧ (loopR m g L).last < 2 ^ (8 * 8)
  | 0, g, L, _, _, h2, h3, h4 => ⟨rfl, rfl, rfl, rfl, by show g.used ≤ _; omega, h4, h2⟩
  | m + 1, g, L, h0, h1, h2, h3, h4 => by
    rw [loopR]
    split
    · rename_i hb
      obtain ⟨e1, e2⟩ := at_first (L := L) h0 h1 h2
      obtain ⟨a1, a2, a3, a4, a5, a6⟩ := e2 hb
      have hp := partsOf_pos (atR g.epoch g.last L).1.length
      have := loopR_fits m { g with l := g.l ++ [str (atR g.epoch g.last L).1], last := (atR g.epoch g.last L).2.1, used := g.used + partsOf (atR g.epoch g.last L).1.length } (L.drop (partsOf (atR g.epoch g.last L).1.length)) h0 h1 a3 (by show g.used + _ + _ = g.sectors; rw [List.length_drop]; omega) (by show (g.l ++ _).length ≤ g.used + _; rw [List.length_append, List.length_singleton]; omega)
      exact this
    · exact ⟨rfl, rfl, rfl, rfl, by omega, h4, h2⟩
/-- What Open tells, whatever the place, the epoch and the power. -/
def openLP (d : Dk) (f n : Int) (e : Nat) : Option Lg × Int :=
  if 0 ≤ f ∧ 1 ≤ n ∧ n ≤ d.lasts.length ∧ f ≤ (d.lasts.length : Int) - n ∧ 1 ≤ e then (if d.off then (none, 14) else (openG d f.toNat n.toNat e, openErrG (openG d f.toNat n.toNat e))) else (none, 1)
theorem openLP_err (d : Dk) (f n : Int) (e : Nat) : ((openLP d f n e).2 = 0 ∧ ∃ k, (openLP d f n e).1 = some k) ∨ ((openLP d f n e).2 ≠ 0 ∧ (openLP d f n e).1 = none) := by
  unfold openLP
  split
  · split
    · exact .inr ⟨by simp, rfl⟩
    · simp only
      unfold openErrG
      cases openG d f.toNat n.toNat e with
      | none => exact .inr ⟨by simp, rfl⟩
      | some k => exact .inl ⟨by simp, k, rfl⟩
  · exact .inr ⟨by simp, rfl⟩
theorem openLP_fits {d : Dk} {f n : Int} {e : Nat} {g : Lg} (hd : d.lasts.length ≤ 60) (he : e < 18446744073709551616) (h : (openLP d f n e).1 = some g) : g.fits := by
  unfold openLP at h
  split at h
  · rename_i h1
    split at h
    · cases h
    · simp only at h
      rw [openG_ref _ _ _ _ (by omega) he] at h
      unfold openGR at h
      split at h
      · cases h
      · have hg := Option.some.inj h
        have hl := secsL_len d f.toNat n.toNat
        obtain ⟨a1, a2, a3, a4, a5, a6, a7⟩ := loopR_fits (n.toNat + 1) ⟨f.toNat, n.toNat, e, [], 0, 0, (secsL d f.toNat n.toNat).foldl seeG 0, false⟩ (secsL d f.toNat n.toNat) (by show 0 < e; omega) he (by show 0 < _; decide) (by show 0 + _ = n.toNat; omega) (Nat.le_refl _)
        rw [hg] at a1 a2 a3 a4 a5 a6 a7
        simp only at a1 a2 a3 a4 a5
        exact ⟨by omega, by omega, by omega, a6, by rw [a4]; exact seeG_lt _ _ (by omega), a7, by omega⟩
  · cases h
theorem openLP_zero {d : Dk} {f n : Int} {e : Nat} (h : (openLP d f n e).2 = 0) : 0 ≤ f ∧ 1 ≤ n ∧ n ≤ d.lasts.length ∧ f ≤ (d.lasts.length : Int) - n ∧ 1 ≤ e := by
  unfold openLP at h
  split at h
  · assumption
  · simp at h
set_option maxRecDepth 100000 in
set_option maxHeartbeats 1600000 in
theorem openG_off {w : World} {p : Nat} {d : Dk} {F : List Nat} (hD : DiskAt w p d F) (f n e : Nat) (hn : 1 ≤ n) (hf : f + n ≤ d.lasts.length) (he : 1 ≤ e) (hoff : d.off = true) :
    Calls Tryz.prog 33 #[.pointer (some ⟨p, 0, none⟩), .int .i64 f, .int .i64 n, .int .u64 e] w fun en w' => en = .returned (.tuple #[.pointer none, .int .i64 14]) ∧ Upd (fun _ => False) w w' := by
  have hm := hD.wf.most
  have hne : ((d.lasts.length : Int) == 0) = false := by rw [beq_eq_false_iff_ne]; omega
  have hf0 : ¬ (f : Int) < 0 := by omega
  have hn0 : ¬ (n : Int) < 1 := by omega
  have hn1 : ¬ d.lasts.length < n := by omega
  have hf1 : ¬ (d.lasts.length : Int) - (n : Int) < (f : Int) := by omega
  have he1 : ¬ (e : Int) < 1 := by omega
  have hsw : IntKind.i64.wrap ((d.lasts.length : Int) - (n : Int)) = (d.lasts.length : Int) - (n : Int) := IntWalk.i64_in _ (by omega)
  have HS := Lib.hid (sectors_c hD)
  have hF : f ≤ 4096 ∧ n ≤ 4096 := by omega
  have HRe : Hid (∀ W, Upd (fun _ => False) w W → Calls Tryz.prog 75 #[.pointer (some ⟨p, 0, none⟩), .int .i64 (f : Int)] W fun e w' => e = .returned (.tuple #[.string ByteArray.empty, .int .i64 14]) ∧ W = w') := Lib.hid fun W hu => by
    have := read_c (hD.upd hu fun _ _ e => e) (f : Int)
    unfold Dk.read at this
    rw [hoff, if_pos rfl] at this
    exact this
  clear hD hoff hm hf
  go_enter Tryz.func33, Tryz.ntmps33
  go_wp2_with (go_at_call 54; refine HS.out.mono ?_; rintro e w' ⟨rfl, rfl⟩)
  clear hne hf0 hn0 hn1 hf1 he1 hsw
  go_loopw [11, 12, 58] (fun v r i wr => v = .slice none 0 0 ∧ r = .bool true ∧ i = .int .i64 0 ∧ Upd (fun _ => False) w wr ∧ Blk wr w.heap.size 98 ((⟨f, n, e, [], 0, 0, 0, false⟩ : Lg).cells p (.slice none 0 0))) (fun _ _ _ _ => 0)
  case atStart => exact ⟨rfl, rfl, rfl, (Upd.refl _ w).alloc _, Blk.new w _ _⟩
  case round =>
    obtain ⟨rfl, rfl, rfl, hU, hB⟩ := hrel
    have H := Lib.hid (And.intro hU hB)
    have hc := hB.cells9
    clear hU hB
    go_wp2_with fail
    refine (HRe.out _ H.out.1).mono ?_
    rintro e w' ⟨rfl, rfl⟩
    go_wp2_with fail
    go_ret2
    exact ⟨rfl, H.out.1⟩
/-- The blocks of the document's side. -/
abbrev RgX (vl vw vg : Value) : Nat → Prop := fun q => RdX vl vw q ∨ vg.ownBlock = some q
/-- Blocks of other types are as they were. -/
def BlkKept4 (w w' : World) : Prop := ∀ g t cs, Blk w g t cs → t ≠ 93 → t ≠ 9 → t ≠ 98 → Blk w' g t cs
section
variable {w0 w w' : World} {p b : Nat} {d d' : Dk} {g : Lg} {X : Nat → Prop}
theorem LgS.dksx (h : LgS w0 w p b d g X) (hl : ∀ q, X q → w0.heap.size ≤ q) : DksX w0 w [(p, d)] X := by
  obtain ⟨F, v, h1, h2, h3, h4, h5, h6⟩ := h.ex
  refine ⟨⟨fun _ => F, fun i hi => ?_, fun i j hi hj hne => ?_⟩, fun q hq => ⟨hl q hq, (h6 q hq).1⟩, h.upd⟩
  · obtain rfl : i = 0 := by simpa using hi
    exact ⟨h1, fun q hq => ⟨h2 q hq, fun e => (h6 q e).2.2.1 hq⟩⟩
  · simp at hi hj
    omega
/-- What Open leaves: a log, or what bars it. -/
structure OpenL (w0 w w' : World) (p : Nat) (d : Dk) (X : Nat → Prop) (o : Option Lg) (v : Value) : Prop where
  upd : Upd (fun _ => False) w w'
  bad : o = none → v = .pointer none
  ok : ∀ g, o = some g → ∃ b, v = .pointer (some ⟨b, 0, none⟩) ∧ LgS w0 w' p b d g X
/-- Open, whatever the place, the epoch and the power. -/
theorem open_lp (hD : DksX w0 w [(p, d)] X) (f n : Int) (e : Nat) (he : e < 18446744073709551616) :
    Calls Tryz.prog 33 #[.pointer (some ⟨p, 0, none⟩), .int .i64 f, .int .i64 n, .int .u64 (e : Int)] w fun en w' => ∃ v, en = .returned (.tuple #[v, .int .i64 (openLP d f n e).2]) ∧ OpenL w0 w w' p d X (openLP d f n e).1 v := by
  obtain ⟨G, h1, h2⟩ := hD.ex
  obtain ⟨g1, g2⟩ := h1 0 (by simp)
  simp only [List.getElem_cons_zero] at g1
  unfold openLP
  split
  · rename_i hb
    obtain ⟨f, rfl⟩ : ∃ m : Nat, f = m := ⟨f.toNat, by omega⟩
    obtain ⟨n, rfl⟩ : ∃ m : Nat, n = m := ⟨n.toNat, by omega⟩
    split
    · rename_i hoff
      refine (openG_off g1 f n e (by omega) (by omega) (by omega) hoff).mono ?_
      rintro en w' ⟨rfl, hU⟩
      exact ⟨_, rfl, hU, fun _ => rfl, fun k e => by cases e⟩
    · rename_i hoff
      refine (openG_on g1 f n e (by omega) (by omega) (by omega) he (by simpa using hoff)).mono ?_
      rintro en w' ⟨v, rfl, hO⟩
      refine ⟨v, rfl, hO.upd, hO.bad, fun g e => ?_⟩
      obtain ⟨b, v1, rfl, hB, hOwn, hb, hv⟩ := hO.ok g e
      have h0 := hD.upd.size
      refine ⟨b, rfl, ⟨⟨G 0, v1, g1.upd hO.upd (fun _ _ e => e), fun q hq => (g2 q hq).1, hB, hOwn, fun q hq => ⟨Nat.le_trans h0 (hv q hq), fun e => ?_⟩, fun q hq => ⟨Nat.lt_of_lt_of_le (hD.low q hq).2 hO.upd.size, fun e => ?_, fun e => (g2 q e).2 hq, fun e => ?_⟩⟩, Nat.le_trans h0 hb, hD.upd.then hO.upd (fun _ e => e.elim)⟩⟩
      · have := g1.lt q e; have := hv q hq; omega
      · have := (hD.low q hq).2; omega
      · have := (hD.low q hq).2; have := hv q e; omega
  · rename_i hb
    refine (openG_bad g1 f n (e : Int) (by omega)).mono ?_
    rintro en w' ⟨rfl, rfl⟩
    exact ⟨_, rfl, Upd.refl _ _, fun _ => rfl, fun k e => by cases e⟩
/-- The document's Open. -/
theorem ropen_lp {w : World} {vl vw : Value} {r : Rd} (h : RdAt w vl vw r) (hI : RdIs d r) (hwf : d.wf) (hm : d.lasts.length ≤ 60) (f n : Int) (e : Nat) (he : e < 18446744073709551616) :
    Calls Tryz.prog 38 #[.agg #[vl, vw, .int .i64 r.fuse, .bool r.off], .int .i64 f, .int .i64 n, .int .u64 (e : Int)] w fun en w' => ∃ vg, en = .returned (.tuple #[.agg (openLg (openLP d f n e).1 vg), .int .i64 (openLP d f n e).2]) ∧ OpensL w w' (openLP d f n e).1 vg := by
  have hf := hI.fits hwf
  have hl : (r.lasts.length : Int) = d.lasts.length := by rw [hI.lasts]
  unfold openLP
  split
  · rename_i hb
    obtain ⟨f, rfl⟩ : ∃ m : Nat, f = m := ⟨f.toNat, by omega⟩
    obtain ⟨n, rfl⟩ : ∃ m : Nat, n = m := ⟨n.toNat, by omega⟩
    split
    · rename_i hoff
      refine (refOpenG_off h hf hI hoff f n e (by omega) (by omega) (by omega)).mono ?_
      rintro en w' ⟨rfl, hU⟩
      exact ⟨.slice none 0 0, rfl, ⟨hU, fun g e => (by cases e), fun _ => rfl, by simp [Value.ownBlock]⟩⟩
    · rename_i hoff
      have := refOpenG_on h hf hI hwf (by simpa using hoff) f n e (by omega) (by omega) (by omega) (by omega) he
      rw [← openG_ref _ _ _ _ (by omega) he] at this
      exact this
  · rename_i hb
    refine (refOpenG_bad h hf f n (e : Int) (by omega) (by omega)).mono ?_
    rintro en w' ⟨rfl, hU⟩
    exact ⟨.slice none 0 0, rfl, ⟨hU, fun g e => (by cases e), fun _ => rfl, by simp [Value.ownBlock]⟩⟩
/-- Any record is added. -/
theorem add_lv (hS : LgS w0 w p b d g X) (hg : g.fits) (hpe : d.pend + 40 < 1000000) (s : ByteArray) :
    Calls Tryz.prog 12 #[.pointer (some ⟨b, 0, none⟩), .string s] w fun e w' => e = .returned (.int .i64 (addG d g s).2.2) ∧ AddS w0 w w' p b (addG d g s).1 (addG d g s).2.1 X ∧ BlkKept4 w w' := by
  obtain ⟨F, v, h1, h2, h3, h4, h5, h6⟩ := hS.ex
  obtain ⟨f1, f2, f3, f4, f5, f6, f7⟩ := hg
  by_cases hc : g.broken = false ∧ s.size ≤ 1024 ∧ partsOf s.size ≤ g.sectors - g.used ∧ g.salt < 18446744073709551615
  · refine (Add_goes h1 h3 h4 (fun q hq => (h5 q hq).2) s hc.1 hc.2.1 hc.2.2.1 hc.2.2.2 (by omega) (by omega) (by omega) (by omega) (by omega) (by omega) (by omega)).mono ?_
    rintro e w' ⟨rfl, hL⟩
    obtain ⟨F', v', k1, k2, k3, k4, k5, k6⟩ := hL.ex
    have hX : ∀ q, X q → ¬ (q = b ∨ q ∈ F ∨ v.ownBlock = some q) := fun q hq e => by
      obtain ⟨-, a1, a2, a3⟩ := h6 q hq
      rcases e with e | e | e
      · exact a1 e
      · exact a2 e
      · exact a3 e
    have hsz := hL.upd.size
    have h0 := hS.upd.size
    refine ⟨rfl, ⟨⟨⟨F', v', k1, fun q hq => (k2 q hq).elim (h2 q) (fun e => Nat.le_trans h0 e), k3, k4, fun q hq => ⟨(k5 q hq).elim (fun e => (h5 q e).1) (fun e => Nat.le_trans h0 e), k6 q hq⟩, fun q hq => ?_⟩, hS.new, hS.upd.then hL.upd fun q hq => .inr ?_⟩, fun q hq => hL.upd.block q (h6 q hq).1 (hX q hq), hsz⟩, fun q t cs hB t1 t2 t3 => hB.upd hL.upd (fun e => ?_)⟩
    · obtain ⟨a0, a1, a2, a3⟩ := h6 q hq
      refine ⟨by omega, a1, fun e => ?_, fun e => ?_⟩
      · rcases k2 q e with e | e
        · exact a2 e
        · omega
      · rcases k5 q e with e | e
        · exact a3 e
        · omega
    · rcases hq with rfl | hq | hq
      · exact hS.new
      · exact h2 q hq
      · exact (h5 q hq).1
    · rcases e with e | e | e
      · exact h3.ne_ hB (Ne.symm t3) e.symm
      · exact h1.not_mem hB t1 t2 e
      · exact h4.ne_blk hB (Ne.symm t2) e
  · have hor : g.broken = true ∨ 1024 < s.size ∨ g.sectors - g.used < partsOf s.size ∨ g.salt = 18446744073709551615 := by
      cases hb : g.broken
      · right
        apply Classical.byContradiction
        intro c
        exact hc ⟨hb, by omega, by omega, by omega⟩
      · exact .inl rfl
    have hadd : addG d g s = (d, g, if g.broken then 11 else if 1024 < s.size then 3 else 6) := by
      unfold addG
      by_cases c0 : g.broken = true
      · rw [if_pos c0, if_pos c0]
      · rw [if_neg c0, if_neg c0]
        by_cases c1 : 1024 < s.size
        · rw [if_pos c1, if_pos c1]
        · rw [if_neg c1, if_neg c1, if_pos (by rcases hor with h | h | h; exact absurd h c0; omega; exact h)]
    rw [hadd]
    refine (Add_refused hS.log s f1 (by omega) hor).mono ?_
    rintro e w' ⟨rfl, hU⟩
    exact ⟨rfl, ⟨hS.still hU, fun q hq => hU.block q (h6 q hq).1 (fun e => e), hU.size⟩, fun _ _ _ hB _ _ _ => hB.upd hU (fun e => e)⟩
/-- The disk's fuse, the log beside it. -/
theorem fuse_lv (hS : LgS w0 w p b d g X) (m : Int) (hm : m ≤ 9223372036854775807) :
    Calls Tryz.prog 31 #[.pointer (some ⟨p, 0, none⟩), .int .i64 m] w fun e w' => e = .returned (.tuple #[]) ∧ AddS w0 w w' p b (d.setFuse m) g X ∧ BlkKept w w' := by
  obtain ⟨F, v, h1, h2, h3, h4, h5, h6⟩ := hS.ex
  refine (fuse_c h1 m hm).mono ?_
  rintro e w' ⟨rfl, hL⟩
  have hsz := hL.upd.size
  have h0 := hS.upd.size
  have hbF := h1.not_mem h3 (by decide) (by decide)
  refine ⟨rfl, ⟨⟨⟨F, v, hL.disk, h2, h3.upd hL.upd hbF, h4.upd hL.upd (fun q hq e => (h5 q hq).2 e), h5, fun q hq => ?_⟩, hS.new, hS.upd.then hL.upd fun q hq => .inr (h2 q hq)⟩, fun q hq => hL.upd.block q (h6 q hq).1 (h6 q hq).2.2.1, hsz⟩, fun q t cs hB t1 t2 => hB.upd hL.upd (h1.not_mem hB t1 t2)⟩
  obtain ⟨a0, a1, a2, a3⟩ := h6 q hq
  exact ⟨by omega, a1, a2, a3⟩
theorem addG_fits {d : Dk} {g : Lg} (h : g.fits) (s : ByteArray) : (addG d g s).2.1.fits := by
  obtain ⟨f1, f2, f3, f4, f5, f6, f7⟩ := h
  have hp := partsOf_pos s.size
  unfold addG
  split
  · exact ⟨f1, f2, f3, f4, f5, f6, f7⟩
  · split
    · exact ⟨f1, f2, f3, f4, f5, f6, f7⟩
    · split
      · exact ⟨f1, f2, f3, f4, f5, f6, f7⟩
      · split
        · exact ⟨f1, f2, f3, f4, f5, f6, f7⟩
        · split
          · exact ⟨f1, f2, f3, f4, f5, f6, f7⟩
          · refine ⟨by show g.used + partsOf s.size ≤ g.sectors; omega, f2, f3, by show (g.l ++ [s]).length ≤ g.used + _; rw [List.length_append, List.length_singleton]; omega, by show g.salt + 1 < _; omega, by show g.salt + 1 < _; omega, f7⟩
theorem addG_pend {d : Dk} (g : Lg) (s : ByteArray) (hw : d.waits.length = d.lasts.length) : (addG d g s).1.pend ≤ d.pend + 34 ∧ (addG d g s).1.lasts.length = d.lasts.length := by
  have key : ∀ D : Dk, D.sync.1.pend ≤ D.pend ∧ D.sync.1.lasts.length = D.lasts.length := by
    intro D
    unfold Dk.sync
    split
    · exact ⟨Nat.le_refl _, rfl⟩
    · split
      · refine ⟨?_, by simp [Dk.flush, Dk.burn_lasts]⟩
        rw [Dk.flush_pend]
        omega
      · exact ⟨by rw [Dk.burn_pend]; exact Nat.le_refl _, by rw [Dk.burn_lasts]⟩
  obtain ⟨s1, s2, s3⟩ := writeB_same d (g.from_ + g.used) (secsG g s.data.toList) hw (partsOf s.data.toList.length)
  have hl : s.data.toList.length = s.size := by simp
  unfold addG
  split
  · exact ⟨by show d.pend ≤ _; omega, rfl⟩
  · split
    · exact ⟨by show d.pend ≤ _; omega, rfl⟩
    · rename_i hlong
      have hp : partsOf s.data.toList.length ≤ 33 := by rw [hl]; unfold partsOf; omega
      split
      · exact ⟨by show d.pend ≤ _; omega, rfl⟩
      · unfold wroteG
        split
        · exact ⟨by simp only; omega, by simp only; rw [s1]⟩
        · have := key (writeB d (g.from_ + g.used) (secsG g s.data.toList) (partsOf s.data.toList.length)).1
          rw [s1] at this
          split
          · exact ⟨by simp only; omega, this.2⟩
          · exact ⟨by simp only; omega, this.2⟩
/-- The document's Add. -/
theorem radd_lp {w : World} {vl vw vg : Value} {r : Rd} (h : RdAt w vl vw r) (hf : r.fits) (hg : g.fits) (hO : Own w 9 1 vg g.l.length (strs g.l)) (hp : r.ws.length + 40 ≤ 1000000) (s : ByteArray) :
    Calls Tryz.prog 44 #[.agg (g.rowR vg), .agg #[vl, vw, .int .i64 r.fuse, .bool r.off], .string s] w fun e w' =>
      ∃ vl' vw' vg', e = .returned (.tuple #[.agg ((addR r g s).2.1.rowR vg'), .agg #[vl', vw', .int .i64 (addR r g s).1.fuse, .bool (addR r g s).1.off], .int .i64 (addR r g s).2.2]) ∧ RdLeft w w' vl vw vl' vw' (addR r g s).1 ∧ AddV w w' vg vg' (addR r g s).2.1.l := by
  obtain ⟨f_, se, ep, l, us, la, sa, br⟩ := g
  obtain ⟨f1, f2, f3, f4, f5, f6, f7⟩ := hg
  simp only at f1 f2 f3 f4 f5 f6 f7 hO
  have same : ∀ (c : Int), addR r ⟨f_, se, ep, l, us, la, sa, br⟩ s = (r, ⟨f_, se, ep, l, us, la, sa, br⟩, c) → Calls Tryz.prog 44 #[.agg (Lg.rowR ⟨f_, se, ep, l, us, la, sa, br⟩ vg), .agg #[vl, vw, .int .i64 r.fuse, .bool r.off], .string s] w (fun e w' => e = .returned (.tuple #[.agg (Lg.rowR ⟨f_, se, ep, l, us, la, sa, br⟩ vg), .agg #[vl, vw, .int .i64 r.fuse, .bool r.off], .int .i64 c]) ∧ RdLeft w w' vl vw vl vw r) →
      Calls Tryz.prog 44 #[.agg (Lg.rowR ⟨f_, se, ep, l, us, la, sa, br⟩ vg), .agg #[vl, vw, .int .i64 r.fuse, .bool r.off], .string s] w fun e w' =>
      ∃ vl' vw' vg', e = .returned (.tuple #[.agg ((addR r ⟨f_, se, ep, l, us, la, sa, br⟩ s).2.1.rowR vg'), .agg #[vl', vw', .int .i64 (addR r ⟨f_, se, ep, l, us, la, sa, br⟩ s).1.fuse, .bool (addR r ⟨f_, se, ep, l, us, la, sa, br⟩ s).1.off], .int .i64 (addR r ⟨f_, se, ep, l, us, la, sa, br⟩ s).2.2]) ∧ RdLeft w w' vl vw vl' vw' (addR r ⟨f_, se, ep, l, us, la, sa, br⟩ s).1 ∧ AddV w w' vg vg' (addR r ⟨f_, se, ep, l, us, la, sa, br⟩ s).2.1.l := by
    intro c hc hcall
    rw [hc]
    exact hcall.mono fun e w' ⟨h1, h2⟩ => ⟨vl, vw, vg, h1, h2, ⟨hO.upd h2.upd (fun _ _ e => e), fun q hq => .inl hq⟩⟩
  cases br
  · by_cases h4 : 1024 < s.size
    · refine same 3 ?_ (refAdd_long h f_ se ep l us la sa vg hO s h4)
      unfold addR
      rw [if_neg (by simp), if_pos h4]
    · by_cases h5 : se - us < partsOf s.size
      · refine same 6 ?_ (refAdd_room h f_ se ep l us la sa vg hO s (by omega) f1 (by omega) h5)
        unfold addR
        rw [if_neg (by simp), if_neg h4, if_pos (.inl h5)]
      · by_cases h6 : sa = 18446744073709551615
        · refine same 6 ?_ (refAdd_salt h f_ se ep l us la sa vg hO s (by omega) f1 (by omega) h5 h6)
          unfold addR
          rw [if_neg (by simp), if_neg h4, if_pos (.inr h6)]
        · exact refAdd_goes h hf f_ se ep l us la sa vg hO s (by omega) f4 f1 (by omega) h5 (by omega) (by omega) hp
  · refine same 11 ?_ (refAdd_broken h f_ se ep l us la sa vg hO s)
    unfold addR
    rw [if_pos rfl]
end
end Go.Proofs.YtpfbgmfkeofefaaGreat
