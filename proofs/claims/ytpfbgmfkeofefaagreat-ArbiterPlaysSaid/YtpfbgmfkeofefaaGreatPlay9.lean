/-
  A record beside the document's: what a law of chapter 09 keeps of both.
-/
import Derived.Test.YtpfbgmfkeofefaaGreatRef9
import Derived.Test.YtpfbgmfkeofefaaGreatKeptX
namespace Go.Proofs.YtpfbgmfkeofefaaGreat
open Go Go.RowKit

/-- What Open tells, whatever the place and the power. -/
def openP (d : Dk) (f : Int) : Option Kp × Int :=
  if f < 0 ∨ (d.lasts.length : Int) - 20 < f then (none, 1) else if d.off then (none, 14) else (openN d f.toNat 2, openErr (openN d f.toNat 2))
theorem openP_err (d : Dk) (f : Int) : ((openP d f).2 = 0 ∧ ∃ k, (openP d f).1 = some k) ∨ ((openP d f).2 ≠ 0 ∧ (openP d f).1 = none) := by
  unfold openP
  split
  · exact .inr ⟨by simp, rfl⟩
  · split
    · exact .inr ⟨by simp, rfl⟩
    · simp only
      unfold openErr
      cases openN d f.toNat 2 with
      | none => exact .inr ⟨by simp, rfl⟩
      | some k => exact .inl ⟨by simp, k, rfl⟩
/-- A record whose numbers are bounded. -/
structure Kp.fits (k : Kp) : Prop where
  at_ : k.at_ ≤ 1
  from_ : k.from_ ≤ 4096
  seen : k.seen < 18446744073709551616
  broken : k.gen = 0 → k.text = []
theorem seeS_lt (L : List (List UInt8)) (m : Nat) (hm : m < 18446744073709551616) : L.foldl seeS m < 18446744073709551616 := by
  induction L generalizing m with
  | nil => exact hm
  | cons s L ih =>
    rw [List.foldl_cons]
    apply ih
    unfold seeS
    split
    · have h1 := leN_lt ((lookL s).1.take 8)
      have h2 : 2 ^ (8 * ((lookL s).1.take 8).length) ≤ 2 ^ 64 := Nat.pow_le_pow_right (by omega) (by rw [List.length_take]; omega)
      omega
    · exact hm
theorem openP_fits {d : Dk} {f : Int} {k : Kp} (hd : d.lasts.length ≤ 4096) (h : (openP d f).1 = some k) : k.fits := by
  unfold openP at h
  split at h
  · cases h
  · rename_i h1
    split at h
    · cases h
    · simp only at h
      rw [open_ref] at h
      unfold openR at h
      split at h
      · cases h
      · cases h
        have hs := seeS_lt (secsL d f.toNat 20) 0 (by omega)
        have hf : f.toNat ≤ 4096 := by omega
        unfold pickR
        split
        · rename_i h2
          exact ⟨Nat.zero_le _, hf, hs, fun e => by have e' : (holdsR (List.take 10 (secsL d f.toNat 20))).2 = 0 := e; have := h2.1; omega⟩
        · split
          · rename_i h3
            exact ⟨Nat.le_refl _, hf, hs, fun e => by have e' : (holdsR (List.drop 10 (secsL d f.toNat 20))).2 = 0 := e; omega⟩
          · exact ⟨Nat.le_refl _, hf, hs, fun _ => rfl⟩
section
variable {w0 w w' : World} {p b : Nat} {d d' : Dk} {k : Kp} {X : Nat → Prop}
/-- Open, whatever the place and the power. -/
theorem open_p (hD : DkS w0 w p d) (f : Int) :
    Calls Tryz.prog 20 #[.pointer (some ⟨p, 0, none⟩), .int .i64 f] w fun e w' => ∃ v, e = .returned (.tuple #[v, .int .i64 (openP d f).2]) ∧ OpenS w0 w w' p (openP d f).1 v := by
  obtain ⟨F, h1, h2⟩ := hD.ex
  unfold openP
  split
  · rename_i hb
    refine (Open_bad h1 f hb).mono ?_
    rintro e w' ⟨rfl, rfl⟩
    exact ⟨_, rfl, Upd.refl _ _, fun _ => rfl, fun k e => by cases e⟩
  · rename_i hb
    obtain ⟨n, rfl⟩ : ∃ n : Nat, f = n := ⟨f.toNat, by omega⟩
    split
    · rename_i hoff
      refine (open_off hD n (by omega) hoff).mono ?_
      rintro e w' ⟨rfl, hU⟩
      exact ⟨_, rfl, hU, fun _ => rfl, fun k e => by cases e⟩
    · rename_i hoff
      exact open_any hD n (by omega) (by simpa using hoff)
/-- The document's Open. -/
theorem ropen_p {w : World} {vl vw : Value} {r : Rd} (h : RdAt w vl vw r) (hI : RdIs d r) (hwf : d.wf) (f : Int) :
    Calls Tryz.prog 21 #[.agg #[vl, vw, .int .i64 r.fuse, .bool r.off], .int .i64 f] w fun e w' => e = .returned (.tuple #[.agg (openKp (openP d f).1), .int .i64 (openP d f).2]) ∧ Upd (fun _ => False) w w' := by
  have hf := hI.fits hwf
  have hl : (r.lasts.length : Int) = d.lasts.length := by rw [hI.lasts]
  unfold openP
  split
  · rename_i hb
    exact refOpen_bad h hf f (by omega)
  · rename_i hb
    obtain ⟨n, rfl⟩ : ∃ n : Nat, f = n := ⟨f.toNat, by omega⟩
    split
    · rename_i hoff
      exact refOpen_off h hf hI hoff n (by omega)
    · rename_i hoff
      have := refOpen_on h hf hI hwf (by simpa using hoff) n (by omega)
      rw [← open_ref] at this
      exact this
/-- Any record is put; blocks of X are as they were. -/
theorem put_v (hD : DksX w0 w [(p, d)] X) (hK : KpS w0 w p b k) (hb : ¬ X b) (hk : k.fits) (hpe : d.pend + 20 < 1000000) (s : ByteArray) :
    Calls Tryz.prog 23 #[.pointer (some ⟨b, 0, none⟩), .string s] w fun e w' => e = .returned (.int .i64 (putK d k s.data.toList).2.2) ∧ DksX w0 w' [(p, (putK d k s.data.toList).1)] X ∧ KpS w0 w' p b (putK d k s.data.toList).2.1 ∧ BlkKept2 w w' ∧ XKept X w w' := by
  obtain ⟨G, h1, h2⟩ := hD.ex
  obtain ⟨g1, g2⟩ := h1 0 (by simp)
  simp only [List.getElem_cons_zero] at g1
  have hl : s.data.toList.length = s.size := by simp
  by_cases hc : k.broken = false ∧ s.size ≤ 400 ∧ k.seen < 18446744073709551615
  · refine (Put_goes g1 hK.blk s hc.1 hc.2.1 hc.2.2 hk.at_ hk.from_ hpe).mono ?_
    rintro e w' ⟨rfl, hL⟩
    obtain ⟨F', h3, h4⟩ := hL.disk
    refine ⟨rfl, ⟨⟨fun _ => F', fun i hi => ?_, fun i j hi hj hne => ?_⟩, fun q hq => ⟨(hD.low q hq).1, Nat.lt_of_lt_of_le (hD.low q hq).2 hL.upd.size⟩, hD.upd.then hL.upd (fun q hq => .inr (hq.elim (fun e => e ▸ hK.new) (fun e => (g2 q e).1)))⟩, ⟨hL.kept, hK.new⟩,
      fun g t cs hB t1 t2 t3 => hB.upd hL.upd (fun e => e.elim (fun e => hK.blk.ne_ hB (Ne.symm t3) e.symm) (g1.not_mem hB t1 t2)), fun q hq => hL.upd.block q (hD.low q hq).2 (fun e => e.elim (fun e => hb (e ▸ hq)) (fun e => (g2 q e).2 hq))⟩
    · obtain rfl : i = 0 := by simpa using hi
      refine ⟨h3, fun q hq => ?_⟩
      rcases h4 q hq with e | e
      · exact g2 q e
      · exact ⟨Nat.le_trans hD.upd.size e, fun c => by have := (hD.low q c).2; omega⟩
    · simp at hi hj
      omega
  · have hor : k.broken = true ∨ 400 < s.size ∨ k.seen = 18446744073709551615 := by
      have := hk.seen
      cases hb : k.broken
      · right
        apply Classical.byContradiction
        intro c
        exact hc ⟨hb, by omega, by omega⟩
      · exact .inl rfl
    have hput : putK d k s.data.toList = (d, k, if k.broken then 11 else if 400 < s.size then 3 else 6) := by
      unfold putK
      by_cases c0 : k.broken = true
      · rw [if_pos c0, if_pos c0]
      · rw [if_neg c0, if_neg c0]
        by_cases c1 : 400 < s.size
        · rw [if_pos (by omega), if_pos c1]
        · rw [if_neg (by omega), if_neg c1, if_pos (by rcases hor with h | h | h <;> first | exact absurd h c0 | omega)]
    rw [hput]
    refine (Put_refused hK.blk s hor).mono ?_
    rintro e w' ⟨rfl, rfl⟩
    exact ⟨rfl, hD, hK, fun _ _ _ hB _ _ _ => hB, fun _ _ => rfl⟩
/-- The document's Put. -/
theorem rput_p {w : World} {vl vw : Value} {r : Rd} (h : RdAt w vl vw r) (hf : r.fits) (hk : k.fits) (hp : r.ws.length + 20 ≤ 1000000) (s : ByteArray) :
    Calls Tryz.prog 22 #[.agg k.row, .agg #[vl, vw, .int .i64 r.fuse, .bool r.off], .string s] w fun e w' =>
      ∃ vl' vw', e = .returned (.tuple #[.agg (putR r k s.data.toList).2.1.row, .agg #[vl', vw', .int .i64 (putR r k s.data.toList).1.fuse, .bool (putR r k s.data.toList).1.off], .int .i64 (putR r k s.data.toList).2.2]) ∧ RdLeft w w' vl vw vl' vw' (putR r k s.data.toList).1 := by
  have hl : s.data.toList.length = s.size := by simp
  obtain ⟨f, t, g, a, se, br⟩ := k
  cases br
  · by_cases h4 : 400 < s.size
    · have e : putR r ⟨f, t, g, a, se, false⟩ s.data.toList = (r, ⟨f, t, g, a, se, false⟩, 3) := by
        unfold putR
        rw [if_neg (by simp), if_pos (by omega)]
      rw [e]
      exact (refPut_long h f t g a se s h4).mono fun _ _ ⟨h1, h2⟩ => ⟨_, _, h1, h2⟩
    · by_cases h5 : se = 18446744073709551615
      · subst h5
        have e : putR r ⟨f, t, g, a, 18446744073709551615, false⟩ s.data.toList = (r, ⟨f, t, g, a, 18446744073709551615, false⟩, 6) := by
          unfold putR
          rw [if_neg (by simp), if_neg (by omega), if_pos rfl]
        rw [e]
        exact (refPut_full h f t g a s (by omega)).mono fun _ _ ⟨h1, h2⟩ => ⟨_, _, h1, h2⟩
      · have hs := hk.seen
        simp only at hs
        exact refPut_goes h hf f t g a se s (by omega) (by omega) hk.at_ hk.from_ hp
  · have e : putR r ⟨f, t, g, a, se, true⟩ s.data.toList = (r, ⟨f, t, g, a, se, true⟩, 11) := by
      unfold putR
      rw [if_pos rfl]
    rw [e]
    exact (refPut_broken h f t g a se s).mono fun _ _ ⟨h1, h2⟩ => ⟨_, _, h1, h2⟩
theorem putK_fits {d : Dk} {k : Kp} (h : k.fits) (t : List UInt8) : (putK d k t).2.1.fits := by
  have hs := h.seen
  unfold putK
  split
  · exact h
  · split
    · exact h
    · split
      · exact h
      · split
        · exact ⟨h.at_, h.from_, h.seen, h.broken⟩
        · split
          · exact ⟨h.at_, h.from_, h.seen, h.broken⟩
          · exact ⟨by show 1 - k.at_ ≤ 1; omega, h.from_, by show k.seen + 1 < _; omega, fun e => by have : k.seen + 1 = 0 := e; omega⟩
theorem putK_pend {d : Dk} (k : Kp) (t : List UInt8) (hw : d.waits.length = d.lasts.length) : (putK d k t).1.pend ≤ d.pend + allOf t.length ∧ (putK d k t).1.lasts.length = d.lasts.length := by
  have key : ∀ D : Dk, D.sync.1.pend ≤ D.pend ∧ D.sync.1.lasts.length = D.lasts.length := by
    intro D
    unfold Dk.sync
    split
    · exact ⟨Nat.le_refl _, rfl⟩
    · split
      · refine ⟨?_, by simp [Dk.flush, Dk.burn_lasts]⟩
        rw [Dk.flush_pend]
        omega
      · exact ⟨by rw [Dk.burn_pend]; exact Nat.le_refl _, by rw [Dk.burn_lasts]⟩
  obtain ⟨s1, s2, s3⟩ := writeN_same d (k.from_ + (1 - k.at_) * 10) (cutL t (k.seen + 1)) hw (allOf t.length)
  unfold putK
  split
  · exact ⟨Nat.le_add_right _ _, rfl⟩
  · split
    · exact ⟨Nat.le_add_right _ _, rfl⟩
    · split
      · exact ⟨Nat.le_add_right _ _, rfl⟩
      · split
        · exact ⟨s3, by rw [s1]⟩
        · have := key (writeN d (k.from_ + (1 - k.at_) * 10) (cutL t (k.seen + 1)) (allOf t.length)).1
          rw [s1] at this
          split
          · exact ⟨Nat.le_trans this.1 s3, this.2⟩
          · exact ⟨Nat.le_trans this.1 s3, this.2⟩
end
end Go.Proofs.YtpfbgmfkeofefaaGreat
