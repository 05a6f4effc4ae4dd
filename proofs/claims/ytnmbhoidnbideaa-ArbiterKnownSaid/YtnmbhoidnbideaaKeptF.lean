/-
  A record that is opened.
-/
import Derived.Test.YtnmbhoidnbideaaKeptE
namespace Go.Proofs.Ytnmbhoidnbideaa
open Go Go.RowKit

theorem readL_ok (b : List UInt8) : (readL b).1.text.length ≤ 48 ∧ (readL b).1.all < 256 ∧ (readL b).1.gen < 18446744073709551616 := by
  have h8 : leN (b.take 8) < 18446744073709551616 := by
    have h := leN_lt (b.take 8)
    have hl : (b.take 8).length ≤ 8 := by simp; omega
    have : 2 ^ (8 * (b.take 8).length) ≤ 2 ^ 64 := Nat.pow_le_pow_right (by omega) (by omega)
    have e : (2 : Nat) ^ 64 = 18446744073709551616 := by decide
    omega
  have h9 := (b.getD 9 0).toNat_lt
  unfold readL
  split
  · exact ⟨by simp, h9, h8⟩
  · refine ⟨?_, h9, h8⟩
    rw [List.length_take]
    omega
theorem slotAt_ok (d : Dk) (a seen k : Nat) (hs : seen < 18446744073709551616) :
    (∀ p ∈ (slotAt d a seen k).l, p.text.length ≤ 48 ∧ p.all < 256 ∧ p.gen < 18446744073709551616) ∧ (slotAt d a seen k).seen < 18446744073709551616 := by
  induction k with
  | zero => exact ⟨by simp [slotAt], hs⟩
  | succ k ih =>
    rw [slotAt_succ, slotStep]
    have hr := readL_ok (lookL (d.now (a + k)).data.toList).1
    split
    · exact ih
    · split
      · exact ih
      · split
        · refine ⟨fun p hp => ?_, ?_⟩
          · simp only at hp
            split at hp
            · rcases List.mem_append.1 hp with h | h
              · exact ih.1 p h
              · simp at h
                subst h
                exact hr
            · exact ih.1 p hp
          · simp only
            omega
        · exact ih

/-- One slot more, read by Open. -/
def openStep (d : Dk) (n : Nat) (k : Kp) : Option Kp :=
  if (slotAt d (k.from_ + n * 10) k.seen 10).bad then none else
  some (if k.gen < (holdL (slotAt d (k.from_ + n * 10) k.seen 10).l).2
    then { k with seen := (slotAt d (k.from_ + n * 10) k.seen 10).seen, text := (holdL (slotAt d (k.from_ + n * 10) k.seen 10).l).1, gen := (holdL (slotAt d (k.from_ + n * 10) k.seen 10).l).2, at_ := n }
    else { k with seen := (slotAt d (k.from_ + n * 10) k.seen 10).seen })
def openK (d : Dk) (from_ : Nat) : Option Kp := (openStep d 0 ⟨from_, [], 0, 1, 0, false⟩).bind (openStep d 1)
/-- The first n slots. -/
def openN (d : Dk) (from_ : Nat) : Nat → Option Kp
  | 0 => some ⟨from_, [], 0, 1, 0, false⟩
  | n + 1 => (openN d from_ n).bind (openStep d n)
theorem openStep_from {d : Dk} {n : Nat} {k k' : Kp} (h : openStep d n k = some k') : k'.from_ = k.from_ ∧ k'.broken = k.broken := by
  unfold openStep at h
  split at h
  · simp at h
  · have h := Option.some.inj h
    rw [← h]
    split <;> exact ⟨rfl, rfl⟩
theorem openN_from {d : Dk} {f : Nat} {n : Nat} {k : Kp} (h : openN d f n = some k) : k.from_ = f ∧ k.broken = false := by
  induction n generalizing k with
  | zero => rw [openN] at h; have h := Option.some.inj h; rw [← h]; exact ⟨rfl, rfl⟩
  | succ n ih =>
    rw [openN] at h
    cases hk : openN d f n with
    | none => rw [hk] at h; simp at h
    | some k0 =>
      rw [hk] at h
      have h1 := openStep_from (show openStep d n k0 = some k from h)
      have h2 := ih hk
      exact ⟨h1.1.trans h2.1, h1.2.trans h2.2⟩

/-- What Open leaves. -/
structure OpenLeft (w w' : World) (p : Nat) (o : Option Kp) (v : Value) : Prop where
  upd : Upd (fun _ => False) w w'
  bad : o = none → v = .pointer none
  ok : ∀ k, o = some k → ∃ b, v = .pointer (some ⟨b, 0, none⟩) ∧ Blk w' b 74 (k.cells p) ∧ w.heap.size ≤ b
def openErr (o : Option Kp) : Int := if o.isSome then 0 else 9

set_option maxRecDepth 100000 in
set_option maxHeartbeats 800000 in
theorem Open_bad {w : World} {p : Nat} {d : Dk} {F : List Nat} (hD : DiskAt w p d F) (f : Int) (hf : f < 0 ∨ (d.lasts.length : Int) - 20 < f) :
    Calls Try.prog 16 #[.pointer (some ⟨p, 0, none⟩), .int .i64 f] w fun e w' => e = .returned (.tuple #[.pointer none, .int .i64 1]) ∧ w = w' := by
  have hm := hD.wf.most
  have hp := hD.wf.pos
  have hne : ((d.lasts.length : Int) == 0) = false := by rw [beq_eq_false_iff_ne]; omega
  have HS := Lib.hid (sectors_c hD)
  clear hD
  by_cases h0 : f < 0
  · go_enter Try.func16, Try.ntmps16
    go_wp2_with (go_at_call 29; refine HS.out.mono ?_; rintro e w' ⟨rfl, rfl⟩)
    go_ret2
    exact ⟨rfl, rfl⟩
  · have h1 : (d.lasts.length : Int) - 20 < f := by omega
    go_enter Try.func16, Try.ntmps16
    go_wp2_with (go_at_call 29; refine HS.out.mono ?_; rintro e w' ⟨rfl, rfl⟩)
    go_ret2
    exact ⟨rfl, rfl⟩

theorem held_len (d : Dk) (a seen : Nat) (hs : seen < 18446744073709551616) : (∀ q ∈ (slotAt d a seen 10).l, q.text.length ≤ 48) ∧ (∀ q ∈ (slotAt d a seen 10).l, q.all < 256) ∧ (slotAt d a seen 10).l.length ≤ 1000 :=
  ⟨fun q hq => ((slotAt_ok d a seen 10 hs).1 q hq).1, fun q hq => ((slotAt_ok d a seen 10 hs).1 q hq).2.1, by have := slotAt_len d a seen 10; omega⟩

theorem openN_none {d : Dk} {f n m : Nat} (h : openN d f n = none) (hm : n ≤ m) : openN d f m = none := by
  induction m with
  | zero => obtain rfl : n = 0 := by omega
            exact h
  | succ m ih =>
    by_cases e : n = m + 1
    · rw [← e]; exact h
    · rw [openN, ih (by omega)]; rfl

/-- What Open has behind some slots. -/
structure Opening (w wr : World) (p b : Nat) (k : Kp) (f : Nat) : Prop where
  upd : Upd (fun _ => False) w wr
  kept : Blk wr b 74 (k.cells p)
  new : w.heap.size ≤ b
  from_ : k.from_ = f
  seen : k.seen < 18446744073709551616
  at_ : k.at_ ≤ 1

set_option maxRecDepth 100000 in
set_option maxHeartbeats 800000 in
theorem Open_on {w : World} {p : Nat} {d : Dk} {F : List Nat} (hD : DiskAt w p d F) (f : Nat) (hf : f + 20 ≤ d.lasts.length) (hoff : d.off = false) :
    Calls Try.prog 16 #[.pointer (some ⟨p, 0, none⟩), .int .i64 f] w fun e w' => ∃ v, e = .returned (.tuple #[v, .int .i64 (openErr (openN d f 2))]) ∧ OpenLeft w w' p (openN d f 2) v := by
  have hm := hD.wf.most
  have hne : ((d.lasts.length : Int) == 0) = false := by rw [beq_eq_false_iff_ne]; omega
  have hf0 : ¬ (f : Int) < 0 := by omega
  have hf1 : ¬ (d.lasts.length : Int) - 20 < (f : Int) := by omega
  have HS := Lib.hid (sectors_c hD)
  have HD := Lib.hid (And.intro hD (And.intro hf hoff))
  clear hD hoff
  go_enter Try.func16, Try.ntmps16
  go_wp2_with (go_at_call 29; refine HS.out.mono ?_; rintro e w' ⟨rfl, rfl⟩)
  go_loopw [29] (fun i wr => ∃ (n : Nat) (k : Kp), n ≤ 2 ∧ i = .int .i64 n ∧ openN d f n = some k ∧ Opening w wr p w.heap.size k f) (fun i _ => 2 - (intOf i).toNat)
  case atStart =>
    refine ⟨0, ⟨f, [], 0, 1, 0, false⟩, by omega, rfl, rfl, ?_⟩
    exact ⟨(Upd.refl _ w).alloc _, Blk.new w _ _, Nat.le_refl _, rfl, by show 0 < _; omega, by show 1 ≤ 1; omega⟩
  case round =>
    obtain ⟨n, k, hn, rfl, hk, hO⟩ := hrel
    by_cases hlt : n < 2
    · have hD2 : DiskAt wr p d F := HD.out.1.upd hO.upd fun _ _ e => e
      have hSl := slotOf_on hD2 hO.kept n (by omega) (by rw [hO.from_]; exact HD.out.2.1) HD.out.2.2
      have hst : openN d f (n + 1) = openStep d n k := by rw [openN, hk]; rfl
      have hhl := held_len d (k.from_ + n * 10) k.seen hO.seen
      have hok := (slotAt_ok d (k.from_ + n * 10) k.seen 10 hO.seen).2
      unfold openStep at hst
      have HSl := Lib.hid hSl
      have HO := Lib.hid (And.intro hO (And.intro hk (And.intro hst (And.intro hhl hok))))
      clear hO hk hD2 hSl hst hhl hok
      generalize slotAt d (k.from_ + n * 10) k.seen 10 = st at *
      cases hb : st.bad
      · have he : slotErr st = 0 := by rw [slotErr, hb]; rfl
        rw [he] at HSl
        go_wp2_with (first
          | (go_at_call 30
             refine HSl.out.mono ?_
             rintro e w1 ⟨v1, rfl, hE1⟩
             obtain ⟨vl, hvl, hL1⟩ := hE1.ex
             obtain rfl : v1 = vl := hvl hb
             have HL1 := Lib.hid hL1
             clear hL1 hE1)
          | (go_at_call 31
             refine (hold_c v1 st.l _ HL1.out.list HO.out.2.2.2.1.2.2 HO.out.2.2.2.1.1 HO.out.2.2.2.1.2.1).mono ?_
             rintro e w2 ⟨rfl, hb2⟩
             have HL2 := Lib.hid (HL1.out.below hb2)
             clear hb2)
          | (refine wpList_store_all rfl 72 _ _ rfl w2.heap.size #[.string (str (holdL st.l).1), .int .u64 ((holdL st.l).2 : Int)] rfl rfl _ _ (Blk.new w2 72 #[.string ⟨#[]⟩, .int .u64 0]) rfl (held_one _ _) (by kernel_rfl) ?_
             intro w4 hB4 hU4 hs4
             have hb4 : Below w2.heap.size w2 w4 := ⟨hU4.os, hU4.tape, hU4.output, by simp at hs4; omega, fun q hq => (hU4.block q (by simp; omega) (by omega)).trans (Below.heap_alloc w2 _ q hq)⟩
             have HL4 := Lib.hid (And.intro (HL2.out.below hb4) hB4)
             have hc4 := hB4.cells2
             have hk4 := HL4.out.1.kept.cells7
             clear hB4 hU4 hs4 hb4))
        go_region
        all_goals
          have hL5 := HL4.out.1.drew
          have hk5 := hL5.kept.cells7
          have hf2 := hL5.kept.frozen 2
          have hf3 := hL5.kept.frozen 3
          have hf4 := hL5.kept.frozen 4
          have hc5 := HL4.out.2.drew.cells2
          have HL5 := Lib.hid hL5
          clear hc4 hk4 hL5
          have hst := HO.out.2.2.1
          rw [hb] at hst
          simp only [Bool.false_eq_true, if_false] at hst
          generalize w4.drew = w5 at *
          by_cases hg : k.gen < (holdL st.l).2
          · have hg' : (k.gen : Int) < ((holdL st.l).2 : Int) := by omega
            rw [if_pos hg] at hst
            have HST := Lib.hid hst
            clear hst hg
            go_wp2
            go_roundw
            case rel =>
              refine ⟨n + 1, _, by omega, by go_num, HST.out, ?_⟩
              refine ⟨?_, ?_, HO.out.1.new, HO.out.1.from_, HO.out.2.2.2.2, by show n ≤ 1; omega⟩
              · exact (((HO.out.1.upd.then HL5.out.upd (fun q e => .inr (by rw [e]; exact HO.out.1.new))).setCell (p := ⟨w.heap.size, 2, none⟩) (.inr (Nat.le_refl _)) _).setCell (p := ⟨w.heap.size, 3, none⟩) (.inr (Nat.le_refl _)) _).setCell (p := ⟨w.heap.size, 4, none⟩) (.inr (Nat.le_refl _)) _
              · have h := ((HL5.out.kept.set_ 2 (.string (str (holdL st.l).1))).set_ 3 (.int .u64 ((holdL st.l).2 : Int))).set_ 4 (.int .i64 (n : Int))
                simpa [Kp.cells] using h
            case measure => simp [intOf]; omega
          · have hg' : ¬ (k.gen : Int) < ((holdL st.l).2 : Int) := by omega
            rw [if_neg hg] at hst
            have HST := Lib.hid hst
            clear hst hg
            go_wp2
            go_roundw
            case rel =>
              refine ⟨n + 1, _, by omega, by go_num, HST.out, ?_⟩
              exact ⟨HO.out.1.upd.then HL5.out.upd (fun q e => .inr (by rw [e]; exact HO.out.1.new)), HL5.out.kept, HO.out.1.new, HO.out.1.from_, HO.out.2.2.2.2, HO.out.1.at_⟩
            case measure => simp [intOf]; omega
      · have he : slotErr st = 9 := by rw [slotErr, hb]; rfl
        rw [he] at HSl
        have hst := HO.out.2.2.1
        rw [hb] at hst
        simp only [if_true] at hst
        have HN := Lib.hid (openN_none hst (by omega : n + 1 ≤ 2))
        clear hst
        go_wp2_with (go_at_call 30; refine HSl.out.mono ?_; rintro e w1 ⟨v1, rfl, hE1⟩; have HE := Lib.hid hE1; clear hE1)
        go_ret2
        rw [HN.out]
        refine ⟨_, rfl, ?_⟩
        obtain ⟨vl, _, hL⟩ := HE.out.ex
        exact ⟨HO.out.1.upd.then hL.upd (fun q e => .inr (by rw [e]; exact HO.out.1.new)), fun _ => rfl, by simp⟩
    · obtain rfl : n = 2 := by omega
      have HO := Lib.hid (And.intro hk hO)
      clear hk hO
      go_wp2
      go_ret2
      rw [HO.out.1]
      refine ⟨_, rfl, HO.out.2.upd, by simp, fun k' e => ?_⟩
      obtain rfl := Option.some.inj e
      exact ⟨_, rfl, HO.out.2.kept, HO.out.2.new⟩
end Go.Proofs.Ytnmbhoidnbideaa
