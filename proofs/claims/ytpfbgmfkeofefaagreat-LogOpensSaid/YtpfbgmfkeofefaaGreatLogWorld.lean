/-
  What a law knows of a disk and of a log on it.
-/
import Derived.Test.YtpfbgmfkeofefaaGreatLogLaw
import Derived.Test.YtpfbgmfkeofefaaGreatRep
import Derived.Test.YtpfbgmfkeofefaaGreatLawB
import Derived.Outline
namespace Go.Proofs.YtpfbgmfkeofefaaGreat
open Go Go.RowKit

/-- A log on a disk, both made behind the world w0; the blocks of X are none of theirs. -/
structure LgS (w0 w : World) (p b : Nat) (d : Dk) (g : Lg) (X : Nat → Prop) : Prop where
  ex : ∃ F v, DiskAt w p d F ∧ (∀ q ∈ F, w0.heap.size ≤ q) ∧ Blk w b 98 (g.cells p v) ∧ Own w 9 1 v g.l.length (strs g.l) ∧ (∀ q, v.ownBlock = some q → w0.heap.size ≤ q ∧ q ∉ F) ∧
    ∀ q, X q → q < w.heap.size ∧ q ≠ b ∧ q ∉ F ∧ v.ownBlock ≠ some q
  new : w0.heap.size ≤ b
  upd : Upd (fun _ => False) w0 w
section
variable {w0 w w' : World} {p b : Nat} {d : Dk} {g : Lg} {X Y : Nat → Prop}
theorem LgS.disk (h : LgS w0 w p b d g X) : DkS w0 w p d := by
  obtain ⟨F, v, h1, h2, -⟩ := h.ex
  exact ⟨⟨F, h1, h2⟩, h.upd⟩
theorem LgS.log (h : LgS w0 w p b d g X) : LogAt w p b g := by
  obtain ⟨F, v, h1, h2, h3, h4, -⟩ := h.ex
  exact ⟨v, h3, h4⟩
theorem LgS.still (h : LgS w0 w p b d g X) (hu : Upd (fun _ => False) w w') : LgS w0 w' p b d g X := by
  obtain ⟨F, v, h1, h2, h3, h4, h5, h6⟩ := h.ex
  exact ⟨⟨F, v, h1.upd hu (fun _ _ e => e), h2, h3.upd hu (fun e => e), h4.upd hu (fun _ _ e => e), h5, fun q hq => ⟨Nat.lt_of_lt_of_le (h6 q hq).1 hu.size, (h6 q hq).2⟩⟩, h.new, h.upd.then hu (fun _ e => e.elim)⟩
theorem LgS.less (h : LgS w0 w p b d g X) (hXY : ∀ q, Y q → X q) : LgS w0 w p b d g Y := by
  obtain ⟨F, v, h1, h2, h3, h4, h5, h6⟩ := h.ex
  exact ⟨⟨F, v, h1, h2, h3, h4, h5, fun q hq => h6 q (hXY q hq)⟩, h.new, h.upd⟩
/-- Blocks of Z are turned, or new ones made: these are apart too. -/
theorem LgS.turn {Z : Nat → Prop} (h : LgS w0 w p b d g X) (hZX : ∀ q, Z q → X q) (hZ : ∀ q, Z q → w0.heap.size ≤ q) (hu : Upd Z w w') (hY : ∀ q, Y q → X q ∨ (w.heap.size ≤ q ∧ q < w'.heap.size)) : LgS w0 w' p b d g Y := by
  obtain ⟨F, v, h1, h2, h3, h4, h5, h6⟩ := h.ex
  have hF := h1.lt
  refine ⟨⟨F, v, h1.upd hu (fun q hq e => (h6 q (hZX q e)).2.2.1 hq), h2, h3.upd hu (fun e => (h6 b (hZX b e)).2.1 rfl), h4.upd hu (fun q hq e => (h6 q (hZX q e)).2.2.2 hq), h5, fun q hq => ?_⟩, h.new, h.upd.then hu (fun q e => .inr (hZ q e))⟩
  rcases hY q hq with e | ⟨e1, e2⟩
  · exact ⟨Nat.lt_of_lt_of_le (h6 q e).1 hu.size, (h6 q e).2⟩
  · refine ⟨e2, fun e => ?_, fun e => ?_, fun e => ?_⟩
    · have := h3.lt; omega
    · have := hF q e; omega
    · have := h4.lt e; omega
end
theorem openG_l {w0 w : World} {p : Nat} {d : Dk} {g : Lg} {rs : List (List UInt8 × Nat)} {R : List (Option Lp)} (hD : DkS w0 w p d) (h : LogIs d g rs R) (f n e : Int) (hf : f = (g.from_ : Int)) (hn : n = (g.sectors : Int)) (he : e = (g.epoch : Int)) :
    Calls Tryz.prog 33 #[.pointer (some ⟨p, 0, none⟩), .int .i64 f, .int .i64 n, .int .u64 e] w fun en w' => ∃ b, en = .returned (.tuple #[.pointer (some ⟨b, 0, none⟩), .int .i64 0]) ∧ LgS w0 w' p b d g (fun q => q < w.heap.size ∧ ∀ F, DiskAt w p d F → q ∉ F) ∧ Upd (fun _ => False) w w' ∧ w.heap.size ≤ b := by
  subst hf hn he
  obtain ⟨F, h1, h2⟩ := hD.ex
  refine (openG_on h1 g.from_ g.sectors g.epoch h.pos h.room h.epoch0 h.epoch h.off).mono ?_
  rintro en w' ⟨v, rfl, hO⟩
  rw [h.opens] at hO ⊢
  obtain ⟨b, v1, rfl, hB, hOwn, hb, hv⟩ := hO.ok g rfl
  refine ⟨b, rfl, ⟨⟨F, v1, h1.upd hO.upd (fun _ _ e => e), h2, hB, hOwn, fun q hq => ⟨Nat.le_trans hD.upd.size (hv q hq), fun e => ?_⟩, fun q hq => ⟨Nat.lt_of_lt_of_le hq.1 hO.upd.size, fun e => ?_, hq.2 F h1, fun e => ?_⟩⟩, Nat.le_trans hD.upd.size hb, hD.upd.then hO.upd (fun _ e => e.elim)⟩, hO.upd, hb⟩
  · have := h1.lt q e; have := hv q hq; omega
  · have := hq.1; omega
  · have := hq.1; have := hv q e; omega
/-- What Add tells of a log that stands. -/
theorem add_not {d : Dk} {g : Lg} {rs : List (List UInt8 × Nat)} {R : List (Option Lp)} (h : LogIs d g rs R) (s : ByteArray) (hsalt : g.salt < 18446744073709551615) (hc : ¬ (s.size ≤ 1024 ∧ partsOf s.size ≤ R.length)) :
    addG d g s = (d, g, if 1024 < s.size then 3 else 6) := by
  have hu := h.used_le
  unfold addG
  rw [h.broken, if_neg (by simp)]
  by_cases h10 : 1024 < s.size
  · rw [if_pos h10, if_pos h10]
  · rw [if_neg h10, if_pos (by omega), if_neg h10]
section
variable {w0 w w' : World} {p b : Nat} {d : Dk} {g : Lg} {X : Nat → Prop} {rs : List (List UInt8 × Nat)} {R : List (Option Lp)}
theorem roomG_l (hS : LgS w0 w p b d g X) (h : LogIs d g rs R) :
    Calls Tryz.prog 37 #[.pointer (some ⟨b, 0, none⟩)] w fun e w' => e = .returned (.int .i64 (R.length : Int)) ∧ Upd (fun _ => False) w w' := by
  have hm := hS.disk.wf.most
  have hr := h.room
  have hu := h.used_le
  refine (room_c hS.log (by omega) (by omega)).mono ?_
  rintro e w' ⟨rfl, rfl⟩
  rw [show g.sectors - g.used = R.length by omega]
  exact ⟨rfl, (Upd.refl _ _).drew⟩
theorem recordsG_l (hS : LgS w0 w p b d g X) (h : LogIs d g rs R) :
    Calls Tryz.prog 36 #[.pointer (some ⟨b, 0, none⟩)] w fun e w' => ∃ v', e = .returned v' ∧ Own w' 9 1 v' g.l.length (strs g.l) ∧ Upd (fun _ => False) w w' ∧ (∀ q, v'.ownBlock = some q → w.heap.size ≤ q) := by
  have hm := hS.disk.wf.most
  have hr := h.room
  have hu := h.used_le
  have hl := h.recs_le
  exact records_c hS.log (by omega)
/-- What Add leaves of a log. -/
structure AddS (w0 w w' : World) (p b : Nat) (d : Dk) (g : Lg) (X : Nat → Prop) : Prop where
  log : LgS w0 w' p b d g X
  keep : ∀ q, X q → w'.heap[q]? = w.heap[q]?
  grow : w.heap.size ≤ w'.heap.size
theorem addG_l (hS : LgS w0 w p b d g X) (h : LogIs d g rs R) (s : ByteArray) (hsalt : g.salt < 18446744073709551615) (hp : d.pend + 40 < 1000000) :
    Calls Tryz.prog 12 #[.pointer (some ⟨b, 0, none⟩), .string s] w fun e w' => e = .returned (.int .i64 (addG d g s).2.2) ∧ AddS w0 w w' p b (addG d g s).1 (addG d g s).2.1 X := by
  obtain ⟨F, v, h1, h2, h3, h4, h5, h6⟩ := hS.ex
  have hm := hS.disk.wf.most
  have hr := h.room
  have hu := h.used_le
  have hl := h.recs_le
  have hll := h.last_le
  by_cases hc : s.size ≤ 1024 ∧ partsOf s.size ≤ g.sectors - g.used
  · refine (Add_goes h1 h3 h4 (fun q hq => (h5 q hq).2) s h.broken hc.1 hc.2 hsalt (by omega) (by omega) (by omega) (by omega) h.epoch (by omega) hp).mono ?_
    rintro e w' ⟨rfl, hL⟩
    obtain ⟨F', v', k1, k2, k3, k4, k5, k6⟩ := hL.ex
    have hX : ∀ q, X q → ¬ (q = b ∨ q ∈ F ∨ v.ownBlock = some q) := fun q hq e => by
      obtain ⟨-, a1, a2, a3⟩ := h6 q hq
      rcases e with e | e | e
      · exact a1 e
      · exact a2 e
      · exact a3 e
    have hsz := hL.upd.size
    have h0 := hS.upd.size
    refine ⟨rfl, ⟨⟨F', v', k1, fun q hq => (k2 q hq).elim (h2 q) (fun e => Nat.le_trans h0 e), k3, k4, fun q hq => ⟨(k5 q hq).elim (fun e => (h5 q e).1) (fun e => Nat.le_trans h0 e), k6 q hq⟩, fun q hq => ?_⟩, hS.new, hS.upd.then hL.upd fun q hq => .inr ?_⟩, fun q hq => hL.upd.block q (h6 q hq).1 (hX q hq), hsz⟩
    · obtain ⟨a0, a1, a2, a3⟩ := h6 q hq
      refine ⟨by omega, a1, fun e => ?_, fun e => ?_⟩
      · rcases k2 q e with e | e
        · exact a2 e
        · omega
      · rcases k5 q e with e | e
        · exact a3 e
        · omega
    · rcases hq with rfl | hq | hq
      · exact hS.new
      · exact h2 q hq
      · exact (h5 q hq).1
  · rw [add_not h s hsalt (fun e => hc ⟨e.1, by omega⟩)]
    refine (Add_refused hS.log s (by omega) (by omega) ?_).mono ?_
    · by_cases h10 : 1024 < s.size
      · exact .inr (.inl h10)
      · exact .inr (.inr (.inl (by omega)))
    · rintro e w' ⟨rfl, hU⟩
      refine ⟨?_, hS.still hU, fun q hq => hU.block q (h6 q hq).1 (fun e => e), hU.size⟩
      rw [h.broken]
      simp
end
end Go.Proofs.YtpfbgmfkeofefaaGreat

/-
  Helpers of the laws of chapter 10: same, fill, awake.
-/
namespace Go.Proofs.YtpfbgmfkeofefaaGreat
open Go Go.RowKit

theorem strs_row {w : World} {v : Value} {l : List ByteArray} (h : Row w v (strs l)) : ∃ A cap b off, v = .slice A l.length cap ∧ l.length ≤ 9223372036854775807 ∧ (0 < l.length → A = some ⟨b, off, none⟩) ∧
    ∀ w', Upd (fun _ => False) w w' → ∀ i (_ : i < l.length), w'.cell? ⟨b, off + i, none⟩ = some (.string l[i]) := by
  obtain ⟨A, cap, b, off, h1, h2, h3, h4⟩ := h.open_
  simp only [strs, List.length_map] at h1 h2 h3 h4
  exact ⟨A, cap, b, off, h1, h2, h3, fun w' hu i hi => by simpa using h4 w' hu i hi⟩
theorem Row.of_own {w : World} {v : Value} {l : List ByteArray} (h : Own w 9 1 v l.length (strs l)) (hm : l.length ≤ 5000) : Row w v (strs l) := by
  obtain ⟨A, cap, e, h1, h2⟩ := h.shape
  subst e
  by_cases h0 : 0 < l.length
  · obtain ⟨g, cap', e, h3, h4⟩ := h.head h0
    injection e with e1 e2 e3
    subst e1 e3
    refine ⟨_, cap, by rw [strs_len], by rw [strs_len]; unfold maxLen; omega, fun _ => ⟨g, 0, rfl, h.lt (by simp [Value.ownBlock]), fun i hi => ?_⟩⟩
    rw [Nat.zero_add, h.cellAt i (by simpa [strs] using hi), List.getElem?_eq_getElem hi]
  · exact ⟨A, cap, by rw [strs_len], by rw [strs_len]; unfold maxLen; omega, fun e => by rw [strs_len] at e; omega⟩
theorem Row.of_new (w : World) (vs : List Value) (t : TypeId) (hm : vs.length ≤ 5000) : Row (w.alloc (.cells vs.toArray t)) (.slice (some ⟨w.heap.size, 0, none⟩) vs.length vs.length) vs := by
  refine ⟨_, vs.length, rfl, by unfold maxLen; omega, fun _ => ⟨w.heap.size, 0, rfl, by simp, fun i hi => ?_⟩⟩
  rw [Nat.zero_add, cell_of_row (w.alloc (.cells vs.toArray t)) w.heap.size i vs.toArray t (0, 0) (heap_alloc_new w _)]
  simp [hi]
theorem Row.still {w w' : World} {v : Value} {vs : List Value} (h : Row w v vs) (hu : Upd (fun _ => False) w w') : Row w' v vs := h.upd hu
theorem Row.taken {w : World} {A : Option Addr} {n cap cap' k : Nat} {vs : List Value} (h : Row w (.slice A n cap) vs) (hk : k ≤ vs.length) : Row w (.slice A k cap') (vs.take k) := by
  obtain ⟨A', c', e, h2, h3⟩ := h.ex
  injection e with e1 e2 e3
  subst e1
  refine ⟨A, cap', by rw [List.length_take, Nat.min_eq_left hk], by rw [List.length_take]; omega, fun h0 => ?_⟩
  obtain ⟨b, off, g1, g2, g3⟩ := h3 (by rw [List.length_take] at h0; omega)
  refine ⟨b, off, g1, g2, fun i hi => ?_⟩
  rw [List.getElem_take]
  exact g3 i (by rw [List.length_take] at hi; omega)

set_option maxRecDepth 100000 in
set_option maxHeartbeats 800000 in
theorem sameG_c {v1 v2 : Value} {l1 l2 : List ByteArray} (w : World) (h1 : Row w v1 (strs l1)) (h2 : Row w v2 (strs l2)) :
    Calls Tryz.prog 35 #[v1, v2] w fun e w' => e = .returned (.bool (decide (l1 = l2))) ∧ Upd (fun _ => False) w w' := by
  obtain ⟨A1, c1, b1, o1, rfl, m1, a1, k1⟩ := strs_row h1
  obtain ⟨A2, c2, b2, o2, rfl, m2, a2, k2⟩ := strs_row h2
  have K1 := Lib.hid k1
  have K2 := Lib.hid k2
  clear h1 h2 k1 k2
  by_cases hlen : l1.length = l2.length
  · have hlen' : ((l1.length : Int) != (l2.length : Int)) = false := by rw [hlen, bne_self_eq_false]
    have HL := Lib.hid hlen
    clear hlen
    go_enter Tryz.func35, Tryz.ntmps35
    go_wp2_with fail
    go_loopw [5] (fun i wr => ∃ k : Nat, k ≤ l1.length ∧ i = .int .i64 k ∧ (∀ j, j < k → l1[j]? = l2[j]?) ∧ Upd (fun _ => False) w wr) (fun i _ => l1.length - (intOf i).toNat)
    case atStart => exact ⟨0, by omega, rfl, fun j hj => by omega, Upd.refl _ _⟩
    case round =>
      obtain ⟨k, hk, rfl, hall, hU⟩ := hrel
      have Hall := Lib.hid hall
      have HU := Lib.hid hU
      clear hall hU
      by_cases hlt : k < l1.length
      · have hlt2 : k < l2.length := by have := HL.out; omega
        have hlt2' : (k : Int) < (l2.length : Int) := by omega
        obtain rfl := a1 (by omega)
        obtain rfl := a2 (by omega)
        obtain ⟨x, hx⟩ : ∃ x, l1[k] = x := ⟨_, rfl⟩
        obtain ⟨y, hy⟩ : ∃ y, l2[k] = y := ⟨_, rfl⟩
        have x1 := K1.out wr HU.out k hlt
        have x2 := K2.out wr HU.out k hlt2
        rw [hx] at x1
        rw [hy] at x2
        have HX := Lib.hid (And.intro hx hy)
        clear hx hy
        by_cases he : x = y
        · have he' : (x.toList == y.toList) = true := by rw [he]; simp
          have HE := Lib.hid he
          clear he
          go_wp2_with fail
          go_region
          all_goals
            go_wp2_with fail
            go_roundw
            case rel =>
              refine ⟨k + 1, by omega, by go_num, fun j hj => ?_, HU.out.drew⟩
              by_cases e : j = k
              · subst e
                rw [List.getElem?_eq_getElem hlt, List.getElem?_eq_getElem hlt2, HX.out.1, HX.out.2, HE.out]
              · exact Hall.out j (by omega)
            case measure => simp [intOf] <;> omega
        · have he' : (x.toList == y.toList) = false := by
            rw [beq_eq_false_iff_ne, ByteArray.toList_eq, ByteArray.toList_eq]
            intro e
            exact he (ByteArray.ext (Array.toList_inj.1 e))
          have hd : decide (l1 = l2) = false := by
            rw [decide_eq_false_iff_not]
            intro e
            subst e
            exact he (HX.out.1.symm.trans HX.out.2)
          have Hd := Lib.hid hd
          clear he hd
          go_wp2_with fail
          go_region
          all_goals
            go_wp2_with fail
            go_ret
            rw [Hd.out]
            exact ⟨rfl, HU.out.drew⟩
      · have hd : decide (l1 = l2) = true := by
          rw [decide_eq_true_eq]
          refine List.ext_getElem? fun j => ?_
          by_cases hj : j < l1.length
          · exact Hall.out j (by omega)
          · rw [List.getElem?_eq_none (by omega), List.getElem?_eq_none (by have := HL.out; omega)]
        have Hd := Lib.hid hd
        clear hd
        go_wp2_with fail
        go_ret
        rw [Hd.out]
        exact ⟨rfl, HU.out⟩
  · have hlen' : ((l1.length : Int) != (l2.length : Int)) = true := by rw [bne_iff_ne]; omega
    have hd : decide (l1 = l2) = false := by
      rw [decide_eq_false_iff_not]
      intro e
      exact hlen (by rw [e])
    rw [hd]
    clear hlen hd
    go_enter Tryz.func35, Tryz.ntmps35
    go_wp2_with fail
    go_ret
    exact ⟨rfl, Upd.refl _ _⟩

/-- What fill leaves. -/
structure FillLeft (w0 w w' : World) (p b : Nat) (d : Dk) (g : Lg) (rs : List (List UInt8 × Nat)) (X : Nat → Prop) (n : Nat) (v : Value) (d' : Dk) (g' : Lg) (new : List (List UInt8 × Nat)) (R R' : List (Option Lp)) : Prop where
  log : LgS w0 w' p b d' g' (fun q => X q ∨ v.ownBlock = some q)
  own : Own w' 9 1 v new.length (strs (new.map fun q => str q.1))
  is : LogIs d' g' (rs ++ new) R'
  none_ : new = [] → d' = d ∧ g' = g
  lasts : d'.lasts.length = d.lasts.length
  pend : d'.pend ≤ d.pend
  from_ : g'.from_ = g.from_ ∧ g'.sectors = g.sectors ∧ g'.epoch = g.epoch ∧ g'.salt ≤ g.salt + n
  keep : ∀ q, X q → w'.heap[q]? = w.heap[q]?
  fresh : ∀ q, v.ownBlock = some q → w.heap.size ≤ q
  len : new.length ≤ n
  upd : w.heap.size ≤ w'.heap.size
  rest : ∀ o, o ∈ R' → o ∈ R

end Go.Proofs.YtpfbgmfkeofefaaGreat

/-
  The wake of the laws of chapter 10.
-/
namespace Go.Proofs.YtpfbgmfkeofefaaGreat
open Go Go.RowKit

theorem rep33 : (repB 98 33).size = 33 := by decide +kernel
/-- The log of n sectors from f on, new. -/
abbrev lg0 (f n e : Nat) : Lg := ⟨f, n, e, [], 0, 0, 0, false⟩
theorem row_two (w : World) (x y : ByteArray) : Row (w.alloc (.cells #[.string x, .string y] 9)) (.slice (some ⟨w.heap.size, 0, none⟩) 2 2) (strs [x, y]) :=
  Row.of_new w (strs [x, y]) 9 (by simp [strs])
theorem lgrow_one (w : World) (x : ByteArray) : Row (w.alloc (.cells #[.string x] 9)) (.slice (some ⟨w.heap.size, 0, none⟩) 1 1) (strs [x]) :=
  Row.of_new w (strs [x]) 9 (by simp [strs])
/-- Add, of what fits. -/
theorem addG_ok {w0 w : World} {p b : Nat} {d : Dk} {g : Lg} {X : Nat → Prop} {rs : List (List UInt8 × Nat)} {R : List (Option Lp)} (hS : LgS w0 w p b d g X) (h : LogIs d g rs R) (s : ByteArray) (hs : s.size ≤ 1024) (hr : partsOf s.size ≤ R.length) (hsalt : g.salt ≤ 1000000) (hp : d.pend ≤ 1000) :
    Calls Tryz.prog 12 #[.pointer (some ⟨b, 0, none⟩), .string s] w fun e w' => e = .returned (.int .i64 0) ∧ AddS w0 w w' p b (addD d g s) (g.added s) X := by
  refine (addG_l hS h s (by omega) (by omega)).mono ?_
  rintro e w' ⟨rfl, hA⟩
  obtain ⟨q1, -⟩ := add_is h s hs hr (by omega)
  rw [q1] at hA ⊢
  exact ⟨rfl, hA⟩

set_option maxRecDepth 100000 in
set_option maxHeartbeats 1600000 in
theorem awake_10 (w : World) : Calls Tryz.prog 7 #[] w fun e w' => e = .returned (.bool true) ∧ Upd (fun _ => False) w w' := by
  have HN := Lib.hid (new_s 8 w (by omega) (by omega))
  have h33 := rep33
  have k0 := fresh_log 8 1 4 1 (by omega) (by omega) (by omega) (by omega)
  obtain ⟨-, k1, l1, p1, -⟩ := add_is k0 ⟨#[97]⟩ (by decide) (by decide) (by decide)
  obtain ⟨-, k2, l2, p2, -⟩ := add_is k1 (repB 98 33) (by rw [h33]; omega) (by rw [h33]; decide) (by decide)
  have K0 := Lib.hid k0
  have K1 := Lib.hid (And.intro k1 p1)
  have K2 := Lib.hid (And.intro k2 p2)
  clear k0 k1 k2 l1 l2 p1 p2
  go_enter Tryz.func7, Tryz.ntmps7
  go_wp2_with fail
  refine HN.out.mono ?_
  rintro e w1 ⟨p, rfl, hD⟩
  have H1 := Lib.hid hD
  clear hD HN
  go_wp2_with fail
  refine (openG_l H1.out K0.out 1 4 1 rfl rfl rfl).mono ?_
  rintro e w2 ⟨b, rfl, hS, -, -⟩
  have H2 := Lib.hid hS
  clear hS H1
  go_wp2_with fail
  refine (addG_ok H2.out K0.out ⟨#[97]⟩ (by decide) (by decide) (by decide) (by decide)).mono ?_
  rintro e w3 ⟨rfl, hS⟩
  have H3 := Lib.hid hS.log
  clear hS H2
  go_wp2_with fail
  refine (rep_c 98 33 _ (by omega)).mono ?_
  rintro e w4 ⟨rfl, hU⟩
  have H4 := Lib.hid (H3.out.still hU)
  clear hU H3
  go_wp2_with fail
  refine (addG_ok H4.out K1.out.1 (repB 98 33) (by rw [h33]; omega) (by rw [h33]; decide) (by decide) (by rw [K1.out.2]; omega)).mono ?_
  rintro e w5 ⟨rfl, hS⟩
  have H5 := Lib.hid hS.log.disk
  clear hS H4
  go_wp2_with fail
  refine (openG_l H5.out K2.out.1 1 4 1 rfl rfl rfl).mono ?_
  rintro e w6 ⟨b', rfl, hS, -, -⟩
  have H6 := Lib.hid hS
  clear hS H5
  go_wp2_with fail
  refine (recordsG_l H6.out K2.out.1).mono ?_
  rintro e w7 ⟨v, rfl, hO, hU, hv⟩
  have hrow := Row.of_own hO (by decide)
  have H7 := Lib.hid (And.intro (H6.out.still hU) hrow)
  clear hO hU hv hrow H6
  go_wp2_with fail
  refine (rep_c 98 33 _ (by omega)).mono ?_
  rintro e w8 ⟨rfl, hU⟩
  have H8 := Lib.hid (And.intro (H7.out.1.still hU) (H7.out.2.still hU))
  clear hU H7
  go_wp2_with fail
  refine (sameG_c _ (H8.out.2.still ((Upd.refl _ _).alloc _)) (row_two w8 ⟨#[97]⟩ (repB 98 33))).mono ?_
  rintro e w9 ⟨rfl, hU⟩
  have H9 := Lib.hid (H8.out.1.still (((Upd.refl _ _).alloc _).then hU (fun _ e => e.elim)))
  clear hU H8
  go_wp2_with fail
  refine (roomG_l H9.out K2.out.1).mono ?_
  rintro e w10 ⟨rfl, hU⟩
  have H10 := Lib.hid (H9.out.still hU)
  clear hU H9
  go_wp2
  go_ret
  exact ⟨rfl, H10.out.upd⟩
end Go.Proofs.YtpfbgmfkeofefaaGreat
