/-
  Small facts that the laws of chapter 10 share.
-/
import Derived.Test.YtpfbgmfkeofefaaGreatLogWorld
import Derived.Test.YtpfbgmfkeofefaaGreatKeptX
import Derived.Test.YtpfbgmfkeofefaaGreatArgs
import Derived.Test.YtpfbgmfkeofefaaGreatFree
import Derived.Test.YtpfbgmfkeofefaaGreatLaw7
namespace Go.Proofs.YtpfbgmfkeofefaaGreat
open Go Go.RowKit

/-- Another log is opened on the disk of one. -/
theorem openG_x {w0 w : World} {p b0 : Nat} {d : Dk} {g0 g : Lg} {X : Nat → Prop} {rs : List (List UInt8 × Nat)} {R : List (Option Lp)} (hS : LgS w0 w p b0 d g0 X) (h : LogIs d g rs R) (f n e : Int) (hf : f = (g.from_ : Int)) (hn : n = (g.sectors : Int)) (he : e = (g.epoch : Int)) :
    Calls Tryz.prog 33 #[.pointer (some ⟨p, 0, none⟩), .int .i64 f, .int .i64 n, .int .u64 e] w fun en w' => ∃ b, en = .returned (.tuple #[.pointer (some ⟨b, 0, none⟩), .int .i64 0]) ∧ LgS w0 w' p b d g X ∧ Upd (fun _ => False) w w' ∧ w.heap.size ≤ b := by
  subst hf hn he
  obtain ⟨F, v, h1, h2, h3, h4, h5, h6⟩ := hS.ex
  refine (openG_on h1 g.from_ g.sectors g.epoch h.pos h.room h.epoch0 h.epoch h.off).mono ?_
  rintro en w' ⟨v, rfl, hO⟩
  rw [h.opens] at hO ⊢
  obtain ⟨b, v1, rfl, hB, hOwn, hb, hv⟩ := hO.ok g rfl
  refine ⟨b, rfl, ⟨⟨F, v1, h1.upd hO.upd (fun _ _ e => e), h2, hB, hOwn, fun q hq => ⟨Nat.le_trans hS.upd.size (hv q hq), fun e => ?_⟩, fun q hq => ⟨Nat.lt_of_lt_of_le (h6 q hq).1 hO.upd.size, fun e => ?_, (h6 q hq).2.2.1, fun e => ?_⟩⟩, Nat.le_trans hS.upd.size hb, hS.upd.then hO.upd (fun _ e => e.elim)⟩, hO.upd, hb⟩
  · have := h1.lt q e; have := hv q hq; omega
  · have := (h6 q hq).1; omega
  · have := (h6 q hq).1; have := hv q e; omega
theorem new_at (z : Int) (n : Nat) (w : World) (hz : z = (n : Int)) (h1 : 1 ≤ n) (h2 : n ≤ 4096) :
    Calls Tryz.prog 9 #[.int .i64 z] w fun e w' => ∃ p, e = .returned (.tuple #[.pointer (some ⟨p, 0, none⟩), .int .i64 0]) ∧ DkS w w' p (Dk.fresh n) := by
  subst hz
  exact new_s n w h1 h2
theorem fresh_now (n j : Nat) (hj : j < n) : (Dk.fresh n).now j = zeros64 := by
  unfold Dk.now Dk.at_ Dk.last Dk.fresh
  simp only [List.getD_eq_getElem?_getD, List.getElem?_replicate]
  rw [if_pos hj, if_pos hj]
  rfl
theorem fresh_pend (n : Nat) : (Dk.fresh n).pend = 0 := by
  unfold Dk.pend Dk.fresh
  simp
end Go.Proofs.YtpfbgmfkeofefaaGreat

/-
  A log, and what is kept, on a disk with a fuse: the plain laws, and the calls in a world.
-/
namespace Go.Proofs.YtpfbgmfkeofefaaGreat
open Go Go.RowKit

theorem writeB_two {d : Dk} (ho : d.off = false) (hw : d.waits.length = d.lasts.length) (a : Nat) (l : List ByteArray) (hs : ∀ q ∈ l, q.size = 64) (j : Nat) (hj : j ≤ l.length) (ha : a + j ≤ d.lasts.length) :
    ((writeB d a l j).2 = 0 ∧ (writeB d a l j).1.off = false ∧ (writeB d a l j).1.free = (writeB d.free a l j).1) ∨
    ((writeB d a l j).2 = 14 ∧ (writeB d a l j).1.off = true ∧ ∃ k, k ≤ j ∧ (writeB d a l j).1.free = (writeB d.free a l k).1) := by
  induction j with
  | zero => exact .inl ⟨rfl, ho, rfl⟩
  | succ j ih =>
    rcases ih (by omega) (by omega) with ⟨i1, i2, i3⟩ | ⟨i1, i2, k, i3, i4⟩
    · have hq : (l.getD j ByteArray.empty).size = 64 := by
        rw [List.getD_eq_getElem?_getD, List.getElem?_eq_getElem (by omega)]
        exact hs _ (List.getElem_mem _)
      obtain ⟨s1, s2, s3⟩ := writeB_same d a l hw j
      obtain ⟨f1, f2, f3, f4⟩ := writeB_free (d := d.free) rfl rfl hw a l hs j (by omega) (show a + j ≤ d.lasts.length by omega)
      have hfree : (writeB d.free a l (j + 1)).1 = (writeB d.free a l j).1.push (a + j) (l.getD j ByteArray.empty) := by
        obtain ⟨g1, -⟩ := writeB_same d.free a l hw j
        rw [writeB, if_neg (by rw [f1]; simp), Dk.write_free f2 f3 (i := a + j) (by rw [g1]; show a + j < d.lasts.length; omega) hq]
      rw [writeB, if_neg (by rw [i1]; simp)]
      rcases Dk.write_two i2 (i := a + j) (by rw [s1]; omega) hq with ⟨t1, t2, t3⟩ | ⟨t1, t2, t3⟩
      · exact .inl ⟨t1, t2, by rw [t3, i3, hfree]⟩
      · exact .inr ⟨t1, t2, j, by omega, by rw [t3, i3]⟩
    · rw [writeB, if_pos (by rw [i1]; simp)]
      exact .inr ⟨i1, i2, k, by omega, i4⟩
/-- What waits behind writes one behind the other. -/
theorem writeB_at {d : Dk} (h : d.fuse = -1) (ho : d.off = false) (hw : d.waits.length = d.lasts.length) (h0 : d.pend = 0) (a : Nat) (l : List ByteArray) (hs : ∀ q ∈ l, q.size = 64) (j : Nat) (hj : j ≤ l.length) (ha : a + j ≤ d.lasts.length) (i : Nat) :
    (writeB d a l j).1.at_ i = if a ≤ i ∧ i < a + j then [l.getD (i - a) ByteArray.empty] else [] := by
  induction j with
  | zero => rw [if_neg (by omega)]; exact Dk.at_nil h0 i
  | succ j ih =>
    obtain ⟨f1, f2, f3, f4⟩ := writeB_free h ho hw a l hs j (by omega) (by omega)
    obtain ⟨s1, s2, s3⟩ := writeB_same d a l hw j
    have hq : (l.getD j ByteArray.empty).size = 64 := by
      rw [List.getD_eq_getElem?_getD, List.getElem?_eq_getElem (by omega)]
      exact hs _ (List.getElem_mem _)
    have ih' := ih (by omega) (by omega)
    rw [writeB, if_neg (by rw [f1]; simp), Dk.write_free f2 f3 (i := a + j) (by rw [s1]; omega) hq, push_at _ _ (by rw [s2, hw]; omega)]
    by_cases e : i = a + j
    · subst e
      rw [if_pos rfl, if_pos (by omega), ih', if_neg (by omega), Nat.add_sub_cancel_left]
      rfl
    · rw [if_neg e, ih']
      by_cases e2 : a ≤ i ∧ i < a + j
      · rw [if_pos e2, if_pos (by omega)]
      · rw [if_neg e2, if_neg (by omega)]
/-- What a crash leaves of a disk on which some sectors were being written. -/
theorem torn_now {d D : Dk} (hw : d.waits.length = d.lasts.length) (h0 : d.pend = 0) (a : Nat) (l : List ByteArray) (hs : ∀ q ∈ l, q.size = 64) (k : Nat) (hk : k ≤ l.length) (ha : a + k ≤ d.lasts.length) (hD : D.free = (writeB d.free a l k).1) (keep : List Int) (i : Nat) (hi : i < d.lasts.length) :
    (D.crash keep).now i = d.now i ∨ (a ≤ i ∧ i < a + k ∧ (D.crash keep).now i = l.getD (i - a) ByteArray.empty) := by
  obtain ⟨s1, s2, s3⟩ := writeB_same d.free a l hw k
  have hl : D.lasts = d.lasts := (congrArg Dk.lasts hD).trans s1
  have hlw : D.waits.length = d.waits.length := (congrArg (fun x : Dk => x.waits.length) hD).trans s2
  have hat : D.at_ i = if a ≤ i ∧ i < a + k then [l.getD (i - a) ByteArray.empty] else [] := by
    rw [← writeB_at (d := d.free) rfl rfl hw h0 a l hs k hk ha i, ← hD]
    rfl
  have hlast : D.last i = d.now i := by rw [Dk.now_last h0 i, Dk.last, Dk.last, hl]
  rcases Dk.crash_in (d := D) (by rw [hlw, hl, hw]) keep (i := i) (by rw [hl]; exact hi) with e | e
  · exact .inl (e.trans hlast)
  · rw [hat] at e
    by_cases c : a ≤ i ∧ i < a + k
    · rw [if_pos c, List.mem_singleton] at e
      exact .inr ⟨c.1, c.2, e⟩
    · rw [if_neg c] at e
      simp at e
end Go.Proofs.YtpfbgmfkeofefaaGreat

/-
  A log on a disk with a fuse.
-/
namespace Go.Proofs.YtpfbgmfkeofefaaGreat
open Go Go.RowKit

theorem LogIs.same {d d2 : Dk} {g : Lg} {rs : List (List UInt8 × Nat)} {R : List (Option Lp)} (h : LogIs d g rs R) (hf : d2.fuse = -1) (ho : d2.off = false) (hw : d2.waits.length = d2.lasts.length) (hl : d2.lasts.length = d.lasts.length)
    (hn : ∀ i, i < d.lasts.length → d2.now i = d.now i) : LogIs d2 g rs R := by
  have h1 := h.len
  have h2 := h.room
  exact { h with fuse := hf, off := ho, waits := hw, room := by rw [hl]; exact h.room, cells := ⟨fun i hi => by rw [hn _ (by rw [List.length_append, List.length_map] at hi; omega)]; exact h.cells.cell i hi, h.cells.ok⟩ }
/-- A log, some acts behind its opening. -/
structure LogRun (d : Dk) (g : Lg) (n ep : Nat) (hv : List ByteArray) (cut : Bool) (torn : ByteArray) (salt : Nat) : Prop where
  place : g.from_ = 0 ∧ g.sectors = n ∧ g.epoch = ep
  recs : g.l = hv
  salts : g.salt ≤ salt
  used : g.used ≤ n
  len : g.l.length ≤ n
  last : g.last ≤ g.salt
  epb : ep < 18446744073709551616
  waits : d.waits.length = d.lasts.length
  dlen : n ≤ d.lasts.length
  pend : d.pend ≤ 40
  ok : cut = false → ∃ rs R, LogIs d.free g rs R ∧ d.off = false ∧ d.pend = 0
  no : cut = true → g.broken = true ∧ ∀ keep, ∃ g' rs' R', LogIs (d.crash keep) g' rs' R' ∧ (g'.from_ = 0 ∧ g'.sectors = n ∧ g'.epoch = ep) ∧ g'.salt ≤ salt ∧ (g'.l = hv ∨ g'.l = hv ++ [torn])
section
variable {d : Dk} {g : Lg} {n ep : Nat} {hv : List ByteArray} {cut : Bool} {torn : ByteArray} {salt : Nat}
theorem LogRun.mono {salt' : Nat} (h : LogRun d g n ep hv cut torn salt) (hs : salt ≤ salt') : LogRun d g n ep hv cut torn salt' :=
  { h with salts := Nat.le_trans h.salts hs, no := fun e => ⟨(h.no e).1, fun keep => by
      obtain ⟨g', rs', R', h1, h2, h3, h4⟩ := (h.no e).2 keep
      exact ⟨g', rs', R', h1, h2, Nat.le_trans h3 hs, h4⟩⟩ }
theorem LogRun.begin {rs : List (List UInt8 × Nat)} {R : List (Option Lp)} (h : LogIs d g rs R) (h0 : g.from_ = 0) (hp : d.pend = 0) (hs : g.salt ≤ salt) : LogRun d g g.sectors g.epoch g.l false torn salt := by
  have h1 := h.used_le
  have h2 := h.recs_le
  have h3 := h.room
  exact ⟨⟨h0, rfl, rfl⟩, rfl, hs, by omega, by omega, h.last_le, h.epoch, h.waits, by omega, by omega, fun _ => ⟨rs, R, by rw [Dk.free_off h.fuse h.off]; exact h, h.off, hp⟩, fun e => by simp at e⟩
theorem LogRun.fuse (h : LogRun d g n ep hv cut torn salt) (m : Int) : LogRun (d.setFuse m) g n ep hv cut torn salt :=
  ⟨h.place, h.recs, h.salts, h.used, h.len, h.last, h.epb, h.waits, h.dlen, h.pend, h.ok, h.no⟩
theorem LogRun.crash (h : LogRun d g n ep hv cut torn salt) (hwf : d.wf) (keep : List Int) : ∃ g' rs' R' hv', LogIs (d.crash keep) g' rs' R' ∧ (g'.from_ = 0 ∧ g'.sectors = n ∧ g'.epoch = ep) ∧ LogRun (d.crash keep) g' n ep hv' false torn salt ∧ (hv' = hv ∨ (cut = true ∧ hv' = hv ++ [torn])) := by
  have hp := Dk.crash_pend hwf keep
  have main : ∃ g' rs' R', LogIs (d.crash keep) g' rs' R' ∧ (g'.from_ = 0 ∧ g'.sectors = n ∧ g'.epoch = ep) ∧ g'.salt ≤ salt ∧ (g'.l = hv ∨ (cut = true ∧ g'.l = hv ++ [torn])) := by
    cases hc : cut
    · obtain ⟨rs, R, h1, h2, h3⟩ := h.ok hc
      refine ⟨g, rs, R, h1.same rfl rfl (by rw [Dk.crash_waits', Dk.crash_len']; exact h.waits) (by rw [Dk.crash_len']; rfl) (fun i hi => ?_), h.place, h.salts, .inl h.recs⟩
      rcases Dk.crash_in (d := d) h.waits keep (i := i) hi with e | e
      · rw [e, Dk.free_now, Dk.now_last h3]
      · rw [Dk.at_nil h3] at e
        simp at e
    · obtain ⟨g', rs', R', h1, h2, h3, h4⟩ := (h.no hc).2 keep
      exact ⟨g', rs', R', h1, h2, h3, h4.imp id (fun e => ⟨rfl, e⟩)⟩
  obtain ⟨g', rs', R', h1, h2, h3, h4⟩ := main
  refine ⟨g', rs', R', g'.l, h1, h2, ?_, h4⟩
  have := LogRun.begin (torn := torn) (salt := salt) h1 h2.1 hp h3
  rw [h2.2.1, h2.2.2] at this
  exact this
/-- A record is added: it is there; or the power goes; or it is refused. -/
theorem LogRun.add (h : LogRun d g n ep hv cut torn salt) (hsalt : salt < 1000000) (s : ByteArray) :
    ((addG d g s).2.2 = 0 ∧ cut = false ∧ LogRun (addG d g s).1 (addG d g s).2.1 n ep (hv ++ [s]) false torn (salt + 1)) ∨
    ((addG d g s).2.2 = 14 ∧ cut = false ∧ LogRun (addG d g s).1 (addG d g s).2.1 n ep hv true s (salt + 1)) ∨
    (((addG d g s).2.2 = 11 ∨ (addG d g s).2.2 = 3 ∨ (addG d g s).2.2 = 6) ∧ LogRun (addG d g s).1 (addG d g s).2.1 n ep hv cut torn (salt + 1)) := by
  have hgs := h.salts
  cases hc : cut
  · obtain ⟨rs, R, h1, h2, h3⟩ := h.ok hc
    have hlen := h1.len
    have hul := h1.used_le
    have hn : n = g.sectors := h.place.2.1.symm
    have hf0 := h.place.1
    by_cases hfit : s.size ≤ 1024 ∧ partsOf s.size ≤ R.length
    · have hl64 : s.data.toList.length = s.size := by simp
      have e64 : (2 : Nat) ^ (8 * 8) = 18446744073709551616 := by decide
      have hep := h1.epoch
      have hll := h1.last_le
      have hok := cutG_ok s.data.toList g.epoch (g.salt + 1) g.last h1.epoch0 (by omega) (by omega) (by omega) (by omega)
      have hsl := secsG_len g s.data.toList
      rw [hl64] at hsl
      have hsz : ∀ q ∈ secsG g s.data.toList, q.size = 64 := by
        intro q hq
        obtain ⟨p, hp, rfl⟩ := List.mem_map.1 hq
        exact secG_size p (hok p hp)
      have hdl := h.dlen
      have hA : g.from_ + g.used + partsOf s.size ≤ d.lasts.length := by omega
      obtain ⟨q1, q2, q3, q4, q5⟩ := add_is h1 s hfit.1 hfit.2 (by omega)
      have hwg : wroteG d g s.data.toList = writeB d (g.from_ + g.used) (secsG g s.data.toList) (partsOf s.size) := by rw [wroteG, hl64]
      have hwf : wroteG d.free g s.data.toList = writeB d.free (g.from_ + g.used) (secsG g s.data.toList) (partsOf s.size) := by rw [wroteG, hl64]
      obtain ⟨b1, b2, b3⟩ := writeB_same d (g.from_ + g.used) (secsG g s.data.toList) h.waits (partsOf s.size)
      have hpl : partsOf s.size ≤ 32 := by unfold partsOf; omega
      have hul2 : g.used + partsOf s.size ≤ n := by omega
      -- what is torn
      have torn_is : ∀ (D : Dk) (k : Nat), k ≤ partsOf s.size → D.free = (writeB d.free (g.from_ + g.used) (secsG g s.data.toList) k).1 → D.lasts.length = d.lasts.length → D.waits.length = d.waits.length → D.pend ≤ 40 →
          LogRun D { g with broken := true } n ep hv true s (salt + 1) := by
        intro D k hk hD hDl hDw hDp
        refine ⟨h.place, h.recs, by show g.salt ≤ salt + 1; omega, h.used, h.len, h.last, h.epb, by rw [hDw, hDl, h.waits], by rw [hDl]; exact h.dlen, hDp, fun e => by simp at e, fun _ => ⟨rfl, fun keep => ?_⟩⟩
        have hno : ∀ i, i < g.sectors → (D.crash keep).now (g.from_ + i) = d.free.now (g.from_ + i) ∨ (g.used ≤ i ∧ i < g.used + partsOf s.size ∧ (D.crash keep).now (g.from_ + i) = (secsG g s.data.toList).getD (i - g.used) ByteArray.empty) := by
          intro i hi
          have hi2 : g.from_ + i < d.lasts.length := by omega
          rcases torn_now h.waits h3 (g.from_ + g.used) (secsG g s.data.toList) hsz k (by omega) (by omega) hD keep (g.from_ + i) hi2 with e | ⟨e1, e2, e3⟩
          · exact .inl e
          · refine .inr ⟨by omega, by omega, ?_⟩
            rw [e3, Nat.add_sub_add_left]
        obtain ⟨g', rs', R', m1, ⟨m2, m3, m4, m5⟩, m6⟩ := mix_is (d2 := D.crash keep) h1 s hfit.1 hfit.2 (by omega) rfl rfl (by rw [Dk.crash_waits', Dk.crash_len', hDw, hDl, h.waits]) (by rw [Dk.crash_len', hDl]; rfl) hno
        refine ⟨g', rs', R', m1, ⟨by rw [m2]; exact hf0, by rw [m3]; exact h.place.2.1, by rw [m4]; exact h.place.2.2⟩, by omega, ?_⟩
        rw [h.recs] at m6
        exact m6
      have hadd : addG d g s = if (wroteG d g s.data.toList).2 ≠ 0 then ((wroteG d g s.data.toList).1, { g with broken := true }, (wroteG d g s.data.toList).2) else
          if (wroteG d g s.data.toList).1.sync.2 ≠ 0 then ((wroteG d g s.data.toList).1.sync.1, { g with broken := true }, (wroteG d g s.data.toList).1.sync.2) else
          ((wroteG d g s.data.toList).1.sync.1, g.added s, 0) := by
        unfold addG
        rw [h1.broken, if_neg (by simp), if_neg (by omega), if_neg (by omega)]
        rfl
      rw [hwg] at hadd
      have hsame := writeB_same d (g.from_ + g.used) (secsG g s.data.toList) h.waits (partsOf s.size)
      rcases writeB_two h2 h.waits (g.from_ + g.used) (secsG g s.data.toList) hsz (partsOf s.size) (by omega) hA with ⟨t1, t2, t3⟩ | ⟨t1, t2, k, t3, t4⟩
      · rw [if_neg (by rw [t1]; simp)] at hadd
        generalize hW : (writeB d (g.from_ + g.used) (secsG g s.data.toList) (partsOf s.size)).1 = W at *
        rcases Dk.sync_two t2 with ⟨u1, u2, u3⟩ | ⟨u1, u2, u3⟩
        · rw [if_neg (by rw [u1]; simp)] at hadd
          have hD : W.sync.1.free = addD d.free g s := by rw [u3, t3, addD, hwf]
          have hlen2 : W.sync.1.lasts.length = d.lasts.length := (congrArg (fun x : Dk => x.lasts.length) hD).trans q3
          have hpend2 : W.sync.1.pend = 0 := (congrArg Dk.pend hD).trans q4
          have hrecs := q2.recs_le
          have hused := q2.used_le
          have hwt := q2.waits
          rw [← hD] at hwt
          have hgu : (g.added s).used = g.used + partsOf s.size := rfl
          rw [hadd]
          refine .inl ⟨rfl, rfl, ⟨h.place, ?_, by show g.salt + 1 ≤ salt + 1; omega, by show (g.added s).used ≤ n; rw [hgu]; omega, by show (g.added s).l.length ≤ n; rw [hgu] at hrecs; omega, Nat.le_refl _, h.epb, hwt, by rw [hlen2]; exact h.dlen, by rw [hpend2]; omega, fun _ => ⟨_, _, by rw [hD]; exact q2, u2, hpend2⟩, fun e => by simp at e⟩⟩
          show g.l ++ [s] = hv ++ [s]
          rw [h.recs]
        · rw [if_pos (by rw [u1]; simp), u1] at hadd
          rw [hadd]
          have hl3 : W.sync.1.lasts = W.lasts := by have := congrArg Dk.lasts u3; exact this
          have hw3 : W.sync.1.waits = W.waits := by have := congrArg Dk.waits u3; exact this
          exact .inr (.inl ⟨rfl, rfl, torn_is _ (partsOf s.size) (Nat.le_refl _) (by rw [u3, t3]) (by rw [hl3, hsame.1]) (by rw [hw3, hsame.2.1]) (by unfold Dk.pend; rw [hw3]; have := hsame.2.2; unfold Dk.pend at this h3; omega)⟩)
      · rw [if_pos (by rw [t1]; simp), t1] at hadd
        rw [hadd]
        exact .inr (.inl ⟨rfl, rfl, torn_is (writeB d (g.from_ + g.used) (secsG g s.data.toList) (partsOf s.size)).1 k t3 t4 (by rw [hsame.1]) hsame.2.1 (by have := hsame.2.2; omega)⟩)
    · have hno := add_not h1 s (by omega) hfit
      have hno2 : addG d g s = (d, g, if 1024 < s.size then 3 else 6) := by
        unfold addG at hno ⊢
        rw [h1.broken, if_neg (by simp)] at hno ⊢
        by_cases h10 : 1024 < s.size
        · rw [if_pos h10, if_pos h10]
        · rw [if_neg h10, if_neg h10]
          rw [if_pos (by omega)]
      rw [hno2]
      subst hc
      refine .inr (.inr ⟨?_, h.mono (Nat.le_succ _)⟩)
      by_cases h10 : 1024 < s.size
      · rw [if_pos h10]; exact .inr (.inl rfl)
      · rw [if_neg h10]; exact .inr (.inr rfl)
  · have hb := (h.no hc).1
    have hno : addG d g s = (d, g, 11) := by unfold addG; rw [hb, if_pos rfl]
    rw [hno]
    subst hc
    exact .inr (.inr ⟨.inl rfl, h.mono (Nat.le_succ _)⟩)
end
end Go.Proofs.YtpfbgmfkeofefaaGreat

/-
  What is kept on a disk with a fuse: the plain law.
-/
namespace Go.Proofs.YtpfbgmfkeofefaaGreat
open Go Go.RowKit

/-- What a sector of a slot has: a part, or nothing. -/
def secP : Option Pt → ByteArray
  | none => zeros64
  | some p => p.sec
/-- A slot: parts, or blank. -/
structure SlotG (d : Dk) (a : Nat) (L : List (Option Pt)) : Prop where
  len : L.length = 10
  cell : ∀ i (h : i < L.length), d.now (a + i) = secP L[i]
  ok : ∀ p, some p ∈ L → p.ok
/-- The parts ahead of the first blank. -/
def rowP : List (Option Pt) → List Pt
  | some p :: r => p :: rowP r
  | _ => []
def genP (L : List (Option Pt)) (s : Nat) : Nat := L.foldl (fun m o => max m (o.elim 0 Pt.gen)) s
theorem rowP_some (A : List (Option Pt)) (p : Pt) : rowP (A ++ [some p]) = if A.all Option.isSome then rowP A ++ [p] else rowP A := by
  induction A with
  | nil => rfl
  | cons x A ih =>
    cases x with
    | none => rfl
    | some q =>
      simp only [List.cons_append, rowP, ih, List.all_cons, Option.isSome_some, Bool.true_and]
      split <;> rfl
theorem rowP_none (A : List (Option Pt)) : rowP (A ++ [none]) = rowP A := by
  induction A with
  | nil => rfl
  | cons x A ih =>
    cases x with
    | none => rfl
    | some q => simp only [List.cons_append, rowP, ih]
theorem rowP_map (l : List Pt) (R : List (Option Pt)) : rowP (l.map some ++ R) = l ++ rowP R := by
  induction l with
  | nil => rfl
  | cons p l ih => simp only [List.map_cons, List.cons_append, rowP, ih]
theorem rowP_mem {L : List (Option Pt)} {p : Pt} (h : p ∈ rowP L) : some p ∈ L := by
  induction L with
  | nil => simp [rowP] at h
  | cons x L ih =>
    cases x with
    | none => simp [rowP] at h
    | some q =>
      simp only [rowP, List.mem_cons] at h
      rcases h with rfl | h
      · simp
      · exact List.mem_cons_of_mem _ (ih h)
theorem rowP_get {L : List (Option Pt)} {i : Nat} (h : i < (rowP L).length) : L[i]? = some (some (rowP L)[i]) := by
  induction L generalizing i with
  | nil => simp [rowP] at h
  | cons x L ih =>
    cases x with
    | none => simp [rowP] at h
    | some q =>
      cases i with
      | zero => simp [rowP]
      | succ i =>
        simp only [rowP, List.length_cons] at h
        have := ih (i := i) (by omega)
        simpa [rowP] using this
theorem rowP_prefix {A B : List (Option Pt)} {n : Nat} (h : ∀ i, i < n → A[i]? = B[i]?) (hn : n ≤ (rowP A).length) : n ≤ (rowP B).length ∧ (rowP A).take n = (rowP B).take n := by
  induction n generalizing A B with
  | zero => simp
  | succ n ih =>
    cases A with
    | nil => simp [rowP] at hn
    | cons x A =>
      cases x with
      | none => simp [rowP] at hn
      | some p =>
        have h0 := h 0 (by omega)
        cases B with
        | nil => simp at h0
        | cons y B =>
          simp only [List.getElem?_cons_zero, Option.some.injEq] at h0
          subst h0
          simp only [rowP, List.length_cons] at hn
          have := ih (A := A) (B := B) (fun i hi => by simpa using h (i + 1) (by omega)) (by omega)
          simp only [rowP, List.length_cons, List.take_succ_cons]
          exact ⟨by omega, by rw [this.2]⟩
theorem genP_ge (L : List (Option Pt)) (s : Nat) : s ≤ genP L s := by
  unfold genP
  induction L generalizing s with
  | nil => exact Nat.le_refl _
  | cons x L ih => exact Nat.le_trans (Nat.le_max_left _ _) (ih _)
theorem genP_mem {L : List (Option Pt)} {p : Pt} (h : some p ∈ L) (s : Nat) : p.gen ≤ genP L s := by
  unfold genP
  induction L generalizing s with
  | nil => simp at h
  | cons x L ih =>
    rcases List.mem_cons.1 h with rfl | h
    · exact Nat.le_trans (Nat.le_max_right _ _) (genP_ge L _)
    · exact ih h _
theorem genP_le {L : List (Option Pt)} {m : Nat} (h : ∀ p, some p ∈ L → p.gen ≤ m) (s : Nat) (hs : s ≤ m) : genP L s ≤ m := by
  unfold genP
  induction L generalizing s with
  | nil => exact hs
  | cons x L ih =>
    refine ih (fun p hp => h p (by simp [hp])) _ ?_
    cases x with
    | none => simpa using hs
    | some q => exact Nat.max_le.2 ⟨hs, h q (by simp)⟩
theorem slotAt_g {d : Dk} {a : Nat} {L : List (Option Pt)} (h : SlotG d a L) (seen k : Nat) (hk : k ≤ 10) : slotAt d a seen k = ⟨rowP (L.take k), (L.take k).all Option.isSome, genP (L.take k) seen, false⟩ := by
  induction k with
  | zero => rfl
  | succ k ih =>
    have hlt : k < L.length := by rw [h.len]; omega
    rw [slotAt_succ, ih (by omega), slotStep, if_neg (by simp), h.cell k hlt, List.take_succ_eq_append_getElem hlt]
    have hmem : L[k] ∈ L := List.getElem_mem hlt
    cases hx : L[k] with
    | none =>
      rw [show secP none = zeros64 from rfl, look_zeros, if_neg (by decide), if_neg (by decide), rowP_none]
      simp [genP]
    | some p =>
      have hok := h.ok p (hx ▸ hmem)
      rw [show secP (some p) = p.sec from rfl, look_sec p hok, if_neg (by simp), if_pos rfl, readL_body p hok.gen' hok.number hok.all hok.text, rowP_some]
      simp [genP]

/-- What two slots keep. -/
def two (f : Nat) (L0 L1 : List (Option Pt)) : Kp :=
  if (holdL (rowP L0)).2 < (holdL (rowP L1)).2 then ⟨f, (holdL (rowP L1)).1, (holdL (rowP L1)).2, 1, genP L1 (genP L0 0), false⟩
  else if 0 < (holdL (rowP L0)).2 then ⟨f, (holdL (rowP L0)).1, (holdL (rowP L0)).2, 0, genP L1 (genP L0 0), false⟩
  else ⟨f, [], 0, 1, genP L1 (genP L0 0), false⟩
theorem openStep_g {d : Dk} {n : Nat} {k : Kp} {L : List (Option Pt)} (h : SlotG d (k.from_ + n * 10) L) :
    openStep d n k = some (if k.gen < (holdL (rowP L)).2 then { k with seen := genP L k.seen, text := (holdL (rowP L)).1, gen := (holdL (rowP L)).2, at_ := n } else { k with seen := genP L k.seen }) := by
  have hs := slotAt_g h k.seen 10 (by omega)
  rw [List.take_of_length_le (by rw [h.len]; omega)] at hs
  rw [openStep, hs, if_neg (by simp)]
theorem open_g {d : Dk} {f : Nat} {L0 L1 : List (Option Pt)} (h0 : SlotG d f L0) (h1 : SlotG d (f + 10) L1) : openN d f 2 = some (two f L0 L1) := by
  have e0 : openN d f 1 = openStep d 0 ⟨f, [], 0, 1, 0, false⟩ := rfl
  rw [openStep_g (L := L0) (by simpa using h0)] at e0
  rw [openN, e0, Option.bind_some]
  unfold two
  by_cases c0 : 0 < (holdL (rowP L0)).2
  · rw [if_pos c0, openStep_g (L := L1) (by simpa using h1)]
    by_cases c1 : (holdL (rowP L0)).2 < (holdL (rowP L1)).2
    · rw [if_pos c1, if_pos c1]
    · rw [if_neg c1, if_neg c1, if_pos c0]
  · rw [if_neg c0, openStep_g (L := L1) (by simpa using h1)]
    have e : (holdL (rowP L0)).2 = 0 := by omega
    rw [e]
    by_cases c1 : 0 < (holdL (rowP L1)).2
    · rw [if_pos c1, if_pos c1]
    · rw [if_neg c1, if_neg c1, if_neg (by omega)]

theorem mix_hold {g k : Nat} {R M : List (Option Pt)} {t : List UInt8} (hR : ∀ p, some p ∈ R → p.gen < g) (hk : k = allOf t.length)
    (hM : ∀ i, M[i]? = R[i]? ∨ (i < k ∧ M[i]? = (cutL t g)[i]?.map some)) (hno : ¬ ∀ i, i < k → M[i]? = (cutL t g)[i]?.map some) : (holdL (rowP M)).2 ≤ (holdL (rowP R)).2 := by
  by_cases h0 : (holdL (rowP M)).2 = 0
  · omega
  · obtain ⟨t', s', rest, hs0, ht', hrow, hh⟩ := holdL_true h0
    have hn' := allOf_pos t'.length
    have hcl := cutL_len t' s'
    have hlen : allOf t'.length ≤ (rowP M).length := by rw [hrow, List.length_append, hcl]; omega
    have hget : ∀ (i : Nat) (h : i < allOf t'.length), M[i]? = some (some ((cutL t' s')[i]'(by rw [hcl]; exact h))) := by
      intro i h
      rw [rowP_get (by omega)]
      simp only [hrow]
      rw [List.getElem_append_left (by rw [hcl]; exact h)]
    have hold : ∀ (i : Nat) (p : Pt), M[i]? = R[i]? → M[i]? = some (some p) → p.gen < g := by
      intro i p h1 h2
      rw [h1] at h2
      exact hR p (List.mem_of_getElem? h2)
    have hnew : ∀ (i : Nat) (p : Pt), (i < k ∧ M[i]? = (cutL t g)[i]?.map some) → M[i]? = some (some p) → p.gen = g ∧ p.all = k := by
      intro i p h1 h2
      rw [h1.2, List.getElem?_eq_getElem (by rw [cutL_len]; omega)] at h2
      simp only [Option.map_some, Option.some.injEq] at h2
      obtain ⟨c1, c2, c3, c4⟩ := cutL_get t g i (by rw [cutL_len]; omega)
      rw [h2] at c1 c3
      exact ⟨c1, by omega⟩
    have hcut : ∀ (i : Nat) (h : i < allOf t'.length), ((cutL t' s')[i]'(by rw [hcl]; exact h)).gen = s' ∧ ((cutL t' s')[i]'(by rw [hcl]; exact h)).all = allOf t'.length := by
      intro i h
      obtain ⟨c1, c2, c3, c4⟩ := cutL_get t' s' i (by rw [hcl]; exact h)
      exact ⟨c1, c3⟩
    by_cases hs : s' = g
    · exfalso
      have all_new : ∀ i : Nat, i < allOf t'.length → i < k ∧ M[i]? = (cutL t g)[i]?.map some := by
        intro i h
        rcases hM i with e1 | e1
        · have := hold i _ e1 (hget i h)
          have := (hcut i h).1
          omega
        · exact e1
      have h0 := hnew 0 _ (all_new 0 (by omega)) (hget 0 (by omega))
      have h1 := (hcut 0 (by omega)).2
      exact hno fun i hi => (all_new i (by omega)).2
    · have all_old : ∀ i : Nat, i < allOf t'.length → M[i]? = R[i]? := by
        intro i h
        rcases hM i with e1 | e1
        · exact e1
        · have h1 := (hnew i _ e1 (hget i h)).1
          have h2 := (hcut i h).1
          omega
      obtain ⟨p1, p2⟩ := rowP_prefix all_old hlen
      have hR2 : rowP R = cutL t' s' ++ (rowP R).drop (allOf t'.length) := by
        have e1 : (rowP M).take (allOf t'.length) = cutL t' s' := by rw [hrow, List.take_left' hcl]
        rw [← e1, p2, List.take_append_drop]
      rw [hh, hR2, holdL_cut _ _ _ hs0 ht']
      exact Nat.le_refl _
/-- A slot of which some sectors are a record's now. -/
theorem slot_mix {d d2 : Dk} {a g : Nat} {L : List (Option Pt)} {t : List UInt8} (h : SlotG d a L) (hg : 0 < g) (hg2 : g < 18446744073709551616) (ht : t.length ≤ 400)
    (hn : ∀ i, i < 10 → d2.now (a + i) = d.now (a + i) ∨ (i < allOf t.length ∧ d2.now (a + i) = ((cutL t g).map Pt.sec).getD i ByteArray.empty)) :
    ∃ M, SlotG d2 a M ∧ (∀ i, M[i]? = L[i]? ∨ (i < allOf t.length ∧ M[i]? = (cutL t g)[i]?.map some)) ∧
      ((∀ i, i < allOf t.length → d2.now (a + i) = ((cutL t g).map Pt.sec).getD i ByteArray.empty) ↔ (∀ i, i < allOf t.length → M[i]? = (cutL t g)[i]?.map some)) := by
  classical
  have e64 : (2 : Nat) ^ (8 * 8) = 18446744073709551616 := by decide
  have hok := cutL_ok t g hg (by omega) ht
  have hcl := cutL_len t g
  have hall : allOf t.length ≤ 9 := by unfold allOf; omega
  have hsec : ∀ i (hi : i < allOf t.length), ((cutL t g).map Pt.sec).getD i ByteArray.empty = ((cutL t g)[i]'(by omega)).sec := by
    intro i hi
    rw [List.getD_eq_getElem?_getD, List.getElem?_map, List.getElem?_eq_getElem (by omega)]
    rfl
  have hl := h.len
  have hMi : ∀ i, i < 10 → ((List.range 10).map fun i => if i < allOf t.length ∧ d2.now (a + i) = ((cutL t g).map Pt.sec).getD i ByteArray.empty then (cutL t g)[i]? else L.getD i none)[i]? =
      some (if i < allOf t.length ∧ d2.now (a + i) = ((cutL t g).map Pt.sec).getD i ByteArray.empty then (cutL t g)[i]? else L.getD i none) := by
    intro i hi
    rw [List.getElem?_map, List.getElem?_range hi, Option.map_some]
  refine ⟨(List.range 10).map fun i => if i < allOf t.length ∧ d2.now (a + i) = ((cutL t g).map Pt.sec).getD i ByteArray.empty then (cutL t g)[i]? else L.getD i none, ⟨by simp, fun i hi => ?_, fun p hp => ?_⟩, fun i => ?_, ⟨fun hnew i hi => ?_, fun hM i hi => ?_⟩⟩
  · have hi2 : i < 10 := by simpa using hi
    rw [List.getElem_map, List.getElem_range]
    by_cases c : i < allOf t.length ∧ d2.now (a + i) = ((cutL t g).map Pt.sec).getD i ByteArray.empty
    · rw [if_pos c, List.getElem?_eq_getElem (by omega), c.2, hsec i c.1]
      rfl
    · rw [if_neg c]
      rcases hn i hi2 with e | e
      · rw [e, h.cell i (by omega), List.getD_eq_getElem?_getD, List.getElem?_eq_getElem (by omega)]
        rfl
      · exact absurd e c
  · obtain ⟨i, hi, e⟩ := List.mem_iff_getElem.1 hp
    have hi2 : i < 10 := by simpa using hi
    rw [List.getElem_map, List.getElem_range] at e
    by_cases c : i < allOf t.length ∧ d2.now (a + i) = ((cutL t g).map Pt.sec).getD i ByteArray.empty
    · rw [if_pos c] at e
      exact hok p (List.mem_of_getElem? e)
    · rw [if_neg c, List.getD_eq_getElem?_getD, List.getElem?_eq_getElem (by omega), Option.getD_some] at e
      exact h.ok p (by rw [← e]; exact List.getElem_mem _)
  · by_cases hi : i < 10
    · rw [hMi i hi]
      by_cases c : i < allOf t.length ∧ d2.now (a + i) = ((cutL t g).map Pt.sec).getD i ByteArray.empty
      · rw [if_pos c]
        refine .inr ⟨c.1, ?_⟩
        rw [List.getElem?_eq_getElem (by omega)]
        rfl
      · rw [if_neg c, List.getD_eq_getElem?_getD, List.getElem?_eq_getElem (by omega)]
        exact .inl rfl
    · rw [List.getElem?_eq_none (by simpa using hi), List.getElem?_eq_none (by omega)]
      exact .inl rfl
  · rw [hMi i (by omega), if_pos ⟨hi, hnew i hi⟩, List.getElem?_eq_getElem (by omega)]
    rfl
  · by_cases c : d2.now (a + i) = ((cutL t g).map Pt.sec).getD i ByteArray.empty
    · exact c
    · have h1 := hM i hi
      rw [hMi i (by omega), if_neg (fun e => c e.2), List.getD_eq_getElem?_getD, List.getElem?_eq_getElem (by omega), List.getElem?_eq_getElem (by omega)] at h1
      simp only [Option.getD_some, Option.map_some, Option.some.injEq] at h1
      rcases hn i (by omega) with e | e
      · rw [e, h.cell i (by omega), h1, hsec i hi]
        rfl
      · exact e.2
theorem slot_same {d d2 : Dk} {a : Nat} {L : List (Option Pt)} (h : SlotG d a L) (hn : ∀ i, i < 10 → d2.now (a + i) = d.now (a + i)) : SlotG d2 a L :=
  ⟨h.len, fun i hi => by rw [hn i (by have := h.len; omega)]; exact h.cell i hi, h.ok⟩
theorem hold_all {g : Nat} {M : List (Option Pt)} {t : List UInt8} (hg : 0 < g) (ht : t.length ≤ 400) (hM : ∀ i, i < allOf t.length → M[i]? = (cutL t g)[i]?.map some) : holdL (rowP M) = (t, g) := by
  have hcl := cutL_len t g
  have e : M = (cutL t g).map some ++ M.drop (allOf t.length) := by
    refine List.ext_getElem? fun i => ?_
    by_cases hi : i < allOf t.length
    · rw [hM i hi, List.getElem?_append_left (by rw [List.length_map]; omega), List.getElem?_map]
    · rw [List.getElem?_append_right (by rw [List.length_map]; omega), List.getElem?_drop, List.length_map, hcl]
      congr 1
      omega
  rw [e, rowP_map, holdL_cut t g _ (by omega) ht]

/-- A record that stands on a disk without a fuse, its slots of any shape. -/
structure KeptG (d : Dk) (k : Kp) (L0 L1 : List (Option Pt)) : Prop where
  fuse : d.fuse = -1
  off : d.off = false
  waits : d.waits.length = d.lasts.length
  room : k.from_ + 20 ≤ d.lasts.length
  s0 : SlotG d k.from_ L0
  s1 : SlotG d (k.from_ + 10) L1
  is : two k.from_ L0 L1 = k
section
variable {d d2 : Dk} {k : Kp} {L0 L1 : List (Option Pt)}
theorem KeptG.opens (h : KeptG d k L0 L1) : openN d k.from_ 2 = some k := by rw [open_g h.s0 h.s1, h.is]
theorem two_facts (f : Nat) (L0 L1 : List (Option Pt)) : (two f L0 L1).from_ = f ∧ (two f L0 L1).seen = genP L1 (genP L0 0) ∧ (two f L0 L1).at_ ≤ 1 ∧ (two f L0 L1).broken = false := by
  unfold two
  split
  · exact ⟨rfl, rfl, by simp, rfl⟩
  · split
    · exact ⟨rfl, rfl, by simp, rfl⟩
    · exact ⟨rfl, rfl, by simp, rfl⟩
theorem KeptG.seen (h : KeptG d k L0 L1) : k.seen = genP L1 (genP L0 0) := by
  have := (two_facts k.from_ L0 L1).2.1
  rw [h.is] at this
  exact this
theorem KeptG.at_ (h : KeptG d k L0 L1) : k.at_ ≤ 1 := by
  have := (two_facts k.from_ L0 L1).2.2.1
  rw [h.is] at this
  exact this
theorem KeptG.broken (h : KeptG d k L0 L1) : k.broken = false := by
  have := (two_facts k.from_ L0 L1).2.2.2
  rw [h.is] at this
  exact this
theorem KeptG.gen0 (h : KeptG d k L0 L1) : ∀ p, some p ∈ L0 → p.gen ≤ k.seen := fun p hp => by
  rw [h.seen]
  exact Nat.le_trans (genP_mem hp 0) (genP_ge _ _)
theorem KeptG.gen1 (h : KeptG d k L0 L1) : ∀ p, some p ∈ L1 → p.gen ≤ k.seen := fun p hp => by
  rw [h.seen]
  exact genP_mem hp _
theorem KeptG.same (h : KeptG d k L0 L1) (hf : d2.fuse = -1) (ho : d2.off = false) (hw : d2.waits.length = d2.lasts.length) (hl : d2.lasts.length = d.lasts.length) (hn : ∀ i, i < d.lasts.length → d2.now i = d.now i) : KeptG d2 k L0 L1 := by
  have h2 := h.room
  exact ⟨hf, ho, hw, by rw [hl]; exact h2, slot_same h.s0 fun i hi => hn _ (by omega), slot_same h.s1 fun i hi => hn _ (by omega), h.is⟩
/-- The slot that the next Put writes. -/
theorem KeptG.mix (h : KeptG d k L0 L1) (t : List UInt8) (ht : t.length ≤ 400) (hs : k.seen + 1 < 18446744073709551616)
    (hf : d2.fuse = -1) (ho : d2.off = false) (hw : d2.waits.length = d2.lasts.length) (hl : d2.lasts.length = d.lasts.length)
    (hn : ∀ i, i < d.lasts.length → d2.now i = d.now i ∨ (k.from_ + (1 - k.at_) * 10 ≤ i ∧ i < k.from_ + (1 - k.at_) * 10 + allOf t.length ∧ d2.now i = ((cutL t (k.seen + 1)).map Pt.sec).getD (i - (k.from_ + (1 - k.at_) * 10)) ByteArray.empty)) :
    ∃ k' L0' L1', KeptG d2 k' L0' L1' ∧ k'.from_ = k.from_ ∧ k'.seen ≤ k.seen + 1 ∧ (k' = k.put t ∨ (k'.text = k.text ∧ k'.gen = k.gen)) ∧
      ((∀ i, i < allOf t.length → d2.now (k.from_ + (1 - k.at_) * 10 + i) = ((cutL t (k.seen + 1)).map Pt.sec).getD i ByteArray.empty) → k' = k.put t) := by
  have hat := h.at_
  have hroom := h.room
  have hall : allOf t.length ≤ 9 := by unfold allOf; omega
  have hall1 := allOf_pos t.length
  have hg0 := h.gen0
  have hg1 := h.gen1
  have hseen := h.seen
  have hh0 : (holdL (rowP L0)).2 ≤ k.seen := holdL_le fun p hp => hg0 p (rowP_mem hp)
  have hh1 : (holdL (rowP L1)).2 ≤ k.seen := holdL_le fun p hp => hg1 p (rowP_mem hp)
  have hcl := cutL_len t (k.seen + 1)
  -- the gens of a mixed slot
  have hgm : ∀ {L M : List (Option Pt)}, (∀ p, some p ∈ L → p.gen ≤ k.seen) → (∀ i, M[i]? = L[i]? ∨ (i < allOf t.length ∧ M[i]? = (cutL t (k.seen + 1))[i]?.map some)) → ∀ p, some p ∈ M → p.gen ≤ k.seen + 1 := by
    intro L M hL hM p hp
    obtain ⟨i, hi, e⟩ := List.mem_iff_getElem.1 hp
    have e2 : M[i]? = some (some p) := by rw [List.getElem?_eq_getElem hi, e]
    rcases hM i with e1 | ⟨e0, e1⟩
    · rw [e1] at e2
      have := hL p (List.mem_of_getElem? e2)
      omega
    · rw [e1, List.getElem?_eq_getElem (by omega)] at e2
      simp only [Option.map_some, Option.some.injEq] at e2
      have := (cutL_get t (k.seen + 1) i (by omega)).1
      rw [e2] at this
      omega
  have hfull : ∀ {M : List (Option Pt)}, (∀ i, i < allOf t.length → M[i]? = (cutL t (k.seen + 1))[i]?.map some) → ∃ p, some p ∈ M ∧ p.gen = k.seen + 1 := by
    intro M hM
    have h0 := hM 0 (by omega)
    rw [List.getElem?_eq_getElem (by omega : 0 < (cutL t (k.seen + 1)).length), Option.map_some] at h0
    exact ⟨_, List.mem_of_getElem? h0, (cutL_get t (k.seen + 1) 0 (by omega)).1⟩
  have hcase : k.at_ = 1 ∨ k.at_ = 0 := by omega
  rcases hcase with e | e
  · -- slot 0 is written
    have ea : k.from_ + (1 - k.at_) * 10 = k.from_ := by rw [e]; rfl
    rw [ea] at hn ⊢
    obtain ⟨M, m1, m2, m3⟩ := slot_mix (d2 := d2) h.s0 (g := k.seen + 1) (t := t) (by omega) hs ht (fun i hi => by
      rcases hn (k.from_ + i) (by omega) with c | ⟨c1, c2, c3⟩
      · exact .inl c
      · exact .inr ⟨by omega, by rw [c3]; congr 1; omega⟩)
    have s1 : SlotG d2 (k.from_ + 10) L1 := slot_same h.s1 fun i hi => by
      rcases hn (k.from_ + 10 + i) (by omega) with c | ⟨c1, c2, c3⟩
      · exact c
      · omega
    have hgM := hgm hg0 m2
    have hS : genP L1 (genP M 0) ≤ k.seen + 1 := genP_le (fun p hp => by have := hg1 p hp; omega) _ (genP_le hgM _ (Nat.zero_le _))
    have tf := two_facts k.from_ M L1
    have hput : (∀ i, i < allOf t.length → M[i]? = (cutL t (k.seen + 1))[i]?.map some) → two k.from_ M L1 = k.put t := by
      intro hM
      have hh := hold_all (by omega) ht hM
      obtain ⟨p, hp, hpg⟩ := hfull hM
      have h1 := genP_mem hp 0
      have h2 := genP_ge L1 (genP M 0)
      have hS2 : genP L1 (genP M 0) = k.seen + 1 := by omega
      unfold two Kp.put
      rw [hh, if_neg (by show ¬ k.seen + 1 < _; omega), if_pos (by show 0 < k.seen + 1; omega), hS2, e]
    refine ⟨two k.from_ M L1, M, L1, ⟨hf, ho, hw, by rw [hl, tf.1]; exact hroom, by rw [tf.1]; exact m1, by rw [tf.1]; exact s1, by rw [tf.1]⟩, tf.1, by rw [tf.2.1]; exact hS, ?_, fun hx => hput (m3.1 hx)⟩
    by_cases hM : ∀ i, i < allOf t.length → M[i]? = (cutL t (k.seen + 1))[i]?.map some
    · exact .inl (hput hM)
    · right
      have hle := mix_hold (fun p hp => by have := hg0 p hp; omega) rfl m2 hM
      have his := h.is
      unfold two at his ⊢
      by_cases c1 : (holdL (rowP L0)).2 < (holdL (rowP L1)).2
      · rw [if_pos c1] at his
        rw [if_pos (by omega)]
        rw [← his]
        exact ⟨rfl, rfl⟩
      · rw [if_neg c1] at his
        by_cases c2 : 0 < (holdL (rowP L0)).2
        · rw [if_pos c2] at his
          rw [← his] at e
          simp at e
        · rw [if_neg c2] at his
          rw [if_neg (by omega), if_neg (by omega), ← his]
          exact ⟨rfl, rfl⟩
  · -- slot 1 is written
    have ea : k.from_ + (1 - k.at_) * 10 = k.from_ + 10 := by rw [e]
    rw [ea] at hn ⊢
    obtain ⟨M, m1, m2, m3⟩ := slot_mix (d2 := d2) h.s1 (g := k.seen + 1) (t := t) (by omega) hs ht (fun i hi => by
      rcases hn (k.from_ + 10 + i) (by omega) with c | ⟨c1, c2, c3⟩
      · exact .inl c
      · exact .inr ⟨by omega, by rw [c3]; congr 1; omega⟩)
    have s0 : SlotG d2 k.from_ L0 := slot_same h.s0 fun i hi => by
      rcases hn (k.from_ + i) (by omega) with c | ⟨c1, c2, c3⟩
      · exact c
      · omega
    have hgM := hgm hg1 m2
    have hS : genP M (genP L0 0) ≤ k.seen + 1 := genP_le hgM _ (genP_le (fun p hp => by have := hg0 p hp; omega) _ (Nat.zero_le _))
    have tf := two_facts k.from_ L0 M
    have hput : (∀ i, i < allOf t.length → M[i]? = (cutL t (k.seen + 1))[i]?.map some) → two k.from_ L0 M = k.put t := by
      intro hM
      have hh := hold_all (by omega) ht hM
      obtain ⟨p, hp, hpg⟩ := hfull hM
      have h1 := genP_mem hp (genP L0 0)
      have hS2 : genP M (genP L0 0) = k.seen + 1 := by omega
      unfold two Kp.put
      rw [hh, if_pos (by show _ < k.seen + 1; omega), hS2, e]
    refine ⟨two k.from_ L0 M, L0, M, ⟨hf, ho, hw, by rw [hl, tf.1]; exact hroom, by rw [tf.1]; exact s0, by rw [tf.1]; exact m1, by rw [tf.1]⟩, tf.1, by rw [tf.2.1]; exact hS, ?_, fun hx => hput (m3.1 hx)⟩
    by_cases hM : ∀ i, i < allOf t.length → M[i]? = (cutL t (k.seen + 1))[i]?.map some
    · exact .inl (hput hM)
    · right
      have hle := mix_hold (fun p hp => by have := hg1 p hp; omega) rfl m2 hM
      have his := h.is
      unfold two at his ⊢
      by_cases c1 : (holdL (rowP L0)).2 < (holdL (rowP L1)).2
      · rw [if_pos c1] at his
        rw [← his] at e
        simp at e
      · rw [if_neg c1] at his
        by_cases c2 : 0 < (holdL (rowP L0)).2
        · rw [if_pos c2] at his
          rw [if_neg (by omega), if_pos c2, ← his]
          exact ⟨rfl, rfl⟩
        · rw [if_neg c2] at his
          rw [← his] at e
          simp at e
end
theorem fresh_g (n f : Nat) (h : f + 20 ≤ n) : KeptG (Dk.fresh n) ⟨f, [], 0, 1, 0, false⟩ (List.replicate 10 none) (List.replicate 10 none) := by
  have hno : ∀ p : Pt, some p ∉ List.replicate 10 (none : Option Pt) := fun p hp => by have := List.eq_of_mem_replicate hp; simp at this
  have hz : ∀ a, a + 10 ≤ n → SlotG (Dk.fresh n) a (List.replicate 10 none) := by
    intro a ha
    refine ⟨by simp, fun i hi => ?_, fun p hp => absurd hp (hno p)⟩
    have e : (Dk.fresh n).now (a + i) = zeros64 := by
      have hi' : i < 10 := by simpa using hi
      unfold Dk.now Dk.at_ Dk.last Dk.fresh
      simp only [List.getD_eq_getElem?_getD, List.getElem?_replicate]
      rw [if_pos (by omega), if_pos (by omega)]
      rfl
    rw [e, List.getElem_replicate]
    rfl
  exact ⟨rfl, rfl, by simp [Dk.fresh], by simpa [Dk.fresh] using h, hz f (by omega), hz (f + 10) (by omega), rfl⟩
theorem writeN_B (d : Dk) (a : Nat) (l : List Pt) (j : Nat) (hj : j ≤ l.length) : writeN d a l j = writeB d a (l.map Pt.sec) j := by
  induction j with
  | zero => rfl
  | succ j ih =>
    rw [writeN, writeB, ih (by omega)]
    have e : (l.getD j ⟨0, 0, 0, []⟩).sec = (l.map Pt.sec).getD j ByteArray.empty := by
      rw [List.getD_eq_getElem?_getD, List.getD_eq_getElem?_getD, List.getElem?_map, List.getElem?_eq_getElem (by omega)]
      rfl
    rw [e]

/-- A record that is kept, some acts behind its opening. -/
structure KeptRun (d : Dk) (k : Kp) (f : Nat) (last : List UInt8) (is cut : Bool) (torn : List UInt8) (seen : Nat) : Prop where
  from_ : k.from_ = f
  text : k.text = last
  gen : decide (0 < k.gen) = is
  seens : k.seen ≤ seen
  at_ : k.at_ ≤ 1
  waits : d.waits.length = d.lasts.length
  dlen : f + 20 ≤ d.lasts.length
  pend : d.pend ≤ 40
  ok : cut = false → ∃ L0 L1, KeptG d.free k L0 L1 ∧ d.off = false ∧ d.pend = 0
  no : cut = true → k.broken = true ∧ ∀ keep, ∃ k' L0 L1, KeptG (d.crash keep) k' L0 L1 ∧ k'.from_ = f ∧ k'.seen ≤ seen ∧ ((k'.text = last ∧ decide (0 < k'.gen) = is) ∨ (k'.text = torn ∧ decide (0 < k'.gen) = true))
section
variable {d : Dk} {k : Kp} {f : Nat} {last torn : List UInt8} {is cut : Bool} {seen : Nat}
theorem KeptRun.mono {seen' : Nat} (h : KeptRun d k f last is cut torn seen) (hs : seen ≤ seen') : KeptRun d k f last is cut torn seen' :=
  { h with seens := Nat.le_trans h.seens hs, no := fun e => ⟨(h.no e).1, fun keep => by
      obtain ⟨k', L0, L1, h1, h2, h3, h4⟩ := (h.no e).2 keep
      exact ⟨k', L0, L1, h1, h2, Nat.le_trans h3 hs, h4⟩⟩ }
theorem KeptRun.begin {L0 L1 : List (Option Pt)} (h : KeptG d k L0 L1) (hp : d.pend = 0) (hs : k.seen ≤ seen) : KeptRun d k k.from_ k.text (decide (0 < k.gen)) false torn seen :=
  ⟨rfl, rfl, rfl, hs, h.at_, h.waits, h.room, by omega, fun _ => ⟨L0, L1, by rw [Dk.free_off h.fuse h.off]; exact h, h.off, hp⟩, fun e => by simp at e⟩
theorem KeptRun.fuse (h : KeptRun d k f last is cut torn seen) (m : Int) : KeptRun (d.setFuse m) k f last is cut torn seen :=
  ⟨h.from_, h.text, h.gen, h.seens, h.at_, h.waits, h.dlen, h.pend, h.ok, h.no⟩
theorem KeptRun.crash (h : KeptRun d k f last is cut torn seen) (hwf : d.wf) (keep : List Int) : ∃ k' L0 L1 last' is', KeptG (d.crash keep) k' L0 L1 ∧ k'.from_ = f ∧ KeptRun (d.crash keep) k' f last' is' false torn seen ∧
    ((last' = last ∧ is' = is) ∨ (cut = true ∧ last' = torn ∧ is' = true)) := by
  have hp := Dk.crash_pend hwf keep
  have main : ∃ k' L0 L1, KeptG (d.crash keep) k' L0 L1 ∧ k'.from_ = f ∧ k'.seen ≤ seen ∧ ((k'.text = last ∧ decide (0 < k'.gen) = is) ∨ (cut = true ∧ k'.text = torn ∧ decide (0 < k'.gen) = true)) := by
    cases hc : cut
    · obtain ⟨L0, L1, h1, h2, h3⟩ := h.ok hc
      refine ⟨k, L0, L1, h1.same rfl rfl (by rw [Dk.crash_waits', Dk.crash_len']; exact h.waits) (by rw [Dk.crash_len']; rfl) (fun i hi => ?_), h.from_, h.seens, .inl ⟨h.text, h.gen⟩⟩
      rcases Dk.crash_in (d := d) h.waits keep (i := i) hi with e | e
      · rw [e, Dk.free_now, Dk.now_last h3]
      · rw [Dk.at_nil h3] at e
        simp at e
    · obtain ⟨k', L0, L1, h1, h2, h3, h4⟩ := (h.no hc).2 keep
      exact ⟨k', L0, L1, h1, h2, h3, h4.imp id (fun e => ⟨rfl, e⟩)⟩
  obtain ⟨k', L0, L1, h1, h2, h3, h4⟩ := main
  refine ⟨k', L0, L1, k'.text, decide (0 < k'.gen), h1, h2, ?_, h4⟩
  have := KeptRun.begin (torn := torn) (seen := seen) h1 hp h3
  rw [h2] at this
  exact this
/-- A record is put: it is there; or the power goes; or it is refused. -/
theorem KeptRun.put (h : KeptRun d k f last is cut torn seen) (hseen : seen < 1000000) (t : List UInt8) :
    ((putK d k t).2.2 = 0 ∧ cut = false ∧ KeptRun (putK d k t).1 (putK d k t).2.1 f t true false torn (seen + 1)) ∨
    ((putK d k t).2.2 = 14 ∧ cut = false ∧ KeptRun (putK d k t).1 (putK d k t).2.1 f last is true t (seen + 1)) ∨
    (((putK d k t).2.2 = 11 ∨ (putK d k t).2.2 = 3) ∧ KeptRun (putK d k t).1 (putK d k t).2.1 f last is cut torn (seen + 1)) := by
  have hks := h.seens
  cases hc : cut
  · obtain ⟨L0, L1, h1, h2, h3⟩ := h.ok hc
    have hat := h1.at_
    have hdl := h.dlen
    have hf0 := h.from_
    have hb := h1.broken
    by_cases ht : t.length ≤ 400
    · have e64 : (2 : Nat) ^ (8 * 8) = 18446744073709551616 := by decide
      have hall : allOf t.length ≤ 9 := by unfold allOf; omega
      have hok := cutL_ok t (k.seen + 1) (by omega) (by omega) ht
      have hcl := cutL_len t (k.seen + 1)
      have hml : ((cutL t (k.seen + 1)).map Pt.sec).length = allOf t.length := by rw [List.length_map, hcl]
      have hsz : ∀ q ∈ (cutL t (k.seen + 1)).map Pt.sec, q.size = 64 := by
        intro q hq
        obtain ⟨p, hp, rfl⟩ := List.mem_map.1 hq
        exact sec_size p (hok p hp)
      obtain ⟨A, hA⟩ : ∃ A, k.from_ + (1 - k.at_) * 10 = A := ⟨_, rfl⟩
      have hAl : A + allOf t.length ≤ d.lasts.length := by omega
      have hput : putK d k t = if (writeB d A ((cutL t (k.seen + 1)).map Pt.sec) (allOf t.length)).2 ≠ 0 then
            ((writeB d A ((cutL t (k.seen + 1)).map Pt.sec) (allOf t.length)).1, { k with broken := true }, (writeB d A ((cutL t (k.seen + 1)).map Pt.sec) (allOf t.length)).2) else
          if (writeB d A ((cutL t (k.seen + 1)).map Pt.sec) (allOf t.length)).1.sync.2 ≠ 0 then
            ((writeB d A ((cutL t (k.seen + 1)).map Pt.sec) (allOf t.length)).1.sync.1, { k with broken := true }, (writeB d A ((cutL t (k.seen + 1)).map Pt.sec) (allOf t.length)).1.sync.2) else
          ((writeB d A ((cutL t (k.seen + 1)).map Pt.sec) (allOf t.length)).1.sync.1, k.put t, 0) := by
        unfold putK
        rw [hb, if_neg (by simp), if_neg (by omega), if_neg (by omega), hA, writeN_B _ _ _ _ (by omega)]
        rfl
      have hsame := writeB_same d A ((cutL t (k.seen + 1)).map Pt.sec) h.waits (allOf t.length)
      have mixed : ∀ (D : Dk) (j : Nat), j ≤ allOf t.length → D.free = (writeB d.free A ((cutL t (k.seen + 1)).map Pt.sec) j).1 → D.lasts.length = d.lasts.length → D.waits.length = d.waits.length → D.pend ≤ 40 →
          KeptRun D { k with broken := true } f last is true t (seen + 1) := by
        intro D j hj hD hDl hDw hDp
        refine ⟨h.from_, h.text, h.gen, by show k.seen ≤ seen + 1; omega, hat, by rw [hDw, hDl, h.waits], by rw [hDl]; exact hdl, hDp, fun e => by simp at e, fun _ => ⟨rfl, fun keep => ?_⟩⟩
        obtain ⟨k', L0', L1', m1, m2, m3, m4, -⟩ := h1.mix (d2 := D.crash keep) t ht (by omega) rfl rfl (by rw [Dk.crash_waits', Dk.crash_len', hDw, hDl, h.waits]) (by rw [Dk.crash_len', hDl]; rfl) (fun i hi => by
          rw [hA]
          rcases torn_now h.waits h3 A _ hsz j (by omega) (by omega) hD keep i hi with e | ⟨e1, e2, e3⟩
          · exact .inl e
          · exact .inr ⟨e1, by omega, e3⟩)
        refine ⟨k', L0', L1', m1, by rw [m2, hf0], by omega, ?_⟩
        rcases m4 with e | ⟨e1, e2⟩
        · right
          rw [e]
          exact ⟨rfl, by show decide (0 < k.seen + 1) = true; simp⟩
        · exact .inl ⟨by rw [e1, h.text], by rw [e2, h.gen]⟩
      rcases writeB_two h2 h.waits A _ hsz (allOf t.length) (by omega) hAl with ⟨t1, t2, t3⟩ | ⟨t1, t2, j, t3, t4⟩
      · rw [if_neg (by rw [t1]; simp)] at hput
        obtain ⟨f1, f2, f3, f4⟩ := writeB_free (d := d.free) rfl rfl h.waits A _ hsz (allOf t.length) (by omega) hAl
        have hfs := writeB_same d.free A ((cutL t (k.seen + 1)).map Pt.sec) h.waits (allOf t.length)
        generalize hW : (writeB d A ((cutL t (k.seen + 1)).map Pt.sec) (allOf t.length)).1 = W at *
        generalize hV : (writeB d.free A ((cutL t (k.seen + 1)).map Pt.sec) (allOf t.length)).1 = V at *
        rcases Dk.sync_two t2 with ⟨u1, u2, u3⟩ | ⟨u1, u2, u3⟩
        · rw [if_neg (by rw [u1]; simp)] at hput
          have hD : W.sync.1.free = V.flush := by rw [u3, t3]
          have hVl : V.flush.lasts.length = d.lasts.length := by
            show ((List.range _).map _).length = _
            rw [List.length_map, List.length_range, hfs.1]
            rfl
          have hVw : V.flush.waits.length = d.lasts.length := by
            show (List.map _ _).length = _
            rw [List.length_map, hfs.2.1]
            exact h.waits
          have hnow : ∀ i, i < d.lasts.length → V.flush.now i = if A ≤ i ∧ i < A + allOf t.length then ((cutL t (k.seen + 1)).map Pt.sec).getD (i - A) ByteArray.empty else d.now i := by
            intro i hi
            rw [Dk.flush_now _ _ (by rw [hfs.1]; exact hi), f4]
            rfl
          obtain ⟨k', L0', L1', m1, m2, m3, m4, m5⟩ := h1.mix (d2 := V.flush) t ht (by omega) f2 f3 (by rw [hVw, hVl]) hVl (fun i hi => by
            rw [hA, hnow i hi]
            by_cases c : A ≤ i ∧ i < A + allOf t.length
            · rw [if_pos c]; exact .inr ⟨c.1, c.2, rfl⟩
            · rw [if_neg c]; exact .inl rfl)
          have hk' := m5 (fun i hi => by
            rw [hA, hnow _ (by omega), if_pos (by omega), Nat.add_sub_cancel_left])
          subst hk'
          have hlen2 : W.sync.1.lasts.length = d.lasts.length := (congrArg (fun x : Dk => x.lasts.length) hD).trans hVl
          have hwl2 : W.sync.1.waits.length = d.lasts.length := (congrArg (fun x : Dk => x.waits.length) hD).trans hVw
          have hpend2 : W.sync.1.pend = 0 := (congrArg Dk.pend hD).trans (Dk.flush_pend _)
          rw [hput]
          exact .inl ⟨rfl, rfl, ⟨by rw [m2, hf0], rfl, by show decide (0 < k.seen + 1) = true; simp, by show k.seen + 1 ≤ seen + 1; omega, by show 1 - k.at_ ≤ 1; omega, by rw [hwl2, hlen2], by rw [hlen2]; exact hdl, by rw [hpend2]; omega, fun _ => ⟨L0', L1', by rw [hD]; exact m1, u2, hpend2⟩, fun e => by simp at e⟩⟩
        · rw [if_pos (by rw [u1]; simp), u1] at hput
          rw [hput]
          have hl3 : W.sync.1.lasts = W.lasts := by have := congrArg Dk.lasts u3; exact this
          have hw3 : W.sync.1.waits = W.waits := by have := congrArg Dk.waits u3; exact this
          exact .inr (.inl ⟨rfl, rfl, mixed _ (allOf t.length) (Nat.le_refl _) (by rw [u3, t3, hV]) (by rw [hl3, hsame.1]) (by rw [hw3, hsame.2.1]) (by unfold Dk.pend; rw [hw3]; have := hsame.2.2; unfold Dk.pend at this h3; omega)⟩)
      · rw [if_pos (by rw [t1]; simp), t1] at hput
        rw [hput]
        exact .inr (.inl ⟨rfl, rfl, mixed (writeB d A ((cutL t (k.seen + 1)).map Pt.sec) (allOf t.length)).1 j t3 t4 (by rw [hsame.1]) hsame.2.1 (by have := hsame.2.2; omega)⟩)
    · have hno : putK d k t = (d, k, 3) := by unfold putK; rw [hb, if_neg (by simp), if_pos (by omega)]
      rw [hno]
      subst hc
      exact .inr (.inr ⟨.inr rfl, h.mono (Nat.le_succ _)⟩)
  · have hb := (h.no hc).1
    have hno : putK d k t = (d, k, 11) := by unfold putK; rw [hb, if_pos rfl]
    rw [hno]
    subst hc
    exact .inr (.inr ⟨.inl rfl, h.mono (Nat.le_succ _)⟩)
end
end Go.Proofs.YtpfbgmfkeofefaaGreat

/-
  A log, and what is kept, on a disk with a fuse, in a world.
-/
namespace Go.Proofs.YtpfbgmfkeofefaaGreat
open Go Go.RowKit

section
variable {w0 w w' : World} {p b : Nat} {d d' : Dk} {g : Lg} {X : Nat → Prop} {n ep salt : Nat} {hv : List ByteArray} {cut : Bool} {torn : ByteArray}
theorem LgS.turned {f : FuncId} {args : Array Value} {R : Ending → Prop} (h : LgS w0 w p b d g X)
    (hc : ∀ F, DiskAt w p d F → (∀ q ∈ F, w0.heap.size ≤ q) → Calls Tryz.prog f args w fun e w' => R e ∧ ∃ F', Left w w' p d' F F') : Calls Tryz.prog f args w fun e w' => R e ∧ AddS w0 w w' p b d' g X := by
  obtain ⟨F, v, h1, h2, h3, h4, h5, h6⟩ := h.ex
  refine (hc F h1 h2).mono ?_
  rintro e w' ⟨hR, F', hL⟩
  have hsz := hL.upd.size
  have h0 := h.upd.size
  have hbF := h1.not_mem h3 (by decide) (by decide)
  refine ⟨hR, ⟨⟨F', v, hL.disk, fun q hq => (hL.sub q hq).elim (h2 q) (fun e => Nat.le_trans h0 e), h3.upd hL.upd hbF, h4.upd hL.upd (fun q hq e => (h5 q hq).2 e), fun q hq => ⟨(h5 q hq).1, fun e => ?_⟩, fun q hq => ?_⟩, h.new, h.upd.then hL.upd fun q hq => .inr (h2 q hq)⟩, fun q hq => hL.upd.block q (h6 q hq).1 (h6 q hq).2.2.1, hsz⟩
  · rcases hL.sub q e with c | c
    · exact (h5 q hq).2 c
    · have := h4.lt hq; omega
  · obtain ⟨a0, a1, a2, a3⟩ := h6 q hq
    refine ⟨by omega, a1, fun e => ?_, a3⟩
    rcases hL.sub q e with c | c
    · exact a2 c
    · omega
theorem fuse_g (hS : LgS w0 w p b d g X) (m : Int) (hm : m ≤ 9223372036854775807) :
    Calls Tryz.prog 31 #[.pointer (some ⟨p, 0, none⟩), .int .i64 m] w fun e w' => e = .returned (.tuple #[]) ∧ AddS w0 w w' p b (d.setFuse m) g X :=
  hS.turned (R := fun e => e = .returned (.tuple #[])) fun F h1 _ => (fuse_c h1 m hm).mono fun _ _ hx => ⟨hx.1, F, hx.2⟩
theorem crash_g {v : Value} {keep : List Int} (hS : LgS w0 w p b d g X) (hA : IsInts w0 v keep) :
    Calls Tryz.prog 32 #[.pointer (some ⟨p, 0, none⟩), v] w fun e w' => e = .returned (.tuple #[]) ∧ AddS w0 w w' p b (d.crash keep) g X :=
  hS.turned (R := fun e => e = .returned (.tuple #[])) fun _ h1 h2 => crash_c h1 (KeepAt.of_ints h2 hA hS.upd)
theorem addG_w (hS : LgS w0 w p b d g X) (hR : LogRun d g n ep hv cut torn salt) (hsalt : salt < 1000000) (s : ByteArray) :
    Calls Tryz.prog 12 #[.pointer (some ⟨b, 0, none⟩), .string s] w fun e w' => e = .returned (.int .i64 (addG d g s).2.2) ∧ AddS w0 w w' p b (addG d g s).1 (addG d g s).2.1 X := by
  obtain ⟨F, v, h1, h2, h3, h4, h5, h6⟩ := hS.ex
  have hm := hS.disk.wf.most
  have hdl := hR.dlen
  have hn : g.sectors = n := hR.place.2.1
  have hf : g.from_ = 0 := hR.place.1
  have hep : g.epoch = ep := hR.place.2.2
  have he := hR.epb
  have hu := hR.used
  have hl := hR.len
  have hla := hR.last
  have hsa := hR.salts
  have hpe := hR.pend
  by_cases hc : g.broken = false ∧ s.size ≤ 1024 ∧ partsOf s.size ≤ g.sectors - g.used
  · refine (Add_goes h1 h3 h4 (fun q hq => (h5 q hq).2) s hc.1 hc.2.1 hc.2.2 (by omega) (by omega) (by omega) (by omega) (by omega) (by omega) (by omega) (by omega)).mono ?_
    rintro e w' ⟨rfl, hL⟩
    obtain ⟨F', v', k1, k2, k3, k4, k5, k6⟩ := hL.ex
    have hX : ∀ q, X q → ¬ (q = b ∨ q ∈ F ∨ v.ownBlock = some q) := fun q hq e => by
      obtain ⟨-, a1, a2, a3⟩ := h6 q hq
      rcases e with e | e | e
      · exact a1 e
      · exact a2 e
      · exact a3 e
    have hsz := hL.upd.size
    have h0 := hS.upd.size
    refine ⟨rfl, ⟨⟨F', v', k1, fun q hq => (k2 q hq).elim (h2 q) (fun e => Nat.le_trans h0 e), k3, k4, fun q hq => ⟨(k5 q hq).elim (fun e => (h5 q e).1) (fun e => Nat.le_trans h0 e), k6 q hq⟩, fun q hq => ?_⟩, hS.new, hS.upd.then hL.upd fun q hq => .inr ?_⟩, fun q hq => hL.upd.block q (h6 q hq).1 (hX q hq), hsz⟩
    · obtain ⟨a0, a1, a2, a3⟩ := h6 q hq
      refine ⟨by omega, a1, fun e => ?_, fun e => ?_⟩
      · rcases k2 q e with e | e
        · exact a2 e
        · omega
      · rcases k5 q e with e | e
        · exact a3 e
        · omega
    · rcases hq with rfl | hq | hq
      · exact hS.new
      · exact h2 q hq
      · exact (h5 q hq).1
  · have hadd : addG d g s = (d, g, if g.broken then 11 else if 1024 < s.size then 3 else 6) := by
      unfold addG
      by_cases c0 : g.broken = true
      · rw [if_pos c0, if_pos c0]
      · rw [if_neg c0, if_neg c0]
        by_cases c1 : 1024 < s.size
        · rw [if_pos c1, if_pos c1]
        · rw [if_neg c1, if_neg c1, if_pos]
          left
          have : g.broken = false := by simpa using c0
          by_cases c2 : partsOf s.size ≤ g.sectors - g.used
          · exact absurd ⟨this, by omega, c2⟩ hc
          · omega
    rw [hadd]
    refine (Add_refused hS.log s (by omega) (by omega) ?_).mono ?_
    · by_cases c0 : g.broken = true
      · exact .inl c0
      · have : g.broken = false := by simpa using c0
        by_cases c1 : 1024 < s.size
        · exact .inr (.inl c1)
        · refine .inr (.inr (.inl ?_))
          by_cases c2 : partsOf s.size ≤ g.sectors - g.used
          · exact absurd ⟨this, by omega, c2⟩ hc
          · omega
    · rintro e w' ⟨rfl, hU⟩
      exact ⟨rfl, hS.still hU, fun q hq => hU.block q (h6 q hq).1 (fun e => e), hU.size⟩
theorem records_w (hS : LgS w0 w p b d g X) (hR : LogRun d g n ep hv cut torn salt) :
    Calls Tryz.prog 36 #[.pointer (some ⟨b, 0, none⟩)] w fun e w' => ∃ v', e = .returned v' ∧ Own w' 9 1 v' hv.length (strs hv) ∧ Upd (fun _ => False) w w' ∧ (∀ q, v'.ownBlock = some q → w.heap.size ≤ q) := by
  have hm := hS.disk.wf.most
  have hdl := hR.dlen
  have hl := hR.len
  have := records_c hS.log (by omega)
  rw [hR.recs] at this
  exact this
end

section
variable {w0 w w' : World} {p b f seen : Nat} {d d' : Dk} {k : Kp} {last torn : List UInt8} {is cut : Bool} {L0 L1 : List (Option Pt)}
theorem DkS.turned {fn : FuncId} {args : Array Value} {R : Ending → Prop} (h : DkS w0 w p d) (hK : KpS w0 w p b k)
    (hc : ∀ F, DiskAt w p d F → (∀ q ∈ F, w0.heap.size ≤ q) → Calls Tryz.prog fn args w fun e w' => R e ∧ ∃ F', Left w w' p d' F F') : Calls Tryz.prog fn args w fun e w' => R e ∧ DKS w0 w w' p b d' k ∧ BlkKept w w' := by
  obtain ⟨F, h1, h2⟩ := h.ex
  refine (hc F h1 h2).mono ?_
  rintro e w' ⟨hR, F', hL⟩
  exact ⟨hR, ⟨⟨⟨F', hL.disk, fun q hq => (hL.sub q hq).elim (h2 q) (fun e => Nat.le_trans h.upd.size e)⟩, h.upd.then hL.upd (fun q hq => .inr (h2 q hq))⟩, keeps_of h1 hL.upd _ _ hK, hL.upd.mono fun q hq => .inl (h2 q hq)⟩, fun g t cs hB h3 h4 => hB.upd hL.upd (h1.not_mem hB h3 h4)⟩
theorem fuse_kp (hD : DkS w0 w p d) (hK : KpS w0 w p b k) (m : Int) (hm : m ≤ 9223372036854775807) :
    Calls Tryz.prog 31 #[.pointer (some ⟨p, 0, none⟩), .int .i64 m] w fun e w' => e = .returned (.tuple #[]) ∧ DKS w0 w w' p b (d.setFuse m) k ∧ BlkKept w w' :=
  hD.turned (R := fun e => e = .returned (.tuple #[])) hK fun F h1 _ => (fuse_c h1 m hm).mono fun _ _ hx => ⟨hx.1, F, hx.2⟩
theorem crash_kp {v : Value} {keep : List Int} (hD : DkS w0 w p d) (hK : KpS w0 w p b k) (hA : IsInts w0 v keep) :
    Calls Tryz.prog 32 #[.pointer (some ⟨p, 0, none⟩), v] w fun e w' => e = .returned (.tuple #[]) ∧ DKS w0 w w' p b (d.crash keep) k ∧ BlkKept w w' :=
  hD.turned (R := fun e => e = .returned (.tuple #[])) hK fun _ h1 h2 => crash_c h1 (KeepAt.of_ints h2 hA hD.upd)
theorem open_kp (hD : DkS w0 w p d) (h : KeptG d k L0 L1) (f : Int) (hf : f = (k.from_ : Int)) :
    Calls Tryz.prog 20 #[.pointer (some ⟨p, 0, none⟩), .int .i64 f] w fun e w' => ∃ b, e = .returned (.tuple #[.pointer (some ⟨b, 0, none⟩), .int .i64 0]) ∧ KpS w0 w' p b k ∧ Upd (fun _ => False) w w' ∧ w.heap.size ≤ b := by
  subst hf
  obtain ⟨F, h1, h2⟩ := hD.ex
  refine (Open_on h1 k.from_ h.room h.off).mono ?_
  rintro e w' ⟨v, rfl, hO⟩
  rw [h.opens] at hO ⊢
  obtain ⟨b, rfl, hB, hb⟩ := hO.ok k rfl
  exact ⟨b, rfl, ⟨hB, Nat.le_trans hD.upd.size hb⟩, hO.upd, hb⟩
theorem put_kp (hD : DkS w0 w p d) (hK : KpS w0 w p b k) (hR : KeptRun d k f last is cut torn seen) (hseen : seen < 1000000) (s : ByteArray) :
    Calls Tryz.prog 23 #[.pointer (some ⟨b, 0, none⟩), .string s] w fun e w' => e = .returned (.int .i64 (putK d k s.data.toList).2.2) ∧ DKS w0 w w' p b (putK d k s.data.toList).1 (putK d k s.data.toList).2.1 ∧ BlkKept2 w w' := by
  have hm := hD.wf.most
  have hdl := hR.dlen
  have hf := hR.from_
  have hse := hR.seens
  have hpe := hR.pend
  exact put_any hD hK hR.at_ (by omega) (by omega) (by omega) s
theorem get_b (hK : KpS w0 w p b k) (L : ByteArray) (is : Bool) (ht : k.text = L.data.toList) (hi : decide (0 < k.gen) = is) :
    Calls Tryz.prog 70 #[.pointer (some ⟨b, 0, none⟩)] w fun e w' => e = .returned (.tuple #[.string L, .bool is]) ∧ Upd (fun _ => False) w w' := by
  have := get_at hK L.data.toList is ht hi
  rw [str_eta] at this
  exact this
end
end Go.Proofs.YtpfbgmfkeofefaaGreat
