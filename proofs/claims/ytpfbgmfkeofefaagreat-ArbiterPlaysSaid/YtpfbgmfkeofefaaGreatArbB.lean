/-
  A register in a world: Open, Epoch, Holder, Grant.
-/
import Derived.Test.YtpfbgmfkeofefaaGreatArbA
import Derived.Test.YtpfbgmfkeofefaaGreatKeptX
namespace Go.Proofs.YtpfbgmfkeofefaaGreat
open Go Go.RowKit

theorem DkS.far {w0 w w' : World} {p a : Nat} {d : Dk} {t : TypeId} {cs : Array Value} (h : DkS w0 w p d) (hB : Blk w a t cs) (h1 : t ≠ 93) (h2 : t ≠ 9) (ha : w0.heap.size ≤ a) (hu : Upd (· = a) w w') : DkS w0 w' p d := by
  obtain ⟨F, g1, g2⟩ := h.ex
  have hn := g1.not_mem hB h1 h2
  exact ⟨⟨F, g1.upd hu (fun q hq e => hn (e ▸ hq)), g2⟩, h.upd.then hu (fun q e => .inr (e ▸ ha))⟩
/-- A register. -/
structure ArbS (w0 w : World) (a b n : Nat) (h : Int) : Prop where
  blk : Blk w a 143 #[.pointer (some ⟨b, 0, none⟩), .int .i64 (n : Int), .int .i64 h]
  new : w0.heap.size ≤ a
theorem ArbS.still {w0 w w' : World} {a b n : Nat} {h : Int} (hA : ArbS w0 w a b n h) (hu : Upd (fun _ => False) w w') : ArbS w0 w' a b n h := ⟨hA.blk.upd hu (fun e => e), hA.new⟩
/-- What a register is of what is kept: the epoch, the holder, what bars it. -/
def openA (k : Kp) : Nat × Int × Int := if 0 < k.gen then ((readA k.text).1, ((readA k.text).2.1 : Int), (readA k.text).2.2) else (0, -1, 0)
structure ArbO (w0 w w' : World) (p : Nat) (k : Kp) (A : Nat × Int × Int) (v : Value) : Prop where
  upd : Upd (fun _ => False) w w'
  bad : A.2.2 ≠ 0 → v = .pointer none
  ok : A.2.2 = 0 → ∃ a b, v = .pointer (some ⟨a, 0, none⟩) ∧ ArbS w0 w' a b A.1 A.2.1 ∧ KpS w0 w' p b k ∧ w.heap.size ≤ a ∧ w.heap.size ≤ b
section
variable {w0 w w' : World} {p a b n : Nat} {h : Int} {d : Dk} {k : Kp}
set_option maxRecDepth 100000 in
theorem arb_open_bad (E : Int) (he : E ≠ 0) (hO : Calls Tryz.prog 20 #[.pointer (some ⟨p, 0, none⟩), .int .i64 0] w fun en w' => en = .returned (.tuple #[.pointer none, .int .i64 E]) ∧ Upd (fun _ => False) w w') :
    Calls Tryz.prog 29 #[.pointer (some ⟨p, 0, none⟩)] w fun en w' => en = .returned (.tuple #[.pointer none, .int .i64 E]) ∧ Upd (fun _ => False) w w' := by
  have hE : (E != 0) = true := bne_iff_ne.2 he
  have HO := Lib.hid hO
  clear hO
  go_enter Tryz.func29, Tryz.ntmps29
  go_wp2_with fail
  refine HO.out.mono ?_
  rintro e w1 ⟨rfl, hU⟩
  have HU := Lib.hid hU
  clear hU
  go_wp2_with fail
  go_ret2
  exact ⟨rfl, HU.out⟩
set_option maxRecDepth 100000 in
theorem arb_open_k (hw : w0.heap.size ≤ w.heap.size) (hO : Calls Tryz.prog 20 #[.pointer (some ⟨p, 0, none⟩), .int .i64 0] w fun en w' => ∃ b, en = .returned (.tuple #[.pointer (some ⟨b, 0, none⟩), .int .i64 0]) ∧ KpS w0 w' p b k ∧ Upd (fun _ => False) w w' ∧ w.heap.size ≤ b) :
    Calls Tryz.prog 29 #[.pointer (some ⟨p, 0, none⟩)] w fun en w' => ∃ v, en = .returned (.tuple #[v, .int .i64 (openA k).2.2]) ∧ ArbO w0 w w' p k (openA k) v := by
  have HO := Lib.hid hO
  have HRd := Lib.hid (fun W => readA_c (str k.text) W)
  rw [str_list] at HRd
  clear hO
  unfold openA
  by_cases hg : 0 < k.gen
  · rw [if_pos hg]
    simp only
    have hgt : decide (0 < k.gen) = true := decide_eq_true hg
    obtain ⟨⟨n, h, E⟩, hq⟩ : ∃ q, readA k.text = q := ⟨_, rfl⟩
    rw [hq] at HRd ⊢
    simp only at HRd ⊢
    clear hq
    by_cases he : E = 0
    · subst he
      go_enter Tryz.func29, Tryz.ntmps29
      go_wp2_with fail
      refine HO.out.mono ?_
      rintro e w1 ⟨b, rfl, hK, hU, hb⟩
      have H1 := Lib.hid (And.intro hK (And.intro hU hb))
      clear hK hU hb
      go_wp2_with fail
      refine (get_s (H1.out.1.still ((Upd.refl (fun _ => False) w1).alloc _))).mono ?_
      rintro e w2 ⟨rfl, hU2⟩
      rw [hgt]
      have H2 := Lib.hid hU2
      clear hU2
      go_wp2_with fail
      refine (HRd.out _).mono ?_
      rintro e w3 ⟨rfl, hU3⟩
      have hB : Blk w3 w1.heap.size 143 #[.pointer (some ⟨b, 0, none⟩), .int .i64 0, .int .i64 (-1)] := ((Blk.new w1 _ _).upd H2.out (fun e => e)).upd hU3 (fun e => e)
      have hc := hB.cells3
      have hf1 := hB.frozen 1
      have hf2 := hB.frozen 2
      have H3 := Lib.hid (And.intro hU3 hB)
      clear hU3 hB
      go_wp2_with fail
      go_ret2
      have hU := ((((H1.out.2.1.alloc _).then H2.out (fun _ e => e.elim)).then H3.out.1 (fun _ e => e.elim)))
      refine ⟨_, rfl, ⟨(hU.setCell (p := ⟨w1.heap.size, 1, none⟩) (.inr (by exact H1.out.2.1.size)) _).setCell (p := ⟨w1.heap.size, 2, none⟩) (.inr (by exact H1.out.2.1.size)) _, fun e => absurd rfl e, fun _ => ⟨w1.heap.size, b, rfl, ⟨?_, Nat.le_trans hw H1.out.2.1.size⟩, ⟨?_, H1.out.1.new⟩, H1.out.2.1.size, H1.out.2.2⟩⟩⟩
      · have := (H3.out.2.set_ 1 (.int .i64 (n : Int))).set_ 2 (.int .i64 (h : Int))
        simpa using this
      · have hk := ((H1.out.1.blk.alloc _).upd H2.out (fun e => e)).upd H3.out.1 (fun e => e)
        have hne : b ≠ w1.heap.size := by have := H1.out.1.blk.lt; omega
        exact (hk.far (p := ⟨w1.heap.size, 1, none⟩) hne _).far (p := ⟨w1.heap.size, 2, none⟩) hne _
    · have hE : (E != 0) = true := bne_iff_ne.2 he
      go_enter Tryz.func29, Tryz.ntmps29
      go_wp2_with fail
      refine HO.out.mono ?_
      rintro e w1 ⟨b, rfl, hK, hU, hb⟩
      have H1 := Lib.hid (And.intro hK (And.intro hU hb))
      clear hK hU hb
      go_wp2_with fail
      refine (get_s (H1.out.1.still ((Upd.refl (fun _ => False) w1).alloc _))).mono ?_
      rintro e w2 ⟨rfl, hU2⟩
      rw [hgt]
      have H2 := Lib.hid hU2
      clear hU2
      go_wp2_with fail
      refine (HRd.out _).mono ?_
      rintro e w3 ⟨rfl, hU3⟩
      have hB : Blk w3 w1.heap.size 143 #[.pointer (some ⟨b, 0, none⟩), .int .i64 0, .int .i64 (-1)] := ((Blk.new w1 _ _).upd H2.out (fun e => e)).upd hU3 (fun e => e)
      have hc := hB.cells3
      have hf1 := hB.frozen 1
      have hf2 := hB.frozen 2
      have H3 := Lib.hid (And.intro hU3 hB)
      clear hU3 hB
      go_wp2_with fail
      go_ret2
      have hU := ((((H1.out.2.1.alloc _).then H2.out (fun _ e => e.elim)).then H3.out.1 (fun _ e => e.elim)))
      exact ⟨_, rfl, ⟨(hU.setCell (p := ⟨w1.heap.size, 1, none⟩) (.inr (by exact H1.out.2.1.size)) _).setCell (p := ⟨w1.heap.size, 2, none⟩) (.inr (by exact H1.out.2.1.size)) _, fun _ => rfl, fun e => absurd e he⟩⟩
  · rw [if_neg hg]
    have hgt : decide (0 < k.gen) = false := decide_eq_false hg
    go_enter Tryz.func29, Tryz.ntmps29
    go_wp2_with fail
    refine HO.out.mono ?_
    rintro e w1 ⟨b, rfl, hK, hU, hb⟩
    have H1 := Lib.hid (And.intro hK (And.intro hU hb))
    clear hK hU hb
    go_wp2_with fail
    refine (get_s (H1.out.1.still ((Upd.refl (fun _ => False) w1).alloc _))).mono ?_
    rintro e w2 ⟨rfl, hU2⟩
    rw [hgt]
    have H2 := Lib.hid hU2
    clear hU2
    go_wp2_with fail
    go_ret2
    refine ⟨_, rfl, ⟨(H1.out.2.1.alloc _).then H2.out (fun _ e => e.elim), fun e => absurd rfl e, fun _ => ⟨w1.heap.size, b, rfl, ⟨(Blk.new w1 _ _).upd H2.out (fun e => e), Nat.le_trans hw H1.out.2.1.size⟩, ⟨(H1.out.1.blk.alloc _).upd H2.out (fun e => e), H1.out.1.new⟩, H1.out.2.1.size, H1.out.2.2⟩⟩⟩
set_option maxRecDepth 100000 in
theorem arb_epoch (hA : ArbS w0 w a b n h) : Calls Tryz.prog 26 #[.pointer (some ⟨a, 0, none⟩)] w fun e w' => e = .returned (.int .i64 (n : Int)) ∧ w = w' := by
  have hc := hA.blk.cells3
  clear hA
  go_enter Tryz.func26, Tryz.ntmps26
  go_wp2_with fail
  go_ret
  exact ⟨rfl, rfl⟩
set_option maxRecDepth 100000 in
theorem arb_holder (hA : ArbS w0 w a b n h) : Calls Tryz.prog 27 #[.pointer (some ⟨a, 0, none⟩)] w fun e w' => e = .returned (.int .i64 h) ∧ w = w' := by
  have hc := hA.blk.cells3
  clear hA
  go_enter Tryz.func27, Tryz.ntmps27
  go_wp2_with fail
  go_ret
  exact ⟨rfl, rfl⟩
set_option maxRecDepth 100000 in
theorem epoch_nil (w : World) : Calls Tryz.prog 26 #[.pointer none] w fun e w' => e = .returned (.int .i64 0) ∧ w = w' := by
  go_enter Tryz.func26, Tryz.ntmps26
  go_wp2_with fail
  go_ret
  exact ⟨rfl, rfl⟩
set_option maxRecDepth 100000 in
theorem holder_nil (w : World) : Calls Tryz.prog 27 #[.pointer none] w fun e w' => e = .returned (.int .i64 (-1)) ∧ w = w' := by
  go_enter Tryz.func27, Tryz.ntmps27
  go_wp2_with fail
  go_ret
  exact ⟨rfl, rfl⟩
set_option maxRecDepth 100000 in
theorem grant_nil (c : Int) (w : World) : Calls Tryz.prog 30 #[.pointer none, .int .i64 c] w fun e w' => e = .returned (.tuple #[.int .i64 0, .int .i64 2]) ∧ w = w' := by
  go_enter Tryz.func30, Tryz.ntmps30
  go_wp2_with fail
  go_ret2
  exact ⟨rfl, rfl⟩
set_option maxRecDepth 100000 in
theorem grant_bad (hA : ArbS w0 w a b n h) (c : Int) (hc : placeB c = false) :
    Calls Tryz.prog 30 #[.pointer (some ⟨a, 0, none⟩), .int .i64 c] w fun e w' => e = .returned (.tuple #[.int .i64 0, .int .i64 1]) ∧ w = w' := by
  have hcs := hA.blk.cells3
  have HP := Lib.hid (place_c c)
  rw [hc] at HP
  clear hA hc
  go_enter Tryz.func30, Tryz.ntmps30
  go_wp2_with fail
  refine (HP.out _).mono ?_
  rintro e w1 ⟨rfl, rfl⟩
  go_wp2_with fail
  go_ret2
  exact ⟨rfl, rfl⟩
set_option maxRecDepth 100000 in
theorem grant_full (hA : ArbS w0 w a b n h) (c : Int) (hc : placeB c = true) (hn : n = 9223372036854775807) :
    Calls Tryz.prog 30 #[.pointer (some ⟨a, 0, none⟩), .int .i64 c] w fun e w' => e = .returned (.tuple #[.int .i64 0, .int .i64 6]) ∧ w = w' := by
  subst hn
  have hcs := hA.blk.cells3
  have HP := Lib.hid (place_c c)
  rw [hc] at HP
  clear hA hc
  go_enter Tryz.func30, Tryz.ntmps30
  go_wp2_with fail
  refine (HP.out _).mono ?_
  rintro e w1 ⟨rfl, rfl⟩
  go_wp2_with fail
  go_ret2
  exact ⟨rfl, rfl⟩
/-- Blocks of other types are as they were. -/
def BlkKept3 (w w' : World) : Prop := ∀ g t cs, Blk w g t cs → t ≠ 93 → t ≠ 9 → t ≠ 122 → t ≠ 143 → Blk w' g t cs
/-- What a Grant that is not refused leaves. -/
structure GrantS (w0 w w' : World) (p a b n : Nat) (h c : Int) (R : Dk × Kp × Int) : Prop where
  disk : DKS w0 w w' p b R.1 R.2.1
  arb : ArbS w0 w' a b (if R.2.2 = 0 then n + 1 else n) (if R.2.2 = 0 then c else h)
  others : BlkKept3 w w'
  arbs : ∀ g cs, g ≠ a → Blk w g 143 cs → Blk w' g 143 cs
set_option maxRecDepth 100000 in
theorem grant_goes (hD : DkS w0 w p d) (hK : KpS w0 w p b k) (hA : ArbS w0 w a b n h) (c : Int) (hc : placeB c = true) (hn : n < 9223372036854775807) (hat : k.at_ ≤ 1) (hf : k.from_ ≤ 4096) (hse : k.seen < 18446744073709551616) (hpe : d.pend + 20 < 1000000) :
    Calls Tryz.prog 30 #[.pointer (some ⟨a, 0, none⟩), .int .i64 c] w fun e w' => e = .returned (.tuple #[.int .i64 (if (putK d k (bytesA (n + 1) c.toNat)).2.2 = 0 then (n : Int) + 1 else 0), .int .i64 (putK d k (bytesA (n + 1) c.toNat)).2.2]) ∧ GrantS w0 w w' p a b n h c (putK d k (bytesA (n + 1) c.toNat)) := by
  have hcs := hA.blk.cells3
  have HP := Lib.hid (place_c c)
  have hby : bytesE ((n : Int) + 1) c = (bytesA (n + 1) c.toNat, 0) := by
    unfold bytesE
    rw [if_neg (by rw [hc]; simp; omega)]
    rfl
  have HB := Lib.hid (fun W => bytes_c ((n : Int) + 1) c (by omega) W)
  rw [hby] at HB
  have HPut : Hid (∀ W, Upd (fun _ => False) w W → Calls Tryz.prog 23 #[.pointer (some ⟨b, 0, none⟩), .string (str (bytesA (n + 1) c.toNat))] W fun e w' => e = .returned (.int .i64 (putK d k (bytesA (n + 1) c.toNat)).2.2) ∧ DKS w0 W w' p b (putK d k (bytesA (n + 1) c.toNat)).1 (putK d k (bytesA (n + 1) c.toNat)).2.1 ∧ BlkKept2 W w') := Lib.hid fun W hU => by
    have := put_any (hD.still hU) (hK.still hU) hat hf hse hpe (str (bytesA (n + 1) c.toNat))
    rw [str_list] at this
    exact this
  rw [hc] at HP
  generalize str (bytesA (n + 1) c.toNat) = S at *
  obtain ⟨⟨D, K, E⟩, hR⟩ : ∃ R, putK d k (bytesA (n + 1) c.toNat) = R := ⟨_, rfl⟩
  rw [hR] at HPut ⊢
  simp only at HPut ⊢
  have HA := Lib.hid hA
  have hwr : IntKind.i64.wrap ((n : Int) + 1) = (n : Int) + 1 := IntWalk.i64_in _ (by omega)
  have hnb : ((n : Int) == 9223372036854775807) = false := by rw [beq_eq_false_iff_ne]; omega
  clear hA hc hby hR hD hK
  by_cases he : E = 0
  · subst he
    go_enter Tryz.func30, Tryz.ntmps30
    go_wp2_with fail
    refine (HP.out _).mono ?_
    rintro e w1 ⟨rfl, rfl⟩
    go_wp2_with fail
    refine (HB.out _).mono ?_
    rintro e w2 ⟨rfl, hU2⟩
    have hc2 := (HA.out.blk.upd hU2 (fun e => e)).cells3
    have H2 := Lib.hid hU2
    clear hU2 hcs
    go_wp2_with fail
    refine (HPut.out _ H2.out).mono ?_
    rintro e w3 ⟨rfl, hS, hB3⟩
    have hblk := hB3 _ _ _ (HA.out.blk.upd H2.out (fun e => e)) (by decide) (by decide) (by decide)
    have hc3 := hblk.cells3
    have hf1 := hblk.frozen 1
    have hf2 := hblk.frozen 2
    have H3 := Lib.hid (And.intro hS (And.intro hB3 hblk))
    clear hS hB3 hblk hc2
    go_wp2_with fail
    go_ret2
    have hUa : Upd (· = a) w3 ((w3.setCell ⟨a, 1, none⟩ (.int .i64 ((n : Int) + 1))).setCell ⟨a, 2, none⟩ (.int .i64 c)) := ((Upd.refl (· = a) w3).setCell (p := ⟨a, 1, none⟩) (.inl rfl) _).setCell (p := ⟨a, 2, none⟩) (.inl rfl) _
    refine ⟨rfl, ⟨⟨H3.out.1.disk.far H3.out.2.2 (by decide) (by decide) HA.out.new hUa, ⟨H3.out.1.kept.blk.upd hUa (fun e => H3.out.1.kept.blk.ne_ H3.out.2.2 (by decide) e), H3.out.1.kept.new⟩, ((H2.out.mono (fun _ e => e.elim)).then H3.out.1.upd (fun q hq => .inl hq)).then hUa (fun q e => .inl (e ▸ HA.out.new))⟩, ⟨?_, HA.out.new⟩, fun g t cs hB t1 t2 t3 t4 => (H3.out.2.1 g t cs (hB.upd H2.out (fun e => e)) t1 t2 t3).upd hUa (fun e => (H3.out.2.1 g t cs (hB.upd H2.out (fun e => e)) t1 t2 t3).ne_ H3.out.2.2 t4 e), fun g cs hg hB => (H3.out.2.1 g _ cs (hB.upd H2.out (fun e => e)) (by decide) (by decide) (by decide)).upd hUa hg⟩⟩
    have := (H3.out.2.2.set_ 1 (.int .i64 ((n : Int) + 1))).set_ 2 (.int .i64 c)
    simpa using this
  · have hE : (E != 0) = true := bne_iff_ne.2 he
    simp only [if_neg he]
    go_enter Tryz.func30, Tryz.ntmps30
    go_wp2_with fail
    refine (HP.out _).mono ?_
    rintro e w1 ⟨rfl, rfl⟩
    go_wp2_with fail
    refine (HB.out _).mono ?_
    rintro e w2 ⟨rfl, hU2⟩
    have hc2 := (HA.out.blk.upd hU2 (fun e => e)).cells3
    have H2 := Lib.hid hU2
    clear hU2 hcs
    go_wp2_with fail
    refine (HPut.out _ H2.out).mono ?_
    rintro e w3 ⟨rfl, hS, hB3⟩
    have H3 := Lib.hid (And.intro hS hB3)
    clear hS hB3 hc2
    go_wp2_with fail
    go_ret2
    refine ⟨rfl, ⟨⟨H3.out.1.disk, H3.out.1.kept, (H2.out.mono (fun _ e => e.elim)).then H3.out.1.upd (fun q hq => .inl hq)⟩, ⟨?_, HA.out.new⟩, fun g t cs hB t1 t2 t3 t4 => H3.out.2 g t cs (hB.upd H2.out (fun e => e)) t1 t2 t3, fun g cs _ hB => H3.out.2 g _ cs (hB.upd H2.out (fun e => e)) (by decide) (by decide) (by decide)⟩⟩
    rw [if_neg he, if_neg he]
    exact H3.out.2 _ _ _ (HA.out.blk.upd H2.out (fun e => e)) (by decide) (by decide) (by decide)
end
end Go.Proofs.YtpfbgmfkeofefaaGreat
