/-
  What a law knows of a disk and of what is kept on it; the wake of the laws of chapter 09.
-/
import Derived.Test.YtafgohnpnaiomaaLawP
namespace Go.Proofs.Ytafgohnpnaiomaa
open Go Go.RowKit

/-- A disk that was made behind the world w0. -/
structure DkS (w0 w : World) (p : Nat) (d : Dk) : Prop where
  ex : ∃ F, DiskAt w p d F ∧ ∀ q ∈ F, w0.heap.size ≤ q
  upd : Upd (fun _ => False) w0 w
/-- What is kept, made behind the world w0. -/
structure KpS (w0 w : World) (p b : Nat) (k : Kp) : Prop where
  blk : Blk w b 120 (k.cells p)
  new : w0.heap.size ≤ b
section
variable {w0 w w' : World} {p b : Nat} {d : Dk} {k : Kp}
theorem DkS.still (h : DkS w0 w p d) (hu : Upd (fun _ => False) w w') : DkS w0 w' p d := by
  obtain ⟨F, h1, h2⟩ := h.ex
  exact ⟨⟨F, h1.upd hu (fun _ _ e => e), h2⟩, h.upd.then hu (fun _ e => e.elim)⟩
theorem KpS.still (h : KpS w0 w p b k) (hu : Upd (fun _ => False) w w') : KpS w0 w' p b k := ⟨h.blk.upd hu (fun e => e), h.new⟩
theorem DkS.below (h : DkS w0 w p d) (hb : Below w.heap.size w w') : DkS w0 w' p d := h.still (Upd.of_below hb _)
theorem KpS.below (h : KpS w0 w p b k) (hb : Below w.heap.size w w') : KpS w0 w' p b k := h.still (Upd.of_below hb _)
theorem DkS.drew (h : DkS w0 w p d) : DkS w0 w.drew p d := h.still (Upd.refl _ _).drew
theorem KpS.drew (h : KpS w0 w p b k) : KpS w0 w.drew p b k := h.still (Upd.refl _ _).drew
theorem DkS.wf (h : DkS w0 w p d) : d.wf := by obtain ⟨F, h1, _⟩ := h.ex; exact h1.wf
theorem DkS.left {d' : Dk} (h : DkS w0 w p d) (hL : ∀ F, DiskAt w p d F → ∃ F', Left w w' p d' F F') : DkS w0 w' p d' := by
  obtain ⟨F, h1, h2⟩ := h.ex
  obtain ⟨F', hl⟩ := hL F h1
  exact ⟨⟨F', hl.disk, fun q hq => (hl.sub q hq).elim (h2 q) (fun e => Nat.le_trans h.upd.size e)⟩, h.upd.then hl.upd (fun q hq => .inr (h2 q hq))⟩
end
theorem new_s (n : Nat) (w : World) (h1 : 1 ≤ n) (h2 : n ≤ 4096) :
    Calls Try.prog 25 #[.int .i64 (n : Int)] w fun e w' => ∃ p, e = .returned (.tuple #[.pointer (some ⟨p, 0, none⟩), .int .i64 0]) ∧ DkS w w' p (Dk.fresh n) := by
  refine (New_c n w h1 h2).mono ?_
  rintro e w' ⟨p, F, rfl, hD, hU, hF⟩
  exact ⟨p, rfl, ⟨F, hD, hF⟩, hU⟩
theorem open_s {w0 w : World} {p : Nat} {d : Dk} {k : Kp} {l0 l1 : List Pt} (hD : DkS w0 w p d) (h : KeptIs d k l0 l1) :
    Calls Try.prog 28 #[.pointer (some ⟨p, 0, none⟩), .int .i64 (k.from_ : Int)] w fun e w' => ∃ b, e = .returned (.tuple #[.pointer (some ⟨b, 0, none⟩), .int .i64 0]) ∧ KpS w0 w' p b k ∧ Upd (fun _ => False) w w' ∧ w.heap.size ≤ b := by
  obtain ⟨F, h1, h2⟩ := hD.ex
  refine (Open_s h1 h).mono ?_
  rintro e w' ⟨b, rfl, hB, hU, hb⟩
  exact ⟨b, rfl, ⟨hB, Nat.le_trans hD.upd.size hb⟩, hU, hb⟩
theorem put_s {w0 w : World} {p b : Nat} {d : Dk} {k : Kp} {l0 l1 : List Pt} (hD : DkS w0 w p d) (hK : KpS w0 w p b k) (h : KeptIs d k l0 l1) (s : ByteArray) (hs : s.size ≤ 400) (hn : k.seen < 1000) (hp : d.pend < 900000) :
    Calls Try.prog 29 #[.pointer (some ⟨b, 0, none⟩), .string s] w fun e w' => e = .returned (.int .i64 0) ∧ DkS w0 w' p (putD d k s.data.toList) ∧ KpS w0 w' p b (k.put s.data.toList) ∧
      (∀ b' k', b' ≠ b → KpS w0 w p b' k' → KpS w0 w' p b' k') := by
  obtain ⟨F, h1, h2⟩ := hD.ex
  refine (Put_s h1 hK.blk h s hs hn hp).mono ?_
  rintro e w' ⟨rfl, hL⟩
  obtain ⟨F', h3, h4⟩ := hL.disk
  refine ⟨rfl, ⟨⟨F', h3, fun q hq => (h4 q hq).elim (h2 q) (fun e => Nat.le_trans hD.upd.size e)⟩, hD.upd.then hL.upd (fun q hq => .inr (hq.elim (fun e => e ▸ hK.new) (h2 q)))⟩, ⟨hL.kept, hK.new⟩, fun b' k' hne hK' => ⟨hK'.blk.upd hL.upd (fun e => e.elim hne (h1.not_mem hK'.blk (by decide) (by decide))), hK'.new⟩⟩
theorem get_s {w0 w : World} {p b : Nat} {k : Kp} (hK : KpS w0 w p b k) :
    Calls Try.prog 30 #[.pointer (some ⟨b, 0, none⟩)] w fun e w' => e = .returned (.tuple #[.string (str k.text), .bool (decide (0 < k.gen))]) ∧ Upd (fun _ => False) w w' := by
  refine (Get_c hK.blk).mono ?_
  rintro e w' ⟨rfl, hb⟩
  exact ⟨rfl, Upd.of_below hb _⟩

set_option maxRecDepth 100000 in
set_option maxHeartbeats 800000 in
theorem awake_09 (w : World) : Calls Try.prog 24 #[] w fun e w' => e = .returned (.bool true) ∧ Upd (fun _ => False) w w' := by
  have HN := Lib.hid (new_s 20 w (by omega) (by omega))
  have k0 := fresh_is 20 0 (by omega)
  obtain ⟨-, ⟨x0, x1, k1⟩, n1, p1⟩ := put_is' k0 [97] (by decide) (by decide)
  obtain ⟨-, ⟨y0, y1, k2⟩, n2, p2⟩ := put_is' k1 [98] (by decide) (by decide)
  have K0 := Lib.hid k0
  have K1 := Lib.hid (And.intro k1 p1)
  have K2 := Lib.hid (And.intro k2 p2)
  clear k0 k1 k2 n1 n2 p1 p2
  go_enter Try.func24, Try.ntmps24
  go_wp2_with fail
  refine HN.out.mono ?_
  rintro e w1 ⟨p, rfl, hD⟩
  have H1 := Lib.hid hD
  clear hD HN
  go_wp2_with fail
  refine (open_s H1.out K0.out).mono ?_
  rintro e w2 ⟨b, rfl, hK, hU, -⟩
  have H2 := Lib.hid (And.intro (H1.out.still hU) hK)
  clear hK hU H1
  go_wp2_with fail
  refine (get_s H2.out.2).mono ?_
  rintro e w3 ⟨rfl, hU⟩
  have H3 := Lib.hid (And.intro (H2.out.1.still hU) (H2.out.2.still hU))
  clear hU H2
  go_wp2_with fail
  refine (put_s H3.out.1 H3.out.2 K0.out ⟨#[97]⟩ (by decide) (by decide) (by decide)).mono ?_
  rintro e w4 ⟨rfl, hD, hK, -⟩
  have H4 := Lib.hid (And.intro hD hK)
  clear hD hK H3
  go_wp2_with fail
  refine (put_s H4.out.1 H4.out.2 K1.out.1 ⟨#[98]⟩ (by decide) (by decide) (by have := K1.out.2; omega)).mono ?_
  rintro e w5 ⟨rfl, hD, hK, -⟩
  have H5 := Lib.hid (And.intro hD hK)
  clear hD hK H4
  go_wp2_with fail
  refine (open_s H5.out.1 K2.out.1).mono ?_
  rintro e w6 ⟨b', rfl, hK, hU, -⟩
  have H6 := Lib.hid (And.intro (H5.out.1.still hU) hK)
  clear hK hU H5
  go_wp2_with fail
  refine (show Calls Try.prog 30 _ _ (fun e w' => e = .returned (.tuple #[.string ⟨#[98]⟩, .bool true]) ∧ Upd (fun _ => False) _ w') from get_s H6.out.2).mono ?_
  rintro e w7 ⟨rfl, hU⟩
  have H7 := Lib.hid (H6.out.1.still hU)
  clear hU H6
  go_wp2
  go_ret
  exact ⟨rfl, H7.out.upd⟩
end Go.Proofs.Ytafgohnpnaiomaa
