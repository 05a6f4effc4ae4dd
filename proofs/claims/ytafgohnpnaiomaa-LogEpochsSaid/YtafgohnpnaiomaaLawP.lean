/-
  What is kept, in a world: open, put, get; the wake of the laws of chapter 09.
-/
import Derived.Test.YtafgohnpnaiomaaLawO
namespace Go.Proofs.Ytafgohnpnaiomaa
open Go Go.RowKit

theorem fresh_slot (n a : Nat) (h : a + 10 ≤ n) : SlotIs (Dk.fresh n) a [] := by
  refine ⟨by simp, by simp, by simp, fun i _ hi => ?_⟩
  have e : (Dk.fresh n).now (a + i) = zeros64 := by
    unfold Dk.now Dk.at_ Dk.last Dk.fresh
    simp only [List.getD_eq_getElem?_getD, List.getElem?_replicate]
    rw [if_pos (by omega), if_pos (by omega)]
    rfl
  rw [e]
  rfl
theorem fresh_is (n f : Nat) (h : f + 20 ≤ n) : KeptIs (Dk.fresh n) ⟨f, [], 0, 1, 0, false⟩ [] [] := by
  refine ⟨rfl, rfl, by simp [Dk.fresh], by simpa [Dk.fresh] using h, fresh_slot n f (by omega), fresh_slot n (f + 10) (by omega), by simp, by simp, by simp, rfl, ?_⟩
  rw [open_is (fresh_slot n f (by omega)) (fresh_slot n (f + 10) (by omega))]
  rfl
theorem KeptIs.from_eq {d : Dk} {k : Kp} {l0 l1 : List Pt} (h : KeptIs d k l0 l1) : openN d k.from_ 2 = some k := h.opens
theorem Open_s {w : World} {p : Nat} {d : Dk} {F : List Nat} {k : Kp} {l0 l1 : List Pt} (hD : DiskAt w p d F) (h : KeptIs d k l0 l1) :
    Calls Try.prog 28 #[.pointer (some ⟨p, 0, none⟩), .int .i64 (k.from_ : Int)] w fun e w' => ∃ b, e = .returned (.tuple #[.pointer (some ⟨b, 0, none⟩), .int .i64 0]) ∧ Blk w' b 120 (k.cells p) ∧ Upd (fun _ => False) w w' ∧ w.heap.size ≤ b := by
  refine (Open_on hD k.from_ h.room h.off).mono ?_
  rintro e w' ⟨v, rfl, hO⟩
  rw [h.opens] at hO
  obtain ⟨b, rfl, hB, hb⟩ := hO.ok k rfl
  exact ⟨b, by rw [h.opens]; rfl, hB, hO.upd, hb⟩
/-- The record behind a Put. -/
def Kp.put (k : Kp) (t : List UInt8) : Kp := { k with seen := k.seen + 1, text := t, gen := k.seen + 1, at_ := 1 - k.at_, broken := false }
/-- The disk behind a Put. -/
def putD (d : Dk) (k : Kp) (t : List UInt8) : Dk := (writeN d (k.from_ + (1 - k.at_) * 10) (cutL t (k.seen + 1)) (allOf t.length)).1.flush
theorem put_is' {d : Dk} {k : Kp} {l0 l1 : List Pt} (h : KeptIs d k l0 l1) (t : List UInt8) (ht : t.length ≤ 400) (hs : k.seen + 1 < 18446744073709551616) :
    putK d k t = (putD d k t, k.put t, 0) ∧ (∃ l0' l1', KeptIs (putD d k t) (k.put t) l0' l1') ∧ (putD d k t).lasts.length = d.lasts.length ∧ (putD d k t).pend = 0 := by
  obtain ⟨d', l0', l1', h1, h2, h3, h4, rfl⟩ := put_is h t ht hs
  exact ⟨h1, ⟨l0', l1', h2⟩, h3, h4⟩
theorem Put_s {w : World} {p b : Nat} {d : Dk} {F : List Nat} {k : Kp} {l0 l1 : List Pt} (hD : DiskAt w p d F) (hK : Blk w b 120 (k.cells p)) (h : KeptIs d k l0 l1) (s : ByteArray) (hs : s.size ≤ 400) (hn : k.seen < 1000) (hp : d.pend < 900000) :
    Calls Try.prog 29 #[.pointer (some ⟨b, 0, none⟩), .string s] w fun e w' => e = .returned (.int .i64 0) ∧ PutLeft w w' p b (putD d k s.data.toList) (k.put s.data.toList) F := by
  have hr := h.room
  have hm := hD.wf.most
  refine (Put_goes hD hK s h.broken hs (by omega) h.at_ (by omega) (by omega)).mono ?_
  rintro e w' ⟨rfl, hL⟩
  obtain ⟨h1, -⟩ := put_is' h s.data.toList (by simpa using hs) (by omega)
  rw [h1] at hL ⊢
  exact ⟨rfl, hL⟩
end Go.Proofs.Ytafgohnpnaiomaa
