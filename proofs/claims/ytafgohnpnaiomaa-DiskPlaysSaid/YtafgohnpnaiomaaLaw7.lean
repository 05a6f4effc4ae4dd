/-
  What a law knows of disks; the helpers and the wake of the laws of chapter 07.
-/
import Derived.Test.YtafgohnpnaiomaaLawW
import Derived.Test.YtafgohnpnaiomaaRep
import Derived.Test.YtafgohnpnaiomaaDiskI
import Derived.Test.YtafgohnpnaiomaaDiskJ
import Derived.Test.YtafgohnpnaiomaaActs7
import Derived.Outline
namespace Go.Proofs.Ytafgohnpnaiomaa
open Go Go.RowKit

/-- Disks that were made behind the world w0, each apart from the others. -/
structure Dks (w0 w : World) (l : List (Nat × Dk)) : Prop where
  ex : ∃ G : Nat → List Nat, (∀ i (h : i < l.length), DiskAt w l[i].1 l[i].2 (G i) ∧ ∀ q ∈ G i, w0.heap.size ≤ q) ∧ ∀ i j, i < l.length → j < l.length → i ≠ j → ∀ q ∈ G i, q ∉ G j
  upd : Upd (fun _ => False) w0 w
/-- Blocks of other types are as they were. -/
def BlkKept (w w' : World) : Prop := ∀ g t cs, Blk w g t cs → t ≠ 87 → t ≠ 9 → Blk w' g t cs
section
variable {w0 w w' : World} {l : List (Nat × Dk)} {p : Nat} {d d' : Dk}
theorem Dks.none_ (w : World) : Dks w w [] := ⟨⟨fun _ => [], fun i h => absurd h (by simp), fun i j h => absurd h (by simp)⟩, Upd.refl _ _⟩
theorem Dks.still (h : Dks w0 w l) (hu : Upd (fun _ => False) w w') : Dks w0 w' l := by
  obtain ⟨G, h1, h2⟩ := h.ex
  exact ⟨⟨G, fun i hi => ⟨(h1 i hi).1.upd hu (fun _ _ e => e), (h1 i hi).2⟩, h2⟩, h.upd.then hu (fun _ e => e.elim)⟩
theorem Dks.one (h : Dks w0 w l) (i : Nat) (hi : l[i]? = some (p, d)) : DkS w0 w p d := by
  obtain ⟨G, h1, h2⟩ := h.ex
  obtain ⟨hlt, e⟩ := List.getElem?_eq_some_iff.1 hi
  have := h1 i hlt
  rw [e] at this
  exact ⟨⟨G i, this.1, this.2⟩, h.upd⟩
theorem Dks.callK {f : FuncId} {args : Array Value} {R : Ending → Prop} (h : Dks w0 w l) (i : Nat) (hi : l[i]? = some (p, d))
    (hc : ∀ F, DiskAt w p d F → (∀ q ∈ F, w0.heap.size ≤ q) → Calls Try.prog f args w fun e w' => R e ∧ ∃ F', Left w w' p d' F F') : Calls Try.prog f args w fun e w' => R e ∧ Dks w0 w' (l.set i (p, d')) ∧ BlkKept w w' := by
  obtain ⟨G, h1, h2⟩ := h.ex
  obtain ⟨hlt, e⟩ := List.getElem?_eq_some_iff.1 hi
  have hg := h1 i hlt
  rw [e] at hg
  refine (hc (G i) hg.1 hg.2).mono ?_
  rintro e' w' ⟨hR, F', hL⟩
  refine ⟨hR, ⟨⟨fun j => if j = i then F' else G j, fun j hj => ?_, fun j k hj hk hne q hq hq2 => ?_⟩, h.upd.then hL.upd (fun q hq => .inr (hg.2 q hq))⟩, fun g t cs hB h1 h2 => hB.upd hL.upd (hg.1.not_mem hB h1 h2)⟩
  · rw [List.length_set] at hj
    by_cases eji : j = i
    · subst eji
      simp only [if_pos, List.getElem_set_self]
      exact ⟨hL.disk, fun q hq => (hL.sub q hq).elim (hg.2 q) (fun e => Nat.le_trans h.upd.size e)⟩
    · rw [List.getElem_set_ne (Ne.symm eji)]
      simp only [if_neg eji]
      exact ⟨(h1 j hj).1.upd hL.upd (fun q hq e => h2 j i hj hlt eji q hq e), (h1 j hj).2⟩
  · rw [List.length_set] at hj hk
    by_cases eji : j = i
    · subst eji
      simp only [if_pos] at hq
      simp only [if_neg (Ne.symm hne)] at hq2
      rcases hL.sub q hq with e | e
      · exact h2 j k hlt hk hne q e hq2
      · have := (h1 k hk).1.lt q hq2; omega
    · simp only [if_neg eji] at hq
      by_cases eki : k = i
      · subst eki
        simp only [if_pos] at hq2
        rcases hL.sub q hq2 with e | e
        · exact h2 j k hj hlt hne q hq e
        · have := (h1 j hj).1.lt q hq; omega
      · simp only [if_neg eki] at hq2
        exact h2 j k hj hk hne q hq hq2
theorem Dks.call {f : FuncId} {args : Array Value} {R : Ending → Prop} (h : Dks w0 w l) (i : Nat) (hi : l[i]? = some (p, d))
    (hc : ∀ F, DiskAt w p d F → (∀ q ∈ F, w0.heap.size ≤ q) → Calls Try.prog f args w fun e w' => R e ∧ ∃ F', Left w w' p d' F F') : Calls Try.prog f args w fun e w' => R e ∧ Dks w0 w' (l.set i (p, d')) :=
  (h.callK i hi hc).mono fun _ _ hx => ⟨hx.1, hx.2.1⟩
/-- A disk more. -/
theorem Dks.more (h : Dks w0 w l) (hu : Upd (fun _ => False) w w') (hD : ∃ F, DiskAt w' p d F ∧ ∀ q ∈ F, w.heap.size ≤ q) : Dks w0 w' (l ++ [(p, d)]) := by
  obtain ⟨G, h1, h2⟩ := h.ex
  obtain ⟨F, hF, hn⟩ := hD
  refine ⟨⟨fun j => if j < l.length then G j else F, fun j hj => ?_, fun j k hj hk hne q hq hq2 => ?_⟩, h.upd.then hu (fun _ e => e.elim)⟩
  · by_cases hlt : j < l.length
    · rw [List.getElem_append_left hlt]
      simp only [if_pos hlt]
      exact ⟨(h1 j hlt).1.upd hu (fun _ _ e => e), (h1 j hlt).2⟩
    · rw [List.getElem_append_right (by omega)]
      simp only [if_neg hlt, List.getElem_singleton]
      exact ⟨hF, fun q hq => Nat.le_trans h.upd.size (hn q hq)⟩
  · simp only [List.length_append, List.length_singleton] at hj hk
    by_cases hjl : j < l.length
    · simp only [if_pos hjl] at hq
      by_cases hkl : k < l.length
      · simp only [if_pos hkl] at hq2
        exact h2 j k hjl hkl hne q hq hq2
      · simp only [if_neg hkl] at hq2
        have := (h1 j hjl).1.lt q hq
        have := hn q hq2
        omega
    · simp only [if_neg hjl] at hq
      by_cases hkl : k < l.length
      · simp only [if_pos hkl] at hq2
        have := (h1 k hkl).1.lt q hq2
        have := hn q hq
        omega
      · omega
end

/-- A disk's acts. -/
def Act7.data (a : Act7) : ByteArray := if a.byte = 0 then a.b else repB (UInt8.ofNat a.byte) 64
def Dk.act (d : Dk) (a : Act7) : Dk := if a.do_ = 0 then (d.write a.i a.data).1 else if a.do_ = 1 then d.sync.1 else if a.do_ = 2 then d.setFuse a.n else if a.do_ = 3 then d.crash a.keeps else if a.do_ = 4 then (d.spoil a.i a.n a.x).1 else d

theorem conv_b (w : World) (b : Nat) (hb : b < 256) : (convert 30 9 (.slice (some ⟨w.heap.size, 0, none⟩) 1 1)).run Try.prog (w.alloc (.cells #[.int .u8 (b : Int)] 5)) = .ok (.string ⟨#[UInt8.ofNat b]⟩) (w.alloc (.cells #[.int .u8 (b : Int)] 5)) := by
  have e : (UInt8.ofNat b).toNat = b := by simp; omega
  have ho : Own (w.alloc (.cells #[.int .u8 (b : Int)] 5)) 5 1 (.slice (some ⟨w.heap.size, 0, none⟩) 1 1) 1 (bytesV [UInt8.ofNat b]) := by
    refine ⟨by simp [bytesV], .inr ⟨w.heap.size, 1, #[.int .u8 (b : Int)], (0, 0), rfl, heap_alloc_new w _, .inl rfl, Nat.le_refl _, by unfold maxLen; omega, rfl, ?_⟩⟩
    simp [bytesV, e]
  exact run_to_string ho
set_option maxRecDepth 100000 in
theorem full_c (b : Nat) (w : World) (hb : b < 256) : Calls Try.prog 54 #[.int .u8 (b : Int)] w fun e w' => e = .returned (.string (repB (UInt8.ofNat b) 64)) ∧ Upd (fun _ => False) w w' := by
  have hcv := conv_b w b hb
  go_enter Try.func54, Try.ntmps54
  go_wp2_with fail
  refine (rep_c (UInt8.ofNat b) 64 _ (by omega)).mono ?_
  rintro e w' ⟨rfl, hU⟩
  go_wp2
  go_ret
  exact ⟨rfl, ((Upd.refl _ w).alloc _).then hU (fun _ e => e.elim)⟩
set_option maxRecDepth 100000 in
theorem data_c (a : Act7) (w : World) (hb : a.byte < 256) : Calls Try.prog 49 #[a.val] w fun e w' => e = .returned (.string a.data) ∧ Upd (fun _ => False) w w' := by
  obtain ⟨d, i, n, b, x, y, kp, ks⟩ := a
  simp only at hb
  unfold Act7.val Act7.data
  simp only
  by_cases h0 : y = 0
  · subst h0
    rw [if_pos rfl]
    go_enter Try.func49, Try.ntmps49
    go_wp2
    go_ret
    exact ⟨rfl, (Upd.refl _ w).alloc _⟩
  · rw [if_neg h0]
    have h0' : ((y : Int) != 0) = true := by rw [bne_iff_ne]; omega
    go_enter Try.func49, Try.ntmps49
    go_wp2_with fail
    refine (full_c y _ hb).mono ?_
    rintro e w' ⟨rfl, hU⟩
    go_wp2
    go_ret
    exact ⟨rfl, ((Upd.refl _ w).alloc _).then hU (fun _ e => e.elim)⟩
end Go.Proofs.Ytafgohnpnaiomaa
