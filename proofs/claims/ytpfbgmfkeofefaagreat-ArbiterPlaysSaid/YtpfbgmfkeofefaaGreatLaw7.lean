/-
  What a law knows of disks; the helpers and the wake of the laws of chapter 07.
-/
import Derived.Test.YtpfbgmfkeofefaaGreatLawW
import Derived.Test.YtpfbgmfkeofefaaGreatRep
import Derived.Test.YtpfbgmfkeofefaaGreatDiskI
import Derived.Test.YtpfbgmfkeofefaaGreatDiskJ
import Derived.Test.YtpfbgmfkeofefaaGreatActs7
import Derived.Outline
import Derived.Deep.RegionHeld3
namespace Go.Proofs.YtpfbgmfkeofefaaGreat
open Go Go.RowKit

/-- Disks that were made behind the world w0, each apart from the others. -/
structure Dks (w0 w : World) (l : List (Nat × Dk)) : Prop where
  ex : ∃ G : Nat → List Nat, (∀ i (h : i < l.length), DiskAt w l[i].1 l[i].2 (G i) ∧ ∀ q ∈ G i, w0.heap.size ≤ q) ∧ ∀ i j, i < l.length → j < l.length → i ≠ j → ∀ q ∈ G i, q ∉ G j
  upd : Upd (fun _ => False) w0 w
/-- Blocks of other types are as they were. -/
def BlkKept (w w' : World) : Prop := ∀ g t cs, Blk w g t cs → t ≠ 93 → t ≠ 9 → Blk w' g t cs
section
variable {w0 w w' : World} {l : List (Nat × Dk)} {p : Nat} {d d' : Dk}
theorem Dks.none_ (w : World) : Dks w w [] := ⟨⟨fun _ => [], fun i h => absurd h (by simp), fun i j h => absurd h (by simp)⟩, Upd.refl _ _⟩
theorem Dks.still (h : Dks w0 w l) (hu : Upd (fun _ => False) w w') : Dks w0 w' l := by
  obtain ⟨G, h1, h2⟩ := h.ex
  exact ⟨⟨G, fun i hi => ⟨(h1 i hi).1.upd hu (fun _ _ e => e), (h1 i hi).2⟩, h2⟩, h.upd.then hu (fun _ e => e.elim)⟩
theorem Dks.one (h : Dks w0 w l) (i : Nat) (hi : l[i]? = some (p, d)) : DkS w0 w p d := by
  obtain ⟨G, h1, h2⟩ := h.ex
  obtain ⟨hlt, e⟩ := List.getElem?_eq_some_iff.1 hi
  have := h1 i hlt
  rw [e] at this
  exact ⟨⟨G i, this.1, this.2⟩, h.upd⟩
theorem Dks.callK {f : FuncId} {args : Array Value} {R : Ending → Prop} (h : Dks w0 w l) (i : Nat) (hi : l[i]? = some (p, d))
    (hc : ∀ F, DiskAt w p d F → (∀ q ∈ F, w0.heap.size ≤ q) → Calls Tryz.prog f args w fun e w' => R e ∧ ∃ F', Left w w' p d' F F') : Calls Tryz.prog f args w fun e w' => R e ∧ Dks w0 w' (l.set i (p, d')) ∧ BlkKept w w' := by
  obtain ⟨G, h1, h2⟩ := h.ex
  obtain ⟨hlt, e⟩ := List.getElem?_eq_some_iff.1 hi
  have hg := h1 i hlt
  rw [e] at hg
  refine (hc (G i) hg.1 hg.2).mono ?_
  rintro e' w' ⟨hR, F', hL⟩
  refine ⟨hR, ⟨⟨fun j => if j = i then F' else G j, fun j hj => ?_, fun j k hj hk hne q hq hq2 => ?_⟩, h.upd.then hL.upd (fun q hq => .inr (hg.2 q hq))⟩, fun g t cs hB h1 h2 => hB.upd hL.upd (hg.1.not_mem hB h1 h2)⟩
  · rw [List.length_set] at hj
    by_cases eji : j = i
    · subst eji
      simp only [if_pos, List.getElem_set_self]
      exact ⟨hL.disk, fun q hq => (hL.sub q hq).elim (hg.2 q) (fun e => Nat.le_trans h.upd.size e)⟩
    · rw [List.getElem_set_ne (Ne.symm eji)]
      simp only [if_neg eji]
      exact ⟨(h1 j hj).1.upd hL.upd (fun q hq e => h2 j i hj hlt eji q hq e), (h1 j hj).2⟩
  · rw [List.length_set] at hj hk
    by_cases eji : j = i
    · subst eji
      simp only [if_pos] at hq
      simp only [if_neg (Ne.symm hne)] at hq2
      rcases hL.sub q hq with e | e
      · exact h2 j k hlt hk hne q e hq2
      · have := (h1 k hk).1.lt q hq2; omega
    · simp only [if_neg eji] at hq
      by_cases eki : k = i
      · subst eki
        simp only [if_pos] at hq2
        rcases hL.sub q hq2 with e | e
        · exact h2 j k hj hlt hne q hq e
        · have := (h1 j hj).1.lt q hq; omega
      · simp only [if_neg eki] at hq2
        exact h2 j k hj hk hne q hq hq2
theorem Dks.call {f : FuncId} {args : Array Value} {R : Ending → Prop} (h : Dks w0 w l) (i : Nat) (hi : l[i]? = some (p, d))
    (hc : ∀ F, DiskAt w p d F → (∀ q ∈ F, w0.heap.size ≤ q) → Calls Tryz.prog f args w fun e w' => R e ∧ ∃ F', Left w w' p d' F F') : Calls Tryz.prog f args w fun e w' => R e ∧ Dks w0 w' (l.set i (p, d')) :=
  (h.callK i hi hc).mono fun _ _ hx => ⟨hx.1, hx.2.1⟩
/-- A disk more. -/
theorem Dks.more (h : Dks w0 w l) (hu : Upd (fun _ => False) w w') (hD : ∃ F, DiskAt w' p d F ∧ ∀ q ∈ F, w.heap.size ≤ q) : Dks w0 w' (l ++ [(p, d)]) := by
  obtain ⟨G, h1, h2⟩ := h.ex
  obtain ⟨F, hF, hn⟩ := hD
  refine ⟨⟨fun j => if j < l.length then G j else F, fun j hj => ?_, fun j k hj hk hne q hq hq2 => ?_⟩, h.upd.then hu (fun _ e => e.elim)⟩
  · by_cases hlt : j < l.length
    · rw [List.getElem_append_left hlt]
      simp only [if_pos hlt]
      exact ⟨(h1 j hlt).1.upd hu (fun _ _ e => e), (h1 j hlt).2⟩
    · rw [List.getElem_append_right (by omega)]
      simp only [if_neg hlt, List.getElem_singleton]
      exact ⟨hF, fun q hq => Nat.le_trans h.upd.size (hn q hq)⟩
  · simp only [List.length_append, List.length_singleton] at hj hk
    by_cases hjl : j < l.length
    · simp only [if_pos hjl] at hq
      by_cases hkl : k < l.length
      · simp only [if_pos hkl] at hq2
        exact h2 j k hjl hkl hne q hq hq2
      · simp only [if_neg hkl] at hq2
        have := (h1 j hjl).1.lt q hq
        have := hn q hq2
        omega
    · simp only [if_neg hjl] at hq
      by_cases hkl : k < l.length
      · simp only [if_pos hkl] at hq2
        have := (h1 k hkl).1.lt q hq2
        have := hn q hq
        omega
      · omega
end

/-- A disk's acts. -/
def Act7.data (a : Act7) : ByteArray := if a.byte = 0 then a.b else repB (UInt8.ofNat a.byte) 64
def Dk.act (d : Dk) (a : Act7) : Dk := if a.do_ = 0 then (d.write a.i a.data).1 else if a.do_ = 1 then d.sync.1 else if a.do_ = 2 then d.setFuse a.n else if a.do_ = 3 then d.crash a.keeps else if a.do_ = 4 then (d.spoil a.i a.n a.x).1 else d

theorem conv_b (w : World) (b : Nat) (hb : b < 256) : (convert 94 9 (.slice (some ⟨w.heap.size, 0, none⟩) 1 1)).run Tryz.prog (w.alloc (.cells #[.int .u8 (b : Int)] 5)) = .ok (.string ⟨#[UInt8.ofNat b]⟩) (w.alloc (.cells #[.int .u8 (b : Int)] 5)) := by
  have e : (UInt8.ofNat b).toNat = b := by simp; omega
  have ho : Own (w.alloc (.cells #[.int .u8 (b : Int)] 5)) 5 1 (.slice (some ⟨w.heap.size, 0, none⟩) 1 1) 1 (bytesV [UInt8.ofNat b]) := by
    refine ⟨by simp [bytesV], .inr ⟨w.heap.size, 1, #[.int .u8 (b : Int)], (0, 0), rfl, heap_alloc_new w _, .inl rfl, Nat.le_refl _, by unfold maxLen; omega, rfl, ?_⟩⟩
    simp [bytesV, e]
  exact run_to_string ho
end Go.Proofs.YtpfbgmfkeofefaaGreat

/-
  Acts that are done to a disk: run; Great of chapter 07; its wake.
-/
namespace Go.Proofs.YtpfbgmfkeofefaaGreat
open Go Go.RowKit

section
variable {w0 w w' : World} {l : List (Nat × Dk)} {p i : Nat} {d : Dk}
theorem write_x (h : Dks w0 w l) (hi : l[i]? = some (p, d)) (k : Int) (s : ByteArray) (hp : d.pend + 1 < 1000000) :
    Calls Tryz.prog 17 #[.pointer (some ⟨p, 0, none⟩), .int .i64 k, .string s] w fun e w' => e = .returned (.int .i64 (d.write k s).2) ∧ Dks w0 w' (l.set i (p, (d.write k s).1)) :=
  h.call (R := fun e => e = .returned (.int .i64 (d.write k s).2)) i hi fun _ h1 _ => write_c h1 k s hp
theorem write_k (h : Dks w0 w l) (hi : l[i]? = some (p, d)) (k : Int) (s : ByteArray) (hp : d.pend + 1 < 1000000) :
    Calls Tryz.prog 17 #[.pointer (some ⟨p, 0, none⟩), .int .i64 k, .string s] w fun e w' => e = .returned (.int .i64 (d.write k s).2) ∧ Dks w0 w' (l.set i (p, (d.write k s).1)) ∧ BlkKept w w' :=
  h.callK (R := fun e => e = .returned (.int .i64 (d.write k s).2)) i hi fun _ h1 _ => write_c h1 k s hp
theorem sync_x (h : Dks w0 w l) (hi : l[i]? = some (p, d)) :
    Calls Tryz.prog 43 #[.pointer (some ⟨p, 0, none⟩)] w fun e w' => e = .returned (.int .i64 d.sync.2) ∧ Dks w0 w' (l.set i (p, d.sync.1)) :=
  h.call (R := fun e => e = .returned (.int .i64 d.sync.2)) i hi fun _ h1 _ => sync_c h1
theorem fuse_x (h : Dks w0 w l) (hi : l[i]? = some (p, d)) (n : Int) (hn : n ≤ 9223372036854775807) :
    Calls Tryz.prog 31 #[.pointer (some ⟨p, 0, none⟩), .int .i64 n] w fun e w' => e = .returned (.tuple #[]) ∧ Dks w0 w' (l.set i (p, d.setFuse n)) :=
  h.call (R := fun e => e = .returned (.tuple #[])) i hi fun F h1 _ => (fuse_c h1 n hn).mono fun _ _ hx => ⟨hx.1, F, hx.2⟩
theorem crash_x {v : Value} {keep : List Int} (h : Dks w0 w l) (hi : l[i]? = some (p, d)) (hA : IsInts w0 v keep) :
    Calls Tryz.prog 32 #[.pointer (some ⟨p, 0, none⟩), v] w fun e w' => e = .returned (.tuple #[]) ∧ Dks w0 w' (l.set i (p, d.crash keep)) :=
  h.call (R := fun e => e = .returned (.tuple #[])) i hi fun _ h1 h2 => crash_c h1 (KeepAt.of_ints h2 hA h.upd)
theorem crash_y {g : Nat} {keep : List Int} (h : Dks w0 w l) (hi : l[i]? = some (p, d)) (hB : Blk w g 3 (keep.map (Value.int .i64)).toArray) (hl : keep.length ≤ 5000) (hok : ∀ z ∈ keep, -9223372036854775808 ≤ z ∧ z ≤ 9223372036854775807) :
    Calls Tryz.prog 32 #[.pointer (some ⟨p, 0, none⟩), .slice (some ⟨g, 0, none⟩) keep.length keep.length] w fun e w' => e = .returned (.tuple #[]) ∧ Dks w0 w' (l.set i (p, d.crash keep)) :=
  h.call (R := fun e => e = .returned (.tuple #[])) i hi fun _ h1 _ => crash_c h1 (KeepAt.of_new h1 hB hl hok)
theorem spoil_x (h : Dks w0 w l) (hi : l[i]? = some (p, d)) (k a : Int) (x : ByteArray) (ha : -9223372036854775808 ≤ a ∧ a ≤ 9223372036854775807) (hx : x.size ≤ 9223372036854775807) :
    Calls Tryz.prog 47 #[.pointer (some ⟨p, 0, none⟩), .int .i64 k, .int .i64 a, .string x] w fun e w' => e = .returned (.int .i64 (d.spoil k a x).2) ∧ Dks w0 w' (l.set i (p, (d.spoil k a x).1)) :=
  h.call (R := fun e => e = .returned (.int .i64 (d.spoil k a x).2)) i hi fun F h1 _ => (spoil_c h1 k a x ha.1 ha.2 hx).mono fun _ _ hx => ⟨hx.1, F, hx.2⟩
theorem sync_k (h : Dks w0 w l) (hi : l[i]? = some (p, d)) :
    Calls Tryz.prog 43 #[.pointer (some ⟨p, 0, none⟩)] w fun e w' => e = .returned (.int .i64 d.sync.2) ∧ Dks w0 w' (l.set i (p, d.sync.1)) ∧ BlkKept w w' :=
  h.callK (R := fun e => e = .returned (.int .i64 d.sync.2)) i hi fun _ h1 _ => sync_c h1
theorem fuse_k (h : Dks w0 w l) (hi : l[i]? = some (p, d)) (n : Int) (hn : n ≤ 9223372036854775807) :
    Calls Tryz.prog 31 #[.pointer (some ⟨p, 0, none⟩), .int .i64 n] w fun e w' => e = .returned (.tuple #[]) ∧ Dks w0 w' (l.set i (p, d.setFuse n)) ∧ BlkKept w w' :=
  h.callK (R := fun e => e = .returned (.tuple #[])) i hi fun F h1 _ => (fuse_c h1 n hn).mono fun _ _ hx => ⟨hx.1, F, hx.2⟩
theorem crash_k {v : Value} {keep : List Int} (h : Dks w0 w l) (hi : l[i]? = some (p, d)) (hA : IsInts w0 v keep) :
    Calls Tryz.prog 32 #[.pointer (some ⟨p, 0, none⟩), v] w fun e w' => e = .returned (.tuple #[]) ∧ Dks w0 w' (l.set i (p, d.crash keep)) ∧ BlkKept w w' :=
  h.callK (R := fun e => e = .returned (.tuple #[])) i hi fun _ h1 h2 => crash_c h1 (KeepAt.of_ints h2 hA h.upd)
theorem spoil_k (h : Dks w0 w l) (hi : l[i]? = some (p, d)) (k a : Int) (x : ByteArray) (ha : -9223372036854775808 ≤ a ∧ a ≤ 9223372036854775807) (hx : x.size ≤ 9223372036854775807) :
    Calls Tryz.prog 47 #[.pointer (some ⟨p, 0, none⟩), .int .i64 k, .int .i64 a, .string x] w fun e w' => e = .returned (.int .i64 (d.spoil k a x).2) ∧ Dks w0 w' (l.set i (p, (d.spoil k a x).1)) ∧ BlkKept w w' :=
  h.callK (R := fun e => e = .returned (.int .i64 (d.spoil k a x).2)) i hi fun F h1 _ => (spoil_c h1 k a x ha.1 ha.2 hx).mono fun _ _ hx => ⟨hx.1, F, hx.2⟩
theorem new_k (h : Dks w0 w l) (z : Int) (n : Nat) (hz : z = (n : Int)) (h1 : 1 ≤ n) (h2 : n ≤ 4096) :
    Calls Tryz.prog 9 #[.int .i64 z] w fun e w' => ∃ p, e = .returned (.tuple #[.pointer (some ⟨p, 0, none⟩), .int .i64 0]) ∧ Dks w0 w' (l ++ [(p, Dk.fresh n)]) ∧ BlkKept w w' := by
  subst hz
  refine (New_c n w h1 h2).mono ?_
  rintro e w' ⟨p, F, rfl, hD, hU, hF⟩
  exact ⟨p, rfl, h.more hU ⟨F, hD, hF⟩, fun g t cs hB _ _ => hB.upd hU (fun e => e)⟩
theorem new_x (h : Dks w0 w l) (z : Int) (n : Nat) (hz : z = (n : Int)) (h1 : 1 ≤ n) (h2 : n ≤ 4096) :
    Calls Tryz.prog 9 #[.int .i64 z] w fun e w' => ∃ p, e = .returned (.tuple #[.pointer (some ⟨p, 0, none⟩), .int .i64 0]) ∧ Dks w0 w' (l ++ [(p, Dk.fresh n)]) :=
  (new_k h z n hz h1 h2).mono fun _ _ ⟨p, h3, h4, _⟩ => ⟨p, h3, h4⟩
theorem BlkKept.of_upd (hu : Upd (fun _ => False) w w') : BlkKept w w' := fun _ _ _ hB _ _ => hB.upd hu (fun e => e)
theorem BlkKept.trans {w1 : World} (h1 : BlkKept w w1) (h2 : BlkKept w1 w') : BlkKept w w' := fun g t cs hB a b => h2 g t cs (h1 g t cs hB a b) a b
theorem read_x (h : Dks w0 w l) (hi : l[i]? = some (p, d)) (k : Int) :
    Calls Tryz.prog 75 #[.pointer (some ⟨p, 0, none⟩), .int .i64 k] w fun e w' => e = .returned (.tuple #[.string (d.read k).1, .int .i64 (d.read k).2]) ∧ w = w' := read_s (h.one i hi) k
theorem sectors_x (h : Dks w0 w l) (hi : l[i]? = some (p, d)) :
    Calls Tryz.prog 54 #[.pointer (some ⟨p, 0, none⟩)] w fun e w' => e = .returned (.int .i64 d.lasts.length) ∧ w = w' := by
  obtain ⟨F, h1, -⟩ := (h.one i hi).ex
  exact sectors_c h1
end
theorem ints_nil (w : World) : IsInts w (.slice none 0 0) [] := ⟨⟨none, 0, rfl, by simp, fun h => absurd h (by simp)⟩, by simp⟩
theorem Dk.flush_pend' (d : Dk) : d.flush.pend = 0 := Dk.flush_pend d
theorem act_pend {d : Dk} (h : d.wf) (a : Act7) : (d.act a).pend ≤ d.pend + 1 := by
  unfold Dk.act
  split
  · exact write_pend d a.i a.data h.len
  · split
    · unfold Dk.sync
      split
      · exact Nat.le_succ _
      · split
        · rw [Dk.flush_pend]; exact Nat.zero_le _
        · rw [Dk.burn_pend]; exact Nat.le_succ _
    · split
      · exact Nat.le_succ _
      · split
        · rw [Dk.crash_pend h]; exact Nat.zero_le _
        · split
          · unfold Dk.spoil
            split
            · exact Nat.le_succ _
            · exact Nat.le_succ _
          · exact Nat.le_succ _
end Go.Proofs.YtpfbgmfkeofefaaGreat

/-
  Acts that are done to a disk: run; Great of chapter 07; its wake.
-/
namespace Go.Proofs.YtpfbgmfkeofefaaGreat
open Go Go.RowKit

/-- An act within the bounds. -/
def Act7.small (a : Act7) : Prop := a.b.size ≤ 200 ∧ a.x.size ≤ 200 ∧ a.keeps.length ≤ 100
structure Great7End (l : List Act7) (b : Bool) : Prop where
  ok : b = false → l.length ≤ 200 ∧ ∀ a ∈ l, a.small
def Great7Post (l : List Act7) (w : World) (e : Ending) (w' : World) : Prop := ∃ b, e = .returned (.bool b) ∧ w = w' ∧ Great7End l b
theorem Dk.read_up {d : Dk} (ho : d.off = false) {i : Nat} (hi : i < d.lasts.length) : d.read (i : Int) = (d.now i, 0) := Dk.read_there ho hi
theorem fresh_pend7 (n : Nat) : (Dk.fresh n).pend = 0 := by
  unfold Dk.pend Dk.fresh
  simp
theorem fresh_free (n : Nat) : (Dk.fresh n).fuse = -1 ∧ (Dk.fresh n).off = false ∧ (Dk.fresh n).waits.length = n ∧ (Dk.fresh n).lasts.length = n := ⟨rfl, rfl, by simp [Dk.fresh], by simp [Dk.fresh]⟩
theorem rep64_size (c : UInt8) : (repB c 64).size = 64 := by
  show (Lib.repeatL [c] 64).toArray.size = 64
  simp [Lib.repeatL]
/-- The wake's disk behind its write. -/
def dW : Dk := (Dk.fresh 2).push 0 (repB 1 64)
end Go.Proofs.YtpfbgmfkeofefaaGreat

/-
  Crash and Twin, and what they leave of other blocks.
-/
namespace Go.Proofs.YtpfbgmfkeofefaaGreat
open Go Go.RowKit

section
variable {w0 w w' : World} {l : List (Nat × Dk)} {p i : Nat} {d : Dk}
theorem crash_yk {g : Nat} {keep : List Int} (h : Dks w0 w l) (hi : l[i]? = some (p, d)) (hB : Blk w g 3 (keep.map (Value.int .i64)).toArray) (hl : keep.length ≤ 5000) (hok : ∀ z ∈ keep, -9223372036854775808 ≤ z ∧ z ≤ 9223372036854775807) :
    Calls Tryz.prog 32 #[.pointer (some ⟨p, 0, none⟩), .slice (some ⟨g, 0, none⟩) keep.length keep.length] w fun e w' => e = .returned (.tuple #[]) ∧ Dks w0 w' (l.set i (p, d.crash keep)) ∧ BlkKept w w' :=
  h.callK (R := fun e => e = .returned (.tuple #[])) i hi fun _ h1 _ => crash_c h1 (KeepAt.of_new h1 hB hl hok)
end
end Go.Proofs.YtpfbgmfkeofefaaGreat

/-
  Acts that are done to a disk, one behind the other: run.
-/
namespace Go.Proofs.YtpfbgmfkeofefaaGreat
open Go Go.RowKit

theorem kp_one {w : World} {v : Value} {l : List Int} (h : IsInts w v l) : v.oneCell' = true := by
  obtain ⟨A, cap, b, off, rfl, -⟩ := h.open_
  rfl
/-- A disk, some of the acts behind the beginning. -/
structure RunS (w0 w wr : World) (l : List (Nat × Dk)) (p i k : Nat) (d dk : Dk) (acts : List Act7) : Prop where
  disks : Dks w0 wr (l.set i (p, dk))
  eq : dk = (acts.take k).foldl Dk.act d
  pend : dk.pend ≤ d.pend + k
  kept : BlkKept w wr
theorem RunS.hi {w0 w wr : World} {l : List (Nat × Dk)} {p i k : Nat} {d dk : Dk} {acts : List Act7} (_ : RunS w0 w wr l p i k d dk acts) (hi : l[i]? = some (p, d)) : (l.set i (p, dk))[i]? = some (p, dk) := by
  obtain ⟨hlt, -⟩ := List.getElem?_eq_some_iff.1 hi
  rw [List.getElem?_set_self hlt]
theorem RunS.step {w0 w wr w' : World} {l : List (Nat × Dk)} {p i k : Nat} {d dk : Dk} {acts : List Act7} (h : RunS w0 w wr l p i k d dk acts) (hi : l[i]? = some (p, d)) (hk : k < acts.length) (r : Act7) (hr : acts[k] = r) {d' : Dk} (he : d' = dk.act r) (hD : Dks w0 w' ((l.set i (p, dk)).set i (p, d')) ∧ BlkKept wr w') :
    RunS w0 w w' l p i (k + 1) d d' acts := by
  subst he
  refine ⟨by have := hD.1; rw [List.set_set] at this; exact this, ?_, ?_, h.kept.trans hD.2⟩
  · rw [List.take_succ_eq_append_getElem hk, List.foldl_append, ← h.eq, hr]
    rfl
  · have := act_pend (h.disks.one i (h.hi hi)).wf r
    have := h.pend
    omega

end Go.Proofs.YtpfbgmfkeofefaaGreat

/-
  Disks beside other blocks of which a law keeps track; a law's own map of writes.
-/
namespace Go.Proofs.YtpfbgmfkeofefaaGreat
open Go Go.RowKit

/-- Disks that were made behind the world w0, each apart from the others and from the blocks of X. -/
structure DksX (w0 w : World) (l : List (Nat × Dk)) (X : Nat → Prop) : Prop where
  ex : ∃ G : Nat → List Nat, (∀ i (h : i < l.length), DiskAt w l[i].1 l[i].2 (G i) ∧ ∀ q ∈ G i, w0.heap.size ≤ q ∧ ¬ X q) ∧ ∀ i j, i < l.length → j < l.length → i ≠ j → ∀ q ∈ G i, q ∉ G j
  low : ∀ q, X q → w0.heap.size ≤ q ∧ q < w.heap.size
  upd : Upd (fun _ => False) w0 w
def XKept (X : Nat → Prop) (w w' : World) : Prop := ∀ q, X q → w'.heap[q]? = w.heap[q]?
section
variable {w0 w w' : World} {l : List (Nat × Dk)} {p : Nat} {d d' : Dk} {X Y : Nat → Prop}
theorem DksX.of (h : Dks w0 w l) : DksX w0 w l (fun _ => False) := by
  obtain ⟨G, h1, h2⟩ := h.ex
  exact ⟨⟨G, fun i hi => ⟨(h1 i hi).1, fun q hq => ⟨(h1 i hi).2 q hq, fun e => e⟩⟩, h2⟩, fun _ e => e.elim, h.upd⟩
theorem DksX.dks (h : DksX w0 w l X) : Dks w0 w l := by
  obtain ⟨G, h1, h2⟩ := h.ex
  exact ⟨⟨G, fun i hi => ⟨(h1 i hi).1, fun q hq => ((h1 i hi).2 q hq).1⟩, h2⟩, h.upd⟩
theorem DksX.one (h : DksX w0 w l X) (i : Nat) (hi : l[i]? = some (p, d)) : DkS w0 w p d := h.dks.one i hi
theorem DksX.still (h : DksX w0 w l X) (hu : Upd (fun _ => False) w w') : DksX w0 w' l X := by
  obtain ⟨G, h1, h2⟩ := h.ex
  exact ⟨⟨G, fun i hi => ⟨(h1 i hi).1.upd hu (fun _ _ e => e), (h1 i hi).2⟩, h2⟩, fun q hq => ⟨(h.low q hq).1, Nat.lt_of_lt_of_le (h.low q hq).2 hu.size⟩, h.upd.then hu (fun _ e => e.elim)⟩
/-- Blocks of X are turned, or new ones made. -/
theorem DksX.turn (h : DksX w0 w l X) (hu : Upd X w w') (hY : ∀ q, Y q → X q ∨ (w.heap.size ≤ q ∧ q < w'.heap.size)) : DksX w0 w' l Y := by
  obtain ⟨G, h1, h2⟩ := h.ex
  refine ⟨⟨G, fun i hi => ⟨(h1 i hi).1.upd hu (fun q hq => ((h1 i hi).2 q hq).2), fun q hq => ⟨((h1 i hi).2 q hq).1, fun e => ?_⟩⟩, h2⟩, fun q hq => ?_, h.upd.then hu (fun q e => .inr (h.low q e).1)⟩
  · rcases hY q e with c | c
    · exact ((h1 i hi).2 q hq).2 c
    · have := (h1 i hi).1.lt q hq; omega
  · have h0 := h.upd.size
    rcases hY q hq with c | c
    · exact ⟨(h.low q c).1, Nat.lt_of_lt_of_le (h.low q c).2 hu.size⟩
    · exact ⟨by omega, c.2⟩
theorem DksX.call {f : FuncId} {args : Array Value} {R : Ending → Prop} (h : DksX w0 w l X) (i : Nat) (hi : l[i]? = some (p, d))
    (hc : ∀ F, DiskAt w p d F → (∀ q ∈ F, w0.heap.size ≤ q) → Calls Tryz.prog f args w fun e w' => R e ∧ ∃ F', Left w w' p d' F F') : Calls Tryz.prog f args w fun e w' => R e ∧ DksX w0 w' (l.set i (p, d')) X ∧ BlkKept w w' ∧ XKept X w w' := by
  obtain ⟨G, h1, h2⟩ := h.ex
  obtain ⟨hlt, e⟩ := List.getElem?_eq_some_iff.1 hi
  have hg := h1 i hlt
  rw [e] at hg
  refine (hc (G i) hg.1 (fun q hq => (hg.2 q hq).1)).mono ?_
  rintro e' w' ⟨hR, F', hL⟩
  have h0 := h.upd.size
  refine ⟨hR, ⟨⟨fun j => if j = i then F' else G j, fun j hj => ?_, fun j k hj hk hne q hq hq2 => ?_⟩, fun q hq => ⟨(h.low q hq).1, Nat.lt_of_lt_of_le (h.low q hq).2 hL.upd.size⟩, h.upd.then hL.upd (fun q hq => .inr (hg.2 q hq).1)⟩,
    fun g t cs hB h1 h2 => hB.upd hL.upd (hg.1.not_mem hB h1 h2), fun q hq => hL.upd.block q (h.low q hq).2 (fun e => (hg.2 q e).2 hq)⟩
  · rw [List.length_set] at hj
    by_cases eji : j = i
    · subst eji
      simp only [if_pos, List.getElem_set_self]
      refine ⟨hL.disk, fun q hq => ?_⟩
      rcases hL.sub q hq with e | e
      · exact hg.2 q e
      · exact ⟨Nat.le_trans h0 e, fun c => by have := (h.low q c).2; omega⟩
    · rw [List.getElem_set_ne (Ne.symm eji)]
      simp only [if_neg eji]
      exact ⟨(h1 j hj).1.upd hL.upd (fun q hq e => h2 j i hj hlt eji q hq e), (h1 j hj).2⟩
  · rw [List.length_set] at hj hk
    by_cases eji : j = i
    · subst eji
      simp only [if_pos] at hq
      simp only [if_neg (Ne.symm hne)] at hq2
      rcases hL.sub q hq with e | e
      · exact h2 j k hlt hk hne q e hq2
      · have := (h1 k hk).1.lt q hq2; omega
    · simp only [if_neg eji] at hq
      by_cases eki : k = i
      · subst eki
        simp only [if_pos] at hq2
        rcases hL.sub q hq2 with e | e
        · exact h2 j k hj hlt hne q hq e
        · have := (h1 j hj).1.lt q hq; omega
      · simp only [if_neg eki] at hq2
        exact h2 j k hj hk hne q hq hq2
/-- A disk more. -/
theorem DksX.more (h : DksX w0 w l X) (hu : Upd (fun _ => False) w w') (hD : ∃ F, DiskAt w' p d F ∧ ∀ q ∈ F, w.heap.size ≤ q) : DksX w0 w' (l ++ [(p, d)]) X := by
  obtain ⟨G, h1, h2⟩ := h.ex
  obtain ⟨F, hF, hn⟩ := hD
  have h0 := h.upd.size
  refine ⟨⟨fun j => if j < l.length then G j else F, fun j hj => ?_, fun j k hj hk hne q hq hq2 => ?_⟩, fun q hq => ⟨(h.low q hq).1, Nat.lt_of_lt_of_le (h.low q hq).2 hu.size⟩, h.upd.then hu (fun _ e => e.elim)⟩
  · by_cases hlt : j < l.length
    · rw [List.getElem_append_left hlt]
      simp only [if_pos hlt]
      exact ⟨(h1 j hlt).1.upd hu (fun _ _ e => e), (h1 j hlt).2⟩
    · rw [List.getElem_append_right (by omega)]
      simp only [if_neg hlt, List.getElem_singleton]
      exact ⟨hF, fun q hq => ⟨Nat.le_trans h0 (hn q hq), fun c => by have := (h.low q c).2; have := hn q hq; omega⟩⟩
  · simp only [List.length_append, List.length_singleton] at hj hk
    by_cases hjl : j < l.length
    · simp only [if_pos hjl] at hq
      by_cases hkl : k < l.length
      · simp only [if_pos hkl] at hq2
        exact h2 j k hjl hkl hne q hq hq2
      · simp only [if_neg hkl] at hq2
        have := (h1 j hjl).1.lt q hq
        have := hn q hq2
        omega
    · simp only [if_neg hjl] at hq
      by_cases hkl : k < l.length
      · simp only [if_pos hkl] at hq2
        have := (h1 k hkl).1.lt q hq2
        have := hn q hq
        omega
      · omega
theorem write_v {i : Nat} (h : DksX w0 w l X) (hi : l[i]? = some (p, d)) (k : Int) (s : ByteArray) (hp : d.pend + 1 < 1000000) :
    Calls Tryz.prog 17 #[.pointer (some ⟨p, 0, none⟩), .int .i64 k, .string s] w fun e w' => e = .returned (.int .i64 (d.write k s).2) ∧ DksX w0 w' (l.set i (p, (d.write k s).1)) X ∧ BlkKept w w' ∧ XKept X w w' :=
  h.call (R := fun e => e = .returned (.int .i64 (d.write k s).2)) i hi fun _ h1 _ => write_c h1 k s hp
theorem sync_v {i : Nat} (h : DksX w0 w l X) (hi : l[i]? = some (p, d)) :
    Calls Tryz.prog 43 #[.pointer (some ⟨p, 0, none⟩)] w fun e w' => e = .returned (.int .i64 d.sync.2) ∧ DksX w0 w' (l.set i (p, d.sync.1)) X ∧ BlkKept w w' ∧ XKept X w w' :=
  h.call (R := fun e => e = .returned (.int .i64 d.sync.2)) i hi fun _ h1 _ => sync_c h1
theorem fuse_v {i : Nat} (h : DksX w0 w l X) (hi : l[i]? = some (p, d)) (n : Int) (hn : n ≤ 9223372036854775807) :
    Calls Tryz.prog 31 #[.pointer (some ⟨p, 0, none⟩), .int .i64 n] w fun e w' => e = .returned (.tuple #[]) ∧ DksX w0 w' (l.set i (p, d.setFuse n)) X ∧ BlkKept w w' ∧ XKept X w w' :=
  h.call (R := fun e => e = .returned (.tuple #[])) i hi fun F h1 _ => (fuse_c h1 n hn).mono fun _ _ hx => ⟨hx.1, F, hx.2⟩
theorem crash_v {i : Nat} {v : Value} {keep : List Int} (h : DksX w0 w l X) (hi : l[i]? = some (p, d)) (hA : IsInts w0 v keep) :
    Calls Tryz.prog 32 #[.pointer (some ⟨p, 0, none⟩), v] w fun e w' => e = .returned (.tuple #[]) ∧ DksX w0 w' (l.set i (p, d.crash keep)) X ∧ BlkKept w w' ∧ XKept X w w' :=
  h.call (R := fun e => e = .returned (.tuple #[])) i hi fun _ h1 h2 => crash_c h1 (KeepAt.of_ints h2 hA h.upd)
/-- A map of writes: an entry for each sector that has some. -/
structure MayIn (w : World) (bm : Nat) (ws : List (List ByteArray)) (X : Nat → Prop) : Prop where
  ex : ∃ m, MapB intKey w bm m ∧ WaitsAt w m ws ∧ (bm :: m.filterMap (·.2.ownBlock)).Nodup ∧ ∀ q, X q ↔ q ∈ bm :: m.filterMap (·.2.ownBlock)
theorem MayIn.lt {bm : Nat} {ws : List (List ByteArray)} (h : MayIn w bm ws X) : ∀ q, X q → q < w.heap.size := by
  obtain ⟨m, h1, h2, h3, h4⟩ := h.ex
  intro q hq
  rcases List.mem_cons.1 ((h4 q).1 hq) with rfl | e
  · exact h1.lt
  · obtain ⟨x, hx, fx⟩ := List.mem_filterMap.1 e
    obtain ⟨i, _, _, _, ho⟩ := h2.each x hx
    exact ho.lt fx
theorem MayIn.kept {bm : Nat} {ws : List (List ByteArray)} (h : MayIn w bm ws X) (hk : XKept X w w') : MayIn w' bm ws X := by
  obtain ⟨m, h1, h2, h3, h4⟩ := h.ex
  exact ⟨m, h1.eqb (hk bm ((h4 bm).2 (by simp))), h2.upd (fun q hq => hk q ((h4 q).2 (List.mem_cons_of_mem _ hq))), h3, h4⟩
theorem MayIn.still {bm : Nat} {ws : List (List ByteArray)} (h : MayIn w bm ws X) (hu : Upd (fun _ => False) w w') : MayIn w' bm ws X := h.kept fun q hq => hu.block q (h.lt q hq) (fun e => e)
theorem MayIn.new (w : World) (n : Nat) : MayIn (w.alloc (.map #[] 0)) w.heap.size (List.replicate n []) (fun q => q = w.heap.size) :=
  ⟨[], MapB.new w, ⟨by simp, fun i hi => absurd (by rw [List.getD_eq_getElem?_getD, List.getElem?_replicate]; split <;> rfl) hi⟩, by simp, fun q => by simp⟩
theorem set_getD (ws : List (List ByteArray)) {k : Nat} (hk : k < ws.length) (x : List ByteArray) (i : Nat) : (ws.set k x).getD i [] = if i = k then x else ws.getD i [] := by
  simp only [List.getD_eq_getElem?_getD, List.getElem?_set]
  by_cases h : k = i
  · subst h; simp [hk]
  · simp [h, Ne.symm h]
/-- A write more. -/
theorem may_push {w2 w3 : World} {bm k : Nat} {ws : List (List ByteArray)} {m : List (Int × Value)} {v0 v' : Value} {b : ByteArray}
    (g3 : MapB intKey w bm m) (g4 : WaitsAt w m ws) (nd : (bm :: m.filterMap (·.2.ownBlock)).Nodup) (hX : ∀ q, X q ↔ q ∈ bm :: m.filterMap (·.2.ownBlock)) (hk : k < ws.length)
    (hv0 : ∀ q, v0.ownBlock = some q → ((k : Int), v0) ∈ m)
    (hown : Own w2 9 1 v' ((ws.getD k []).length + 1) (strs (ws.getD k [] ++ [b]))) (hU2 : Upd (fun q => v0.ownBlock = some q) w w2)
    (hloc : ∀ q, v'.ownBlock = some q → v0.ownBlock = some q ∨ w.heap.size ≤ q)
    (hM : MapB intKey w3 bm (setA m (k : Int) v')) (hU3 : Upd (· = bm) w2 w3) :
    ∃ Y, MayIn w3 bm (ws.set k (ws.getD k [] ++ [b])) Y ∧ Upd X w w3 ∧ ∀ q, Y q → X q ∨ (w.heap.size ≤ q ∧ q < w3.heap.size) := by
  have hlt : ∀ q ∈ m.filterMap (·.2.ownBlock), q < w.heap.size := by
    intro q hq
    obtain ⟨x, hx, fx⟩ := List.mem_filterMap.1 hq
    obtain ⟨i, _, _, _, ho⟩ := g4.each x hx
    exact ho.lt fx
  have hbl := g3.lt
  simp only [List.nodup_cons] at nd
  obtain ⟨nmf, nff⟩ := nd
  have hmemF : ∀ q, v0.ownBlock = some q → q ∈ m.filterMap (·.2.ownBlock) := fun q hq => List.mem_filterMap.2 ⟨_, hv0 q hq, hq⟩
  have keep : ∀ q, q < w.heap.size → v0.ownBlock ≠ some q → q ≠ bm → w3.heap[q]? = w.heap[q]? := fun q h1 h2 h3 => (hU3.block q (Nat.lt_of_lt_of_le h1 hU2.size) h3).trans (hU2.block q h1 h2)
  have hm0 : v0.ownBlock ≠ some bm := fun e => nmf (hmemF bm e)
  have hbm : v'.ownBlock ≠ some bm := fun e => (hloc bm e).elim hm0 (fun h => by omega)
  have hown3 : Own w3 9 1 v' ((ws.getD k []).length + 1) (strs (ws.getD k [] ++ [b])) := hown.upd hU3 (fun q hq e => hbm (by rw [← e]; exact hq))
  have hsg := set_getD ws hk (ws.getD k [] ++ [b])
  have hfm : ∀ q ∈ (setA m (k : Int) v').filterMap (·.2.ownBlock), q ∈ m.filterMap (·.2.ownBlock) ∨ w.heap.size ≤ q := by
    intro q hq
    obtain ⟨x, hx, fx⟩ := List.mem_filterMap.1 hq
    rcases mem_setA hx with rfl | ⟨hx, _⟩
    · exact (hloc q fx).imp (hmemF q) id
    · exact .inl (List.mem_filterMap.2 ⟨x, hx, fx⟩)
  have hW : WaitsAt w3 (setA m (k : Int) v') (ws.set k (ws.getD k [] ++ [b])) := by
    refine ⟨fun q hq => ?_, fun i hi => ?_⟩
    · rcases mem_setA hq with rfl | ⟨hq, hne⟩
      · refine ⟨k, rfl, by simpa using hk, ?_, ?_⟩
        · rw [hsg, if_pos rfl]
          simp
        · rw [hsg, if_pos rfl]
          simpa using hown3
      · obtain ⟨i, e, hi, hne0, ho⟩ := g4.each q hq
        have hik : i ≠ k := fun h => hne (by rw [e, h])
        refine ⟨i, e, by simpa using hi, ?_, ?_⟩
        · rw [hsg, if_neg hik]
          exact hne0
        · rw [hsg, if_neg hik]
          refine ho.eqb fun x hx => keep x (ho.lt hx) (fun h0 => ?_) (fun hxm => nmf (List.mem_filterMap.2 ⟨q, hq, by rw [← hxm]; exact hx⟩))
          have := nodup_filterMap_inj nff hq (hv0 x h0) hx h0
          rw [this] at hne
          exact hne rfl
    · by_cases hik : i = k
      · subst hik
        exact List.mem_map.2 ⟨_, setA_mem, rfl⟩
      · rw [hsg, if_neg hik] at hi
        exact setA_keys (g4.all i hi)
  have hnd : ((setA m (k : Int) v').filterMap (·.2.ownBlock)).Nodup := by
    refine nodup_filterMap_of (nodup_of_map hM.nodup) fun x hx y hy q fx fy => ?_
    have other : ∀ y, y ∈ m → y.1 ≠ (k : Int) → y.2.ownBlock = some q → v'.ownBlock = some q → False := fun y hy hne fy fx => by
      rcases hloc q fx with h | h
      · have := nodup_filterMap_inj nff hy (hv0 q h) fy h
        rw [this] at hne
        exact hne rfl
      · have := hlt q (List.mem_filterMap.2 ⟨y, hy, fy⟩)
        omega
    rcases mem_setA hx with rfl | ⟨hx, hxn⟩
    · rcases mem_setA hy with rfl | ⟨hy, hyn⟩
      · rfl
      · exact (other y hy hyn fy fx).elim
    · rcases mem_setA hy with rfl | ⟨hy, hyn⟩
      · exact (other x hx hxn fx fy).elim
      · exact nodup_filterMap_inj nff hx hy fx fy
  have hmay : MayIn w3 bm (ws.set k (ws.getD k [] ++ [b])) (fun q => q ∈ bm :: (setA m (k : Int) v').filterMap (·.2.ownBlock)) :=
    ⟨_, hM, hW, by rw [List.nodup_cons]; exact ⟨fun h => (hfm bm h).elim nmf (fun h => by omega), hnd⟩, fun q => Iff.rfl⟩
  refine ⟨_, hmay, (hU2.mono fun q hq => .inl ((hX q).2 (List.mem_cons_of_mem _ (hmemF q hq)))).then hU3 (fun q hq => .inl ((hX q).2 (by rw [hq]; simp))), fun q hq => ?_⟩
  have hq3 := hmay.lt q hq
  rcases List.mem_cons.1 hq with rfl | e
  · exact .inl ((hX q).2 (by simp))
  · exact (hfm q e).imp (fun e => (hX q).2 (List.mem_cons_of_mem _ e)) (fun e => ⟨e, hq3⟩)
end
end Go.Proofs.YtpfbgmfkeofefaaGreat
