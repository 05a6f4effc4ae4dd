/-
  A disk's calls, as a law knows them.
-/
import Derived.Test.YtafgohnpnaiomaaLawU
import Derived.Test.YtafgohnpnaiomaaArgs
namespace Go.Proofs.Ytafgohnpnaiomaa
open Go Go.RowKit

/-- The cells of n noughts. -/
def zcells (n : Nat) : Array Value := Array.replicate n (.int .u8 0)
theorem make60 (w : World) : (Instr.makeSlice 30 (.int .i64 60) (.int .i64 60)).run Try.prog w = .ok (.slice (some ⟨w.heap.size, 0, none⟩) 60 60) (w.alloc (.cells (zcells 60) 5)) := by kernel_rfl
theorem make64 (w : World) : (Instr.makeSlice 30 (.int .i64 64) (.int .i64 64)).run Try.prog w = .ok (.slice (some ⟨w.heap.size, 0, none⟩) 64 64) (w.alloc (.cells (zcells 64) 5)) := by kernel_rfl
theorem own_z (w : World) (n : Nat) (hn : n ≤ 64) : Own (w.alloc (.cells (zcells n) 5)) 5 1 (.slice (some ⟨w.heap.size, 0, none⟩) n n) n (bytesV (List.replicate n 0)) := by
  refine ⟨by simp [bytesV], .inr ⟨w.heap.size, n, zcells n, (0, 0), rfl, heap_alloc_new w _, .inl rfl, Nat.le_refl _, by unfold maxLen; omega, by simp [zcells], ?_⟩⟩
  have e : (zcells n).toList = bytesV (List.replicate n 0) := by simp [zcells, bytesV]
  rw [e, List.take_of_length_le (by simp [bytesV])]
theorem conv_z (w : World) (n : Nat) (hn : n ≤ 64) : (convert 30 9 (.slice (some ⟨w.heap.size, 0, none⟩) n n)).run Try.prog (w.alloc (.cells (zcells n) 5)) = .ok (.string (str (List.replicate n 0))) (w.alloc (.cells (zcells n) 5)) :=
  run_to_string (own_z w n hn)

section
variable {w0 w w' : World} {p b : Nat} {d : Dk} {k : Kp} {F F' : List Nat}
/-- What is kept is not touched by a call of a disk. -/
def Keeps (w0 w w' : World) (p : Nat) : Prop := ∀ b k, KpS w0 w p b k → KpS w0 w' p b k
theorem keeps_of (h1 : DiskAt w p d F) (hu : Upd (· ∈ F) w w') : Keeps w0 w w' p := fun _ _ hK => ⟨hK.blk.upd hu (h1.not_mem hK.blk (by decide) (by decide)), hK.new⟩
theorem read_s (hD : DkS w0 w p d) (i : Int) :
    Calls Try.prog 31 #[.pointer (some ⟨p, 0, none⟩), .int .i64 i] w fun e w' => e = .returned (.tuple #[.string (d.read i).1, .int .i64 (d.read i).2]) ∧ w = w' := by
  obtain ⟨F, h1, h2⟩ := hD.ex
  exact read_c h1 i
theorem write_s (hD : DkS w0 w p d) (i : Int) (s : ByteArray) (hp : d.pend + 1 < 1000000) :
    Calls Try.prog 27 #[.pointer (some ⟨p, 0, none⟩), .int .i64 i, .string s] w fun e w' => e = .returned (.int .i64 (d.write i s).2) ∧ DkS w0 w' p (d.write i s).1 ∧ Keeps w0 w w' p := by
  obtain ⟨F, h1, h2⟩ := hD.ex
  refine (write_c h1 i s hp).mono ?_
  rintro e w' ⟨rfl, F', hL⟩
  exact ⟨rfl, ⟨⟨F', hL.disk, fun q hq => (hL.sub q hq).elim (h2 q) (fun e => Nat.le_trans hD.upd.size e)⟩, hD.upd.then hL.upd (fun q hq => .inr (h2 q hq))⟩, keeps_of h1 hL.upd⟩
theorem open_at (hD : DkS w0 w p d) {l0 l1 : List Pt} (h : KeptIs d k l0 l1) (f : Int) (hf : f = (k.from_ : Int)) :
    Calls Try.prog 28 #[.pointer (some ⟨p, 0, none⟩), .int .i64 f] w fun e w' => ∃ b, e = .returned (.tuple #[.pointer (some ⟨b, 0, none⟩), .int .i64 0]) ∧ KpS w0 w' p b k ∧ Upd (fun _ => False) w w' ∧ w.heap.size ≤ b := by
  subst hf
  exact open_s hD h
theorem get_at (hK : KpS w0 w p b k) (t : List UInt8) (is : Bool) (ht : k.text = t) (hi : decide (0 < k.gen) = is) :
    Calls Try.prog 30 #[.pointer (some ⟨b, 0, none⟩)] w fun e w' => e = .returned (.tuple #[.string (str t), .bool is]) ∧ Upd (fun _ => False) w w' := by
  subst ht hi
  exact get_s hK
end
end Go.Proofs.Ytafgohnpnaiomaa
