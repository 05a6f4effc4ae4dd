/-
  Acts that are done to a disk: run; Great of chapter 07; its wake.
-/
import Derived.Test.YtafgohnpnaiomaaLaw7
import Derived.Deep.RegionHeld3
namespace Go.Proofs.Ytafgohnpnaiomaa
open Go Go.RowKit

section
variable {w0 w w' : World} {l : List (Nat × Dk)} {p i : Nat} {d : Dk}
theorem write_x (h : Dks w0 w l) (hi : l[i]? = some (p, d)) (k : Int) (s : ByteArray) (hp : d.pend + 1 < 1000000) :
    Calls Try.prog 27 #[.pointer (some ⟨p, 0, none⟩), .int .i64 k, .string s] w fun e w' => e = .returned (.int .i64 (d.write k s).2) ∧ Dks w0 w' (l.set i (p, (d.write k s).1)) :=
  h.call (R := fun e => e = .returned (.int .i64 (d.write k s).2)) i hi fun _ h1 _ => write_c h1 k s hp
theorem write_k (h : Dks w0 w l) (hi : l[i]? = some (p, d)) (k : Int) (s : ByteArray) (hp : d.pend + 1 < 1000000) :
    Calls Try.prog 27 #[.pointer (some ⟨p, 0, none⟩), .int .i64 k, .string s] w fun e w' => e = .returned (.int .i64 (d.write k s).2) ∧ Dks w0 w' (l.set i (p, (d.write k s).1)) ∧ BlkKept w w' :=
  h.callK (R := fun e => e = .returned (.int .i64 (d.write k s).2)) i hi fun _ h1 _ => write_c h1 k s hp
theorem sync_x (h : Dks w0 w l) (hi : l[i]? = some (p, d)) :
    Calls Try.prog 50 #[.pointer (some ⟨p, 0, none⟩)] w fun e w' => e = .returned (.int .i64 d.sync.2) ∧ Dks w0 w' (l.set i (p, d.sync.1)) :=
  h.call (R := fun e => e = .returned (.int .i64 d.sync.2)) i hi fun _ h1 _ => sync_c h1
theorem fuse_x (h : Dks w0 w l) (hi : l[i]? = some (p, d)) (n : Int) (hn : n ≤ 9223372036854775807) :
    Calls Try.prog 47 #[.pointer (some ⟨p, 0, none⟩), .int .i64 n] w fun e w' => e = .returned (.tuple #[]) ∧ Dks w0 w' (l.set i (p, d.setFuse n)) :=
  h.call (R := fun e => e = .returned (.tuple #[])) i hi fun F h1 _ => (fuse_c h1 n hn).mono fun _ _ hx => ⟨hx.1, F, hx.2⟩
theorem crash_x {v : Value} {keep : List Int} (h : Dks w0 w l) (hi : l[i]? = some (p, d)) (hA : IsInts w0 v keep) :
    Calls Try.prog 53 #[.pointer (some ⟨p, 0, none⟩), v] w fun e w' => e = .returned (.tuple #[]) ∧ Dks w0 w' (l.set i (p, d.crash keep)) :=
  h.call (R := fun e => e = .returned (.tuple #[])) i hi fun _ h1 h2 => crash_c h1 (KeepAt.of_ints h2 hA h.upd)
theorem crash_y {g : Nat} {keep : List Int} (h : Dks w0 w l) (hi : l[i]? = some (p, d)) (hB : Blk w g 3 (keep.map (Value.int .i64)).toArray) (hl : keep.length ≤ 5000) (hok : ∀ z ∈ keep, -9223372036854775808 ≤ z ∧ z ≤ 9223372036854775807) :
    Calls Try.prog 53 #[.pointer (some ⟨p, 0, none⟩), .slice (some ⟨g, 0, none⟩) keep.length keep.length] w fun e w' => e = .returned (.tuple #[]) ∧ Dks w0 w' (l.set i (p, d.crash keep)) :=
  h.call (R := fun e => e = .returned (.tuple #[])) i hi fun _ h1 _ => crash_c h1 (KeepAt.of_new h1 hB hl hok)
theorem spoil_x (h : Dks w0 w l) (hi : l[i]? = some (p, d)) (k a : Int) (x : ByteArray) (ha : -9223372036854775808 ≤ a ∧ a ≤ 9223372036854775807) (hx : x.size ≤ 9223372036854775807) :
    Calls Try.prog 35 #[.pointer (some ⟨p, 0, none⟩), .int .i64 k, .int .i64 a, .string x] w fun e w' => e = .returned (.int .i64 (d.spoil k a x).2) ∧ Dks w0 w' (l.set i (p, (d.spoil k a x).1)) :=
  h.call (R := fun e => e = .returned (.int .i64 (d.spoil k a x).2)) i hi fun F h1 _ => (spoil_c h1 k a x ha.1 ha.2 hx).mono fun _ _ hx => ⟨hx.1, F, hx.2⟩
theorem sync_k (h : Dks w0 w l) (hi : l[i]? = some (p, d)) :
    Calls Try.prog 50 #[.pointer (some ⟨p, 0, none⟩)] w fun e w' => e = .returned (.int .i64 d.sync.2) ∧ Dks w0 w' (l.set i (p, d.sync.1)) ∧ BlkKept w w' :=
  h.callK (R := fun e => e = .returned (.int .i64 d.sync.2)) i hi fun _ h1 _ => sync_c h1
theorem fuse_k (h : Dks w0 w l) (hi : l[i]? = some (p, d)) (n : Int) (hn : n ≤ 9223372036854775807) :
    Calls Try.prog 47 #[.pointer (some ⟨p, 0, none⟩), .int .i64 n] w fun e w' => e = .returned (.tuple #[]) ∧ Dks w0 w' (l.set i (p, d.setFuse n)) ∧ BlkKept w w' :=
  h.callK (R := fun e => e = .returned (.tuple #[])) i hi fun F h1 _ => (fuse_c h1 n hn).mono fun _ _ hx => ⟨hx.1, F, hx.2⟩
theorem crash_k {v : Value} {keep : List Int} (h : Dks w0 w l) (hi : l[i]? = some (p, d)) (hA : IsInts w0 v keep) :
    Calls Try.prog 53 #[.pointer (some ⟨p, 0, none⟩), v] w fun e w' => e = .returned (.tuple #[]) ∧ Dks w0 w' (l.set i (p, d.crash keep)) ∧ BlkKept w w' :=
  h.callK (R := fun e => e = .returned (.tuple #[])) i hi fun _ h1 h2 => crash_c h1 (KeepAt.of_ints h2 hA h.upd)
theorem spoil_k (h : Dks w0 w l) (hi : l[i]? = some (p, d)) (k a : Int) (x : ByteArray) (ha : -9223372036854775808 ≤ a ∧ a ≤ 9223372036854775807) (hx : x.size ≤ 9223372036854775807) :
    Calls Try.prog 35 #[.pointer (some ⟨p, 0, none⟩), .int .i64 k, .int .i64 a, .string x] w fun e w' => e = .returned (.int .i64 (d.spoil k a x).2) ∧ Dks w0 w' (l.set i (p, (d.spoil k a x).1)) ∧ BlkKept w w' :=
  h.callK (R := fun e => e = .returned (.int .i64 (d.spoil k a x).2)) i hi fun F h1 _ => (spoil_c h1 k a x ha.1 ha.2 hx).mono fun _ _ hx => ⟨hx.1, F, hx.2⟩
theorem twin_x (h : Dks w0 w l) (hi : l[i]? = some (p, d)) :
    Calls Try.prog 55 #[.pointer (some ⟨p, 0, none⟩)] w fun e w' => ∃ b, e = .returned (.pointer (some ⟨b, 0, none⟩)) ∧ Dks w0 w' (l ++ [(b, d)]) := by
  obtain ⟨F, h1, -⟩ := (h.one i hi).ex
  refine (twin_c h1).mono ?_
  rintro e w' ⟨b, F', rfl, hD, hF, hU⟩
  exact ⟨b, rfl, h.more hU ⟨F', hD, hF⟩⟩
theorem new_k (h : Dks w0 w l) (z : Int) (n : Nat) (hz : z = (n : Int)) (h1 : 1 ≤ n) (h2 : n ≤ 4096) :
    Calls Try.prog 25 #[.int .i64 z] w fun e w' => ∃ p, e = .returned (.tuple #[.pointer (some ⟨p, 0, none⟩), .int .i64 0]) ∧ Dks w0 w' (l ++ [(p, Dk.fresh n)]) ∧ BlkKept w w' := by
  subst hz
  refine (New_c n w h1 h2).mono ?_
  rintro e w' ⟨p, F, rfl, hD, hU, hF⟩
  exact ⟨p, rfl, h.more hU ⟨F, hD, hF⟩, fun g t cs hB _ _ => hB.upd hU (fun e => e)⟩
theorem new_x (h : Dks w0 w l) (z : Int) (n : Nat) (hz : z = (n : Int)) (h1 : 1 ≤ n) (h2 : n ≤ 4096) :
    Calls Try.prog 25 #[.int .i64 z] w fun e w' => ∃ p, e = .returned (.tuple #[.pointer (some ⟨p, 0, none⟩), .int .i64 0]) ∧ Dks w0 w' (l ++ [(p, Dk.fresh n)]) :=
  (new_k h z n hz h1 h2).mono fun _ _ ⟨p, h3, h4, _⟩ => ⟨p, h3, h4⟩
theorem BlkKept.of_upd (hu : Upd (fun _ => False) w w') : BlkKept w w' := fun _ _ _ hB _ _ => hB.upd hu (fun e => e)
theorem BlkKept.trans {w1 : World} (h1 : BlkKept w w1) (h2 : BlkKept w1 w') : BlkKept w w' := fun g t cs hB a b => h2 g t cs (h1 g t cs hB a b) a b
theorem read_x (h : Dks w0 w l) (hi : l[i]? = some (p, d)) (k : Int) :
    Calls Try.prog 31 #[.pointer (some ⟨p, 0, none⟩), .int .i64 k] w fun e w' => e = .returned (.tuple #[.string (d.read k).1, .int .i64 (d.read k).2]) ∧ w = w' := read_s (h.one i hi) k
theorem sectors_x (h : Dks w0 w l) (hi : l[i]? = some (p, d)) :
    Calls Try.prog 48 #[.pointer (some ⟨p, 0, none⟩)] w fun e w' => e = .returned (.int .i64 d.lasts.length) ∧ w = w' := by
  obtain ⟨F, h1, -⟩ := (h.one i hi).ex
  exact sectors_c h1
theorem down_x (h : Dks w0 w l) (hi : l[i]? = some (p, d)) :
    Calls Try.prog 51 #[.pointer (some ⟨p, 0, none⟩)] w fun e w' => e = .returned (.bool d.off) ∧ w = w' := by
  obtain ⟨F, h1, -⟩ := (h.one i hi).ex
  exact down_c h1
theorem waits_x (h : Dks w0 w l) (hi : l[i]? = some (p, d)) :
    Calls Try.prog 32 #[.pointer (some ⟨p, 0, none⟩)] w fun e w' => e = .returned (.int .i64 d.pend) ∧ Upd (fun _ => False) w w' := by
  obtain ⟨F, h1, -⟩ := (h.one i hi).ex
  exact waits_c h1
end
theorem ints_nil (w : World) : IsInts w (.slice none 0 0) [] := ⟨⟨none, 0, rfl, by simp, fun h => absurd h (by simp)⟩, by simp⟩
theorem Dk.flush_pend' (d : Dk) : d.flush.pend = 0 := Dk.flush_pend d
theorem act_pend {d : Dk} (h : d.wf) (a : Act7) : (d.act a).pend ≤ d.pend + 1 := by
  unfold Dk.act
  split
  · exact write_pend d a.i a.data h.len
  · split
    · unfold Dk.sync
      split
      · exact Nat.le_succ _
      · split
        · rw [Dk.flush_pend]; exact Nat.zero_le _
        · rw [Dk.burn_pend]; exact Nat.le_succ _
    · split
      · exact Nat.le_succ _
      · split
        · rw [Dk.crash_pend h]; exact Nat.zero_le _
        · split
          · unfold Dk.spoil
            split
            · exact Nat.le_succ _
            · exact Nat.le_succ _
          · exact Nat.le_succ _
end Go.Proofs.Ytafgohnpnaiomaa
