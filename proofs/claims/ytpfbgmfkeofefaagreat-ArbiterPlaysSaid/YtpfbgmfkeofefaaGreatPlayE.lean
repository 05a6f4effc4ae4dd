/-
  DiskPlays: an act of the disk beside the document's: Write. (Printed by mk_play.py.)
-/
import Derived.Test.YtpfbgmfkeofefaaGreatPlayD
namespace Go.Proofs.YtpfbgmfkeofefaaGreat
open Go Go.RowKit

end Go.Proofs.YtpfbgmfkeofefaaGreat

/-
  DiskPlays: acts of the disk beside the document's: a sector spoilt. (Printed by mk_play.py.)
-/
namespace Go.Proofs.YtpfbgmfkeofefaaGreat
open Go Go.RowKit


theorem rspoil_c {w : World} {vl vw : Value} {r : Rd} (h : RdAt w vl vw r) (hf : r.fits) (i a : Int) (x : ByteArray) (ha : -9223372036854775808 ≤ a ∧ a ≤ 9223372036854775807) (hx : x.size ≤ 9223372036854775807) :
    Calls Tryz.prog 46 #[.agg #[vl, vw, .int .i64 r.fuse, .bool r.off], .int .i64 i, .int .i64 a, .string x] w fun e w' => ∃ vl', e = .returned (.tuple #[.agg #[vl', vw, .int .i64 (r.spoil i a x).1.fuse, .bool (r.spoil i a x).1.off], .int .i64 (r.spoil i a x).2]) ∧
      RdLeft w w' vl vw vl' vw (r.spoil i a x).1 := by
  cases hb : (!r.out i && decide (x.size ≤ 4 ∧ 0 ≤ a ∧ a ≤ 64 - x.size)) with
  | false =>
    have e : r.spoil i a x = (r, 1) := by unfold Rd.spoil; rw [hb]; rfl
    rw [e]
    refine (rspoil_bad h hf i a x ha hx hb).mono ?_
    rintro e w' ⟨rfl, hU⟩
    exact ⟨vl, rfl, h.upd hU, hU, fun q hq => .inl hq⟩
  | true =>
    have e : r.spoil i a x = ({ r with lasts := r.lasts.set i.toNat (str (turnK (r.last i.toNat).data.toList a.toNat x.data.toList x.size)) }, 0) := by unfold Rd.spoil; rw [hb]; rfl
    rw [e]
    simp only [Bool.and_eq_true, Bool.not_eq_true', decide_eq_true_eq, Rd.out, decide_eq_false_iff_not] at hb
    obtain ⟨h1, h2, h3, h4⟩ := hb
    have hc := rspoil_good h hf i.toNat a.toNat x (by omega) h2 (by omega)
    rw [Int.toNat_of_nonneg (by omega), Int.toNat_of_nonneg h3] at hc
    exact hc
theorem spoil_v {w0 w : World} {l : List (Nat × Dk)} {p : Nat} {d : Dk} {X : Nat → Prop} {i : Nat} (h : DksX w0 w l X) (hi : l[i]? = some (p, d)) (k a : Int) (x : ByteArray) (ha : -9223372036854775808 ≤ a ∧ a ≤ 9223372036854775807) (hx : x.size ≤ 9223372036854775807) :
    Calls Tryz.prog 47 #[.pointer (some ⟨p, 0, none⟩), .int .i64 k, .int .i64 a, .string x] w fun e w' => e = .returned (.int .i64 (d.spoil k a x).2) ∧ DksX w0 w' (l.set i (p, (d.spoil k a x).1)) X ∧ BlkKept w w' ∧ XKept X w w' :=
  h.call (R := fun e => e = .returned (.int .i64 (d.spoil k a x).2)) i hi fun F h1 _ => (spoil_c h1 k a x ha.1 ha.2 hx).mono fun _ _ hx => ⟨hx.1, F, hx.2⟩
end Go.Proofs.YtpfbgmfkeofefaaGreat

/-
  DiskPlays: an act of the disk beside the document's, whichever.
-/
namespace Go.Proofs.YtpfbgmfkeofefaaGreat
open Go Go.RowKit

end Go.Proofs.YtpfbgmfkeofefaaGreat
