/-
  Spoil and Look, as a law knows them.
-/
import Derived.Test.YtpfbgmfkeofefaaGreatLawB
import Derived.Test.YtpfbgmfkeofefaaGreatFree
import Derived.Test.YtpfbgmfkeofefaaGreatDiskE
namespace Go.Proofs.YtpfbgmfkeofefaaGreat
open Go Go.RowKit

theorem spoil_s {w0 w : World} {p : Nat} {d : Dk} (hD : DkS w0 w p d) (i a : Int) (x : ByteArray) (ha : -9223372036854775808 ≤ a ∧ a ≤ 9223372036854775807) (hx : x.size ≤ 9223372036854775807) :
    Calls Tryz.prog 47 #[.pointer (some ⟨p, 0, none⟩), .int .i64 i, .int .i64 a, .string x] w fun e w' => e = .returned (.int .i64 (d.spoil i a x).2) ∧ DkS w0 w' p (d.spoil i a x).1 := by
  obtain ⟨F, h1, h2⟩ := hD.ex
  refine (spoil_c h1 i a x ha.1 ha.2 hx).mono ?_
  rintro e w' ⟨rfl, hL⟩
  exact ⟨rfl, ⟨⟨F, hL.disk, h2⟩, hD.upd.then hL.upd (fun q hq => .inr (h2 q hq))⟩⟩
theorem look_s (s : ByteArray) (w : World) (hs : s.size ≤ 9223372036854775807) :
    Calls Tryz.prog 76 #[.string s] w fun e w' => e = .returned (.tuple #[.string (str (lookL s.data.toList).1), .int .i64 (lookL s.data.toList).2]) ∧ Upd (fun _ => False) w w' := by
  refine (Look_c s w hs).mono ?_
  rintro e w' ⟨rfl, hb⟩
  exact ⟨rfl, Upd.of_below hb _⟩
end Go.Proofs.YtpfbgmfkeofefaaGreat
