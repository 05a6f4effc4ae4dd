/-
  Crash and Twin, and what they leave of other blocks.
-/
import Derived.Test.YtafgohnpnaiomaaDone7
namespace Go.Proofs.Ytafgohnpnaiomaa
open Go Go.RowKit

section
variable {w0 w w' : World} {l : List (Nat × Dk)} {p i : Nat} {d : Dk}
theorem crash_yk {g : Nat} {keep : List Int} (h : Dks w0 w l) (hi : l[i]? = some (p, d)) (hB : Blk w g 3 (keep.map (Value.int .i64)).toArray) (hl : keep.length ≤ 5000) (hok : ∀ z ∈ keep, -9223372036854775808 ≤ z ∧ z ≤ 9223372036854775807) :
    Calls Try.prog 53 #[.pointer (some ⟨p, 0, none⟩), .slice (some ⟨g, 0, none⟩) keep.length keep.length] w fun e w' => e = .returned (.tuple #[]) ∧ Dks w0 w' (l.set i (p, d.crash keep)) ∧ BlkKept w w' :=
  h.callK (R := fun e => e = .returned (.tuple #[])) i hi fun _ h1 _ => crash_c h1 (KeepAt.of_new h1 hB hl hok)
theorem twin_k (h : Dks w0 w l) (hi : l[i]? = some (p, d)) :
    Calls Try.prog 55 #[.pointer (some ⟨p, 0, none⟩)] w fun e w' => ∃ b, e = .returned (.pointer (some ⟨b, 0, none⟩)) ∧ Dks w0 w' (l ++ [(b, d)]) ∧ BlkKept w w' := by
  obtain ⟨F, h1, -⟩ := (h.one i hi).ex
  refine (twin_c h1).mono ?_
  rintro e w' ⟨b, F', rfl, hD, hF, hU⟩
  exact ⟨b, rfl, h.more hU ⟨F', hD, hF⟩, fun g t cs hB _ _ => hB.upd hU (fun e => e)⟩
end
end Go.Proofs.Ytafgohnpnaiomaa
