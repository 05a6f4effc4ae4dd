/-
  Three operations that may come up; an act's row; what a spoilt sector and a fuse leave of what waits.
-/
import Derived.Test.YtpfbgmfkeofefaaGreatPlayE
namespace Go.Proofs.YtpfbgmfkeofefaaGreat
open Go Go.RowKit

section
variable {P : Program} {ops : Array Oper} {Q : Exit → Act → World → Prop} {md : Region.Mode} {S : World → Prop} {T : Nat → Bool}
theorem wpAnyT_three {i j k : Nat} {oi oj ok : Oper} {fuel : Nat} {listed : Array Bool} {a : Act} {w : World} (hr : Region.ready md ops listed = [i, j, k]) (hi : ops[i]? = some oi) (hj : ops[j]? = some oj) (hk : ops[k]? = some ok)
    (h1 : ∀ K' : Act → World → Prop, Shut (∀ a w, S w → wpAnyT P md ops Q S T fuel (listed.setIfInBounds i true) a w → K' a w) → if Region.wanted oi (yielded ops a.tmps) = true then Oper.wp P oi a w K' Q else K' (a.put oi.dst undef) w)
    (h2 : ∀ K' : Act → World → Prop, Shut (∀ a w, S w → wpAnyT P md ops Q S T fuel (listed.setIfInBounds j true) a w → K' a w) → if Region.wanted oj (yielded ops a.tmps) = true then Oper.wp P oj a w K' Q else K' (a.put oj.dst undef) w)
    (h3 : ∀ K' : Act → World → Prop, Shut (∀ a w, S w → wpAnyT P md ops Q S T fuel (listed.setIfInBounds k true) a w → K' a w) → if Region.wanted ok (yielded ops a.tmps) = true then Oper.wp P ok a w K' Q else K' (a.put ok.dst undef) w) :
    wpAnyT P md ops Q S T (fuel + 1) listed a w := by
  refine ⟨fun h0 => (by rw [hr] at h0; cases h0), fun l hl => ?_⟩
  rw [hr] at hl
  rcases (by simpa using hl : l = i ∨ l = j ∨ l = k) with rfl | rfl | rfl
  · exact wpOp_step hi (fun K' hK => h1 K' (fun a w hS hW => hK a w ⟨fun _ => hS, hW⟩))
  · exact wpOp_step hj (fun K' hK => h2 K' (fun a w hS hW => hK a w ⟨fun _ => hS, hW⟩))
  · exact wpOp_step hk (fun K' hK => h3 K' (fun a w hS hW => hK a w ⟨fun _ => hS, hW⟩))
end
/-- A law's act. -/
abbrev act9 (do_ : Int) (text : ByteArray) (n at_ : Int) (x : ByteArray) (keep : Value) : Array Value := #[.int .i64 do_, .string text, .int .i64 n, .int .i64 at_, .string x, keep]
theorem setFuse_pend (d : Dk) (m : Int) : (d.setFuse m).pend = d.pend := rfl
theorem spoil_same (d : Dk) (i a : Int) (x : ByteArray) : (d.spoil i a x).1.pend = d.pend ∧ (d.spoil i a x).1.lasts.length = d.lasts.length := by
  unfold Dk.spoil
  split
  · exact ⟨rfl, by simp⟩
  · exact ⟨rfl, rfl⟩
end Go.Proofs.YtpfbgmfkeofefaaGreat
