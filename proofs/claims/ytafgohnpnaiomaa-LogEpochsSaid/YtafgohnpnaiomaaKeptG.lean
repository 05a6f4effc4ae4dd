/-
  A record that is asked for, and one that is put.
-/
import Derived.Test.YtafgohnpnaiomaaKeptF
import Derived.Test.YtafgohnpnaiomaaDiskD
namespace Go.Proofs.Ytafgohnpnaiomaa
open Go Go.RowKit

set_option maxRecDepth 100000 in
set_option maxHeartbeats 800000 in
theorem Get_c {w : World} {p b : Nat} {k : Kp} (hK : Blk w b 120 (k.cells p)) :
    Calls Try.prog 30 #[.pointer (some ⟨b, 0, none⟩)] w fun e w' => e = .returned (.tuple #[.string (str k.text), .bool (decide (0 < k.gen))]) ∧ Below w.heap.size w w' := by
  have hc := hK.cells7
  have HB := Lib.hid hK
  clear hK
  have hd : decide ((0 : Int) < (k.gen : Int)) = decide (0 < k.gen) := by
    by_cases h : 0 < k.gen
    · rw [decide_eq_true h, decide_eq_true (by omega)]
    · rw [decide_eq_false h, decide_eq_false (by omega)]
  go_enter Try.func30, Try.ntmps30
  go_wp2_with fail
  go_region_held3 (fun w' => w'.cell? ⟨b, 2, none⟩ = some (.string (str k.text)) ∧ w'.cell? ⟨b, 3, none⟩ = some (.int .u64 (k.gen : Int))) (go_keep) (first | fail)
  all_goals go_wp2
  all_goals
    go_ret2
    exact ⟨rfl, (Below.refl _ _).drew⟩
end Go.Proofs.Ytafgohnpnaiomaa
