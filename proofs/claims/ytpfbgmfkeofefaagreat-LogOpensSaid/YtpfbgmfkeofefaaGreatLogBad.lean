/-
  Open of a log, where it is refused.
-/
import Derived.Test.YtpfbgmfkeofefaaGreatLogWorld
namespace Go.Proofs.YtpfbgmfkeofefaaGreat
open Go Go.RowKit

set_option maxRecDepth 100000 in
theorem dnone_nil (w : World) : Calls Tryz.prog 72 #[.pointer none] w fun e w' => e = .returned (.bool true) ∧ w = w' := by
  go_enter Tryz.func72, Tryz.ntmps72
  go_wp2
  go_ret
  exact ⟨rfl, rfl⟩
set_option maxRecDepth 100000 in
theorem sectors_nil (w : World) : Calls Tryz.prog 54 #[.pointer none] w fun e w' => e = .returned (.int .i64 0) ∧ w = w' := by
  go_enter Tryz.func54, Tryz.ntmps54
  go_wp2_with fail
  refine (dnone_nil _).mono ?_
  rintro e w' ⟨rfl, rfl⟩
  go_wp2
  go_ret
  exact ⟨rfl, rfl⟩
set_option maxRecDepth 100000 in
theorem openG_nil (f n e : Int) (w : World) : Calls Tryz.prog 33 #[.pointer none, .int .i64 f, .int .i64 n, .int .u64 e] w fun en w' => en = .returned (.tuple #[.pointer none, .int .i64 2]) ∧ w = w' := by
  go_enter Tryz.func33, Tryz.ntmps33
  go_wp2_with fail
  refine (sectors_nil _).mono ?_
  rintro e w' ⟨rfl, rfl⟩
  go_wp2
  go_ret2
  exact ⟨rfl, rfl⟩
set_option maxRecDepth 100000 in
set_option maxHeartbeats 800000 in
theorem openG_bad {w : World} {p : Nat} {d : Dk} {F : List Nat} (hD : DiskAt w p d F) (f n e : Int) (h : ¬ (0 ≤ f ∧ 1 ≤ n ∧ n ≤ d.lasts.length ∧ f ≤ d.lasts.length - n ∧ 1 ≤ e)) :
    Calls Tryz.prog 33 #[.pointer (some ⟨p, 0, none⟩), .int .i64 f, .int .i64 n, .int .u64 e] w fun en w' => en = .returned (.tuple #[.pointer none, .int .i64 1]) ∧ w = w' := by
  have hm := hD.wf.most
  have hp := hD.wf.pos
  have HS := Lib.hid (sectors_c hD)
  have hne : ((d.lasts.length : Int) == 0) = false := by rw [beq_eq_false_iff_ne]; omega
  generalize d.lasts.length = L at *
  clear hD
  go_enter Tryz.func33, Tryz.ntmps33
  go_wp2_with fail
  refine HS.out.mono ?_
  rintro e w' ⟨rfl, rfl⟩
  by_cases c1 : f < 0
  · go_wp2
    go_ret2
    exact ⟨rfl, rfl⟩
  by_cases c2 : n < 1
  · go_wp2
    go_ret2
    exact ⟨rfl, rfl⟩
  by_cases c3 : (L : Int) < n
  · go_wp2_with fail
    refine HS.out.mono ?_
    rintro e w' ⟨rfl, rfl⟩
    go_wp2
    go_ret2
    exact ⟨rfl, rfl⟩
  have hw : IntKind.i64.wrap ((L : Int) - n) = (L : Int) - n := IntWalk.i64_in _ (by omega)
  by_cases c4 : (L : Int) - n < f
  · go_wp2_with fail
    refine HS.out.mono ?_
    rintro e w' ⟨rfl, rfl⟩
    go_wp2_with fail
    refine HS.out.mono ?_
    rintro e w' ⟨rfl, rfl⟩
    go_wp2
    go_ret2
    exact ⟨rfl, rfl⟩
  have c5 : e < 1 := by omega
  go_wp2_with fail
  refine HS.out.mono ?_
  rintro e w' ⟨rfl, rfl⟩
  go_wp2_with fail
  refine HS.out.mono ?_
  rintro e w' ⟨rfl, rfl⟩
  go_wp2
  go_ret2
  exact ⟨rfl, rfl⟩
end Go.Proofs.YtpfbgmfkeofefaaGreat
