/-
  A nil disk does nothing: none, out, Read, Write, Sync, Fuse, Crash, Waits, Down, Sectors.
-/
import Derived.Test.YtafgohnpnaiomaaDiskA
namespace Go.Proofs.Ytafgohnpnaiomaa
open Go Go.RowKit

set_option maxRecDepth 100000 in
theorem none_nil (w : World) : Calls Try.prog 84 #[.pointer none] w fun e w' => e = .returned (.bool true) ∧ w = w' := by
  go_enter Try.func84, Try.ntmps84
  go_wp2_with fail
  go_ret
  exact ⟨rfl, rfl⟩
set_option maxRecDepth 100000 in
theorem out_nil (w : World) : Calls Try.prog 75 #[.pointer none] w fun e w' => ∃ n : Int, e = .returned (.int .i64 n) ∧ n = 2 ∧ w = w' := by
  go_enter Try.func75, Try.ntmps75
  go_wp2_with fail
  refine (none_nil _).mono ?_
  rintro e w' ⟨rfl, rfl⟩
  go_wp2_with fail
  go_ret
  exact ⟨_, rfl, rfl, rfl⟩
set_option maxRecDepth 100000 in
theorem down_nil (w : World) : Calls Try.prog 51 #[.pointer none] w fun e w' => e = .returned (.bool false) ∧ w = w' := by
  go_enter Try.func51, Try.ntmps51
  go_wp2_with fail
  refine (none_nil _).mono ?_
  rintro e w' ⟨rfl, rfl⟩
  go_wp2_with fail
  go_ret
  exact ⟨rfl, rfl⟩
set_option maxRecDepth 100000 in
theorem sectors_nil (w : World) : Calls Try.prog 48 #[.pointer none] w fun e w' => e = .returned (.int .i64 0) ∧ w = w' := by
  go_enter Try.func48, Try.ntmps48
  go_wp2_with fail
  refine (none_nil _).mono ?_
  rintro e w' ⟨rfl, rfl⟩
  go_wp2_with fail
  go_ret
  exact ⟨rfl, rfl⟩
set_option maxRecDepth 100000 in
theorem waits_nil (w : World) : Calls Try.prog 32 #[.pointer none] w fun e w' => e = .returned (.int .i64 0) ∧ w = w' := by
  go_enter Try.func32, Try.ntmps32
  go_wp2_with fail
  go_ret
  exact ⟨rfl, rfl⟩
set_option maxRecDepth 100000 in
theorem fuse_nil (n : Int) (w : World) : Calls Try.prog 47 #[.pointer none, .int .i64 n] w fun e w' => e = .returned (.tuple #[]) ∧ w = w' := by
  go_enter Try.func47, Try.ntmps47
  go_wp2_with fail
  refine (none_nil _).mono ?_
  rintro e w' ⟨rfl, rfl⟩
  skip
  go_wp2_with fail
  go_end0
  exact ⟨rfl, rfl⟩
set_option maxRecDepth 100000 in
theorem crash_nil (A : Option Addr) (l c : Nat) (w : World) : Calls Try.prog 53 #[.pointer none, .slice A l c] w fun e w' => e = .returned (.tuple #[]) ∧ w = w' := by
  go_enter Try.func53, Try.ntmps53
  go_wp2_with fail
  refine (none_nil _).mono ?_
  rintro e w' ⟨rfl, rfl⟩
  skip
  go_wp2_with fail
  refine bodyPost_ret (results_none rfl _ _ _) rfl ?_
  exact ⟨rfl, rfl⟩
set_option maxRecDepth 100000 in
theorem sync_nil (w : World) : Calls Try.prog 50 #[.pointer none] w fun e w' => ∃ n : Int, e = .returned (.int .i64 n) ∧ n = 2 ∧ w = w' := by
  go_enter Try.func50, Try.ntmps50
  go_wp2_with fail
  refine (out_nil _).mono ?_
  rintro e w' ⟨n, rfl, hn, rfl⟩
  have hn1 : (n != 0) = true := by rw [hn]; rfl
  go_wp2_with fail
  go_ret
  exact ⟨_, rfl, by first | rfl | exact hn, rfl⟩
set_option maxRecDepth 100000 in
theorem read_nil (i : Int) (w : World) : Calls Try.prog 31 #[.pointer none, .int .i64 i] w fun e w' => ∃ n : Int, e = .returned (.tuple #[.string ByteArray.empty, .int .i64 n]) ∧ n = 2 ∧ w = w' := by
  go_enter Try.func31, Try.ntmps31
  go_wp2_with fail
  refine (out_nil _).mono ?_
  rintro e w' ⟨n, rfl, hn, rfl⟩
  have hn1 : (n != 0) = true := by rw [hn]; rfl
  go_wp2_with fail
  go_ret2
  exact ⟨_, rfl, by first | rfl | exact hn, rfl⟩
set_option maxRecDepth 100000 in
theorem write_nil (i : Int) (s : ByteArray) (w : World) : Calls Try.prog 27 #[.pointer none, .int .i64 i, .string s] w fun e w' => ∃ n : Int, e = .returned (.int .i64 n) ∧ n = 2 ∧ w = w' := by
  go_enter Try.func27, Try.ntmps27
  go_wp2_with fail
  refine (out_nil _).mono ?_
  rintro e w' ⟨n, rfl, hn, rfl⟩
  have hn1 : (n != 0) = true := by rw [hn]; rfl
  go_wp2_with fail
  go_ret
  exact ⟨_, rfl, by first | rfl | exact hn, rfl⟩
set_option maxRecDepth 100000 in
theorem spoil_nil (i a : Int) (x : ByteArray) (w : World) : Calls Try.prog 35 #[.pointer none, .int .i64 i, .int .i64 a, .string x] w fun e w' => e = .returned (.int .i64 2) ∧ w = w' := by
  go_enter Try.func35, Try.ntmps35
  go_wp2_with fail
  refine (none_nil _).mono ?_
  rintro e w' ⟨rfl, rfl⟩
  go_wp2_with fail
  go_ret
  exact ⟨rfl, rfl⟩
set_option maxRecDepth 100000 in
theorem twin_nil (w : World) : Calls Try.prog 55 #[.pointer none] w fun e w' => e = .returned (.pointer none) ∧ w = w' := by
  go_enter Try.func55, Try.ntmps55
  go_wp2_with fail
  refine (none_nil _).mono ?_
  rintro e w' ⟨rfl, rfl⟩
  go_wp2_with fail
  go_ret
  exact ⟨rfl, rfl⟩

/-- A disk that is none: no map of what waits. -/
abbrev Bare (w : World) (p : Nat) : Prop := Blk w p 87 #[.slice none 0 0, .map none, .int .i64 0, .bool false]
set_option maxRecDepth 100000 in
theorem none_bare {w : World} {p : Nat} (h : Bare w p) : Calls Try.prog 84 #[.pointer (some ⟨p, 0, none⟩)] w fun e w' => e = .returned (.bool true) ∧ w = w' := by
  have hc := Blk.cells4 h
  have hm := neqMapNil w none
  clear h
  go_enter Try.func84, Try.ntmps84
  go_wp2
  go_ret
  exact ⟨rfl, rfl⟩
set_option maxRecDepth 100000 in
theorem out_bare {w : World} {p : Nat} (h : Bare w p) : Calls Try.prog 75 #[.pointer (some ⟨p, 0, none⟩)] w fun e w' => ∃ n : Int, e = .returned (.int .i64 n) ∧ n = 2 ∧ w = w' := by
  have H := Lib.hid (none_bare h)
  clear h
  go_enter Try.func75, Try.ntmps75
  go_wp2_with fail
  refine H.out.mono ?_
  rintro e w' ⟨rfl, rfl⟩
  go_wp2_with fail
  go_ret
  exact ⟨_, rfl, rfl, rfl⟩
set_option maxRecDepth 100000 in
theorem crash_bare {w : World} {p : Nat} (h : Bare w p) (A : Option Addr) (l c : Nat) : Calls Try.prog 53 #[.pointer (some ⟨p, 0, none⟩), .slice A l c] w fun e w' => e = .returned (.tuple #[]) ∧ w = w' := by
  have H := Lib.hid (none_bare h)
  clear h
  go_enter Try.func53, Try.ntmps53
  go_wp2_with fail
  refine H.out.mono ?_
  rintro e w' ⟨rfl, rfl⟩
  skip
  go_wp2_with fail
  refine bodyPost_ret (results_none rfl _ _ _) rfl ?_
  exact ⟨rfl, rfl⟩
set_option maxRecDepth 100000 in
theorem read_bare {w : World} {p : Nat} (h : Bare w p) (i : Int) : Calls Try.prog 31 #[.pointer (some ⟨p, 0, none⟩), .int .i64 i] w fun e w' => ∃ n : Int, e = .returned (.tuple #[.string ByteArray.empty, .int .i64 n]) ∧ n = 2 ∧ w = w' := by
  have H := Lib.hid (out_bare h)
  clear h
  go_enter Try.func31, Try.ntmps31
  go_wp2_with fail
  refine H.out.mono ?_
  rintro e w' ⟨n, rfl, hn, rfl⟩
  have hn1 : (n != 0) = true := by rw [hn]; rfl
  go_wp2_with fail
  go_ret2
  exact ⟨_, rfl, by first | rfl | exact hn, rfl⟩
set_option maxRecDepth 100000 in
theorem write_bare {w : World} {p : Nat} (h : Bare w p) (i : Int) (s : ByteArray) : Calls Try.prog 27 #[.pointer (some ⟨p, 0, none⟩), .int .i64 i, .string s] w fun e w' => ∃ n : Int, e = .returned (.int .i64 n) ∧ n = 2 ∧ w = w' := by
  have H := Lib.hid (out_bare h)
  clear h
  go_enter Try.func27, Try.ntmps27
  go_wp2_with fail
  refine H.out.mono ?_
  rintro e w' ⟨n, rfl, hn, rfl⟩
  have hn1 : (n != 0) = true := by rw [hn]; rfl
  go_wp2_with fail
  go_ret
  exact ⟨_, rfl, by first | rfl | exact hn, rfl⟩
set_option maxRecDepth 100000 in
theorem twin_bare {w : World} {p : Nat} (h : Bare w p) : Calls Try.prog 55 #[.pointer (some ⟨p, 0, none⟩)] w fun e w' => e = .returned (.pointer none) ∧ w = w' := by
  have H := Lib.hid (none_bare h)
  clear h
  go_enter Try.func55, Try.ntmps55
  go_wp2_with fail
  refine H.out.mono ?_
  rintro e w' ⟨rfl, rfl⟩
  go_wp2_with fail
  go_ret
  exact ⟨rfl, rfl⟩
end Go.Proofs.Ytafgohnpnaiomaa
