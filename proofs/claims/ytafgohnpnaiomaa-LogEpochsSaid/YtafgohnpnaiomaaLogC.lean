/-
  The part that a log's sector is.
-/
import Derived.Test.YtafgohnpnaiomaaKeptD
import Derived.Test.YtafgohnpnaiomaaLogB
namespace Go.Proofs.Ytafgohnpnaiomaa
open Go Go.RowKit

/-- The part of sixty bytes, and whether it is one. -/
def readG (b : List UInt8) : Lp × Bool :=
  if 32 < (b.getD 26 0).toNat then (⟨leN (b.take 8), leN ((b.drop 8).take 8), leN ((b.drop 16).take 8), (b.getD 24 0).toNat, (b.getD 25 0).toNat, []⟩, false) else
  (⟨leN (b.take 8), leN ((b.drop 8).take 8), leN ((b.drop 16).take 8), (b.getD 24 0).toNat, (b.getD 25 0).toNat, (b.drop 28).take (b.getD 26 0).toNat⟩,
    decide (b.getD 27 0 = 0 ∧ b.drop (28 + (b.getD 26 0).toNat) = List.replicate (32 - (b.getD 26 0).toNat) 0))

set_option maxRecDepth 100000 in
set_option maxHeartbeats 800000 in
theorem readAt_c (s : ByteArray) (i q : Nat) (w : World) (hs : s.size = 60) (hi : i < 3) (hc : w.cell? ⟨q, 0, none⟩ = some (.string s)) :
    Calls Try.prog 118 #[.int .i64 (i : Int), .pointer (some ⟨q, 0, none⟩)] w fun e w' => e = .returned (.int .u64 (leN ((s.data.toList.drop (8 * i)).take 8) : Int)) ∧ w = w' := by
  have h8 : (i : Int) * 8 ≤ (s.size : Int) := by omega
  have hn : (0 : Int) ≤ (i : Int) * 8 := by omega
  have ht : ((i : Int) * 8).toNat = i * 8 := by omega
  have hg : ∀ W, Calls Try.prog 119 #[.string (s.extract (i * 8) 60), .int .i64 8] W fun e w' => e = .returned (.int .u64 (leN ((s.data.toList.drop (8 * i)).take 8) : Int)) ∧ W = w' := by
    intro W
    have h := getLittle_log (s.extract (i * 8) 60) 8 W (by omega) (by rw [ByteArray.size_extract]; omega)
    have e : (s.extract (i * 8) 60).data.toList.take 8 = (s.data.toList.drop (8 * i)).take 8 := by
      rw [ByteArray.data_extract, Array.toList_extract]
      simp only [List.extract_eq_take_drop]
      rw [List.take_take, Nat.mul_comm i 8]
      congr 1
      omega
    rw [e] at h
    exact h
  have HG := Lib.hid hg
  clear hg
  go_enter Try.func118, Try.ntmps118
  go_wp2_with fail
  refine (HG.out _).mono ?_
  rintro e w' ⟨rfl, rfl⟩
  go_wp2_with fail
  go_ret
  exact ⟨rfl, rfl⟩
end Go.Proofs.Ytafgohnpnaiomaa
