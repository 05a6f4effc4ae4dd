/-
  A log's parts.
-/
import Derived.Test.YtafgohnpnaiomaaKeptA
namespace Go.Proofs.Ytafgohnpnaiomaa
open Go Go.RowKit

/-- A part of a log's record. -/
structure Lp where
  epoch : Nat
  salt : Nat
  ahead : Nat
  number : Nat
  all : Nat
  text : List UInt8
  deriving DecidableEq
def Lp.cells (p : Lp) : List Value := [.int .u64 p.epoch, .int .u64 p.salt, .int .u64 p.ahead, .int .i64 p.number, .int .i64 p.all, .string (str p.text)]
def Lp.val (p : Lp) : Value := .agg #[.int .u64 p.epoch, .int .u64 p.salt, .int .u64 p.ahead, .int .i64 p.number, .int .i64 p.all, .string (str p.text)]
/-- The sixty bytes of a part. -/
def Lp.body (p : Lp) : List UInt8 := leB p.epoch 8 ++ leB p.salt 8 ++ leB p.ahead 8 ++ [UInt8.ofNat p.number, UInt8.ofNat p.all, UInt8.ofNat p.text.length, 0] ++ p.text ++ List.replicate (32 - p.text.length) 0
theorem Lp.body_len (p : Lp) (h : p.text.length ≤ 32) : p.body.length = 60 := by simp [Lp.body, leB_len]; omega
theorem Blk.cells6 {w : World} {g : Nat} {t : TypeId} {a b c d e f : Value} (k : Blk w g t #[a, b, c, d, e, f]) : w.cell? ⟨g, 0, none⟩ = some a ∧ w.cell? ⟨g, 1, none⟩ = some b ∧ w.cell? ⟨g, 2, none⟩ = some c ∧ w.cell? ⟨g, 3, none⟩ = some d ∧ w.cell? ⟨g, 4, none⟩ = some e ∧ w.cell? ⟨g, 5, none⟩ = some f :=
  ⟨k.cell 0, k.cell 1, k.cell 2, k.cell 3, k.cell 4, k.cell 5⟩

end Go.Proofs.Ytafgohnpnaiomaa
