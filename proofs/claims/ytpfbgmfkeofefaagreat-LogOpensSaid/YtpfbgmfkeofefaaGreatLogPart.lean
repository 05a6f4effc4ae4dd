/-
  A log's parts.
-/
import Derived.Test.YtpfbgmfkeofefaaGreatPart
import Derived.Test.YtpfbgmfkeofefaaGreatKeptA
namespace Go.Proofs.YtpfbgmfkeofefaaGreat
open Go Go.RowKit

/-- A part of a log's record. -/
structure Lp where
  epoch : Nat
  salt : Nat
  ahead : Nat
  number : Nat
  all : Nat
  text : List UInt8
  deriving DecidableEq
def Lp.cells (p : Lp) : List Value := [.int .u64 p.epoch, .int .u64 p.salt, .int .u64 p.ahead, .int .i64 p.number, .int .i64 p.all, .string (str p.text)]
def Lp.val (p : Lp) : Value := .agg #[.int .u64 p.epoch, .int .u64 p.salt, .int .u64 p.ahead, .int .i64 p.number, .int .i64 p.all, .string (str p.text)]
/-- The sixty bytes of a part. -/
def Lp.body (p : Lp) : List UInt8 := leB p.epoch 8 ++ leB p.salt 8 ++ leB p.ahead 8 ++ [UInt8.ofNat p.number, UInt8.ofNat p.all, UInt8.ofNat p.text.length, 0] ++ p.text ++ List.replicate (32 - p.text.length) 0
theorem Lp.body_len (p : Lp) (h : p.text.length ≤ 32) : p.body.length = 60 := by simp [Lp.body, leB_len]; omega
end Go.Proofs.YtpfbgmfkeofefaaGreat

/-
  A log's record cut into parts.
-/
namespace Go.Proofs.YtpfbgmfkeofefaaGreat
open Go Go.RowKit

/-- How many sectors a record takes. -/
def partsOf (n : Nat) : Nat := max ((n + 31) / 32) 1
/-- A record's parts. -/
def cutG (text : List UInt8) (epoch salt ahead : Nat) : List Lp := (List.range (partsOf text.length)).map fun i => ⟨epoch, salt, ahead, i, partsOf text.length, (text.drop (32 * i)).take 32⟩
def partsG (l : List Lp) : List Value := l.flatMap Lp.cells
theorem partsG_len (l : List Lp) : (partsG l).length = l.length * 6 := by
  induction l with
  | nil => rfl
  | cons p l ih => simp only [partsG, List.flatMap_cons, List.length_append, List.length_cons] at ih ⊢; rw [ih]; simp [Lp.cells]; omega
theorem partsG_one (l : List Lp) : ∀ u ∈ partsG l, u.oneCell' = true := by
  intro u hu
  obtain ⟨p, _, hp⟩ := List.mem_flatMap.1 hu
  simp only [Lp.cells, List.mem_cons, List.not_mem_nil, or_false] at hp
  rcases hp with rfl | rfl | rfl | rfl | rfl | rfl <;> rfl
theorem cutG_len (text : List UInt8) (e s a : Nat) : (cutG text e s a).length = partsOf text.length := by simp [cutG]
theorem cutG_get (t : List UInt8) (e s a j : Nat) (hj : j < (cutG t e s a).length) : (cutG t e s a)[j].epoch = e ∧ (cutG t e s a)[j].salt = s ∧ (cutG t e s a)[j].ahead = a ∧ (cutG t e s a)[j].number = j ∧ (cutG t e s a)[j].all = partsOf t.length ∧ (cutG t e s a)[j].text.length ≤ 32 := by
  simp [cutG]
  omega
theorem infoLp : (Tryz.prog.info? 103).map (fun i => (i.zero, i.size, i.bytes)) = some (some (.agg #[.int .u64 0, .int .u64 0, .int .u64 0, .int .i64 0, .int .i64 0, .string ByteArray.empty]), 6, 56) := by kernel_rfl

set_option maxRecDepth 100000 in
theorem parts_c (s : ByteArray) (w : World) (hs : s.size ≤ 9223372036854775000) :
    Calls Tryz.prog 40 #[.string s] w fun e w' => e = .returned (.int .i64 (partsOf s.size : Int)) ∧ w = w' := by
  have hmax : ((partsOf s.size : Nat) : Int) = max (((s.size : Int) + 32 - 1) / 32) 1 := by unfold partsOf; omega
  have HM := Lib.hid hmax
  clear hmax
  go_enter Tryz.func40, Tryz.ntmps40
  go_wp2
  go_ret
  exact ⟨by rw [HM.out]; rfl, rfl⟩

set_option maxRecDepth 100000 in
set_option maxHeartbeats 800000 in
theorem cutG_c (s : ByteArray) (ep sa ah : Nat) (w : World) (hs : s.size ≤ 100000) :
    Calls Tryz.prog 41 #[.string s, .int .u64 (ep : Int), .int .u64 (sa : Int), .int .u64 (ah : Int)] w fun e w' => ∃ v, e = .returned v ∧ Own w' 103 6 v (partsOf s.size) (partsG (cutG s.data.toList ep sa ah)) ∧ Below w.heap.size w w' ∧ (∀ q, v.ownBlock = some q → w.heap.size ≤ q) := by
  obtain ⟨i0, hi0, hz0, hz1, hz2⟩ := info_parts infoLp
  have HA : Hid (partsOf s.size = max ((s.size + 31) / 32) 1) := rfl
  have hA1 : 1 ≤ partsOf s.size := by rw [HA.out]; omega
  have hA2 : 32 * (partsOf s.size - 1) ≤ s.size := by rw [HA.out]; omega
  have hA3 : s.size ≤ 32 * partsOf s.size := by rw [HA.out]; omega
  go_enter Tryz.func41, Tryz.ntmps41
  go_wp2_with fail
  refine (parts_c s _ (by omega)).mono ?_
  rintro e w' ⟨rfl, rfl⟩
  have HC : Hid (∀ k, k ≤ partsOf s.size → (cutG s.data.toList ep sa ah).take k = (List.range k).map fun i => (⟨ep, sa, ah, i, partsOf s.size, (s.data.toList.drop (32 * i)).take 32⟩ : Lp)) := by
    intro k hk
    have e : s.data.toList.length = s.size := by simp
    rw [cutG, e, ← List.map_take, List.take_range, Nat.min_eq_left hk]
  go_wp2_with fail
  go_loopw [10, 15] (fun v i wr => ∃ k : Nat, k ≤ partsOf s.size ∧ i = .int .i64 k ∧ Own wr 103 6 v k (partsG ((cutG s.data.toList ep sa ah).take k)) ∧ Below w.heap.size w wr ∧ (∀ q, v.ownBlock = some q → w.heap.size ≤ q)) (fun _ i _ => partsOf s.size - (intOf i).toNat)
  case atStart => exact ⟨0, by omega, rfl, by simpa [partsG] using Own.nil _ _ _, Below.refl _ _, by simp [Value.ownBlock]⟩
  case round =>
    obtain ⟨k, hk, rfl, hO, hb, hl⟩ := hrel
    by_cases hlt : k < partsOf s.size
    · have HX := Lib.hid (And.intro hb hl)
      have hk48 : 32 * k ≤ s.size := by omega
      clear hb hl
      have key : ∀ (v2 : Value) (w2 : World) (x : Value), Own w2 103 6 v2 (k + 1) (partsG ((cutG s.data.toList ep sa ah).take k) ++ Lp.cells ⟨ep, sa, ah, k, partsOf s.size, (s.data.toList.drop (32 * k)).take 32⟩) → Upd (fun q => u10.ownBlock = some q) (wr.alloc (.cells x.cells 103)) w2 →
          (v2.ownBlock = u10.ownBlock ∨ v2.ownBlock = some (wr.alloc (.cells x.cells 103)).heap.size) →
          Own w2 103 6 v2 (k + 1) (partsG ((cutG s.data.toList ep sa ah).take (k + 1))) ∧ Below w.heap.size w w2 ∧ (∀ q, v2.ownBlock = some q → w.heap.size ≤ q) := by
        intro v2 w2 x h1 h2 h3
        obtain ⟨hb, hl⟩ := HX.out
        refine ⟨?_, (hb.alloc hb.size _).trans ⟨h2.os, h2.tape, h2.output, h2.size, fun q hq => h2.block q (by have := hb.size; simp; omega) (fun e => by have := hl q e; omega)⟩, fun q hq => ?_⟩
        · rw [HC.out (k + 1) (by omega), List.range_succ, List.map_append, ← HC.out k (by omega)]
          simpa [partsG] using h1
        · rcases h3 with h | h
          · exact hl q (by rw [← h]; exact hq)
          · rw [h] at hq
            have h5 := Option.some.inj hq
            have := hb.size
            simp at h5
            omega
      have Key := Lib.hid key
      have hcell : Hid (([.int .u64 (ep : Int), .int .u64 (sa : Int), .int .u64 (ah : Int), .int .i64 (k : Int), .int .i64 (partsOf s.size : Int), .string (s.extract (k * 32) (min (((k : Int) + 1) * 32) (s.size : Int)).toNat)] : List Value) = Lp.cells ⟨ep, sa, ah, k, partsOf s.size, (s.data.toList.drop (32 * k)).take 32⟩) := by
        show _ = _
        rw [Lp.cells, extract_str_from]
        have e : ((s.data.toList.drop (k * 32)).take ((min (((k : Int) + 1) * 32) (s.size : Int)).toNat - k * 32)) = (s.data.toList.drop (32 * k)).take 32 := by
          rw [Nat.mul_comm k 32]
          by_cases hin : 32 * k + 32 ≤ s.size
          · rw [show (min (((k : Int) + 1) * 32) (s.size : Int)).toNat - 32 * k = 32 by omega]
          · rw [show (min (((k : Int) + 1) * 32) (s.size : Int)).toNat - 32 * k = s.size - 32 * k by omega, List.take_of_length_le (by simp), List.take_of_length_le (by simp; omega)]
        rw [e]
      clear HA key
      go_wp2_with (at_builtin; refine wpList_append_src rfl _ _ _ _ rfl 103 i0 _ 6 56 Tryz.underlying100 hi0 hz0 hz1 hz2 rfl u10 k _ rfl (hO.alloc _) _ 1 [_, _, _, _, _, _] rfl (Src.of_news Tryz.underlying100 _ rfl) (by simp [Value.oneCell']) (by unfold maxLen; omega) (by omega) ?_; intro v2 w2 hO2 hU2 hl2 hs2)
      rw [hcell.out] at hO2
      obtain ⟨k1, k2, k3⟩ := Key.out v2 w2 (.agg #[.int .u64 (ep : Int), .int .u64 (sa : Int), .int .u64 (ah : Int), .int .i64 (k : Int), .int .i64 (partsOf s.size : Int), .string (s.extract (k * 32) (min (((k : Int) + 1) * 32) (s.size : Int)).toNat)]) hO2 hU2 hl2
      go_roundw
      case rel => exact ⟨k + 1, by omega, by go_num, k1, k2, k3⟩
      case measure => simp [intOf]; omega
    · obtain rfl : k = partsOf s.size := by omega
      have HX := Lib.hid (And.intro hO (And.intro hb hl))
      clear hO hb hl
      go_wp2
      go_ret
      obtain ⟨hO, hb, hl⟩ := HX.out
      rw [List.take_of_length_le (by rw [cutG_len]; simp)] at hO
      exact ⟨u10, rfl, hO, hb, hl⟩
end Go.Proofs.YtpfbgmfkeofefaaGreat

/-
  The part that a log's sector is.
-/
namespace Go.Proofs.YtpfbgmfkeofefaaGreat
open Go Go.RowKit

/-- The part of sixty bytes, and whether it is one. -/
def readG (b : List UInt8) : Lp × Bool :=
  if 32 < (b.getD 26 0).toNat then (⟨leN (b.take 8), leN ((b.drop 8).take 8), leN ((b.drop 16).take 8), (b.getD 24 0).toNat, (b.getD 25 0).toNat, []⟩, false) else
  (⟨leN (b.take 8), leN ((b.drop 8).take 8), leN ((b.drop 16).take 8), (b.getD 24 0).toNat, (b.getD 25 0).toNat, (b.drop 28).take (b.getD 26 0).toNat⟩,
    decide (b.getD 27 0 = 0 ∧ b.drop (28 + (b.getD 26 0).toNat) = List.replicate (32 - (b.getD 26 0).toNat) 0))

set_option maxRecDepth 100000 in
set_option maxHeartbeats 800000 in
theorem readAt_c (s : ByteArray) (i q : Nat) (w : World) (hs : s.size = 60) (hi : i < 3) (hc : w.cell? ⟨q, 0, none⟩ = some (.string s)) :
    Calls Tryz.prog 109 #[.int .i64 (i : Int), .pointer (some ⟨q, 0, none⟩)] w fun e w' => e = .returned (.int .u64 (leN ((s.data.toList.drop (8 * i)).take 8) : Int)) ∧ w = w' := by
  have h8 : (i : Int) * 8 ≤ (s.size : Int) := by omega
  have hn : (0 : Int) ≤ (i : Int) * 8 := by omega
  have ht : ((i : Int) * 8).toNat = i * 8 := by omega
  have hg : ∀ W, Calls Tryz.prog 110 #[.string (s.extract (i * 8) 60), .int .i64 8] W fun e w' => e = .returned (.int .u64 (leN ((s.data.toList.drop (8 * i)).take 8) : Int)) ∧ W = w' := by
    intro W
    have h := getLittle_log (s.extract (i * 8) 60) 8 W (by omega) (by rw [ByteArray.size_extract]; omega)
    have e : (s.extract (i * 8) 60).data.toList.take 8 = (s.data.toList.drop (8 * i)).take 8 := by
      rw [ByteArray.data_extract, Array.toList_extract]
      simp only [List.extract_eq_take_drop]
      rw [List.take_take, Nat.mul_comm i 8]
      congr 1
      omega
    rw [e] at h
    exact h
  have HG := Lib.hid hg
  clear hg
  go_enter Tryz.func109, Tryz.ntmps109
  go_wp2_with fail
  refine (HG.out _).mono ?_
  rintro e w' ⟨rfl, rfl⟩
  go_wp2_with fail
  go_ret
  exact ⟨rfl, rfl⟩
end Go.Proofs.YtpfbgmfkeofefaaGreat
