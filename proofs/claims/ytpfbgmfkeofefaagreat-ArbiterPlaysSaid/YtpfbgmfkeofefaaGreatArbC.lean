/-
  A register on a sound disk; the wake of the laws of chapter 23.
-/
import Derived.Test.YtpfbgmfkeofefaaGreatArbB
namespace Go.Proofs.YtpfbgmfkeofefaaGreat
open Go Go.RowKit

/-- A record that stands, as far as a register asks. -/
structure KIs (d : Dk) (k : Kp) (t : List UInt8) (is : Bool) (m : Nat) : Prop where
  ex : ∃ l0 l1, KeptIs d k l0 l1
  pend : d.pend = 0
  len : d.lasts.length = 20
  from_ : k.from_ = 0
  text : k.text = t
  gen : decide (0 < k.gen) = is
  seen : k.seen ≤ m
theorem KIs.fresh : KIs (Dk.fresh 20) ⟨0, [], 0, 1, 0, false⟩ [] false 0 := ⟨⟨_, _, fresh_is 20 0 (by omega)⟩, by unfold Dk.pend Dk.fresh; simp, by simp [Dk.fresh], rfl, rfl, rfl, Nat.le_refl _⟩
theorem KIs.put {d : Dk} {k : Kp} {t : List UInt8} {is : Bool} {m : Nat} (h : KIs d k t is m) (hm : m < 1000) (t' : List UInt8) (ht : t'.length ≤ 400) : ∃ d' k', putK d k t' = (d', k', 0) ∧ KIs d' k' t' true (m + 1) := by
  obtain ⟨l0, l1, hI⟩ := h.ex
  have hs := h.seen
  obtain ⟨p1, p2, p3, p4⟩ := put_is' hI t' ht (by omega)
  exact ⟨_, _, p1, ⟨p2, p4, by rw [p3]; exact h.len, h.from_, rfl, by show decide (0 < k.seen + 1) = true; simp, by show k.seen + 1 ≤ m + 1; omega⟩⟩
theorem bytesA_len (n c : Nat) (hn : n < 18446744073709551616) (hc : c < 18446744073709551616) : (bytesA n c).length ≤ 20 := by
  have h1 := size_u64 hn
  have h2 := size_u64 hc
  unfold bytesA
  rw [List.length_append, putN_len, putN_len]
  omega
section
variable {w0 w w' : World} {p a b n m : Nat} {h : Int} {d : Dk} {k : Kp} {t : List UInt8} {is : Bool}
theorem KIs.calls (hI : KIs d k t is m) (hD : DkS w0 w p d) : Calls Tryz.prog 20 #[.pointer (some ⟨p, 0, none⟩), .int .i64 0] w fun e w' => ∃ b, e = .returned (.tuple #[.pointer (some ⟨b, 0, none⟩), .int .i64 0]) ∧ KpS w0 w' p b k ∧ Upd (fun _ => False) w w' ∧ w.heap.size ≤ b := by
  obtain ⟨l0, l1, h⟩ := hI.ex
  exact open_at hD h 0 (by rw [hI.from_]; rfl)
/-- A register's Open, where nothing is kept yet. -/
theorem arb_open_none (hD : DkS w0 w p d) (hI : KIs d k t false m) :
    Calls Tryz.prog 29 #[.pointer (some ⟨p, 0, none⟩)] w fun e w' => ∃ a b, e = .returned (.tuple #[.pointer (some ⟨a, 0, none⟩), .int .i64 0]) ∧ ArbS w0 w' a b 0 (-1) ∧ KpS w0 w' p b k ∧ Upd (fun _ => False) w w' := by
  have hA : openA k = (0, -1, 0) := by
    unfold openA
    rw [if_neg (by have := hI.gen; simpa using this)]
  refine (arb_open_k hD.upd.size (hI.calls hD)).mono ?_
  rintro e w' ⟨v, rfl, hO⟩
  rw [hA] at hO ⊢
  obtain ⟨a, b, rfl, h1, h2, -, -⟩ := hO.ok rfl
  exact ⟨a, b, rfl, h1, h2, hO.upd⟩
theorem arb_open_new (hD : DkS w0 w p d) (n c : Nat) (hn : 1 ≤ n) (hn2 : n ≤ 9223372036854775807) (hc : c ≤ 1) (hI : KIs d k (bytesA n c) true m) :
    Calls Tryz.prog 29 #[.pointer (some ⟨p, 0, none⟩)] w fun e w' => ∃ a b, e = .returned (.tuple #[.pointer (some ⟨a, 0, none⟩), .int .i64 0]) ∧ ArbS w0 w' a b n (c : Int) ∧ KpS w0 w' p b k ∧ Upd (fun _ => False) w w' ∧ w.heap.size ≤ a := by
  have hA : openA k = (n, (c : Int), 0) := by
    unfold openA
    rw [if_pos (by have := hI.gen; simpa using this), hI.text, read_bytes n c hn (by unfold maxE; omega) hc]
  refine (arb_open_k hD.upd.size (hI.calls hD)).mono ?_
  rintro e w' ⟨v, rfl, hO⟩
  rw [hA] at hO ⊢
  obtain ⟨a, b, rfl, h1, h2, h3, -⟩ := hO.ok rfl
  exact ⟨a, b, rfl, h1, h2, hO.upd, h3⟩
theorem arb_open_at (hD : DkS w0 w p d) (n c : Nat) (hn : 1 ≤ n) (hn2 : n ≤ 9223372036854775807) (hc : c ≤ 1) (hI : KIs d k (bytesA n c) true m) :
    Calls Tryz.prog 29 #[.pointer (some ⟨p, 0, none⟩)] w fun e w' => ∃ a b, e = .returned (.tuple #[.pointer (some ⟨a, 0, none⟩), .int .i64 0]) ∧ ArbS w0 w' a b n (c : Int) ∧ KpS w0 w' p b k ∧ Upd (fun _ => False) w w' := (arb_open_new hD n c hn hn2 hc hI).mono fun _ _ ⟨a, b, h1, h2, h3, h4, _⟩ => ⟨a, b, h1, h2, h3, h4⟩
/-- A grant on a sound disk. -/
theorem grant_is (hD : DkS w0 w p d) (hK : KpS w0 w p b k) (hA : ArbS w0 w a b n h) (hI : KIs d k t is m) (hm : m < 1000) (hn : n < 9223372036854775807) (c : Nat) (hc : c ≤ 1) {D : Dk} {K : Kp} (hp : putK d k (bytesA (n + 1) c) = (D, K, 0)) :
    Calls Tryz.prog 30 #[.pointer (some ⟨a, 0, none⟩), .int .i64 (c : Int)] w fun e w' => e = .returned (.tuple #[.int .i64 ((n + 1 : Nat) : Int), .int .i64 0]) ∧ DkS w0 w' p D ∧ KpS w0 w' p b K ∧ ArbS w0 w' a b (n + 1) (c : Int) := by
  obtain ⟨l0, l1, hk⟩ := hI.ex
  have hf := hI.from_
  have hs := hI.seen
  have hpe := hI.pend
  refine (grant_goes hD hK hA (c : Int) (by rcases (show c = 0 ∨ c = 1 by omega) with rfl | rfl <;> rfl) hn hk.at_ (by omega) (by omega) (by omega)).mono ?_
  rintro e w' ⟨rfl, hG⟩
  rw [Int.toNat_natCast, hp] at hG ⊢
  exact ⟨rfl, hG.disk.disk, hG.disk.kept, hG.arb⟩
end
set_option maxRecDepth 100000 in
set_option maxHeartbeats 800000 in
theorem awake_23 (w : World) : Calls Tryz.prog 18 #[] w fun e w' => e = .returned (.bool true) ∧ Upd (fun _ => False) w w' := by
  have HN := Lib.hid (new_s 20 w (by omega) (by omega))
  obtain ⟨d1, k1, p1, i1⟩ := KIs.fresh.put (by omega) (bytesA 1 1) (Nat.le_trans (bytesA_len _ _ (by omega) (by omega)) (by omega))
  obtain ⟨d2, k2, p2, i2⟩ := i1.put (by omega) (bytesA 2 0) (Nat.le_trans (bytesA_len _ _ (by omega) (by omega)) (by omega))
  have K1 := Lib.hid (And.intro p1 i1)
  have K2 := Lib.hid (And.intro p2 i2)
  clear p1 i1 p2 i2
  go_enter Tryz.func18, Tryz.ntmps18
  go_wp2_with fail
  refine HN.out.mono ?_
  rintro e w1 ⟨p, rfl, hD⟩
  have H1 := Lib.hid hD
  clear hD HN
  go_wp2_with fail
  refine (arb_open_none H1.out KIs.fresh).mono ?_
  rintro e w2 ⟨a, b, rfl, hA, hK, hU⟩
  have H2 := Lib.hid (And.intro (H1.out.still hU) (And.intro hK hA))
  clear hA hK hU H1
  go_wp2_with fail
  refine (grant_is H2.out.1 H2.out.2.1 H2.out.2.2 KIs.fresh (by omega) (by omega) 1 (by omega) K1.out.1).mono ?_
  rintro e w3 ⟨rfl, hD, hK, hA⟩
  have H3 := Lib.hid (And.intro hD (And.intro hK hA))
  clear hA hK hD H2
  go_wp2_with fail
  refine (grant_is H3.out.1 H3.out.2.1 H3.out.2.2 K1.out.2 (by omega) (by omega) 0 (by omega) K2.out.1).mono ?_
  rintro e w4 ⟨rfl, hD, hK, hA⟩
  have H4 := Lib.hid (And.intro hD (And.intro hK hA))
  clear hA hK hD H3
  go_wp2_with fail
  refine (arb_open_at H4.out.1 2 0 (by omega) (by omega) (by omega) K2.out.2).mono ?_
  rintro e w5 ⟨a', b', rfl, hA, hK, hU⟩
  have H5 := Lib.hid (And.intro (H4.out.1.still hU) (And.intro hK hA))
  clear hA hK hU H4
  go_wp2_with fail
  refine (arb_epoch H5.out.2.2).mono ?_
  rintro e w6 ⟨rfl, rfl⟩
  go_wp2_with fail
  refine (arb_holder H5.out.2.2).mono ?_
  rintro e w7 ⟨rfl, rfl⟩
  go_wp2
  go_ret
  exact ⟨rfl, H5.out.1.upd⟩
end Go.Proofs.YtpfbgmfkeofefaaGreat
