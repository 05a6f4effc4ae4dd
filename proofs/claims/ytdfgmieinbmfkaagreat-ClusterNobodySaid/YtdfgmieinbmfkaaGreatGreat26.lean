/-
  What chapter 26 calls great of one act.
-/
import Derived.Test.YtdfgmieinbmfkaaGreatSteps
import Derived.Test.YtdfgmieinbmfkaaGreatArgs
import Derived.Outline
namespace Go.Proofs.YtdfgmieinbmfkaaGreat
open Go Go.RowKit

/-- Rows, two texts of each of which are looked at. -/
structure TwoS (w : World) (v : Value) (k a b : Nat) (l : List (ByteArray × ByteArray)) : Prop where
  ex : ∃ A cap bA off, v = .slice A l.length cap ∧ l.length ≤ 9223372036854775807 ∧ (0 < l.length → A = some ⟨bA, off, none⟩ ∧ bA < w.heap.size) ∧
    ∀ i p, l[i]? = some p → w.cell? ⟨bA, off + i * k + a, none⟩ = some (.string p.1) ∧ w.cell? ⟨bA, off + i * k + b, none⟩ = some (.string p.2)
theorem TwoS.old {W w : World} {v : Value} {k a b : Nat} {l : List (ByteArray × ByteArray)} (h : TwoS W v k a b l) (ho : ∀ r, r < W.heap.size → w.heap[r]? = W.heap[r]?) (hs : W.heap.size ≤ w.heap.size) : TwoS w v k a b l := by
  obtain ⟨A, cap, bA, off, h1, h2, h3, h4⟩ := h.ex
  refine ⟨A, cap, bA, off, h1, h2, fun h0 => ⟨(h3 h0).1, Nat.lt_of_lt_of_le (h3 h0).2 hs⟩, fun i p hp => ?_⟩
  have hlt := (h3 (by have := (List.getElem?_eq_some_iff.1 hp).1; omega)).2
  have e : ∀ o, w.cell? ⟨bA, o, none⟩ = W.cell? ⟨bA, o, none⟩ := fun o => World.cell?_of_block (w := W) (a := ⟨bA, o, none⟩) (ho bA hlt)
  rw [e, e]
  exact h4 i p hp
def gr26 (n m : Nat) (l : List (ByteArray × ByteArray)) : Bool := decide (n < l.length) || l.any fun p => decide (m < p.1.size) || decide (m < p.2.size)
theorem gr26_len {n m : Nat} {l : List (ByteArray × ByteArray)} (h : n < l.length) : gr26 n m l = true := by simp [gr26, h]
theorem gr26_at {n m k : Nat} {l : List (ByteArray × ByteArray)} {p : ByteArray × ByteArray} (h : l[k]? = some p) (hb : m < p.1.size ∨ m < p.2.size) : gr26 n m l = true := by
  have : (l.any fun p => decide (m < p.1.size) || decide (m < p.2.size)) = true := by
    rw [List.any_eq_true]
    exact ⟨p, List.mem_of_getElem? h, by simpa using hb⟩
  simp [gr26, this]
theorem gr26_no {n m : Nat} {l : List (ByteArray × ByteArray)} (h : ¬ n < l.length) (ha : ∀ (j : Nat) (p : ByteArray × ByteArray), l[j]? = some p → ¬ m < p.1.size ∧ ¬ m < p.2.size) : gr26 n m l = false := by
  have : (l.any fun p => decide (m < p.1.size) || decide (m < p.2.size)) = false := by
    rw [List.any_eq_false]
    intro p hp
    obtain ⟨j, hj⟩ := List.getElem?_of_mem hp
    have := ha j p hj
    simp [this.1, this.2]
  unfold gr26
  rw [this, decide_eq_false h]
  rfl
set_option maxRecDepth 100000 in
set_option maxHeartbeats 1600000 in
theorem great12_b {w : World} {v : Value} {l : List (ByteArray × ByteArray)} (hA : TwoS w v 3 1 2 l) :
    Calls Tryz.prog 104 #[v] w fun e w' => e = .returned (.bool (gr26 100 1000 l)) ∧ w = w' := by
  obtain ⟨A, cap, bA, off, rfl, hm, hA0, hcells⟩ := hA.ex
  have HC := Lib.hid (And.intro hA0 hcells)
  clear hcells hA hA0
  go_enter Tryz.func104, Tryz.ntmps104
  by_cases hn : 100 < l.length
  · have hn' : (100 : Int) < (l.length : Int) := by omega
    have HE := Lib.hid (gr26_len (m := 1000) hn)
    clear hn
    go_wp2_with fail
    go_ret
    exact ⟨by rw [HE.out]; rfl, rfl⟩
  have hn' : ¬ (100 : Int) < (l.length : Int) := by omega
  go_wp2_with fail
  go_loopw [3] (fun i wr => ∃ k : Nat, k ≤ l.length ∧ i = .int .i64 k ∧ wr = w ∧ ∀ (j : Nat) (p : ByteArray × ByteArray), l[j]? = some p → j < k → ¬ 1000 < p.1.size ∧ ¬ 1000 < p.2.size) (fun i _ => l.length - (intOf i).toNat)
  case atStart => exact ⟨0, by omega, rfl, rfl, fun j p h hj => by omega⟩
  case round =>
    obtain ⟨k, hk, rfl, rfl, hall⟩ := hrel
    have HALL := Lib.hid hall
    clear hall
    by_cases hlt : k < l.length
    · obtain ⟨rfl, -⟩ := HC.out.1 (by omega)
      obtain ⟨r, hr⟩ : ∃ r, l[k]? = some r := ⟨_, List.getElem?_eq_getElem hlt⟩
      obtain ⟨P, Q⟩ := r
      obtain ⟨cP, cQ⟩ := HC.out.2 k _ hr
      have cP : wr.cell? ⟨bA, off + k * 3 + 1, none⟩ = some (.string P) := cP
      have cQ : wr.cell? ⟨bA, off + k * 3 + 2, none⟩ = some (.string Q) := cQ
      have hwk : IntKind.i64.wrap ((k : Int) + 1) = (k : Int) + 1 := IntWalk.i64_in _ (by omega)
      have HP := Lib.hid (And.intro hr (And.intro hk hlt))
      have j1 : (k : Int) < (l.length : Int) := by omega
      clear hr
      by_cases g1 : (1000 : Int) < (P.size : Int)
      · have HE := Lib.hid (gr26_at (n := 100) (m := 1000) HP.out.1 (.inl (by show 1000 < P.size; omega)))
        go_wp2_with fail
        go_ret
        exact ⟨by rw [HE.out]; rfl, rfl⟩
      by_cases g2 : (1000 : Int) < (Q.size : Int)
      · have HE := Lib.hid (gr26_at (n := 100) (m := 1000) HP.out.1 (.inr (by show 1000 < Q.size; omega)))
        go_wp2_with fail
        go_ret
        exact ⟨by rw [HE.out]; rfl, rfl⟩
      have HG : Hid (¬ 1000 < (P, Q).1.size ∧ ¬ 1000 < (P, Q).2.size) := Lib.hid ⟨by show ¬ 1000 < P.size; omega, by show ¬ 1000 < Q.size; omega⟩
      go_wp2_with fail
      go_roundw
      case rel =>
        refine ⟨k + 1, by omega, by simp, trivial, fun j p h hj => ?_⟩
        by_cases e : j = k
        · subst e
          rw [HP.out.1] at h
          obtain rfl := Option.some.inj h
          exact HG.out
        · exact HALL.out j p h (by omega)
      case measure => simp [intOf] <;> omega
    · have j1 : ¬ ((k : Int) < (l.length : Int)) := by omega
      have HE := Lib.hid (gr26_no (m := 1000) (show ¬ 100 < l.length by omega) (fun j p h => HALL.out j p h (by have := (List.getElem?_eq_some_iff.1 h).1; omega)))
      go_wp2_with fail
      go_ret
      exact ⟨by rw [HE.out]; rfl, rfl⟩
set_option maxRecDepth 100000 in
set_option maxHeartbeats 1600000 in
theorem great13_b {w : World} {v : Value} {l : List (ByteArray × ByteArray)} (hA : TwoS w v 2 0 1 l) :
    Calls Tryz.prog 219 #[v] w fun e w' => e = .returned (.bool (gr26 200 1000 l)) ∧ w = w' := by
  obtain ⟨A, cap, bA, off, rfl, hm, hA0, hcells⟩ := hA.ex
  have HC := Lib.hid (And.intro hA0 hcells)
  clear hcells hA hA0
  go_enter Tryz.func219, Tryz.ntmps219
  by_cases hn : 200 < l.length
  · have hn' : (200 : Int) < (l.length : Int) := by omega
    have HE := Lib.hid (gr26_len (m := 1000) hn)
    clear hn
    go_wp2_with fail
    go_ret
    exact ⟨by rw [HE.out]; rfl, rfl⟩
  have hn' : ¬ (200 : Int) < (l.length : Int) := by omega
  go_wp2_with fail
  go_loopw [3] (fun i wr => ∃ k : Nat, k ≤ l.length ∧ i = .int .i64 k ∧ wr = w ∧ ∀ (j : Nat) (p : ByteArray × ByteArray), l[j]? = some p → j < k → ¬ 1000 < p.1.size ∧ ¬ 1000 < p.2.size) (fun i _ => l.length - (intOf i).toNat)
  case atStart => exact ⟨0, by omega, rfl, rfl, fun j p h hj => by omega⟩
  case round =>
    obtain ⟨k, hk, rfl, rfl, hall⟩ := hrel
    have HALL := Lib.hid hall
    clear hall
    by_cases hlt : k < l.length
    · obtain ⟨rfl, -⟩ := HC.out.1 (by omega)
      obtain ⟨r, hr⟩ : ∃ r, l[k]? = some r := ⟨_, List.getElem?_eq_getElem hlt⟩
      obtain ⟨P, Q⟩ := r
      obtain ⟨cP, cQ⟩ := HC.out.2 k _ hr
      have cP : wr.cell? ⟨bA, off + k * 2, none⟩ = some (.string P) := cP
      have cQ : wr.cell? ⟨bA, off + k * 2 + 1, none⟩ = some (.string Q) := cQ
      have hwk : IntKind.i64.wrap ((k : Int) + 1) = (k : Int) + 1 := IntWalk.i64_in _ (by omega)
      have HP := Lib.hid (And.intro hr (And.intro hk hlt))
      have j1 : (k : Int) < (l.length : Int) := by omega
      clear hr
      by_cases g1 : (1000 : Int) < (P.size : Int)
      · have HE := Lib.hid (gr26_at (n := 200) (m := 1000) HP.out.1 (.inl (by show 1000 < P.size; omega)))
        go_wp2_with fail
        go_ret
        exact ⟨by rw [HE.out]; rfl, rfl⟩
      by_cases g2 : (1000 : Int) < (Q.size : Int)
      · have HE := Lib.hid (gr26_at (n := 200) (m := 1000) HP.out.1 (.inr (by show 1000 < Q.size; omega)))
        go_wp2_with fail
        go_ret
        exact ⟨by rw [HE.out]; rfl, rfl⟩
      have HG : Hid (¬ 1000 < (P, Q).1.size ∧ ¬ 1000 < (P, Q).2.size) := Lib.hid ⟨by show ¬ 1000 < P.size; omega, by show ¬ 1000 < Q.size; omega⟩
      go_wp2_with fail
      go_roundw
      case rel =>
        refine ⟨k + 1, by omega, by simp, trivial, fun j p h hj => ?_⟩
        by_cases e : j = k
        · subst e
          rw [HP.out.1] at h
          obtain rfl := Option.some.inj h
          exact HG.out
        · exact HALL.out j p h (by omega)
      case measure => simp [intOf] <;> omega
    · have j1 : ¬ ((k : Int) < (l.length : Int)) := by omega
      have HE := Lib.hid (gr26_no (m := 1000) (show ¬ 200 < l.length by omega) (fun j p h => HALL.out j p h (by have := (List.getElem?_eq_some_iff.1 h).1; omega)))
      go_wp2_with fail
      go_ret
      exact ⟨by rw [HE.out]; rfl, rfl⟩
set_option maxRecDepth 100000 in
set_option maxHeartbeats 1600000 in
theorem great11_b {w : World} {v : Value} {l : List (ByteArray × ByteArray)} (hA : TwoS w v 2 0 0 l) :
    Calls Tryz.prog 105 #[v] w fun e w' => e = .returned (.bool (gr26 100 1000 l)) ∧ w = w' := by
  obtain ⟨A, cap, bA, off, rfl, hm, hA0, hcells⟩ := hA.ex
  have HC := Lib.hid (And.intro hA0 hcells)
  clear hcells hA hA0
  go_enter Tryz.func105, Tryz.ntmps105
  by_cases hn : 100 < l.length
  · have hn' : (100 : Int) < (l.length : Int) := by omega
    have HE := Lib.hid (gr26_len (m := 1000) hn)
    clear hn
    go_wp2_with fail
    go_ret
    exact ⟨by rw [HE.out]; rfl, rfl⟩
  have hn' : ¬ (100 : Int) < (l.length : Int) := by omega
  go_wp2_with fail
  go_loopw [3] (fun i wr => ∃ k : Nat, k ≤ l.length ∧ i = .int .i64 k ∧ wr = w ∧ ∀ (j : Nat) (p : ByteArray × ByteArray), l[j]? = some p → j < k → ¬ 1000 < p.1.size ∧ ¬ 1000 < p.2.size) (fun i _ => l.length - (intOf i).toNat)
  case atStart => exact ⟨0, by omega, rfl, rfl, fun j p h hj => by omega⟩
  case round =>
    obtain ⟨k, hk, rfl, rfl, hall⟩ := hrel
    have HALL := Lib.hid hall
    clear hall
    by_cases hlt : k < l.length
    · obtain ⟨rfl, -⟩ := HC.out.1 (by omega)
      obtain ⟨r, hr⟩ : ∃ r, l[k]? = some r := ⟨_, List.getElem?_eq_getElem hlt⟩
      obtain ⟨P, Q⟩ := r
      obtain rfl : P = Q := by have q := HC.out.2 k _ hr; have := q.1.symm.trans q.2; simpa using this
      obtain ⟨cP, cQ⟩ := HC.out.2 k _ hr
      have cP : wr.cell? ⟨bA, off + k * 2, none⟩ = some (.string P) := cP
      clear cQ
      have hwk : IntKind.i64.wrap ((k : Int) + 1) = (k : Int) + 1 := IntWalk.i64_in _ (by omega)
      have HP := Lib.hid (And.intro hr (And.intro hk hlt))
      have j1 : (k : Int) < (l.length : Int) := by omega
      clear hr
      by_cases g1 : (1000 : Int) < (P.size : Int)
      · have HE := Lib.hid (gr26_at (n := 100) (m := 1000) HP.out.1 (.inl (by show 1000 < P.size; omega)))
        go_wp2_with fail
        go_ret
        exact ⟨by rw [HE.out]; rfl, rfl⟩
      have HG : Hid (¬ 1000 < (P, P).1.size ∧ ¬ 1000 < (P, P).2.size) := Lib.hid ⟨by show ¬ 1000 < P.size; omega, by show ¬ 1000 < P.size; omega⟩
      go_wp2_with fail
      go_roundw
      case rel =>
        refine ⟨k + 1, by omega, by simp, trivial, fun j p h hj => ?_⟩
        by_cases e : j = k
        · subst e
          rw [HP.out.1] at h
          obtain rfl := Option.some.inj h
          exact HG.out
        · exact HALL.out j p h (by omega)
      case measure => simp [intOf] <;> omega
    · have j1 : ¬ ((k : Int) < (l.length : Int)) := by omega
      have HE := Lib.hid (gr26_no (m := 1000) (show ¬ 100 < l.length by omega) (fun j p h => HALL.out j p h (by have := (List.getElem?_eq_some_iff.1 h).1; omega)))
      go_wp2_with fail
      go_ret
      exact ⟨by rw [HE.out]; rfl, rfl⟩
set_option maxRecDepth 100000 in
theorem great26m_b {w : World} {R : Array Value} {ov pv : Value} {lo lp : List (ByteArray × ByteArray)} (h6 : R[6]? = some ov) (h106 : R[106]? = some pv) (ho : TwoS w ov 3 1 2 lo) (hp : TwoS w pv 2 0 1 lp) :
    Calls Tryz.prog 106 #[.agg R] w fun e w' => e = .returned (.bool (gr26 100 1000 lo || gr26 200 1000 lp)) ∧ Upd (fun _ => False) w w' := by
  have c6 : (w.alloc (.cells R 73)).cell? ⟨w.heap.size, 6, none⟩ = some ov := by rw [cell_of_row _ _ 6 R 73 (0, 0) (heap_alloc_new w _)]; exact h6
  have c106 : (w.alloc (.cells R 73)).cell? ⟨w.heap.size, 106, none⟩ = some pv := by rw [cell_of_row _ _ 106 R 73 (0, 0) (heap_alloc_new w _)]; exact h106
  have hs : w.heap.size ≤ (w.alloc (.cells R 73)).heap.size := by simp
  have Ho := Lib.hid (great12_b (ho.old (w := w.alloc (.cells R 73)) (fun r hr => Below.heap_alloc _ _ r hr) hs))
  have Hp := Lib.hid (great13_b (hp.old (w := w.alloc (.cells R 73)) (fun r hr => Below.heap_alloc _ _ r hr) hs))
  have HU : Hid (Upd (fun _ => False) w (w.alloc (.cells R 73))) := Lib.hid ((Upd.refl _ w).alloc _)
  obtain ⟨B, hB⟩ : ∃ B, gr26 100 1000 lo = B := ⟨_, rfl⟩
  obtain ⟨C, hC⟩ : ∃ C, gr26 200 1000 lp = C := ⟨_, rfl⟩
  rw [hB] at Ho ⊢
  rw [hC] at Hp ⊢
  clear hB hC ho hp h6 h106 hs
  cases B with
  | true =>
    go_enter Tryz.func106, Tryz.ntmps106
    go_wp2_with (go_at_call 104; refine Ho.out.mono ?_; rintro e w' ⟨rfl, rfl⟩)
    go_ret
    exact ⟨rfl, HU.out⟩
  | false =>
    go_enter Tryz.func106, Tryz.ntmps106
    go_wp2_with (first | (go_at_call 104; refine Ho.out.mono ?_; rintro e w' ⟨rfl, rfl⟩) | (go_at_call 219; refine Hp.out.mono ?_; rintro e w' ⟨rfl, rfl⟩))
    go_ret
    exact ⟨rfl, HU.out⟩
def great26 (P S : ByteArray) (lo lm lq lp : List (ByteArray × ByteArray)) : Bool := gr26 100 1000 lo || (decide (1000 < P.size) || (gr26 100 1000 lm || (decide (1000 < S.size) || (gr26 100 1000 lq || gr26 200 1000 lp))))
set_option maxRecDepth 100000 in
set_option maxHeartbeats 1600000 in
theorem great26_c {w : World} {b o : Nat} {P S : ByteArray} {ov mv qv pv : Value} {RL : List Value} {lo lm lq lp : List (ByteArray × ByteArray)} (h1 : w.cell? ⟨b, o + 1, none⟩ = some ov) (h2 : w.cell? ⟨b, o + 2, none⟩ = some (.string P)) (h3 : w.cell? ⟨b, o + 3, none⟩ = some mv) (h4 : w.cell? ⟨b, o + 4, none⟩ = some (.string S))
    (hR : w.rangeAt b (o + 6) RL) (hl : RL.length = 107) (h6 : RL[6]? = some qv) (h106 : RL[106]? = some pv) (ho : TwoS w ov 3 1 2 lo) (hm : TwoS w mv 2 0 0 lm) (hq : TwoS w qv 3 1 2 lq) (hp : TwoS w pv 2 0 1 lp) :
    Calls Tryz.prog 33 #[.slice (some ⟨b, o, none⟩) 1 1] w (fun e w' => e = .returned (.bool (great26 P S lo lm lq lp)) ∧ Upd (fun _ => False) w w') := by
  obtain ⟨β, hβ⟩ : ∃ β, great26 P S lo lm lq lp = β := ⟨_, rfl⟩
  rw [hβ]
  unfold great26 at hβ
  have H1 := Lib.hid (great12_b ho)
  have H2 := Lib.hid (great11_b hm)
  have H3 := Lib.hid (great26m_b (R := RL.toArray) (by simpa using h6) (by simpa using h106) hq hp)
  obtain ⟨B1, hB1⟩ : ∃ B, gr26 100 1000 lo = B := ⟨_, rfl⟩
  obtain ⟨B2, hB2⟩ : ∃ B, gr26 100 1000 lm = B := ⟨_, rfl⟩
  obtain ⟨B3, hB3⟩ : ∃ B, (gr26 100 1000 lq || gr26 200 1000 lp) = B := ⟨_, rfl⟩
  rw [hB1] at H1 hβ
  rw [hB2] at H2 hβ
  rw [hB3] at H3 hβ
  have Hβ := Lib.hid hβ
  have HR := Lib.hid (And.intro hR hl)
  clear hB1 hB2 hB3 ho hm hq hp h6 h106 hβ hR hl
  go_enter Tryz.func33, Tryz.ntmps33
  go_wp2_with fail
  go_loopw [3] (fun i wr => ∃ k : Nat, i = .int .i64 k ∧ ((k = 0 ∧ wr = w) ∨ (k = 1 ∧ β = false ∧ Upd (fun _ => False) w wr))) (fun i _ => 1 - (intOf i).toNat)
  case atStart => exact ⟨0, rfl, .inl ⟨rfl, rfl⟩⟩
  case round =>
    obtain ⟨k, rfl, ⟨hk, rfl⟩ | ⟨hk, hf, hu⟩⟩ := hrel
    · have c1 : wr.cell? ⟨b, o + k * 113 + 1, none⟩ = some ov := by rw [hk]; exact h1
      have c2 : wr.cell? ⟨b, o + k * 113 + 2, none⟩ = some (.string P) := by rw [hk]; exact h2
      have c3 : wr.cell? ⟨b, o + k * 113 + 3, none⟩ = some mv := by rw [hk]; exact h3
      have c4 : wr.cell? ⟨b, o + k * 113 + 4, none⟩ = some (.string S) := by rw [hk]; exact h4
      have HRk : Hid (wr.rangeAt b (o + k * 113 + 6) RL ∧ RL.length = 107) := Lib.hid ⟨by rw [hk]; exact HR.out.1, HR.out.2⟩
      have j1 : (k : Int) < 1 := by omega
      have j1n : k < 1 := by omega
      have hwk : IntKind.i64.wrap ((k : Int) + 1) = (k : Int) + 1 := IntWalk.i64_in _ (by omega)
      have HL := Lib.hid hk
      clear hk h1 h2 h3 h4 HR
      cases B1 with
      | true =>
        have HE : Hid (β = true) := Lib.hid (by rw [← Hβ.out]; rfl)
        go_wp2_with (first
          | (go_at_call 104; refine H1.out.mono ?_; rintro e w' ⟨rfl, rfl⟩)
          | (go_at_call 105; refine H2.out.mono ?_; rintro e w' ⟨rfl, rfl⟩)
          | (go_at_call 106; refine H3.out.mono ?_; rintro e w' ⟨rfl, hu'⟩; have HU := Lib.hid hu'; clear hu'))
        go_ret
        exact ⟨by rw [HE.out]; rfl, Upd.refl _ _⟩
      | false =>
        by_cases g1 : (1000 : Int) < (P.size : Int)
        · have HE : Hid (β = true) := Lib.hid (by rw [← Hβ.out, decide_eq_true (show 1000 < P.size by omega)]; rfl)
          go_wp2_with (first
          | (go_at_call 104; refine H1.out.mono ?_; rintro e w' ⟨rfl, rfl⟩)
          | (go_at_call 105; refine H2.out.mono ?_; rintro e w' ⟨rfl, rfl⟩)
          | (go_at_call 106; refine H3.out.mono ?_; rintro e w' ⟨rfl, hu'⟩; have HU := Lib.hid hu'; clear hu'))
          go_ret
          exact ⟨by rw [HE.out]; rfl, Upd.refl _ _⟩
        have g1f : decide ((1000 : Int) < (P.size : Int)) = false := decide_eq_false g1
        have Hβ := Lib.hid (show (B2 || (decide (1000 < S.size) || B3)) = β by rw [← Hβ.out, decide_eq_false (show ¬ 1000 < P.size by omega)]; rfl)
        clear g1
        cases B2 with
        | true =>
          have HE : Hid (β = true) := Lib.hid (by rw [← Hβ.out]; rfl)
          go_wp2_with (first
          | (go_at_call 104; refine H1.out.mono ?_; rintro e w' ⟨rfl, rfl⟩)
          | (go_at_call 105; refine H2.out.mono ?_; rintro e w' ⟨rfl, rfl⟩)
          | (go_at_call 106; refine H3.out.mono ?_; rintro e w' ⟨rfl, hu'⟩; have HU := Lib.hid hu'; clear hu'))
          go_ret
          exact ⟨by rw [HE.out]; rfl, Upd.refl _ _⟩
        | false =>
          by_cases g2 : (1000 : Int) < (S.size : Int)
          · have HE : Hid (β = true) := Lib.hid (by rw [← Hβ.out, decide_eq_true (show 1000 < S.size by omega)]; rfl)
            go_wp2_with (first
          | (go_at_call 104; refine H1.out.mono ?_; rintro e w' ⟨rfl, rfl⟩)
          | (go_at_call 105; refine H2.out.mono ?_; rintro e w' ⟨rfl, rfl⟩)
          | (go_at_call 106; refine H3.out.mono ?_; rintro e w' ⟨rfl, hu'⟩; have HU := Lib.hid hu'; clear hu'))
            go_ret
            exact ⟨by rw [HE.out]; rfl, Upd.refl _ _⟩
          have g2f : decide ((1000 : Int) < (S.size : Int)) = false := decide_eq_false g2
          have Hβ := Lib.hid (show B3 = β by rw [← Hβ.out, decide_eq_false (show ¬ 1000 < S.size by omega)]; rfl)
          clear g2
          cases B3 with
          | true =>
            have HE : Hid (β = true) := Lib.hid (by rw [← Hβ.out])
            go_wp2_with (first
          | (go_at_call 104; refine H1.out.mono ?_; rintro e w' ⟨rfl, rfl⟩)
          | (go_at_call 105; refine H2.out.mono ?_; rintro e w' ⟨rfl, rfl⟩)
          | (go_at_call 106; refine H3.out.mono ?_; rintro e w' ⟨rfl, hu'⟩; have HU := Lib.hid hu'; clear hu'))
            refine wp_load_mid 73 _ rfl b (o + k * 113 + 6) rfl RL _ HRk.out.1 Tryz.underlying73 rfl (by rw [HRk.out.2]; kernel_rfl) ?_
            go_wp2_with (first
          | (go_at_call 104; refine H1.out.mono ?_; rintro e w' ⟨rfl, rfl⟩)
          | (go_at_call 105; refine H2.out.mono ?_; rintro e w' ⟨rfl, rfl⟩)
          | (go_at_call 106; refine H3.out.mono ?_; rintro e w' ⟨rfl, hu'⟩; have HU := Lib.hid hu'; clear hu'))
            go_ret
            exact ⟨by rw [HE.out]; rfl, HU.out⟩
          | false =>
            have HE : Hid (β = false) := Lib.hid (by rw [← Hβ.out])
            go_wp2_with (first
          | (go_at_call 104; refine H1.out.mono ?_; rintro e w' ⟨rfl, rfl⟩)
          | (go_at_call 105; refine H2.out.mono ?_; rintro e w' ⟨rfl, rfl⟩)
          | (go_at_call 106; refine H3.out.mono ?_; rintro e w' ⟨rfl, hu'⟩; have HU := Lib.hid hu'; clear hu'))
            refine wp_load_mid 73 _ rfl b (o + k * 113 + 6) rfl RL _ HRk.out.1 Tryz.underlying73 rfl (by rw [HRk.out.2]; kernel_rfl) ?_
            go_wp2_with (first
          | (go_at_call 104; refine H1.out.mono ?_; rintro e w' ⟨rfl, rfl⟩)
          | (go_at_call 105; refine H2.out.mono ?_; rintro e w' ⟨rfl, rfl⟩)
          | (go_at_call 106; refine H3.out.mono ?_; rintro e w' ⟨rfl, hu'⟩; have HU := Lib.hid hu'; clear hu'))
            go_roundw
            case rel => exact ⟨k + 1, by simp, .inr ⟨by have := HL.out; omega, HE.out, HU.out⟩⟩
            case measure => simp [intOf]; omega
    · have j1 : ¬ ((k : Int) < 1) := by omega
      have HE := Lib.hid (And.intro hf hu)
      clear hk hf hu h1 h2 h3 h4 HR
      go_wp2_with fail
      go_ret
      exact ⟨by rw [HE.out.1]; rfl, HE.out.2⟩
set_option maxRecDepth 100000 in
set_option maxHeartbeats 1600000 in
theorem great26_d {w : World} {b o : Nat} {P S : ByteArray} {ov mv qv pv : Value} {RL : List Value} {lo lm lq lp : List (ByteArray × ByteArray)} (h1 : w.cell? ⟨b, o + 1, none⟩ = some ov) (h2 : w.cell? ⟨b, o + 2, none⟩ = some (.string P)) (h3 : w.cell? ⟨b, o + 3, none⟩ = some mv) (h4 : w.cell? ⟨b, o + 4, none⟩ = some (.string S))
    (hR : w.rangeAt b (o + 6) RL) (hl : RL.length = 107) (h6 : RL[6]? = some qv) (h106 : RL[106]? = some pv) (ho : TwoS w ov 3 1 2 lo) (hm : TwoS w mv 2 0 0 lm) (hq : TwoS w qv 3 1 2 lq) (hp : TwoS w pv 2 0 1 lp) :
    CallsD Tryz.prog 33 #[.slice (some ⟨b, o, none⟩) 1 1] .returning w (fun e u w' => u = .returning ∧ e = .returned (.bool (great26 P S lo lm lq lp)) ∧ Upd (fun _ => False) w w') := by
  refine CallsD.mono (?_ : CallsD Tryz.prog 33 #[.slice (some ⟨b, o, none⟩) 1 1] .returning w (fun e u w' => u = .returning ∧ (fun e w' => e = .returned (.bool (great26 P S lo lm lq lp)) ∧ Upd (fun _ => False) w w') e w')) (fun _ _ _ h => h)
  obtain ⟨β, hβ⟩ : ∃ β, great26 P S lo lm lq lp = β := ⟨_, rfl⟩
  rw [hβ]
  unfold great26 at hβ
  have H1 := Lib.hid (great12_b ho)
  have H2 := Lib.hid (great11_b hm)
  have H3 := Lib.hid (great26m_b (R := RL.toArray) (by simpa using h6) (by simpa using h106) hq hp)
  obtain ⟨B1, hB1⟩ : ∃ B, gr26 100 1000 lo = B := ⟨_, rfl⟩
  obtain ⟨B2, hB2⟩ : ∃ B, gr26 100 1000 lm = B := ⟨_, rfl⟩
  obtain ⟨B3, hB3⟩ : ∃ B, (gr26 100 1000 lq || gr26 200 1000 lp) = B := ⟨_, rfl⟩
  rw [hB1] at H1 hβ
  rw [hB2] at H2 hβ
  rw [hB3] at H3 hβ
  have Hβ := Lib.hid hβ
  have HR := Lib.hid (And.intro hR hl)
  clear hB1 hB2 hB3 ho hm hq hp h6 h106 hβ hR hl
  go_enter_d Tryz.func33, Tryz.ntmps33
  go_wp2_with fail
  go_loopw [3] (fun i wr => ∃ k : Nat, i = .int .i64 k ∧ ((k = 0 ∧ wr = w) ∨ (k = 1 ∧ β = false ∧ Upd (fun _ => False) w wr))) (fun i _ => 1 - (intOf i).toNat)
  case atStart => exact ⟨0, rfl, .inl ⟨rfl, rfl⟩⟩
  case round =>
    obtain ⟨k, rfl, ⟨hk, rfl⟩ | ⟨hk, hf, hu⟩⟩ := hrel
    · have c1 : wr.cell? ⟨b, o + k * 113 + 1, none⟩ = some ov := by rw [hk]; exact h1
      have c2 : wr.cell? ⟨b, o + k * 113 + 2, none⟩ = some (.string P) := by rw [hk]; exact h2
      have c3 : wr.cell? ⟨b, o + k * 113 + 3, none⟩ = some mv := by rw [hk]; exact h3
      have c4 : wr.cell? ⟨b, o + k * 113 + 4, none⟩ = some (.string S) := by rw [hk]; exact h4
      have HRk : Hid (wr.rangeAt b (o + k * 113 + 6) RL ∧ RL.length = 107) := Lib.hid ⟨by rw [hk]; exact HR.out.1, HR.out.2⟩
      have j1 : (k : Int) < 1 := by omega
      have j1n : k < 1 := by omega
      have hwk : IntKind.i64.wrap ((k : Int) + 1) = (k : Int) + 1 := IntWalk.i64_in _ (by omega)
      have HL := Lib.hid hk
      clear hk h1 h2 h3 h4 HR
      cases B1 with
      | true =>
        have HE : Hid (β = true) := Lib.hid (by rw [← Hβ.out]; rfl)
        go_wp2_with (first
          | (go_at_call 104; refine H1.out.mono ?_; rintro e w' ⟨rfl, rfl⟩)
          | (go_at_call 105; refine H2.out.mono ?_; rintro e w' ⟨rfl, rfl⟩)
          | (go_at_call 106; refine H3.out.mono ?_; rintro e w' ⟨rfl, hu'⟩; have HU := Lib.hid hu'; clear hu'))
        go_ret
        exact ⟨by rw [HE.out]; rfl, Upd.refl _ _⟩
      | false =>
        by_cases g1 : (1000 : Int) < (P.size : Int)
        · have HE : Hid (β = true) := Lib.hid (by rw [← Hβ.out, decide_eq_true (show 1000 < P.size by omega)]; rfl)
          go_wp2_with (first
          | (go_at_call 104; refine H1.out.mono ?_; rintro e w' ⟨rfl, rfl⟩)
          | (go_at_call 105; refine H2.out.mono ?_; rintro e w' ⟨rfl, rfl⟩)
          | (go_at_call 106; refine H3.out.mono ?_; rintro e w' ⟨rfl, hu'⟩; have HU := Lib.hid hu'; clear hu'))
          go_ret
          exact ⟨by rw [HE.out]; rfl, Upd.refl _ _⟩
        have g1f : decide ((1000 : Int) < (P.size : Int)) = false := decide_eq_false g1
        have Hβ := Lib.hid (show (B2 || (decide (1000 < S.size) || B3)) = β by rw [← Hβ.out, decide_eq_false (show ¬ 1000 < P.size by omega)]; rfl)
        clear g1
        cases B2 with
        | true =>
          have HE : Hid (β = true) := Lib.hid (by rw [← Hβ.out]; rfl)
          go_wp2_with (first
          | (go_at_call 104; refine H1.out.mono ?_; rintro e w' ⟨rfl, rfl⟩)
          | (go_at_call 105; refine H2.out.mono ?_; rintro e w' ⟨rfl, rfl⟩)
          | (go_at_call 106; refine H3.out.mono ?_; rintro e w' ⟨rfl, hu'⟩; have HU := Lib.hid hu'; clear hu'))
          go_ret
          exact ⟨by rw [HE.out]; rfl, Upd.refl _ _⟩
        | false =>
          by_cases g2 : (1000 : Int) < (S.size : Int)
          · have HE : Hid (β = true) := Lib.hid (by rw [← Hβ.out, decide_eq_true (show 1000 < S.size by omega)]; rfl)
            go_wp2_with (first
          | (go_at_call 104; refine H1.out.mono ?_; rintro e w' ⟨rfl, rfl⟩)
          | (go_at_call 105; refine H2.out.mono ?_; rintro e w' ⟨rfl, rfl⟩)
          | (go_at_call 106; refine H3.out.mono ?_; rintro e w' ⟨rfl, hu'⟩; have HU := Lib.hid hu'; clear hu'))
            go_ret
            exact ⟨by rw [HE.out]; rfl, Upd.refl _ _⟩
          have g2f : decide ((1000 : Int) < (S.size : Int)) = false := decide_eq_false g2
          have Hβ := Lib.hid (show B3 = β by rw [← Hβ.out, decide_eq_false (show ¬ 1000 < S.size by omega)]; rfl)
          clear g2
          cases B3 with
          | true =>
            have HE : Hid (β = true) := Lib.hid (by rw [← Hβ.out])
            go_wp2_with (first
          | (go_at_call 104; refine H1.out.mono ?_; rintro e w' ⟨rfl, rfl⟩)
          | (go_at_call 105; refine H2.out.mono ?_; rintro e w' ⟨rfl, rfl⟩)
          | (go_at_call 106; refine H3.out.mono ?_; rintro e w' ⟨rfl, hu'⟩; have HU := Lib.hid hu'; clear hu'))
            refine wp_load_mid 73 _ rfl b (o + k * 113 + 6) rfl RL _ HRk.out.1 Tryz.underlying73 rfl (by rw [HRk.out.2]; kernel_rfl) ?_
            go_wp2_with (first
          | (go_at_call 104; refine H1.out.mono ?_; rintro e w' ⟨rfl, rfl⟩)
          | (go_at_call 105; refine H2.out.mono ?_; rintro e w' ⟨rfl, rfl⟩)
          | (go_at_call 106; refine H3.out.mono ?_; rintro e w' ⟨rfl, hu'⟩; have HU := Lib.hid hu'; clear hu'))
            go_ret
            exact ⟨by rw [HE.out]; rfl, HU.out⟩
          | false =>
            have HE : Hid (β = false) := Lib.hid (by rw [← Hβ.out])
            go_wp2_with (first
          | (go_at_call 104; refine H1.out.mono ?_; rintro e w' ⟨rfl, rfl⟩)
          | (go_at_call 105; refine H2.out.mono ?_; rintro e w' ⟨rfl, rfl⟩)
          | (go_at_call 106; refine H3.out.mono ?_; rintro e w' ⟨rfl, hu'⟩; have HU := Lib.hid hu'; clear hu'))
            refine wp_load_mid 73 _ rfl b (o + k * 113 + 6) rfl RL _ HRk.out.1 Tryz.underlying73 rfl (by rw [HRk.out.2]; kernel_rfl) ?_
            go_wp2_with (first
          | (go_at_call 104; refine H1.out.mono ?_; rintro e w' ⟨rfl, rfl⟩)
          | (go_at_call 105; refine H2.out.mono ?_; rintro e w' ⟨rfl, rfl⟩)
          | (go_at_call 106; refine H3.out.mono ?_; rintro e w' ⟨rfl, hu'⟩; have HU := Lib.hid hu'; clear hu'))
            go_roundw
            case rel => exact ⟨k + 1, by simp, .inr ⟨by have := HL.out; omega, HE.out, HU.out⟩⟩
            case measure => simp [intOf]; omega
    · have j1 : ¬ ((k : Int) < 1) := by omega
      have HE := Lib.hid (And.intro hf hu)
      clear hk hf hu h1 h2 h3 h4 HR
      go_wp2_with fail
      go_ret
      exact ⟨by rw [HE.out.1]; rfl, HE.out.2⟩
end Go.Proofs.YtdfgmieinbmfkaaGreat
