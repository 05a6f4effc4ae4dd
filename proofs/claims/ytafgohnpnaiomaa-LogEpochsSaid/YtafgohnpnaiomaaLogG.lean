/-
  The record at the beginning of parts.
-/
import Derived.Test.YtafgohnpnaiomaaLogF
import Derived.Deep.RegionHeld3
namespace Go.Proofs.Ytafgohnpnaiomaa
open Go Go.RowKit

def textG (l : List Lp) : List UInt8 := l.flatMap Lp.text
theorem textG_len (l : List Lp) (ht : ∀ p ∈ l, p.text.length ≤ 32) : (textG l).length ≤ 32 * l.length := by
  induction l with
  | nil => simp [textG]
  | cons p l ih =>
    have h1 := ht p (by simp)
    have h2 := ih (fun q hq => ht q (by simp [hq]))
    simp only [textG, List.flatMap_cons, List.length_append, List.length_cons] at h2 ⊢
    omega
theorem textG_take_succ (l : List Lp) (k : Nat) (hk : k < l.length) : textG (l.take (k + 1)) = textG (l.take k) ++ l[k].text := by
  rw [List.take_succ_eq_append_getElem hk, textG, List.flatMap_append]
  simp [textG]
/-- The record at the beginning of parts, and whether there is one. -/
def firstG (epoch last : Nat) (row : List Lp) : List UInt8 × Bool :=
  match row with
  | [] => ([], false)
  | p :: r =>
    if (p :: r).length < p.all then ([], false) else
    if 1024 < (textG ((p :: r).take p.all)).length then ([], false) else
    (textG ((p :: r).take p.all), decide (partsOf (textG ((p :: r).take p.all)).length ≤ (p :: r).length ∧ cutG (textG ((p :: r).take p.all)) epoch p.salt last = (p :: r).take (partsOf (textG ((p :: r).take p.all)).length)))

/-- A log, beside its disk. -/
structure Lg where
  from_ : Nat
  sectors : Nat
  epoch : Nat
  l : List ByteArray
  used : Nat
  last : Nat
  salt : Nat
  broken : Bool
def Lg.cells (p : Nat) (v : Value) (g : Lg) : Array Value :=
  #[.pointer (some ⟨p, 0, none⟩), .int .i64 g.from_, .int .i64 g.sectors, .int .u64 g.epoch, v, .int .i64 g.used, .int .u64 g.last, .int .u64 g.salt, .bool g.broken]
theorem PartsAt.take {w : World} {A : Option Addr} {n cap : Nat} {l : List Lp} (h : PartsAt w (.slice A n cap) l) (k : Nat) (hk : k ≤ l.length) : PartsAt w (.slice A k cap) (l.take k) := by
  obtain ⟨A', cap', b, off, e, h1, h2, h3, h4⟩ := h.ex
  injection e with e1 e2 e3
  subst e1 e3
  have hl : (l.take k).length = k := by rw [List.length_take]; omega
  refine ⟨A, cap, b, off, by rw [hl], by omega, h2, fun h0 => h3 (by omega), fun i hi j hj => ?_⟩
  rw [List.getElem_take]
  exact h4 i (by omega) j hj

set_option maxRecDepth 100000 in
set_option maxHeartbeats 800000 in
theorem first_g {w : World} {b p : Nat} {v0 v : Value} {g : Lg} {row : List Lp} (hB : Blk w b 132 (g.cells p v0)) (hR : PartsAt w v row) (hl : row.length ≤ 5000) (ht : ∀ q ∈ row, q.text.length ≤ 32) (ha : ∀ q ∈ row, q.all < 256) :
    Calls Try.prog 86 #[.pointer (some ⟨b, 0, none⟩), v] w fun e w' => e = .returned (.tuple #[.string (str (firstG g.epoch g.last row).1), .bool (firstG g.epoch g.last row).2]) ∧ Upd (fun _ => False) w w' := by
  have HR := Lib.hid hR
  have HB := Lib.hid hB
  obtain ⟨A, cap, b1, o1, rfl, m1, m2, a1, c1⟩ := hR.ex
  have hcb := hB.cells9
  clear hR hB m1 m2
  by_cases hn : row.length = 0
  · have hl0 : row = [] := List.length_eq_zero_iff.1 hn
    subst hl0
    have hr : firstG g.epoch g.last [] = ([], false) := rfl
    rw [hr]
    simp only [List.length_nil]
    clear a1 c1 hn ht ha hl
    go_enter Try.func86, Try.ntmps86
    go_wp2_with fail
    go_ret2
    exact ⟨rfl, Upd.refl _ _⟩
  · obtain ⟨rfl, -⟩ := a1 (by omega)
    have h0 : 0 < row.length := by omega
    have hne : ((row.length : Int) == 0) = false := by rw [beq_eq_false_iff_ne]; omega
    have hlt0 : (0 : Int) < (row.length : Int) := by omega
    have hc0 : ∀ j, j < 6 → w.cell? ⟨b1, o1 + j, none⟩ = (Lp.cells row[0])[j]? := fun j hj => by have := c1 0 h0 j hj; simpa using this
    have x1 := hc0 1 (by omega)
    have x4 := hc0 4 (by omega)
    simp only [Lp.cells, List.getElem?_cons_zero, List.getElem?_cons_succ] at x1 x4
    have hall := ha row[0] (List.getElem_mem _)
    have HC := Lib.hid c1
    clear c1 hc0 a1
    have hF : firstG g.epoch g.last row = if row.length < row[0].all then ([], false) else if 1024 < (textG (row.take row[0].all)).length then ([], false) else
        (textG (row.take row[0].all), decide (partsOf (textG (row.take row[0].all)).length ≤ row.length ∧ cutG (textG (row.take row[0].all)) g.epoch row[0].salt g.last = row.take (partsOf (textG (row.take row[0].all)).length))) := by
      cases row with
      | nil => simp at h0
      | cons q r => rfl
    by_cases hbig : row.length < row[0].all
    · have hbig' : (row.length : Int) < (row[0].all : Int) := by omega
      rw [if_pos hbig] at hF
      have HF := Lib.hid hF
      clear hF hbig
      go_enter Try.func86, Try.ntmps86
      go_wp2_with fail
      go_ret2
      rw [HF.out]
      exact ⟨rfl, Upd.refl _ _⟩
    · have hbig' : ¬ (row.length : Int) < (row[0].all : Int) := by omega
      rw [if_neg hbig] at hF
      have HF := Lib.hid hF
      have HT : Hid (∀ k, k ≤ row.length → (textG (row.take k)).length ≤ 32 * k) := by
        intro k hk
        have h := textG_len (row.take k) fun q hq => ht q (List.mem_of_mem_take hq)
        rw [List.length_take, Nat.min_eq_left hk] at h
        exact h
      have Ht := Lib.hid ht
      clear hF ht ha
      go_enter Try.func86, Try.ntmps86
      go_wp2_with fail
      go_loopw [6, 25] (fun t i wr => ∃ k : Nat, k ≤ row[0].all ∧ i = .int .i64 k ∧ t = .string (str (textG (row.take k))) ∧ wr = w) (fun _ i _ => row[0].all - (intOf i).toNat)
      case atStart => exact ⟨0, by omega, rfl, rfl, rfl⟩
      case round =>
        obtain ⟨k, hk, rfl, rfl, rfl⟩ := hrel
        by_cases hlt : k < row[0].all
        · have hkl : k < row.length := by omega
          have hc := HC.out k hkl 5 (by omega)
          simp only [Lp.cells, List.getElem?_cons_zero, List.getElem?_cons_succ] at hc
          have hz1 : (str (textG (row.take k))).size ≤ 32 * k := by rw [str_size]; exact HT.out k (by omega)
          have hz2 : (str row[k].text).size ≤ 32 := by rw [str_size]; exact Ht.out _ (List.getElem_mem _)
          have hcat := str_app (textG (row.take k)) row[k].text
          have hts := Lib.hid (textG_take_succ row k hkl)
          go_wp2_with fail
          go_roundw
          case rel => exact ⟨k + 1, by omega, by go_num, by rw [hts.out], trivial⟩
          case measure => simp [intOf]; omega
        · obtain rfl : k = row[0].all := by omega
          have hTl : (textG (row.take row[0].all)).length ≤ 32 * 256 := by have := HT.out row[0].all (by omega); omega
          generalize textG (row.take row[0].all) = T at HF hTl ⊢
          have hTs : (str T).size = T.length := str_size T
          by_cases h4 : 1024 < T.length
          · have h4' : (1024 : Int) < (str T).size := by omega
            go_wp2_with fail
            go_ret2
            rw [HF.out, if_pos h4]
            exact ⟨rfl, Upd.refl _ _⟩
          · have h4' : ¬ (1024 : Int) < (str T).size := by omega
            rw [if_neg h4] at HF
            have HCut : Hid (∀ W, Calls Try.prog 88 #[.string (str T), .int .u64 (g.epoch : Int), .int .u64 (row[0].salt : Int), .int .u64 (g.last : Int)] W fun e w' => ∃ v, e = .returned v ∧ Own w' 135 6 v (partsOf T.length) (partsG (cutG T g.epoch row[0].salt g.last)) ∧ Below W.heap.size W w' ∧ (∀ q, v.ownBlock = some q → W.heap.size ≤ q)) := by
              intro W
              have h := cutG_c (str T) g.epoch row[0].salt g.last W (by omega)
              rw [hTs] at h
              exact h
            go_wp2_with fail
            go_region_held3 (fun w' => w'.cell? ⟨b, 3, none⟩ = some (.int .u64 (g.epoch : Int)) ∧ w'.cell? ⟨b, 6, none⟩ = some (.int .u64 (g.last : Int)) ∧ w'.cell? ⟨b1, o1 + 1, none⟩ = some (.int .u64 (row[0].salt : Int))) (first | go_keep)
              (first | (go_at_call 88
                        refine (HCut.out _).mono ?_
                        rintro e w2 ⟨v2, rfl, hO2, hb2, hl2⟩
                        obtain ⟨g2, cap2, rfl, hx1, hx2⟩ := hO2.head (by unfold partsOf; omega)
                        have hUx : Upd (fun _ => False) wr w2 := Upd.of_below (below_of_drew hb2) _
                        have hcb2 := (HB.out.upd hUx (fun e => e)).cells9
                        have hr2 : w2.cell? ⟨b1, o1 + 1, none⟩ = some (.int .u64 (row[0].salt : Int)) := (World.cell?_of_block (w := wr) (a := ⟨b1, o1 + 1, none⟩) (hUx.block b1 (World.block_lt_of_cell? _ _ x1) (fun e => e))).trans x1))
            all_goals
              have HO2 := Lib.hid (And.intro hO2 hUx)
              clear hO2 hUx hb2 hl2 hcb2 hr2
              by_cases h5 : partsOf T.length ≤ row.length
              · have h5' : ((partsOf T.length : Nat) : Int) ≤ (row.length : Int) := by omega
                have hcl := cutG_len T g.epoch row[0].salt g.last
                have hP1 : PartsAt w2 (.slice (some ⟨g2, 0, none⟩) (partsOf T.length) cap2) (cutG T g.epoch row[0].salt g.last) := PartsAt.of_own (by rw [hcl]; exact HO2.out.1)
                have hP2 := (HR.out.still HO2.out.2).take (partsOf T.length) h5
                have HP := Lib.hid (And.intro hP1 hP2)
                have hpc : (partsOf T.length : Int) ≤ (cap : Int) := by
                  obtain ⟨_, _, _, _, e, q1, _⟩ := HR.out.ex
                  injection e with e1 e2 e3
                  omega
                have hd : (firstG g.epoch g.last row).2 = decide (cutG T g.epoch row[0].salt g.last = row.take (partsOf T.length)) := by
                  rw [HF.out]
                  by_cases hq : cutG T g.epoch row[0].salt g.last = row.take (partsOf T.length)
                  · rw [decide_eq_true hq, decide_eq_true ⟨h5, hq⟩]
                  · rw [decide_eq_false hq, decide_eq_false (fun h => hq h.2)]
                have Hd := Lib.hid hd
                clear hP1 hP2 hcl hd
                go_wp2_with fail
                refine (equal_parts _ HP.out.1 HP.out.2).mono ?_
                rintro e w3 ⟨rfl, hU3⟩
                have HU3 := Lib.hid hU3
                clear hU3
                go_wp2_with fail
                go_ret2
                rw [Hd.out, HF.out]
                exact ⟨rfl, HO2.out.2.then HU3.out (fun _ e => e.elim)⟩
              · have h5' : ¬ ((partsOf T.length : Nat) : Int) ≤ (row.length : Int) := by omega
                have hd : (firstG g.epoch g.last row).2 = false := by
                  rw [HF.out]
                  exact decide_eq_false (fun h => h5 h.1)
                have Hd := Lib.hid hd
                clear hd
                go_wp2_with fail
                go_ret2
                rw [Hd.out, HF.out]
                exact ⟨rfl, HO2.out.2⟩
end Go.Proofs.Ytafgohnpnaiomaa
