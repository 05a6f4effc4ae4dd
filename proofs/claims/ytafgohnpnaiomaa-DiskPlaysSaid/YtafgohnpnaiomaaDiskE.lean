/-
  How many writes wait; bytes that are turned.
-/
import Derived.Test.YtafgohnpnaiomaaDiskD
import Derived.Test.YtafgohnpnaiomaaTurn
namespace Go.Proofs.Ytafgohnpnaiomaa
open Go Go.RowKit

/-- How many writes wait for the sectors of these entries. -/
def lenSum (d : Dk) (l : List (Int × Value)) : Nat := (l.map fun q => (d.at_ q.1.toNat).length).sum
theorem lenSum_split (d : Dk) (l1 l2 : List (Int × Value)) (q : Int × Value) : lenSum d (l1 ++ q :: l2) = (d.at_ q.1.toNat).length + lenSum d (l1 ++ l2) := by
  simp [lenSum]
  omega
theorem sum_map_range (f : Nat → Nat) (l : List Nat) (n : Nat) (hl : l.Nodup) (h1 : ∀ i ∈ l, i < n) (h2 : ∀ i, i < n → f i ≠ 0 → i ∈ l) : (l.map f).sum = ((List.range n).map f).sum := by
  induction n generalizing l with
  | zero =>
    have : l = [] := by
      cases l with
      | nil => rfl
      | cons x l => have := h1 x (by simp); omega
    subst this
    rfl
  | succ n ih =>
    rw [List.range_succ, List.map_append, List.sum_append]
    by_cases hn : n ∈ l
    · obtain ⟨a, b, rfl⟩ := List.append_of_mem hn
      have hnd : (a ++ b).Nodup ∧ n ∉ a ++ b := by
        simp only [List.nodup_append, List.nodup_cons, List.mem_cons, List.mem_append] at hl ⊢
        obtain ⟨q1, ⟨q2, q3⟩, q4⟩ := hl
        refine ⟨⟨q1, q3, fun x hx y hy => q4 x hx y (.inr hy)⟩, fun h => h.elim (fun h => q4 n h n (.inl rfl) rfl) q2⟩
      have e := ih (a ++ b) hnd.1 (fun i hi => by
        have h3 := h1 i (by simp only [List.mem_append, List.mem_cons] at hi ⊢; exact hi.imp id .inr)
        have : i ≠ n := fun e => hnd.2 (e ▸ hi)
        omega) (fun i hi h0 => by
        have h3 := h2 i (by omega) h0
        simp only [List.mem_append, List.mem_cons] at h3 ⊢
        rcases h3 with h | h | h
        · exact .inl h
        · omega
        · exact .inr h)
      rw [← e]
      simp
      omega
    · have h0 : f n = 0 := by
        apply Classical.byContradiction
        intro h
        exact hn (h2 n (by omega) h)
      rw [ih l hl (fun i hi => by
        have h3 := h1 i hi
        have : i ≠ n := fun e => hn (e ▸ hi)
        omega) (fun i hi h => h2 i (by omega) h)]
      simp [h0]
theorem pend_range (d : Dk) : d.pend = ((List.range d.waits.length).map fun i => (d.at_ i).length).sum := by
  unfold Dk.pend Dk.at_
  congr 1
  apply List.ext_getElem
  · simp
  · intro i h1 h2
    simp only [List.length_map, List.length_range] at h1 h2
    simp [List.getD_eq_getElem?_getD, h1]
theorem lenSum_pend {w : World} {d : Dk} {m : List (Int × Value)} (h : WaitsAt w m d.waits) (hn : (m.map (·.1)).Nodup) : lenSum d m = d.pend := by
  rw [pend_range]
  have e : lenSum d m = ((m.map (fun q => q.1.toNat)).map fun i => (d.at_ i).length).sum := by
    rw [lenSum, List.map_map]
    rfl
  rw [e]
  refine sum_map_range _ _ _ ?_ ?_ ?_
  · have hk : ∀ q ∈ m, 0 ≤ q.1 := fun q hq => by obtain ⟨i, e, _⟩ := h.each q hq; omega
    clear e h
    induction m with
    | nil => simp
    | cons x m ih =>
      simp only [List.map_cons, List.nodup_cons] at hn ⊢
      refine ⟨fun hx => hn.1 ?_, ih hn.2 (fun q hq => hk q (by simp [hq]))⟩
      obtain ⟨y, hy, e⟩ := List.mem_map.1 hx
      have h1 := hk x (by simp)
      have h2 := hk y (by simp [hy])
      exact List.mem_map.2 ⟨y, hy, by omega⟩
  · intro i hi
    obtain ⟨q, hq, rfl⟩ := List.mem_map.1 hi
    obtain ⟨j, e, hj, _⟩ := h.each q hq
    rw [e]
    simpa using hj
  · intro i hi h0
    have : d.waits.getD i [] ≠ [] := fun e => h0 (by show (d.waits.getD i []).length = 0; rw [e]; rfl)
    obtain ⟨q, hq, e⟩ := List.mem_map.1 (h.all i this)
    exact List.mem_map.2 ⟨q, hq, by omega⟩

set_option maxRecDepth 100000 in
set_option maxHeartbeats 800000 in
theorem waits_c {w : World} {p : Nat} {d : Dk} {F : List Nat} (hD : DiskAt w p d F) :
    Calls Try.prog 32 #[.pointer (some ⟨p, 0, none⟩)] w fun e w' => e = .returned (.int .i64 d.pend) ∧ Upd (fun _ => False) w w' := by
  obtain ⟨bl, cap, bm, m, g1, g2, g3, g4, g5, gF, g7⟩ := hD
  have hc := g1.cells4
  obtain ⟨w2, hr2, hR2, hU2, hs2⟩ := g3.run_range (P := Try.prog) Try.underlying74
  have hsum := lenSum_pend g4 g3.nodup
  have hroom := g5.room
  have H := Lib.hid (And.intro g4 (And.intro g5 hsum))
  have H2 := Lib.hid (And.intro hR2 hU2)
  clear g1 g2 g3 g4 g5 gF g7 hR2 hU2 hsum hs2
  go_enter Try.func32, Try.ntmps32
  go_wp2_with fail
  clear hr2 hc
  go_loopw [3] (fun n wr => ∃ left, n = .int .i64 ((lenSum d m - lenSum d left : Nat) : Int) ∧ lenSum d left ≤ lenSum d m ∧ Rng intKey wr w.heap.size bm m left ∧ (∀ q ∈ left, q ∈ m) ∧ Upd (fun _ => False) w wr) (fun _ wr => rngLeft wr w.heap.size bm)
  case atStart => exact ⟨m, by simp, Nat.le_refl _, H2.out.1, fun _ h => h, H2.out.2⟩
  case round =>
    obtain ⟨left, rfl, hle, hR, hsub, hU⟩ := hrel
    have Hmu := Lib.hid (hR.left_eq)
    rcases hR.run_next (P := Try.prog) keyI.inj 0 with ⟨h0, hrun⟩ | ⟨k, v, l1, l2, w3, hleft, hmem, hrun, hR3, hen, hU3, hs3⟩
    · subst h0
      have HU := Lib.hid hU
      have hz : lenSum d m - lenSum d [] = d.pend := by rw [H.out.2.2]; simp [lenSum]
      rw [hz]
      clear hR hU hsub hle Hmu
      go_wp2_with fail
      go_ret
      exact ⟨rfl, HU.out⟩
    · obtain ⟨i, hki, hi, hne, hown⟩ := H.out.1.each (k, v) (hsub _ (by rw [hleft]; simp))
      simp only at hki hown
      subst hki
      have hv : ∃ A cap, v = .slice A (d.at_ i).length cap := by
        obtain ⟨A, cap, e, _⟩ := hown.shape
        exact ⟨A, cap, e⟩
      obtain ⟨A, cap', rfl⟩ := hv
      have hsp := lenSum_split d l1 l2 ((i : Int), .slice A (d.at_ i).length cap')
      rw [← hleft] at hsp
      simp only [Int.toNat_natCast] at hsp
      have hmp := H.out.2.2
      have h3 : ((lenSum d m - lenSum d left : Nat) : Int) + ((d.at_ i).length : Int) = ((lenSum d m - lenSum d (l1 ++ l2) : Nat) : Int) := by omega
      have hb3 : lenSum d m - lenSum d left + (d.at_ i).length < 1000000 := by omega
      have HS := Lib.hid (And.intro h3 (And.intro (show lenSum d (l1 ++ l2) ≤ lenSum d m by omega) (And.intro hR3 (And.intro (fun q (hq : q ∈ l1 ++ l2) => hsub q (by rw [hleft]; simp only [List.mem_append, List.mem_cons] at hq ⊢; exact hq.imp id .inr)) (And.intro (hU.then hU3 (fun b e => .inr (by rw [e]; exact Nat.le_refl _))) (And.intro hR hleft))))))
      have hb4 : ((lenSum d m - lenSum d left : Nat) : Int) + ((d.at_ i).length : Int) < 1000000 := by omega
      have hb5 : (0 : Int) ≤ ((lenSum d m - lenSum d left : Nat) : Int) := by omega
      clear hR hU hsub hle hsp hmp h3 hb3 hR3 hU3 hs3 hmem hleft hown hne hi
      go_wp2_with fail
      go_roundw
      case rel => exact ⟨l1 ++ l2, by rw [HS.out.1], HS.out.2.1, HS.out.2.2.1, HS.out.2.2.2.1, HS.out.2.2.2.2.1⟩
      case measure =>
        rw [HS.out.2.2.1.left_eq, HS.out.2.2.2.2.2.1.left_eq, HS.out.2.2.2.2.2.2]
        simp
end Go.Proofs.Ytafgohnpnaiomaa
