/-
  Single steps of a region that draws its order: two operations that may come up; a whole row stored.
-/
import Derived.Test.YtdfgmieinbmfkaaGreatTakeT
import Derived.Test.YtdfgmieinbmfkaaGreatPart
namespace Go.Proofs.YtdfgmieinbmfkaaGreat
open Go Go.RowKit

section
variable {P : Program} {ops : Array Oper} {Q : Exit → Act → World → Prop} {md : Region.Mode} {S : World → Prop} {T : Nat → Bool}
/-- Those of T wait for operation i, by up to eight edges. -/
def awaits8 (md : Region.Mode) (ops : Array Oper) (T : Nat → Bool) (listed : Array Bool) (i : Nat) : Bool :=
  closed md ops listed && !T i && (List.range ops.size).all fun j => !T j || reach md ops i 8 j
theorem awaits8_spec {listed : Array Bool} {i : Nat} (h : awaits8 md ops T listed i = true) :
    Closed md ops listed ∧ T i = false ∧ ∀ j oj, ops[j]? = some oj → T j = true → reach md ops i 8 j = true := by
  unfold awaits8 at h
  simp only [Bool.and_eq_true] at h
  refine ⟨closed_spec h.1.1, by simpa using h.1.2, fun j oj hj hT => ?_⟩
  have h1 := List.all_eq_true.1 h.2 j (List.mem_range.2 (Array.getElem?_eq_some_iff.1 hj).1)
  rw [hT] at h1
  simpa using h1
/-- Operation i, which may come up now and for which those of T wait, is taken first. -/
theorem wpAnyT_take8 {i : Nat} {oi : Oper} {v : Value} {fuel : Nat} {listed : Array Bool} {a : Act} {w : World} (hi : ops[i]? = some oi)
    (hs : Region.noSelect ops = true) (hf : Region.free md ops listed i = true) (hr : (Region.ready md ops listed).contains i = true) (hw : awaits8 md ops T listed i = true)
    (hQ : ∀ c a w, Q (.panic c) (a.put oi.dst v) w → Q (.panic c) a w) (hT : Takes P ops Q S i oi v a) (hS : S w) (hz : ops.size = listed.size)
    (h : wpAnyT P md ops Q S T fuel (listed.setIfInBounds i true) (a.put oi.dst v) w) : wpAnyT P md ops Q S T (fuel + 1) listed a w := by
  have hsel := Region.noSelect_spec hs
  obtain ⟨hcl0, hTi, hwt⟩ := awaits8_spec hw
  have main : ∀ (fuel : Nat) (listed : Array Bool) (a : Act) (w : World),
      (∀ j oj, ops[j]? = some oj → j ≠ i → listed.getD j true = false → (∀ e ∈ oj.after, Region.binds md e = true → e.on ≠ i) → oi.apart ops oj = true) →
      Closed md ops listed → ops.size = listed.size →
      i ∈ Region.ready md ops listed → Takes P ops Q S i oi v a → S w →
      wpAnyT P md ops Q S T fuel (listed.setIfInBounds i true) (a.put oi.dst v) w → wpAnyT P md ops Q S T (fuel + 1) listed a w := by
    intro fuel
    induction fuel with
    | zero =>
      intro listed a w _ _ _ hr hT hS H
      refine ⟨fun h0 => (by rw [h0] at hr; cases hr), fun j hj => ?_⟩
      by_cases e : j = i
      · subst e
        exact hT a rfl rfl _ w hS ⟨fun _ => hS, H⟩
      · have h1 := ready_mono hj e
        rw [H.1] at h1
        cases h1
    | succ fuel ih =>
      intro listed a w hfree hcl hz hr hT hS H
      refine ⟨fun h0 => (by rw [h0] at hr; cases hr), fun j hj => ?_⟩
      by_cases e : j = i
      · subst e
        exact hT a rfl rfl _ w hS ⟨fun _ => hS, H⟩
      · have h1 := H.2 j (ready_mono hj e)
        obtain ⟨hun, oj, hoj, hall⟩ := mem_ready.1 hj
        have g0 := (mem_ready.1 hr).1
        have hli : listed.getD i false = false := by
          by_cases hlt : i < listed.size
          · simp [hlt] at g0 ⊢
            exact g0
          · simp [Array.getElem?_eq_none (Nat.le_of_not_lt hlt)] at g0
        have hno : ∀ e ∈ oj.after, Region.binds md e = true → e.on ≠ i := by
          intro x hx hb hxi
          have g1 := hall x hx hb
          rw [hxi, hli] at g1
          cases g1
        have hd : dirty T ((listed.setIfInBounds i true).setIfInBounds j true) = false := dirty_false.2 fun k hk => by
          have hki : i ≠ k := fun e => by rw [e, hk] at hTi; cases hTi
          by_cases ekj : j = k
          · subst ekj
            have g1 := reach_spec hcl 8 j oj hoj hall (hwt j oj hoj hk)
            rw [hli] at g1
            cases g1
          · rw [getD_set_ne false ekj, getD_set_ne false hki]
            cases hlk : listed.getD k false with
            | false => rfl
            | true =>
              have hlt : k < ops.size := by
                rcases Nat.lt_or_ge k listed.size with h | h
                · omega
                · simp [Array.getElem?_eq_none h] at hlk
              have hok : ops[k]? = some ops[k] := Array.getElem?_eq_getElem hlt
              have g1 := reach_spec hcl 8 k _ hok (hcl k _ hok hlk) (hwt k _ hok hk)
              rw [hli] at g1
              cases g1
        have h2 := wpOp_swap hoj (hfree j oj hoj e hun hno) (fun cs b => hsel i oi cs b hi) (fun cs b => hsel j oj cs b hoj) hQ hT h1
        refine wpOp_mono (fun a' w' h3 => ⟨fun _ => h3.2.1 hd, ih _ a' w' (fun k ok hk hki hu2 hn2 => ?_) (hcl.set hoj hall) (by simpa using hz) (ready_mono hr (Ne.symm e)) h3.1 (h3.2.1 hd) ?_⟩) h2
        · refine hfree k ok hk hki ?_ hn2
          by_cases ek : j = k
          · subst ek; exact hun
          · rw [getD_set_ne true ek] at hu2; exact hu2
        · rw [Array.setIfInBounds_comm _ _ e]
          exact h3.2.2
  exact main fuel listed a w (Region.free_spec hi hf) hcl0 hz (by simpa using hr) hT hS h
theorem wpAnyT_two {i j : Nat} {oi oj : Oper} {fuel : Nat} {listed : Array Bool} {a : Act} {w : World} (hr : Region.ready md ops listed = [i, j]) (hi : ops[i]? = some oi) (hj : ops[j]? = some oj)
    (h1 : ∀ K' : Act → World → Prop, Shut (∀ a w, S w → wpAnyT P md ops Q S T fuel (listed.setIfInBounds i true) a w → K' a w) → if Region.wanted oi (yielded ops a.tmps) = true then Oper.wp P oi a w K' Q else K' (a.put oi.dst undef) w)
    (h2 : ∀ K' : Act → World → Prop, Shut (∀ a w, S w → wpAnyT P md ops Q S T fuel (listed.setIfInBounds j true) a w → K' a w) → if Region.wanted oj (yielded ops a.tmps) = true then Oper.wp P oj a w K' Q else K' (a.put oj.dst undef) w) :
    wpAnyT P md ops Q S T (fuel + 1) listed a w := by
  refine ⟨fun h0 => (by rw [hr] at h0; cases h0), fun k hk => ?_⟩
  rw [hr] at hk
  rcases (by simpa using hk : k = i ∨ k = j) with rfl | rfl
  · exact wpOp_step hi (fun K' hK => h1 K' (fun a w hS hW => hK a w ⟨fun _ => hS, hW⟩))
  · exact wpOp_step hj (fun K' hK => h2 K' (fun a w hS hW => hK a w ⟨fun _ => hS, hW⟩))
/-- A whole row stored, as one step of a region that draws. -/
theorem step_store_all {o : Oper} {a : Act} {w : World} {K : Act → World → Prop} {E : Prop} (hg : o.guard = none) (ty : TypeId) (x y : Operand) (ho : o.op = .store ty x y) (g : Nat) (new : Array Value) (hx : a.eval x = .pointer (some ⟨g, 0, none⟩)) (hy : a.eval y = .agg new)
    (t : TypeId) (cs : Array Value) (hB : Blk w g t cs) (hs : cs.size = new.size) (h1 : new.all (·.oneCell') = true) (hsz : (P.info? ty).map (·.size) = some new.size)
    (h : ∀ w', Blk w' g t new → Upd (· = g) w w' → w'.heap.size = w.heap.size → K (a.put o.dst undef) w') : if Region.wanted o (yielded ops a.tmps) = true then Oper.wp P o a w K Q else E := by
  have hw : Region.wanted o (yielded ops a.tmps) = true := by simp [Region.wanted, hg]
  rw [if_pos hw]
  exact wp_store_all ty x y ho g new hx hy t cs hB hs h1 hsz h
end
end Go.Proofs.YtdfgmieinbmfkaaGreat
