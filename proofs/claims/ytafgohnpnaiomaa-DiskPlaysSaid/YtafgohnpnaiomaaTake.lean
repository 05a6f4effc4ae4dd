/-
  A call that leaves the world as it is may be taken first in a region that draws its order.
-/
import Derived.Test.YtafgohnpnaiomaaHeap
import Derived.Deep.RegionHeld3
namespace Go.Proofs.Ytafgohnpnaiomaa
open Go Go.RowKit

section
variable {P : Program} {ops : Array Oper} {Q : Exit → Act → World → Prop} {md : Region.Mode} {S : World → Prop}

/-- Whatever state looks alike to operation i: carried out in a world that meets S, it yields v and leaves the world alone. -/
def Takes (P : Program) (ops : Array Oper) (Q : Exit → Act → World → Prop) (S : World → Prop) (i : Nat) (o : Oper) (v : Value) (a : Act) : Prop :=
  ∀ a' : Act, execOp a'.eval o = execOp a.eval o → Region.wanted o (yielded ops a'.tmps) = Region.wanted o (yielded ops a.tmps) →
    ∀ (K : Act → World → Prop) (w : World), S w → K (a'.put o.dst v) w → wpOp P ops Q i K a' w
theorem Takes.like {i : Nat} {o : Oper} {v : Value} {a a' : Act} (h : Takes P ops Q S i o v a) (he : execOp a'.eval o = execOp a.eval o) (hw : Region.wanted o (yielded ops a'.tmps) = Region.wanted o (yielded ops a.tmps)) : Takes P ops Q S i o v a' :=
  fun b h1 h2 => h b (h1.trans he) (h2.trans hw)
/-- A call whose contract says that the world is as it was. -/
theorem takes_call {i : Nat} {o : Oper} {v : Value} {a : Act} (hi : ops[i]? = some o) (f : FuncId) (args : Array Value) (hw : Region.wanted o (yielded ops a.tmps) = true)
    (hx : ∀ w, S w → (execOp a.eval o).run P w = .ok (.enter f args) w) (hc : ∀ w, S w → Calls P f args w fun e w' => e = .returned v ∧ w = w') : Takes P ops Q S i o v a := by
  intro a' he hw' K w hS hK
  unfold wpOp
  simp only [hi]
  rw [hw', hw]
  simp only [if_true]
  left
  unfold Oper.wp
  rw [he, hx w hS]
  simp only [Oper.upon]
  refine (hc w hS).mono fun e w2 h => ?_
  obtain ⟨rfl, rfl⟩ := h
  exact hK
/-- Operation j, apart from i, behind it or ahead of it. -/
theorem wpOp_swap {i j : Nat} {oi oj : Oper} {v : Value} (hj : ops[j]? = some oj) (hap : oi.apart ops oj = true)
    (hsi : ∀ cs b, oi.op ≠ .select cs b) (hsj : ∀ cs b, oj.op ≠ .select cs b) (hQ : ∀ c a w, Q (.panic c) (a.put oi.dst v) w → Q (.panic c) a w)
    {K : Act → World → Prop} {a : Act} {w : World} (hT : Takes P ops Q S i oi v a) (h : wpOp P ops Q j K (a.put oi.dst v) w) :
    wpOp P ops Q j (fun a' w' => Takes P ops Q S i oi v a' ∧ K (a'.put oi.dst v) w') a w := by
  obtain ⟨p1, p2, p3⟩ := Oper.apart_spec hap
  have still : ∀ u, Takes P ops Q S i oi v (a.put oj.dst u) := fun u => hT.like (execOp_put oi hsi a oj.dst u p3) (wanted_put oi a oj.dst u p3)
  have comm : ∀ u, (a.put oj.dst u).put oi.dst v = (a.put oi.dst v).put oj.dst u := fun u => (Act.put_comm a v u p2).symm
  unfold wpOp at h ⊢
  simp only [hj] at h ⊢
  rw [wanted_put oj a oi.dst v p1] at h
  by_cases hw : Region.wanted oj (yielded ops a.tmps) = true
  · rw [if_pos hw] at h ⊢
    rcases h with h | ⟨q1, q2⟩
    · left
      unfold Oper.wp at h ⊢
      rw [execOp_put oj hsj a oi.dst v p1] at h
      generalize (execOp a.eval oj).run P w = r at h ⊢
      match r, h with
      | .ok (.value u) w2, h =>
        simp only [Oper.upon] at h ⊢
        exact ⟨still u, by rw [comm]; exact h⟩
      | .ok .skip w2, h =>
        simp only [Oper.upon] at h ⊢
        exact ⟨still _, by rw [comm]; exact h⟩
      | .ok (.defer d) w2, h =>
        simp only [Oper.upon] at h ⊢
        have hd : Takes P ops Q S i oi v { a with defers := d :: a.defers } := hT.like rfl rfl
        refine ⟨hd.like (execOp_put oi hsi _ oj.dst undef p3) (wanted_put oi _ oj.dst undef p3), ?_⟩
        rw [← Act.put_comm _ v undef p2, ← Act.put_defers]
        exact h
      | .ok (.enter f args) w2, h =>
        simp only [Oper.upon] at h ⊢
        refine Calls.mono h fun e w3 he => ?_
        match e, he with
        | .returned u, he => exact ⟨still u, by rw [comm]; exact he⟩
        | .panicked c, he => exact hQ _ _ _ he
        | .outgrown, he => exact he
      | .ok (.row row args) w2, h =>
        simp only [Oper.upon] at h ⊢
        exact Rows.mono h fun u w3 he => ⟨still u, by rw [comm]; exact he⟩
      | .halt (.panic u) w2, h =>
        simp only [Oper.upon] at h ⊢
        exact hQ _ _ _ h
    · right
      refine ⟨?_, q2⟩
      unfold Oper.asks at q1 ⊢
      rw [execOp_put oj hsj a oi.dst v p1] at q1
      exact q1
  · rw [if_neg hw] at h ⊢
    exact ⟨still _, by rw [comm]; exact h⟩
/-- Operation i, which may come up now, is taken first. -/
theorem wpAnyH_takeC {i : Nat} {oi : Oper} {v : Value} {fuel : Nat} {listed : Array Bool} {a : Act} {w : World} (hi : ops[i]? = some oi)
    (hs : Region.noSelect ops = true) (hf : Region.free md ops listed i = true) (hr : (Region.ready md ops listed).contains i = true)
    (hQ : ∀ c a w, Q (.panic c) (a.put oi.dst v) w → Q (.panic c) a w) (hT : Takes P ops Q S i oi v a) (hS : S w)
    (h : wpAnyH P md ops Q S fuel (listed.setIfInBounds i true) (a.put oi.dst v) w) : wpAnyH P md ops Q S (fuel + 1) listed a w := by
  have hsel := Region.noSelect_spec hs
  have main : ∀ (fuel : Nat) (listed : Array Bool) (a : Act) (w : World),
      (∀ j oj, ops[j]? = some oj → j ≠ i → listed.getD j true = false → (∀ e ∈ oj.after, Region.binds md e = true → e.on ≠ i) → oi.apart ops oj = true) →
      i ∈ Region.ready md ops listed → Takes P ops Q S i oi v a → S w →
      wpAnyH P md ops Q S fuel (listed.setIfInBounds i true) (a.put oi.dst v) w → wpAnyH P md ops Q S (fuel + 1) listed a w := by
    intro fuel
    induction fuel with
    | zero =>
      intro listed a w _ hr hT hS H
      refine ⟨fun h0 => (by rw [h0] at hr; cases hr), fun j hj => ?_⟩
      by_cases e : j = i
      · subst e
        exact hT a rfl rfl _ w hS ⟨hS, H⟩
      · have h1 := ready_mono hj e
        rw [H.1] at h1
        cases h1
    | succ fuel ih =>
      intro listed a w hfree hr hT hS H
      refine ⟨fun h0 => (by rw [h0] at hr; cases hr), fun j hj => ?_⟩
      by_cases e : j = i
      · subst e
        exact hT a rfl rfl _ w hS ⟨hS, H⟩
      · have h1 := H.2 j (ready_mono hj e)
        obtain ⟨hun, oj, hoj, hall⟩ := mem_ready.1 hj
        have hno : ∀ e ∈ oj.after, Region.binds md e = true → e.on ≠ i := by
          intro x hx hb hxi
          have g1 := hall x hx hb
          have g0 := (mem_ready.1 hr).1
          rw [hxi] at g1
          by_cases hlt : i < listed.size
          · simp [hlt] at g0 g1
            rw [g0] at g1
            cases g1
          · simp [Array.getElem?_eq_none (Nat.le_of_not_lt hlt)] at g1
        have h2 := wpOp_swap hoj (hfree j oj hoj e hun hno) (fun cs b => hsel i oi cs b hi) (fun cs b => hsel j oj cs b hoj) hQ hT h1
        refine wpOp_mono (fun a' w' h3 => ⟨h3.2.1, ih _ a' w' (fun k ok hk hki hu2 hn2 => ?_) (ready_mono hr (Ne.symm e)) h3.1 h3.2.1 ?_⟩) h2
        · refine hfree k ok hk hki ?_ hn2
          by_cases ek : j = k
          · subst ek; exact hun
          · rw [getD_set_ne true ek] at hu2; exact hu2
        · rw [Array.setIfInBounds_comm _ _ e]
          exact h3.2.2
  exact main fuel listed a w (Region.free_spec hi hf) (by simpa using hr) hT hS h
end
end Go.Proofs.Ytafgohnpnaiomaa
