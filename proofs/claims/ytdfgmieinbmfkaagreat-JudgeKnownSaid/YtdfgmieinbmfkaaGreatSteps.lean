/-
  A call that leaves the world as it is may be taken first in a region that draws its order.
-/
import Derived.Test.YtdfgmieinbmfkaaGreatOwn
import Derived.Deep.RegionHeld3
import Derived.Deep.MidRow
namespace Go.Proofs.YtdfgmieinbmfkaaGreat
open Go Go.RowKit

section
variable {P : Program} {ops : Array Oper} {Q : Exit → Act → World → Prop} {md : Region.Mode} {S : World → Prop}

/-- Whatever state looks alike to operation i: carried out in a world that meets S, it yields v and leaves the world alone. -/
def Takes (P : Program) (ops : Array Oper) (Q : Exit → Act → World → Prop) (S : World → Prop) (i : Nat) (o : Oper) (v : Value) (a : Act) : Prop :=
  ∀ a' : Act, execOp a'.eval o = execOp a.eval o → Region.wanted o (yielded ops a'.tmps) = Region.wanted o (yielded ops a.tmps) →
    ∀ (K : Act → World → Prop) (w : World), S w → K (a'.put o.dst v) w → wpOp P ops Q i K a' w
theorem Takes.like {i : Nat} {o : Oper} {v : Value} {a a' : Act} (h : Takes P ops Q S i o v a) (he : execOp a'.eval o = execOp a.eval o) (hw : Region.wanted o (yielded ops a'.tmps) = Region.wanted o (yielded ops a.tmps)) : Takes P ops Q S i o v a' :=
  fun b h1 h2 => h b (h1.trans he) (h2.trans hw)
/-- A call whose contract says that the world is as it was. -/
theorem takes_call {i : Nat} {o : Oper} {v : Value} {a : Act} (hi : ops[i]? = some o) (f : FuncId) (args : Array Value) (hw : Region.wanted o (yielded ops a.tmps) = true)
    (hx : ∀ w, S w → (execOp a.eval o).run P w = .ok (.enter f args) w) (hc : ∀ w, S w → Calls P f args w fun e w' => e = .returned v ∧ w = w') : Takes P ops Q S i o v a := by
  intro a' he hw' K w hS hK
  unfold wpOp
  simp only [hi]
  rw [hw', hw]
  simp only [if_true]
  left
  unfold Oper.wp
  rw [he, hx w hS]
  simp only [Oper.upon]
  refine (hc w hS).mono fun e w2 h => ?_
  obtain ⟨rfl, rfl⟩ := h
  exact hK
/-- Operation j, apart from i, behind it or ahead of it. -/
theorem wpOp_swap {i j : Nat} {oi oj : Oper} {v : Value} (hj : ops[j]? = some oj) (hap : oi.apart ops oj = true)
    (hsi : ∀ cs b, oi.op ≠ .select cs b) (hsj : ∀ cs b, oj.op ≠ .select cs b) (hQ : ∀ c a w, Q (.panic c) (a.put oi.dst v) w → Q (.panic c) a w)
    {K : Act → World → Prop} {a : Act} {w : World} (hT : Takes P ops Q S i oi v a) (h : wpOp P ops Q j K (a.put oi.dst v) w) :
    wpOp P ops Q j (fun a' w' => Takes P ops Q S i oi v a' ∧ K (a'.put oi.dst v) w') a w := by
  obtain ⟨p1, p2, p3⟩ := Oper.apart_spec hap
  have still : ∀ u, Takes P ops Q S i oi v (a.put oj.dst u) := fun u => hT.like (execOp_put oi hsi a oj.dst u p3) (wanted_put oi a oj.dst u p3)
  have comm : ∀ u, (a.put oj.dst u).put oi.dst v = (a.put oi.dst v).put oj.dst u := fun u => (Act.put_comm a v u p2).symm
  unfold wpOp at h ⊢
  simp only [hj] at h ⊢
  rw [wanted_put oj a oi.dst v p1] at h
  by_cases hw : Region.wanted oj (yielded ops a.tmps) = true
  · rw [if_pos hw] at h ⊢
    rcases h with h | ⟨q1, q2⟩
    · left
      unfold Oper.wp at h ⊢
      rw [execOp_put oj hsj a oi.dst v p1] at h
      generalize (execOp a.eval oj).run P w = r at h ⊢
      match r, h with
      | .ok (.value u) w2, h =>
        simp only [Oper.upon] at h ⊢
        exact ⟨still u, by rw [comm]; exact h⟩
      | .ok .skip w2, h =>
        simp only [Oper.upon] at h ⊢
        exact ⟨still _, by rw [comm]; exact h⟩
      | .ok (.defer d) w2, h =>
        simp only [Oper.upon] at h ⊢
        have hd : Takes P ops Q S i oi v { a with defers := d :: a.defers } := hT.like rfl rfl
        refine ⟨hd.like (execOp_put oi hsi _ oj.dst undef p3) (wanted_put oi _ oj.dst undef p3), ?_⟩
        rw [← Act.put_comm _ v undef p2, ← Act.put_defers]
        exact h
      | .ok (.enter f args) w2, h =>
        simp only [Oper.upon] at h ⊢
        refine Calls.mono h fun e w3 he => ?_
        match e, he with
        | .returned u, he => exact ⟨still u, by rw [comm]; exact he⟩
        | .panicked c, he => exact hQ _ _ _ he
        | .outgrown, he => exact he
      | .ok (.row row args) w2, h =>
        simp only [Oper.upon] at h ⊢
        exact Rows.mono h fun u w3 he => ⟨still u, by rw [comm]; exact he⟩
      | .halt (.panic u) w2, h =>
        simp only [Oper.upon] at h ⊢
        exact hQ _ _ _ h
    · right
      refine ⟨?_, q2⟩
      unfold Oper.asks at q1 ⊢
      rw [execOp_put oj hsj a oi.dst v p1] at q1
      exact q1
  · rw [if_neg hw] at h ⊢
    exact ⟨still _, by rw [comm]; exact h⟩
/-- Operation i, which may come up now, is taken first. -/
theorem wpAnyH_takeC {i : Nat} {oi : Oper} {v : Value} {fuel : Nat} {listed : Array Bool} {a : Act} {w : World} (hi : ops[i]? = some oi)
    (hs : Region.noSelect ops = true) (hf : Region.free md ops listed i = true) (hr : (Region.ready md ops listed).contains i = true)
    (hQ : ∀ c a w, Q (.panic c) (a.put oi.dst v) w → Q (.panic c) a w) (hT : Takes P ops Q S i oi v a) (hS : S w)
    (h : wpAnyH P md ops Q S fuel (listed.setIfInBounds i true) (a.put oi.dst v) w) : wpAnyH P md ops Q S (fuel + 1) listed a w := by
  have hsel := Region.noSelect_spec hs
  have main : ∀ (fuel : Nat) (listed : Array Bool) (a : Act) (w : World),
      (∀ j oj, ops[j]? = some oj → j ≠ i → listed.getD j true = false → (∀ e ∈ oj.after, Region.binds md e = true → e.on ≠ i) → oi.apart ops oj = true) →
      i ∈ Region.ready md ops listed → Takes P ops Q S i oi v a → S w →
      wpAnyH P md ops Q S fuel (listed.setIfInBounds i true) (a.put oi.dst v) w → wpAnyH P md ops Q S (fuel + 1) listed a w := by
    intro fuel
    induction fuel with
    | zero =>
      intro listed a w _ hr hT hS H
      refine ⟨fun h0 => (by rw [h0] at hr; cases hr), fun j hj => ?_⟩
      by_cases e : j = i
      · subst e
        exact hT a rfl rfl _ w hS ⟨hS, H⟩
      · have h1 := ready_mono hj e
        rw [H.1] at h1
        cases h1
    | succ fuel ih =>
      intro listed a w hfree hr hT hS H
      refine ⟨fun h0 => (by rw [h0] at hr; cases hr), fun j hj => ?_⟩
      by_cases e : j = i
      · subst e
        exact hT a rfl rfl _ w hS ⟨hS, H⟩
      · have h1 := H.2 j (ready_mono hj e)
        obtain ⟨hun, oj, hoj, hall⟩ := mem_ready.1 hj
        have hno : ∀ e ∈ oj.after, Region.binds md e = true → e.on ≠ i := by
          intro x hx hb hxi
          have g1 := hall x hx hb
          have g0 := (mem_ready.1 hr).1
          rw [hxi] at g1
          by_cases hlt : i < listed.size
          · simp [hlt] at g0 g1
            rw [g0] at g1
            cases g1
          · simp [Array.getElem?_eq_none (Nat.le_of_not_lt hlt)] at g1
        have h2 := wpOp_swap hoj (hfree j oj hoj e hun hno) (fun cs b => hsel i oi cs b hi) (fun cs b => hsel j oj cs b hoj) hQ hT h1
        refine wpOp_mono (fun a' w' h3 => ⟨h3.2.1, ih _ a' w' (fun k ok hk hki hu2 hn2 => ?_) (ready_mono hr (Ne.symm e)) h3.1 h3.2.1 ?_⟩) h2
        · refine hfree k ok hk hki ?_ hn2
          by_cases ek : j = k
          · subst ek; exact hun
          · rw [getD_set_ne true ek] at hu2; exact hu2
        · rw [Array.setIfInBounds_comm _ _ e]
          exact h3.2.2
  exact main fuel listed a w (Region.free_spec hi hf) (by simpa using hr) hT hS h
end
end Go.Proofs.YtdfgmieinbmfkaaGreat

/-
  A region that draws its order, with operations at its end behind which nothing is asked of the world any more.
-/
namespace Go.Proofs.YtdfgmieinbmfkaaGreat
open Go Go.RowKit

section
variable {P : Program} {ops : Array Oper} {Q : Exit → Act → World → Prop} {md : Region.Mode} {S : World → Prop} {T : Nat → Bool}

/-- One of T is done. -/
def dirty (T : Nat → Bool) (listed : Array Bool) : Bool := (List.range listed.size).any fun k => T k && listed.getD k false
theorem dirty_false {listed : Array Bool} : dirty T listed = false ↔ ∀ k, T k = true → listed.getD k false = false := by
  unfold dirty
  rw [List.any_eq_false]
  constructor
  · intro h k hk
    by_cases hlt : k < listed.size
    · have h1 := h k (List.mem_range.2 hlt)
      rw [hk] at h1
      simpa using h1
    · simp [Array.getElem?_eq_none (Nat.le_of_not_lt hlt)]
  · intro h k _
    cases hT : T k with
    | false => simp
    | true => simp [h k hT]
/-- Whatever order is picked; as long as none of T is done the world meets S. -/
def wpAnyT (P : Program) (md : Region.Mode) (ops : Array Oper) (Q : Exit → Act → World → Prop) (S : World → Prop) (T : Nat → Bool) : Nat → Array Bool → Act → World → Prop
  | 0, listed, a, w => Region.ready md ops listed = [] ∧ Q .normal a w
  | fuel + 1, listed, a, w =>
    (Region.ready md ops listed = [] → Q .normal a w) ∧
    ∀ i ∈ Region.ready md ops listed, wpOp P ops Q i (fun a' w' => (dirty T (listed.setIfInBounds i true) = false → S w') ∧ wpAnyT P md ops Q S T fuel (listed.setIfInBounds i true) a' w') a w
theorem wpAny_of_T : ∀ (fuel : Nat) (listed : Array Bool) (a : Act) (w : World), wpAnyT P md ops Q S T fuel listed a w → wpAny P md ops Q fuel listed a w
  | 0, _, _, _, h => h
  | fuel + 1, _, _, _, h => ⟨h.1, fun i hi => wpOp_mono (fun a' w' h' => wpAny_of_T fuel _ a' w' h'.2) (h.2 i hi)⟩
/-- The beginning. -/
theorem wp_region_T {id : Nat} {a : Act} {w : World} (hm : P.follows .mixedOrders = true)
    (h : wpAnyT P .any ops Q S T ops.size (Array.replicate ops.size false) a w.drew) : (Code.region id ops true).wp P Q a w :=
  wp_region_any hm (wpAny_of_T _ _ _ _ h)
/-- Operation j waits for operation i, by one edge or by several. -/
def reach (md : Region.Mode) (ops : Array Oper) (i : Nat) : Nat → Nat → Bool
  | 0, _ => false
  | n + 1, j => match ops[j]? with | some oj => oj.after.any (fun e => Region.binds md e && (e.on == i || reach md ops i n e.on)) | none => false
/-- What is done has all done that it waits for. -/
def closed (md : Region.Mode) (ops : Array Oper) (listed : Array Bool) : Bool :=
  (List.range ops.size).all fun j => !listed.getD j false || (match ops[j]? with | some oj => oj.after.all (fun e => !Region.binds md e || listed.getD e.on false) | none => true)
/-- Those of T wait for operation i. -/
def awaits (md : Region.Mode) (ops : Array Oper) (T : Nat → Bool) (listed : Array Bool) (i : Nat) : Bool :=
  closed md ops listed && !T i && (List.range ops.size).all fun j => !T j || reach md ops i 3 j
def Closed (md : Region.Mode) (ops : Array Oper) (listed : Array Bool) : Prop :=
  ∀ j oj, ops[j]? = some oj → listed.getD j false = true → ∀ e ∈ oj.after, Region.binds md e = true → listed.getD e.on false = true
theorem closed_spec {listed : Array Bool} (h : closed md ops listed = true) : Closed md ops listed := by
  intro j oj hj hl e he hb
  unfold closed at h
  rw [List.all_eq_true] at h
  have hlt : j < ops.size := (Array.getElem?_eq_some_iff.1 hj).1
  have h1 := h j (List.mem_range.2 hlt)
  rw [hl, hj] at h1
  simp only [Bool.not_true, Bool.false_or, Array.all_eq_true'] at h1
  have h2 := h1 e he
  rw [hb] at h2
  simpa using h2
theorem Closed.set {listed : Array Bool} (h : Closed md ops listed) {i : Nat} {oi : Oper} (hi : ops[i]? = some oi) (hall : ∀ e ∈ oi.after, Region.binds md e = true → listed.getD e.on false = true) : Closed md ops (listed.setIfInBounds i true) := by
  have mono : ∀ k, listed.getD k false = true → (listed.setIfInBounds i true).getD k false = true := by
    intro k hk
    by_cases e : i = k
    · subst e
      by_cases hlt : i < listed.size
      · simp [hlt]
      · simp [Array.getElem?_eq_none (Nat.le_of_not_lt hlt)] at hk
    · rw [getD_set_ne false e]; exact hk
  intro j oj hj hl e he hb
  by_cases ek : i = j
  · subst ek
    rw [hi] at hj
    cases hj
    exact mono _ (hall e he hb)
  · rw [getD_set_ne false ek] at hl
    exact mono _ (h j oj hj hl e he hb)
theorem reach_spec {listed : Array Bool} (h : Closed md ops listed) {i : Nat} : ∀ n j oj, ops[j]? = some oj → (∀ e ∈ oj.after, Region.binds md e = true → listed.getD e.on false = true) → reach md ops i n j = true → listed.getD i false = true
  | 0, _, _, _, _, hr => by simp [reach] at hr
  | n + 1, j, oj, hj, hall, hr => by
    rw [reach, hj] at hr
    obtain ⟨e, he, hb⟩ := Array.any_eq_true'.1 hr
    simp only [Bool.and_eq_true, Bool.or_eq_true, beq_iff_eq] at hb
    have h1 := hall e he hb.1
    rcases hb.2 with h2 | h2
    · rw [← h2]; exact h1
    · cases n with
      | zero => simp [reach] at h2
      | succ n =>
        cases ho : ops[e.on]? with
        | none => simp [reach, ho] at h2
        | some ok => exact reach_spec h (n + 1) e.on ok ho (h e.on ok ho h1) h2
theorem awaits_spec {listed : Array Bool} {i : Nat} (h : awaits md ops T listed i = true) :
    Closed md ops listed ∧ T i = false ∧ ∀ j oj, ops[j]? = some oj → T j = true → reach md ops i 3 j = true := by
  unfold awaits at h
  simp only [Bool.and_eq_true] at h
  refine ⟨closed_spec h.1.1, by simpa using h.1.2, fun j oj hj hT => ?_⟩
  have h1 := List.all_eq_true.1 h.2 j (List.mem_range.2 (Array.getElem?_eq_some_iff.1 hj).1)
  rw [hT] at h1
  simpa using h1
/-- Operation i, which may come up now and for which those of T wait, is taken first. -/
theorem wpAnyT_take {i : Nat} {oi : Oper} {v : Value} {fuel : Nat} {listed : Array Bool} {a : Act} {w : World} (hi : ops[i]? = some oi)
    (hs : Region.noSelect ops = true) (hf : Region.free md ops listed i = true) (hr : (Region.ready md ops listed).contains i = true) (hw : awaits md ops T listed i = true)
    (hQ : ∀ c a w, Q (.panic c) (a.put oi.dst v) w → Q (.panic c) a w) (hT : Takes P ops Q S i oi v a) (hS : S w) (hz : ops.size = listed.size)
    (h : wpAnyT P md ops Q S T fuel (listed.setIfInBounds i true) (a.put oi.dst v) w) : wpAnyT P md ops Q S T (fuel + 1) listed a w := by
  have hsel := Region.noSelect_spec hs
  obtain ⟨hcl0, hTi, hwt⟩ := awaits_spec hw
  have main : ∀ (fuel : Nat) (listed : Array Bool) (a : Act) (w : World),
      (∀ j oj, ops[j]? = some oj → j ≠ i → listed.getD j true = false → (∀ e ∈ oj.after, Region.binds md e = true → e.on ≠ i) → oi.apart ops oj = true) →
      Closed md ops listed → ops.size = listed.size →
      i ∈ Region.ready md ops listed → Takes P ops Q S i oi v a → S w →
      wpAnyT P md ops Q S T fuel (listed.setIfInBounds i true) (a.put oi.dst v) w → wpAnyT P md ops Q S T (fuel + 1) listed a w := by
    intro fuel
    induction fuel with
    | zero =>
      intro listed a w _ _ _ hr hT hS H
      refine ⟨fun h0 => (by rw [h0] at hr; cases hr), fun j hj => ?_⟩
      by_cases e : j = i
      · subst e
        exact hT a rfl rfl _ w hS ⟨fun _ => hS, H⟩
      · have h1 := ready_mono hj e
        rw [H.1] at h1
        cases h1
    | succ fuel ih =>
      intro listed a w hfree hcl hz hr hT hS H
      refine ⟨fun h0 => (by rw [h0] at hr; cases hr), fun j hj => ?_⟩
      by_cases e : j = i
      · subst e
        exact hT a rfl rfl _ w hS ⟨fun _ => hS, H⟩
      · have h1 := H.2 j (ready_mono hj e)
        obtain ⟨hun, oj, hoj, hall⟩ := mem_ready.1 hj
        have g0 := (mem_ready.1 hr).1
        have hli : listed.getD i false = false := by
          by_cases hlt : i < listed.size
          · simp [hlt] at g0 ⊢
            exact g0
          · simp [Array.getElem?_eq_none (Nat.le_of_not_lt hlt)] at g0
        have hno : ∀ e ∈ oj.after, Region.binds md e = true → e.on ≠ i := by
          intro x hx hb hxi
          have g1 := hall x hx hb
          rw [hxi, hli] at g1
          cases g1
        have hd : dirty T ((listed.setIfInBounds i true).setIfInBounds j true) = false := dirty_false.2 fun k hk => by
          have hki : i ≠ k := fun e => by rw [e, hk] at hTi; cases hTi
          by_cases ekj : j = k
          · subst ekj
            have g1 := reach_spec hcl 3 j oj hoj hall (hwt j oj hoj hk)
            rw [hli] at g1
            cases g1
          · rw [getD_set_ne false ekj, getD_set_ne false hki]
            cases hlk : listed.getD k false with
            | false => rfl
            | true =>
              have hlt : k < ops.size := by
                rcases Nat.lt_or_ge k listed.size with h | h
                · omega
                · simp [Array.getElem?_eq_none h] at hlk
              have hok : ops[k]? = some ops[k] := Array.getElem?_eq_getElem hlt
              have g1 := reach_spec hcl 3 k _ hok (hcl k _ hok hlk) (hwt k _ hok hk)
              rw [hli] at g1
              cases g1
        have h2 := wpOp_swap hoj (hfree j oj hoj e hun hno) (fun cs b => hsel i oi cs b hi) (fun cs b => hsel j oj cs b hoj) hQ hT h1
        refine wpOp_mono (fun a' w' h3 => ⟨fun _ => h3.2.1 hd, ih _ a' w' (fun k ok hk hki hu2 hn2 => ?_) (hcl.set hoj hall) (by simpa using hz) (ready_mono hr (Ne.symm e)) h3.1 (h3.2.1 hd) ?_⟩) h2
        · refine hfree k ok hk hki ?_ hn2
          by_cases ek : j = k
          · subst ek; exact hun
          · rw [getD_set_ne true ek] at hu2; exact hu2
        · rw [Array.setIfInBounds_comm _ _ e]
          exact h3.2.2
  exact main fuel listed a w (Region.free_spec hi hf) hcl0 hz (by simpa using hr) hT hS h
theorem dirty_set {listed : Array Bool} {i : Nat} (hTi : T i = false) : dirty T (listed.setIfInBounds i true) = false ↔ dirty T listed = false := by
  rw [dirty_false, dirty_false]
  refine forall_congr' fun k => imp_congr_right fun hk => ?_
  have hki : i ≠ k := fun e => by rw [e, hk] at hTi; cases hTi
  rw [getD_set_ne false hki]
/-- An operation that does the same in whatever world is taken first. -/
theorem wpAnyT_takeW {i : Nat} {oi : Oper} {v : Value} {fuel : Nat} {listed : Array Bool} {a : Act} {w : World} (hi : ops[i]? = some oi)
    (hs : Region.noSelect ops = true) (hf : Region.free md ops listed i = true) (hr : (Region.ready md ops listed).contains i = true) (hTi : T i = false)
    (hQ : ∀ c a w, Q (.panic c) (a.put oi.dst v) w → Q (.panic c) a w) (hT : Takes P ops Q (fun _ => True) i oi v a) (hI : dirty T listed = true ∨ S w)
    (h : wpAnyT P md ops Q S T fuel (listed.setIfInBounds i true) (a.put oi.dst v) w) : wpAnyT P md ops Q S T (fuel + 1) listed a w := by
  have hsel := Region.noSelect_spec hs
  have main : ∀ (fuel : Nat) (listed : Array Bool) (a : Act) (w : World),
      (∀ j oj, ops[j]? = some oj → j ≠ i → listed.getD j true = false → (∀ e ∈ oj.after, Region.binds md e = true → e.on ≠ i) → oi.apart ops oj = true) →
      i ∈ Region.ready md ops listed → Takes P ops Q (fun _ => True) i oi v a → (dirty T listed = false → S w) →
      wpAnyT P md ops Q S T fuel (listed.setIfInBounds i true) (a.put oi.dst v) w → wpAnyT P md ops Q S T (fuel + 1) listed a w := by
    intro fuel
    induction fuel with
    | zero =>
      intro listed a w _ hr hT hI H
      refine ⟨fun h0 => (by rw [h0] at hr; cases hr), fun j hj => ?_⟩
      by_cases e : j = i
      · subst e
        exact hT a rfl rfl _ w trivial ⟨fun h0 => hI ((dirty_set hTi).1 h0), H⟩
      · have h1 := ready_mono hj e
        rw [H.1] at h1
        cases h1
    | succ fuel ih =>
      intro listed a w hfree hr hT hI H
      refine ⟨fun h0 => (by rw [h0] at hr; cases hr), fun j hj => ?_⟩
      by_cases e : j = i
      · subst e
        exact hT a rfl rfl _ w trivial ⟨fun h0 => hI ((dirty_set hTi).1 h0), H⟩
      · have h1 := H.2 j (ready_mono hj e)
        obtain ⟨hun, oj, hoj, hall⟩ := mem_ready.1 hj
        have hno : ∀ e ∈ oj.after, Region.binds md e = true → e.on ≠ i := by
          intro x hx hb hxi
          have g1 := hall x hx hb
          have g0 := (mem_ready.1 hr).1
          rw [hxi] at g1
          by_cases hlt : i < listed.size
          · simp [hlt] at g0 g1
            rw [g0] at g1
            cases g1
          · simp [Array.getElem?_eq_none (Nat.le_of_not_lt hlt)] at g1
        have hdj : dirty T ((listed.setIfInBounds i true).setIfInBounds j true) = false ↔ dirty T (listed.setIfInBounds j true) = false := by
          rw [Array.setIfInBounds_comm _ _ (Ne.symm e)]
          exact dirty_set hTi
        have h2 := wpOp_swap hoj (hfree j oj hoj e hun hno) (fun cs b => hsel i oi cs b hi) (fun cs b => hsel j oj cs b hoj) hQ hT h1
        refine wpOp_mono (fun a' w' h3 => ⟨fun h0 => h3.2.1 (hdj.2 h0), ih _ a' w' (fun k ok hk hki hu2 hn2 => ?_) (ready_mono hr (Ne.symm e)) h3.1 (fun h0 => h3.2.1 (hdj.2 h0)) ?_⟩) h2
        · refine hfree k ok hk hki ?_ hn2
          by_cases ek : j = k
          · subst ek; exact hun
          · rw [getD_set_ne true ek] at hu2; exact hu2
        · rw [Array.setIfInBounds_comm _ _ e]
          exact h3.2.2
  exact main fuel listed a w (Region.free_spec hi hf) (by simpa using hr) hT (fun h0 => hI.resolve_left (by rw [h0]; decide)) h
/-- What yields its value in every world that meets S. -/
theorem takes_yield {i : Nat} {o : Oper} {v : Value} {a : Act} (hi : ops[i]? = some o) (hy : YieldsIf P ops S o v a) : Takes P ops Q S i o v a := by
  intro a' he hw K w hS hK
  exact (hy.of_same he hw).wpOp hi hS hK
/-- The one that may come up is carried out. -/
theorem wpAnyT_one {i : Nat} {o : Oper} {fuel : Nat} {listed : Array Bool} {a : Act} {w : World} (hr : Region.ready md ops listed = [i]) (ho : ops[i]? = some o)
    (h : ∀ K' : Act → World → Prop, Shut (∀ a w, S w → wpAnyT P md ops Q S T fuel (listed.setIfInBounds i true) a w → K' a w) → if Region.wanted o (yielded ops a.tmps) = true then Oper.wp P o a w K' Q else K' (a.put o.dst undef) w) :
    wpAnyT P md ops Q S T (fuel + 1) listed a w := by
  refine ⟨fun h0 => (by rw [hr] at h0; cases h0), fun j hj => ?_⟩
  rw [hr] at hj
  obtain rfl : j = i := by simpa using hj
  exact wpOp_step ho (fun K' hK => h K' (fun a w hS hW => hK a w ⟨fun _ => hS, hW⟩))
/-- The one that may come up is carried out, when one of T is done with it. -/
theorem wpAnyT_oneT {i : Nat} {o : Oper} {fuel : Nat} {listed : Array Bool} {a : Act} {w : World} (hr : Region.ready md ops listed = [i]) (ho : ops[i]? = some o) (hd : dirty T (listed.setIfInBounds i true) = true)
    (h : ∀ K' : Act → World → Prop, Shut (∀ a w, wpAnyT P md ops Q S T fuel (listed.setIfInBounds i true) a w → K' a w) → if Region.wanted o (yielded ops a.tmps) = true then Oper.wp P o a w K' Q else K' (a.put o.dst undef) w) :
    wpAnyT P md ops Q S T (fuel + 1) listed a w := by
  refine ⟨fun h0 => (by rw [hr] at h0; cases h0), fun j hj => ?_⟩
  rw [hr] at hj
  obtain rfl : j = i := by simpa using hj
  exact wpOp_step ho (fun K' hK => h K' (fun a w hW => hK a w ⟨fun h0 => (by rw [hd] at h0; cases h0), hW⟩))
theorem wpAnyT_done {listed : Array Bool} {a : Act} {w : World} (hr : Region.ready md ops listed = []) (h : Q .normal a w) : ∀ fuel, wpAnyT P md ops Q S T fuel listed a w
  | 0 => ⟨hr, h⟩
  | _ + 1 => ⟨fun _ => h, by rw [hr]; simp⟩
end
end Go.Proofs.YtdfgmieinbmfkaaGreat

/-
  A struct within a block, loaded and stored.
-/
namespace Go.Proofs.YtdfgmieinbmfkaaGreat
open Go Go.RowKit

theorem Blk.cells6 {w : World} {g : Nat} {t : TypeId} {a b c d e f : Value} (k : Blk w g t #[a, b, c, d, e, f]) : w.cell? ⟨g, 0, none⟩ = some a ∧ w.cell? ⟨g, 1, none⟩ = some b ∧ w.cell? ⟨g, 2, none⟩ = some c ∧ w.cell? ⟨g, 3, none⟩ = some d ∧ w.cell? ⟨g, 4, none⟩ = some e ∧ w.cell? ⟨g, 5, none⟩ = some f :=
  ⟨k.cell 0, k.cell 1, k.cell 2, k.cell 3, k.cell 4, k.cell 5⟩

/-! ### a struct within a block, out and in -/
section
variable {P : Program} {ops : Array Oper} {rest : List Oper} {o : Oper} {a : Act} {w : World} {Q : Exit → Act → World → Prop} {K : Act → World → Prop}
theorem Blk.range {g : Nat} {t : TypeId} {cs : Array Value} (h : Blk w g t cs) (i : Nat) (vs : List Value) (hv : ∀ j v, vs[j]? = some v → cs[i + j]? = some v) : w.rangeAt g i vs := fun j v e => by
  rw [h.cell]; exact hv j v e
theorem Blk.there_ {g : Nat} {t : TypeId} {cs : Array Value} (h : Blk w g t cs) (i n : Nat) (hn : i + n ≤ cs.size) : w.there g i n := fun j hj => by
  refine ⟨?_, h.frozen _⟩
  rw [h.cell, Array.getElem?_eq_getElem (by omega)]
  rfl
theorem Upd.setCells_ (g : Nat) : ∀ (vs : List Value) (i : Nat) (w : World), Upd (· = g) w (w.setCells g i vs) ∧ (w.setCells g i vs).heap.size = w.heap.size
  | [], _, w => ⟨Upd.refl _ _, rfl⟩
  | v :: r, i, w => by
    have h1 := (Upd.refl (· = g) w).setCell (p := ⟨g, i, none⟩) (.inl rfl) v
    obtain ⟨h2, h3⟩ := Upd.setCells_ g r (i + 1) (w.setCell ⟨g, i, none⟩ v)
    refine ⟨h1.then h2 (fun _ e => .inl e), ?_⟩
    rw [World.setCells, h3]
    simp
theorem Blk.setCells {g : Nat} {t : TypeId} : ∀ (vs : List Value) (i : Nat) (w : World) (cs : Array Value), Blk w g t cs → i + vs.length ≤ cs.size → Blk (w.setCells g i vs) g t (cs.toList.take i ++ vs ++ cs.toList.drop (i + vs.length)).toArray
  | [], i, w, cs, h, hi => by
    simp only [List.append_nil, List.length_nil, Nat.add_zero, List.take_append_drop]
    exact h
  | v :: r, i, w, cs, h, hi => by
    rw [World.setCells]
    have hi' : i < cs.size := by simp at hi; omega
    have := Blk.setCells r (i + 1) _ _ (h.set_ i v) (by simp at hi ⊢; omega)
    have e : (cs.setIfInBounds i v).toList.take (i + 1) ++ r ++ (cs.setIfInBounds i v).toList.drop (i + 1 + r.length) = cs.toList.take i ++ (v :: r) ++ cs.toList.drop (i + (v :: r).length) := by
      rw [Array.toList_setIfInBounds, List.drop_set_of_lt (by omega), List.take_set, List.take_succ_eq_append_getElem (by simpa using hi')]
      have hl : (cs.toList.take i).length = i := by rw [List.length_take, Array.length_toList]; omega
      rw [List.set_append_right _ _ (by omega), hl, Nat.sub_self]
      simp [Nat.add_comm, Nat.add_left_comm]
    rw [e] at this
    exact this
theorem wp_store_part (ty : TypeId) (x y : Operand) (ho : o.op = .store ty x y) (g i : Nat) (vs : Array Value) (hx : a.eval x = .pointer (some ⟨g, i, none⟩)) (hy : a.eval y = .agg vs)
    (t : TypeId) (cs new : Array Value) (hB : Blk w g t cs) (hi : i + vs.size ≤ cs.size) (hn : cs.toList.take i ++ vs.toList ++ cs.toList.drop (i + vs.size) = new.toList) (h1 : vs.all (·.oneCell') = true) (hsz : (P.info? ty).map (·.size) = some vs.size)
    (h : ∀ w', Blk w' g t new → Upd (· = g) w w' → w'.heap.size = w.heap.size → K (a.put o.dst undef) w') : o.wp P a w K Q := by
  refine wp_store_mid ty x y ho g i vs hx hy (hB.there_ i _ hi) hsz h1 ?_
  obtain ⟨u1, u2⟩ := Upd.setCells_ g vs.toList i w
  refine h _ ?_ u1 u2
  have := Blk.setCells vs.toList i w cs hB (by simpa using hi)
  rw [Array.length_toList, hn] at this
  exact this
theorem wpList_store_part (hg : o.guard = none) (ty : TypeId) (x y : Operand) (ho : o.op = .store ty x y) (g i : Nat) (vs : Array Value) (hx : a.eval x = .pointer (some ⟨g, i, none⟩)) (hy : a.eval y = .agg vs)
    (t : TypeId) (cs new : Array Value) (hB : Blk w g t cs) (hi : i + vs.size ≤ cs.size) (hn : cs.toList.take i ++ vs.toList ++ cs.toList.drop (i + vs.size) = new.toList) (h1 : vs.all (·.oneCell') = true) (hsz : (P.info? ty).map (·.size) = some vs.size)
    (h : ∀ w', Blk w' g t new → Upd (· = g) w w' → w'.heap.size = w.heap.size → wpList P ops Q rest (a.put o.dst undef) w') : wpList P ops Q (o :: rest) a w :=
  wpList_plain hg fun _ hK => wp_store_part ty x y ho g i vs hx hy t cs new hB hi hn h1 hsz fun w' b1 b2 b3 => hK _ _ (h w' b1 b2 b3)
theorem wpList_load_part (hg : o.guard = none) (ty : TypeId) (x : Operand) (ho : o.op = .load ty x) (g i : Nat) (hx : a.eval x = .pointer (some ⟨g, i, none⟩)) (t : TypeId) (cs : Array Value) (vs : List Value) (d : TypeDesc)
    (hB : Blk w g t cs) (hv : ∀ j v, vs[j]? = some v → cs[i + j]? = some v) (hu : P.underlying ty = some d) (hd : d.isRow = true) (hi : (P.info? ty).map (·.size) = some vs.length)
    (h : wpList P ops Q rest (a.put o.dst (.agg vs.toArray)) w) : wpList P ops Q (o :: rest) a w :=
  wpList_load_mid hg ty x ho g i hx vs d (hB.range i vs hv) hu hd hi h
/-- A part of a row stored, or one cell, as one step of a region that draws. -/
theorem step_store_part {E : Prop} (hg : o.guard = none) (ty : TypeId) (x y : Operand) (ho : o.op = .store ty x y) (g i : Nat) (vs : Array Value) (hx : a.eval x = .pointer (some ⟨g, i, none⟩)) (hy : a.eval y = .agg vs)
    (t : TypeId) (cs new : Array Value) (hB : Blk w g t cs) (hi : i + vs.size ≤ cs.size) (hn : cs.toList.take i ++ vs.toList ++ cs.toList.drop (i + vs.size) = new.toList) (h1 : vs.all (·.oneCell') = true) (hsz : (P.info? ty).map (·.size) = some vs.size)
    (h : ∀ w', Blk w' g t new → Upd (· = g) w w' → w'.heap.size = w.heap.size → K (a.put o.dst undef) w') : if Region.wanted o (yielded ops a.tmps) = true then Oper.wp P o a w K Q else E := by
  have hw : Region.wanted o (yielded ops a.tmps) = true := by simp [Region.wanted, hg]
  rw [if_pos hw]
  exact wp_store_part ty x y ho g i vs hx hy t cs new hB hi hn h1 hsz h
theorem step_store_one {E : Prop} (hg : o.guard = none) (ty : TypeId) (x y : Operand) (ho : o.op = .store ty x y) (g i : Nat) (v : Value) (hx : a.eval x = .pointer (some ⟨g, i, none⟩)) (hy : a.eval y = v)
    (t : TypeId) (cs new : Array Value) (hB : Blk w g t cs) (hi : i < cs.size) (hn : cs.setIfInBounds i v = new) (h1 : v.oneCell' = true) (hsz : (P.info? ty).map (·.size) = some 1)
    (h : ∀ w', Blk w' g t new → Upd (· = g) w w' → w'.heap.size = w.heap.size → K (a.put o.dst undef) w') : if Region.wanted o (yielded ops a.tmps) = true then Oper.wp P o a w K Q else E := by
  have hw : Region.wanted o (yielded ops a.tmps) = true := by simp [Region.wanted, hg]
  rw [if_pos hw]
  subst hn
  exact wp_store_one ty x y ho g i v hx hy t cs hB hi h1 hsz h
end
end Go.Proofs.YtdfgmieinbmfkaaGreat

/-
  Single steps of a region that draws its order: two operations that may come up; a whole row stored.
-/
namespace Go.Proofs.YtdfgmieinbmfkaaGreat
open Go Go.RowKit

section
variable {P : Program} {ops : Array Oper} {Q : Exit → Act → World → Prop} {md : Region.Mode} {S : World → Prop} {T : Nat → Bool}
/-- Those of T wait for operation i, by up to eight edges. -/
def awaits8 (md : Region.Mode) (ops : Array Oper) (T : Nat → Bool) (listed : Array Bool) (i : Nat) : Bool :=
  closed md ops listed && !T i && (List.range ops.size).all fun j => !T j || reach md ops i 8 j
theorem awaits8_spec {listed : Array Bool} {i : Nat} (h : awaits8 md ops T listed i = true) :
    Closed md ops listed ∧ T i = false ∧ ∀ j oj, ops[j]? = some oj → T j = true → reach md ops i 8 j = true := by
  unfold awaits8 at h
  simp only [Bool.and_eq_true] at h
  refine ⟨closed_spec h.1.1, by simpa using h.1.2, fun j oj hj hT => ?_⟩
  have h1 := List.all_eq_true.1 h.2 j (List.mem_range.2 (Array.getElem?_eq_some_iff.1 hj).1)
  rw [hT] at h1
  simpa using h1
/-- Operation i, which may come up now and for which those of T wait, is taken first. -/
theorem wpAnyT_take8 {i : Nat} {oi : Oper} {v : Value} {fuel : Nat} {listed : Array Bool} {a : Act} {w : World} (hi : ops[i]? = some oi)
    (hs : Region.noSelect ops = true) (hf : Region.free md ops listed i = true) (hr : (Region.ready md ops listed).contains i = true) (hw : awaits8 md ops T listed i = true)
    (hQ : ∀ c a w, Q (.panic c) (a.put oi.dst v) w → Q (.panic c) a w) (hT : Takes P ops Q S i oi v a) (hS : S w) (hz : ops.size = listed.size)
    (h : wpAnyT P md ops Q S T fuel (listed.setIfInBounds i true) (a.put oi.dst v) w) : wpAnyT P md ops Q S T (fuel + 1) listed a w := by
  have hsel := Region.noSelect_spec hs
  obtain ⟨hcl0, hTi, hwt⟩ := awaits8_spec hw
  have main : ∀ (fuel : Nat) (listed : Array Bool) (a : Act) (w : World),
      (∀ j oj, ops[j]? = some oj → j ≠ i → listed.getD j true = false → (∀ e ∈ oj.after, Region.binds md e = true → e.on ≠ i) → oi.apart ops oj = true) →
      Closed md ops listed → ops.size = listed.size →
      i ∈ Region.ready md ops listed → Takes P ops Q S i oi v a → S w →
      wpAnyT P md ops Q S T fuel (listed.setIfInBounds i true) (a.put oi.dst v) w → wpAnyT P md ops Q S T (fuel + 1) listed a w := by
    intro fuel
    induction fuel with
    | zero =>
      intro listed a w _ _ _ hr hT hS H
      refine ⟨fun h0 => (by rw [h0] at hr; cases hr), fun j hj => ?_⟩
      by_cases e : j = i
      · subst e
        exact hT a rfl rfl _ w hS ⟨fun _ => hS, H⟩
      · have h1 := ready_mono hj e
        rw [H.1] at h1
        cases h1
    | succ fuel ih =>
      intro listed a w hfree hcl hz hr hT hS H
      refine ⟨fun h0 => (by rw [h0] at hr; cases hr), fun j hj => ?_⟩
      by_cases e : j = i
      · subst e
        exact hT a rfl rfl _ w hS ⟨fun _ => hS, H⟩
      · have h1 := H.2 j (ready_mono hj e)
        obtain ⟨hun, oj, hoj, hall⟩ := mem_ready.1 hj
        have g0 := (mem_ready.1 hr).1
        have hli : listed.getD i false = false := by
          by_cases hlt : i < listed.size
          · simp [hlt] at g0 ⊢
            exact g0
          · simp [Array.getElem?_eq_none (Nat.le_of_not_lt hlt)] at g0
        have hno : ∀ e ∈ oj.after, Region.binds md e = true → e.on ≠ i := by
          intro x hx hb hxi
          have g1 := hall x hx hb
          rw [hxi, hli] at g1
          cases g1
        have hd : dirty T ((listed.setIfInBounds i true).setIfInBounds j true) = false := dirty_false.2 fun k hk => by
          have hki : i ≠ k := fun e => by rw [e, hk] at hTi; cases hTi
          by_cases ekj : j = k
          · subst ekj
            have g1 := reach_spec hcl 8 j oj hoj hall (hwt j oj hoj hk)
            rw [hli] at g1
            cases g1
          · rw [getD_set_ne false ekj, getD_set_ne false hki]
            cases hlk : listed.getD k false with
            | false => rfl
            | true =>
              have hlt : k < ops.size := by
                rcases Nat.lt_or_ge k listed.size with h | h
                · omega
                · simp [Array.getElem?_eq_none h] at hlk
              have hok : ops[k]? = some ops[k] := Array.getElem?_eq_getElem hlt
              have g1 := reach_spec hcl 8 k _ hok (hcl k _ hok hlk) (hwt k _ hok hk)
              rw [hli] at g1
              cases g1
        have h2 := wpOp_swap hoj (hfree j oj hoj e hun hno) (fun cs b => hsel i oi cs b hi) (fun cs b => hsel j oj cs b hoj) hQ hT h1
        refine wpOp_mono (fun a' w' h3 => ⟨fun _ => h3.2.1 hd, ih _ a' w' (fun k ok hk hki hu2 hn2 => ?_) (hcl.set hoj hall) (by simpa using hz) (ready_mono hr (Ne.symm e)) h3.1 (h3.2.1 hd) ?_⟩) h2
        · refine hfree k ok hk hki ?_ hn2
          by_cases ek : j = k
          · subst ek; exact hun
          · rw [getD_set_ne true ek] at hu2; exact hu2
        · rw [Array.setIfInBounds_comm _ _ e]
          exact h3.2.2
  exact main fuel listed a w (Region.free_spec hi hf) hcl0 hz (by simpa using hr) hT hS h
theorem wpAnyT_two {i j : Nat} {oi oj : Oper} {fuel : Nat} {listed : Array Bool} {a : Act} {w : World} (hr : Region.ready md ops listed = [i, j]) (hi : ops[i]? = some oi) (hj : ops[j]? = some oj)
    (h1 : ∀ K' : Act → World → Prop, Shut (∀ a w, S w → wpAnyT P md ops Q S T fuel (listed.setIfInBounds i true) a w → K' a w) → if Region.wanted oi (yielded ops a.tmps) = true then Oper.wp P oi a w K' Q else K' (a.put oi.dst undef) w)
    (h2 : ∀ K' : Act → World → Prop, Shut (∀ a w, S w → wpAnyT P md ops Q S T fuel (listed.setIfInBounds j true) a w → K' a w) → if Region.wanted oj (yielded ops a.tmps) = true then Oper.wp P oj a w K' Q else K' (a.put oj.dst undef) w) :
    wpAnyT P md ops Q S T (fuel + 1) listed a w := by
  refine ⟨fun h0 => (by rw [hr] at h0; cases h0), fun k hk => ?_⟩
  rw [hr] at hk
  rcases (by simpa using hk : k = i ∨ k = j) with rfl | rfl
  · exact wpOp_step hi (fun K' hK => h1 K' (fun a w hS hW => hK a w ⟨fun _ => hS, hW⟩))
  · exact wpOp_step hj (fun K' hK => h2 K' (fun a w hS hW => hK a w ⟨fun _ => hS, hW⟩))
/-- A whole row stored, as one step of a region that draws. -/
theorem step_store_all {o : Oper} {a : Act} {w : World} {K : Act → World → Prop} {E : Prop} (hg : o.guard = none) (ty : TypeId) (x y : Operand) (ho : o.op = .store ty x y) (g : Nat) (new : Array Value) (hx : a.eval x = .pointer (some ⟨g, 0, none⟩)) (hy : a.eval y = .agg new)
    (t : TypeId) (cs : Array Value) (hB : Blk w g t cs) (hs : cs.size = new.size) (h1 : new.all (·.oneCell') = true) (hsz : (P.info? ty).map (·.size) = some new.size)
    (h : ∀ w', Blk w' g t new → Upd (· = g) w w' → w'.heap.size = w.heap.size → K (a.put o.dst undef) w') : if Region.wanted o (yielded ops a.tmps) = true then Oper.wp P o a w K Q else E := by
  have hw : Region.wanted o (yielded ops a.tmps) = true := by simp [Region.wanted, hg]
  rw [if_pos hw]
  exact wp_store_all ty x y ho g new hx hy t cs hB hs h1 hsz h
end
end Go.Proofs.YtdfgmieinbmfkaaGreat
