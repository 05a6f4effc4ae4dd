/-
  A region that draws its order, of whose operations each is shown once, whatever came ahead of it: a law of flow.
-/
import Derived.Test.YtpfbgmfkeofefaaGreatTakeT
namespace Go.Proofs.YtpfbgmfkeofefaaGreat
open Go Go.RowKit

/-- The values of operations, put where they go. -/
def puts : List (Nat × Nat) → (Nat → Value) → Act → Act
  | [], _, a => a
  | (i, d) :: r, vs, a => puts r vs (a.put (some d) (vs i))
theorem puts_swap (l : List (Nat × Nat)) (vs : Nat → Value) (a : Act) (d : Nat) (v : Value) (h : ∀ p ∈ l, p.2 ≠ d) : puts l vs (a.put (some d) v) = (puts l vs a).put (some d) v := by
  induction l generalizing a with
  | nil => rfl
  | cons p r ih =>
    obtain ⟨i, e⟩ := p
    rw [puts, puts, ← ih _ (fun q hq => h q (List.mem_cons_of_mem _ hq)), Act.put_comm a v (vs i) (fun x hx hy => h (i, e) (by simp) (by cases hx; exact Option.some.inj hy))]
theorem puts_same (l : List (Nat × Nat)) (vs vs' : Nat → Value) (a : Act) (h : ∀ p ∈ l, vs p.1 = vs' p.1) : puts l vs a = puts l vs' a := by
  induction l generalizing a with
  | nil => rfl
  | cons p r ih =>
    obtain ⟨i, e⟩ := p
    rw [puts, puts, h (i, e) (by simp), ih _ (fun q hq => h q (List.mem_cons_of_mem _ hq))]
theorem put_put (a : Act) (d : Nat) (u v : Value) : (a.put (some d) u).put (some d) v = a.put (some d) v := by
  simp [Act.put]
theorem puts_put (l : List (Nat × Nat)) (vs : Nat → Value) (a : Act) (i d : Nat) (v : Value) (hm : (i, d) ∈ l) (h1 : (l.map Prod.fst).Nodup) (h2 : (l.map Prod.snd).Nodup) :
    (puts l vs a).put (some d) v = puts l (fun j => if j = i then v else vs j) a := by
  induction l generalizing a with
  | nil => cases hm
  | cons p r ih =>
    obtain ⟨j, e⟩ := p
    simp only [List.map_cons, List.nodup_cons] at h1 h2
    rcases List.mem_cons.1 hm with hp | hp
    · cases hp
      rw [puts, puts, if_pos rfl, ← puts_swap r vs _ d v (fun q hq e => h2.1 (List.mem_map.2 ⟨q, hq, e⟩)), put_put]
      exact puts_same r _ _ _ fun q hq => by
        have : q.1 ≠ i := fun e => h1.1 (List.mem_map.2 ⟨q, hq, e⟩)
        rw [if_neg this]
    · have hji : j ≠ i := fun e => h1.1 (List.mem_map.2 ⟨(i, d), hp, e.symm⟩)
      rw [puts, puts, if_neg hji]
      exact ih _ hp h1.2 h2.2
theorem puts_self (l : List (Nat × Nat)) (a : Act) (vs : Nat → Value) (h : ∀ p ∈ l, vs p.1 = a.tmps.getD p.2 undef) : puts l vs a = a := by
  induction l with
  | nil => rfl
  | cons p r ih =>
    obtain ⟨i, d⟩ := p
    have e : a.put (some d) (vs i) = a := by
      rw [h (i, d) (by simp)]
      unfold Act.put
      simp only
      have : a.tmps.setIfInBounds d (a.tmps.getD d undef) = a.tmps := by
        apply Array.ext
        · simp
        · intro k h1 h2
          by_cases hk : d = k
          · subst hk; simp [h2]
          · rw [Array.getElem_setIfInBounds_ne _ hk]
      rw [this]
    rw [puts, e]
    exact ih (fun q hq => h q (List.mem_cons_of_mem _ hq))
def markAll : List Nat → Array Bool → Array Bool
  | [], l => l
  | i :: r, l => markAll r (l.setIfInBounds i true)
theorem markAll_getD (r : List Nat) (l : Array Bool) (k : Nat) (d : Bool) (hk : k < l.size) : (markAll r l).getD k d = (l.getD k d || r.contains k) := by
  induction r generalizing l with
  | nil => simp [markAll]
  | cons i r ih =>
    rw [markAll, ih _ (by simpa using hk)]
    by_cases e : i = k
    · subst e
      simp [hk]
    · rw [getD_set_ne d e]
      have : (k == i) = false := by rw [beq_eq_false_iff_ne]; exact Ne.symm e
      simp only [List.contains_cons, this, Bool.false_or]
theorem markAll_size (r : List Nat) (l : Array Bool) : (markAll r l).size = l.size := by
  induction r generalizing l with
  | nil => rfl
  | cons i r ih => rw [markAll, ih]; simp
/-- Each of a list. -/
def Each {α : Type} : List α → (α → Prop) → Prop
  | [], _ => True
  | x :: r, p => p x ∧ Each r p
theorem Each.mem {α : Type} {l : List α} {p : α → Prop} (h : Each l p) : ∀ x ∈ l, p x := by
  induction l with
  | nil => intro x hx; cases hx
  | cons y r ih =>
    intro x hx
    rcases List.mem_cons.1 hx with rfl | hx
    · exact h.1
    · exact ih h.2 x hx
section
variable {P : Program} {ops : Array Oper} {Q : Exit → Act → World → Prop} {md : Region.Mode} {S : World → Prop} {T : Nat → Bool}
/-- What has to be right of the operations that are shown by flow: 'todo' (with the slots that they write), those that write none, and the others that wait for all of them. -/
def flowOk (md : Region.Mode) (ops : Array Oper) (listed : Array Bool) (todo : List (Nat × Nat)) (bare : List Nat) : Bool :=
  let all := todo.map Prod.fst ++ bare
  decide (listed.size = ops.size) && decide ((todo.map Prod.fst).Nodup) && decide ((todo.map Prod.snd).Nodup) && decide (all.Nodup) &&
  (todo.all fun p => (match ops[p.1]? with | some o => o.dst == some p.2 | none => false)) &&
  (bare.all fun i => (match ops[i]? with | some o => o.dst == none | none => false)) &&
  (all.all fun i => !listed.getD i true) &&
  (all.all fun i => (match ops[i]? with | some o => o.after.all (fun e => !Region.binds md e || listed.getD e.on false || (all.contains e.on && decide (e.on < i))) | none => false)) &&
  ((List.range ops.size).all fun r => listed.getD r true || all.contains r || (match ops[r]? with | some o => all.all (fun t => o.after.any fun e => Region.binds md e && e.on == t) | none => true))
/-- Operation i, in whatever world, behind those that it waits for. -/
def FlowStep (P : Program) (md : Region.Mode) (ops : Array Oper) (Q : Exit → Act → World → Prop) (todo : List (Nat × Nat)) (all : List Nat) (St : World → World → Prop) (R : Nat → Value → World → Prop) (a : Act) (w : World) (i : Nat) : Prop :=
  ∀ o, ops[i]? = some o → ∀ (vs : Nat → Value) (w1 : World), St w w1 → (∀ j, (all.contains j && o.after.any (fun e => Region.binds md e && e.on == j)) = true → R j (vs j) w1) →
    ∀ K' : Act → World → Prop, Shut (∀ v w2, R i v w2 → St w1 w2 → K' ((puts todo vs a).put o.dst v) w2) →
      if Region.wanted o (yielded ops (puts todo vs a).tmps) = true then Oper.wp P o (puts todo vs a) w1 K' Q else K' ((puts todo vs a).put o.dst undef) w1
theorem flow_step {todo : List (Nat × Nat)} {all : List Nat} {St : World → World → Prop} {R : Nat → Value → World → Prop} {a : Act} {w : World} {i : Nat} {o : Oper} (ho : ops[i]? = some o)
    (h : ∀ (vs : Nat → Value) (w1 : World), St w w1 → (∀ j, (all.contains j && o.after.any (fun e => Region.binds md e && e.on == j)) = true → R j (vs j) w1) →
      ∀ K' : Act → World → Prop, Shut (∀ v w2, R i v w2 → St w1 w2 → K' ((puts todo vs a).put o.dst v) w2) →
        if Region.wanted o (yielded ops (puts todo vs a).tmps) = true then Oper.wp P o (puts todo vs a) w1 K' Q else K' ((puts todo vs a).put o.dst undef) w1) : FlowStep P md ops Q todo all St R a w i := by
  intro o' ho'
  rw [ho] at ho'
  cases ho'
  exact h
theorem count_set {l : Array Bool} {i : Nat} (all : List Nat) (hn : all.Nodup) (hi : i ∈ all) (hu : l.getD i true = false) :
    (all.filter fun j => !(l.setIfInBounds i true).getD j true).length + 1 = (all.filter fun j => !l.getD j true).length := by
  have hlt : i < l.size := by
    apply Classical.byContradiction
    intro h
    simp [Array.getElem?_eq_none (Nat.le_of_not_lt h)] at hu
  have hset : (l.setIfInBounds i true).getD i true = true := by simp [hlt]
  induction all with
  | nil => cases hi
  | cons j r ih =>
    rw [List.nodup_cons] at hn
    rw [List.filter_cons, List.filter_cons]
    rcases List.mem_cons.1 hi with rfl | hr
    · rw [hset, hu]
      simp only [Bool.not_true, Bool.false_eq_true, if_false, Bool.not_false, if_true, List.length_cons]
      congr 2
      apply List.filter_congr
      intro k hk
      have : i ≠ k := fun e => hn.1 (e ▸ hk)
      rw [getD_set_ne true this]
    · have hji : i ≠ j := fun e => hn.1 (e ▸ hr)
      rw [getD_set_ne true hji]
      have := ih hn.2 hr
      split
      · simp only [List.length_cons]; omega
      · exact this
/-- A region's operations, each shown once. -/
theorem wpAnyT_flow {listed : Array Bool} {a : Act} {w : World} {fuel n : Nat} (todo : List (Nat × Nat)) (bare : List Nat) (St : World → World → Prop) (R : Nat → Value → World → Prop)
    (hok : flowOk md ops listed todo bare = true) (hn : (todo.map Prod.fst ++ bare).length = n)
    (hrefl : ∀ w, St w w) (htrans : ∀ w1 w2 w3, St w1 w2 → St w2 w3 → St w1 w3) (hS : ∀ w', St w w' → S w') (hstab : ∀ i v w1 w2, R i v w1 → St w1 w2 → R i v w2)
    (hstep : Each (todo.map Prod.fst ++ bare) (FlowStep P md ops Q todo (todo.map Prod.fst ++ bare) St R a w))
    (fin : ∀ vs w', St w w' → (∀ i, (todo.map Prod.fst ++ bare).contains i = true → R i (vs i) w') → wpAnyT P md ops Q S T fuel (markAll (todo.map Prod.fst ++ bare) listed) (puts todo vs a) w') :
    wpAnyT P md ops Q S T (fuel + n) listed a w := by
  subst hn
  unfold flowOk at hok
  obtain ⟨all, hall⟩ : ∃ all, todo.map Prod.fst ++ bare = all := ⟨_, rfl⟩
  simp only [hall, Bool.and_eq_true, decide_eq_true_eq] at hok hstep fin ⊢
  obtain ⟨⟨⟨⟨⟨⟨⟨⟨hsz, hn1⟩, hn2⟩, hn3⟩, hd1⟩, hd2⟩, hun⟩, hdep⟩, hrest⟩ := hok
  rw [List.all_eq_true] at hd1 hd2 hun hdep hrest
  have htd : ∀ i ∈ all, ∃ o, ops[i]? = some o ∧ ((∃ d, o.dst = some d ∧ (i, d) ∈ todo) ∨ (o.dst = none ∧ ∀ p ∈ todo, p.1 ≠ i)) := by
    intro i hi
    rw [← hall] at hi hn3
    rcases List.mem_append.1 hi with h | h
    · obtain ⟨p, hp, rfl⟩ := List.mem_map.1 h
      have := hd1 p hp
      cases ho : ops[p.1]? with
      | none => rw [ho] at this; cases this
      | some o => rw [ho] at this; exact ⟨o, rfl, .inl ⟨p.2, by simpa using this, hp⟩⟩
    · have := hd2 i h
      cases ho : ops[i]? with
      | none => rw [ho] at this; cases this
      | some o =>
        rw [ho] at this
        refine ⟨o, rfl, .inr ⟨by simpa using this, fun p hp e => ?_⟩⟩
        exact (List.nodup_append.1 hn3).2.2 p.1 (List.mem_map.2 ⟨p, hp, rfl⟩) i h e
  have main : ∀ (m : Nat) (l : Array Bool) (vs : Nat → Value) (w' : World), l.size = listed.size → (∀ k, l.getD k true = false → listed.getD k true = false) →
      (∀ k, l.getD k false = true → listed.getD k false = true ∨ k ∈ all) → (∀ k, listed.getD k false = true → l.getD k false = true) →
      (all.filter fun j => !l.getD j true).length = m → (∀ i ∈ all, l.getD i false = true → R i (vs i) w') → St w w' → wpAnyT P md ops Q S T (fuel + m) l (puts todo vs a) w' := by
    intro m
    induction m with
    | zero =>
      intro l vs w' h1 h2 h3 h4 h5 h6 h7
      have hdone : ∀ i ∈ all, l.getD i false = true := by
        intro i hi
        have hlt : i < l.size := by
          obtain ⟨o, ho, _⟩ := htd i hi
          rw [h1, hsz]
          exact (Array.getElem?_eq_some_iff.1 ho).1
        have := List.length_eq_zero_iff.1 h5
        have h8 : i ∉ all.filter fun j => !l.getD j true := by rw [this]; simp
        rw [List.mem_filter] at h8
        simp [hi, hlt] at h8 ⊢
        exact h8
      have hl : l = markAll all listed := by
        apply Array.ext
        · rw [markAll_size, h1]
        · intro k hk1 hk2
          have e1 : l.getD k false = l[k] := by simp [hk1]
          have e2 : (markAll all listed).getD k false = (markAll all listed)[k] := by simp [hk2]
          rw [← e1, ← e2, markAll_getD _ _ _ _ (by rw [← h1]; exact hk1)]
          cases hk : l.getD k false with
          | true =>
            rcases h3 k hk with h | h
            · rw [h]; rfl
            · have : all.contains k = true := by simpa using h
              rw [this]; simp
          | false =>
            cases hk3 : listed.getD k false with
            | true => rw [h4 k hk3] at hk; cases hk
            | false =>
              have : all.contains k = false := by
                cases hc : all.contains k with
                | false => rfl
                | true => rw [hdone k (by simpa using hc)] at hk; cases hk
              rw [this]; rfl
      rw [hl]
      exact fin vs w' h7 (fun i hi => h6 i (by simpa using hi) (hdone i (by simpa using hi)))
    | succ m ih =>
      intro l vs w' h1 h2 h3 h4 h5 h6 h7
      have inb : ∀ i ∈ all, i < l.size := by
        intro i hi
        obtain ⟨o, ho, _⟩ := htd i hi
        rw [h1, hsz]
        exact (Array.getElem?_eq_some_iff.1 ho).1
      obtain ⟨u, hu, huu⟩ : ∃ u ∈ all, l.getD u true = false := by
        cases hf : all.filter fun j => !l.getD j true with
        | nil => rw [hf] at h5; simp at h5
        | cons u r =>
          have : u ∈ all.filter fun j => !l.getD j true := by rw [hf]; simp
          rw [List.mem_filter] at this
          exact ⟨u, this.1, by simpa using this.2⟩
      have two : ∀ i, i < l.size → l.getD i false = l.getD i true := by intro i hi; simp [hi]
      have hex : ∀ (b i : Nat), i ≤ b → i ∈ all → l.getD i true = false → ∃ r, r ∈ Region.ready md ops l := by
        intro b
        induction b with
        | zero =>
          intro i hib hi hiu
          obtain rfl : i = 0 := by omega
          have := hdep 0 hi
          obtain ⟨o, ho, _⟩ := htd 0 hi
          rw [ho] at this
          simp only [Array.all_eq_true'] at this
          refine ⟨0, mem_ready.2 ⟨hiu, o, ho, fun e he hb => ?_⟩⟩
          have h9 := this e he
          rw [hb] at h9
          simp at h9
          exact h4 _ (by simpa using h9)
        | succ b ihb =>
          intro i hib hi hiu
          have := hdep i hi
          obtain ⟨o, ho, _⟩ := htd i hi
          rw [ho] at this
          simp only [Array.all_eq_true'] at this
          by_cases hall2 : ∀ e ∈ o.after, Region.binds md e = true → l.getD e.on false = true
          · exact ⟨i, mem_ready.2 ⟨hiu, o, ho, hall2⟩⟩
          · have : ∃ e ∈ o.after, Region.binds md e = true ∧ l.getD e.on false = false := by
              apply Classical.byContradiction
              intro hc
              apply hall2
              intro e he hb
              cases hq : l.getD e.on false with
              | true => rfl
              | false => exact absurd ⟨e, he, hb, hq⟩ hc
            obtain ⟨e, he, hb, hq⟩ := this
            have h9 := (by assumption : ∀ e ∈ o.after, _) e he
            rw [hb] at h9
            simp only [Bool.not_true, Bool.false_or, Bool.or_eq_true, Bool.and_eq_true, decide_eq_true_eq] at h9
            rcases h9 with h9 | ⟨h9, h10⟩
            · rw [h4 _ h9] at hq; cases hq
            · have hm : e.on ∈ all := by simpa using h9
              exact ihb e.on (by omega) hm (by rw [← two _ (inb _ hm)]; exact hq)
      refine ⟨fun h0 => ?_, fun i hi => ?_⟩
      · obtain ⟨r, hr⟩ := hex u u (Nat.le_refl _) hu huu
        rw [h0] at hr
        cases hr
      · obtain ⟨hiu, o, ho, hed⟩ := mem_ready.1 hi
        have hia : i ∈ all := by
          have hlt : i < ops.size := (Array.getElem?_eq_some_iff.1 ho).1
          have h8 := hrest i (List.mem_range.2 hlt)
          rw [h2 i hiu, ho] at h8
          simp only [Bool.false_or, Bool.or_eq_true] at h8
          rcases h8 with h8 | h8
          · simpa using h8
          · rw [List.all_eq_true] at h8
            have h9 := h8 u hu
            obtain ⟨e, he, hb⟩ := Array.any_eq_true'.1 h9
            simp only [Bool.and_eq_true, beq_iff_eq] at hb
            have h10 := hed e he hb.1
            rw [hb.2, two _ (inb u hu), huu] at h10
            cases h10
        have hst := hstep.mem i hia o ho vs w' h7 (fun j hj => by
          simp only [Bool.and_eq_true] at hj
          obtain ⟨e, he, hb⟩ := Array.any_eq_true'.1 hj.2
          simp only [Bool.and_eq_true, beq_iff_eq] at hb
          have := hed e he hb.1
          rw [hb.2] at this
          exact h6 j (by simpa using hj.1) this)
        refine wpOp_step ho (fun K' hK => hst K' (fun v w2 hR hSt => ?_))
        have hput : (puts todo vs a).put o.dst v = puts todo (fun j => if j = i then v else vs j) a := by
          obtain ⟨o', ho', hc⟩ := htd i hia
          rw [ho] at ho'
          cases ho'
          rcases hc with ⟨d, hd, hm⟩ | ⟨hd, hm⟩
          · rw [hd]
            exact puts_put todo vs a i d v hm hn1 hn2
          · rw [hd]
            show puts todo vs a = _
            exact puts_same todo _ _ a (fun p hp => by rw [if_neg (hm p hp)])
        refine hK _ _ ⟨fun _ => hS _ (htrans _ _ _ h7 hSt), ?_⟩
        rw [hput]
        have hsame : ∀ k, k ≠ i → ∀ d, (l.setIfInBounds i true).getD k d = l.getD k d := fun k hk d => getD_set_ne d (Ne.symm hk)
        have hat : (l.setIfInBounds i true).getD i false = true ∧ (l.setIfInBounds i true).getD i true = true := by
          have := inb i hia
          simp [this]
        refine ih (l.setIfInBounds i true) _ w2 (by simpa using h1) (fun k hk => ?_) (fun k hk => ?_) (fun k hk => ?_) ?_ (fun j hj hjl => ?_) (htrans _ _ _ h7 hSt)
        · by_cases e : k = i
          · subst e; rw [hat.2] at hk; cases hk
          · rw [hsame k e] at hk; exact h2 k hk
        · by_cases e : k = i
          · subst e; exact .inr hia
          · rw [hsame k e] at hk; exact h3 k hk
        · by_cases e : k = i
          · subst e; exact hat.1
          · rw [hsame k e]; exact h4 k hk
        · have := count_set all hn3 hia hiu
          omega
        · by_cases e : j = i
          · subst e; simp only [if_true]; exact hR
          · simp only [if_neg e]
            rw [hsame j e] at hjl
            exact hstab j _ _ _ (h6 j hj hjl) hSt
  have h0 := main all.length listed (fun i => match todo.find? (fun p => p.1 == i) with | some p => a.tmps.getD p.2 undef | none => undef) w rfl (fun _ h => h) (fun _ h => .inl h) (fun _ h => h) (by
    rw [List.filter_eq_self.2]
    intro i hi
    exact hun i hi) (fun i hi hl => by
      have := hun i hi
      have hlt : i < listed.size := by
        obtain ⟨o, ho, _⟩ := htd i hi
        rw [hsz]
        exact (Array.getElem?_eq_some_iff.1 ho).1
      simp [hlt] at this hl
      rw [this] at hl
      cases hl) (hrefl w)
  rw [puts_self] at h0
  · exact h0
  · intro p hp
    have : todo.find? (fun q => q.1 == p.1) = some p := by
      clear h0 main hstep fin hd1 hd2 hun hdep hrest htd hn2 hn3 hall
      induction todo with
      | nil => cases hp
      | cons q r ih =>
        simp only [List.map_cons, List.nodup_cons] at hn1
        rw [List.find?_cons]
        rcases List.mem_cons.1 hp with rfl | hp
        · simp
        · have : (q.1 == p.1) = false := by
            rw [beq_eq_false_iff_ne]
            intro e
            exact hn1.1 (List.mem_map.2 ⟨p, hp, e.symm⟩)
          rw [this]
          exact ih hn1.2 hp
    simp only [this]
end
end Go.Proofs.YtpfbgmfkeofefaaGreat
