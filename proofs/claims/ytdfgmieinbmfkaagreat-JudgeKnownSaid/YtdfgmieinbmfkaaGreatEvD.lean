/-
  Regions in their order and in any order, loops, calls; the small primitives.
-/
import Derived.Test.YtdfgmieinbmfkaaGreatEvC
import Derived.Orders
import Derived.Scope
import Derived.Defers
import Derived.Conc.MuLone
import Derived.KernelRfl
import Derived.Laws.LoneSync
import Derived.Lib.Bytealg
namespace Go.Ev
open Go
set_option maxRecDepth 100000
section
variable {ρ : Rho} {o : Oper} {n : Env} {g g' : G} {v : V} {call : Cl}
noncomputable def putN (dst : Option Nat) (v : V) (n : Env) : Env := match dst with
  | none => n
  | some d => if n.gm.testBit d then ⟨n.gm, n.l, setT n.t d v⟩ else ⟨n.gm, .c d v n.l, n.t⟩
theorem putE_eq (dst : Option Nat) (v : V) (n : Env) (k : Env → R) : putE dst v n k = k (putN dst v n) := by
  obtain ⟨gm, l, t⟩ := n
  cases dst with
  | none => rfl
  | some d =>
    cases hb : gm.testBit d with
    | false =>
      have h1 : putN (some d) v ⟨gm, l, t⟩ = ⟨gm, .c d v l, t⟩ := by simp [putN, hb]
      rw [h1]
      show @Bool.rec (fun _ => R) (k ⟨gm, .c d v l, t⟩) _ (Nat.testBit gm d) = _
      rw [hb]
    | true =>
      have h1 : putN (some d) v ⟨gm, l, t⟩ = ⟨gm, l, setT t d v⟩ := by simp [putN, hb]
      rw [h1]
      show @Bool.rec (fun _ => R) (k ⟨gm, .c d v l, t⟩) (@PT.rec V (fun _ => R) (k ⟨gm, l, .e⟩) (fun a b c _ _ => k ⟨gm, l, .n a b c⟩) (setT t d v)) (Nat.testBit gm d) = _
      rw [hb]
      show @PT.rec V (fun _ => R) (k ⟨gm, l, .e⟩) (fun a b c _ _ => k ⟨gm, l, .n a b c⟩) (setT t d v) = _
      cases setT t d v <;> rfl
theorem evT_put (dst : Option Nat) (v : V) (n : Env) (i : Nat) : evT i (putN dst v n) = if dst = some i then v else evT i n := by
  obtain ⟨gm, l, t⟩ := n
  cases dst with
  | none => rfl
  | some d =>
    cases hb : gm.testBit d with
    | false =>
      have h1 : putN (some d) v ⟨gm, l, t⟩ = ⟨gm, .c d v l, t⟩ := by simp [putN, hb]
      rw [h1]
      show @Bool.rec (fun _ => V) (@Bool.rec (fun _ => V) (getL l i) v (Nat.beq i d)) (getT t i) (Nat.testBit gm i) = _
      by_cases hd : d = i
      · subst hd
        rw [hb, if_pos rfl]
        have : Nat.beq d d = true := Nat.beq_refl d
        rw [this]
      · have : Nat.beq i d = false := by
          cases hq : Nat.beq i d with
          | false => rfl
          | true => exact absurd (Nat.eq_of_beq_eq_true hq).symm hd
        rw [this, if_neg (by simpa using hd)]
        rfl
    | true =>
      have h1 : putN (some d) v ⟨gm, l, t⟩ = ⟨gm, l, setT t d v⟩ := by simp [putN, hb]
      rw [h1]
      show @Bool.rec (fun _ => V) (getL l i) (getT (setT t d v) i) (Nat.testBit gm i) = _
      rw [getT_set]
      by_cases hd : d = i
      · subst hd; rw [hb, if_pos rfl, if_pos rfl]
      · rw [if_neg hd, if_neg (by simpa using hd)]; rfl
theorem put_size (a : Act) (dst : Option Nat) (rv : Value) : (a.put dst rv).tmps.size = a.tmps.size := by cases dst <;> simp [Act.put]
theorem put_defers (a : Act) (dst : Option Nat) (rv : Value) : (a.put dst rv).defers = a.defers := by cases dst <;> rfl
theorem EnvR.put {σ : Sg} {a : Act} (h : EnvR ρ σ n a) {dst : Option Nat} {rv : Value} (hv : VR ρ σ v rv) (hd : ∀ d, dst = some d → d < a.tmps.size) : EnvR ρ σ (putN dst v n) (a.put dst rv) := by
  intro i
  rw [evT_put]
  cases dst with
  | none => simpa [Act.put] using h i
  | some d =>
    have := hd d rfl
    by_cases hdi : d = i
    · subst hdi
      simp [Act.put, this, hv]
    · rw [if_neg (by simpa using hdi)]
      have e : (a.put (some d) rv).tmps.getD i undef = a.tmps.getD i undef := by
        simp [Act.put, Array.getD_eq_getD_getElem?, hdi]
      rw [e]; exact h i
/-- deferred calls -/
def DR (ρ : Rho) (σ : Sg) : DS → List Deferred → Prop
  | [], l => l = []
  | d :: r, l => ∃ e t fn fs cs xs ys zs, l = e :: t ∧ d.1 = .f fn fs cs ∧ VRs ρ σ fs (xs : Array Value).toList ∧ VRs ρ σ cs (ys : Array Value).toList ∧ VRs ρ σ d.2 (zs : Array Value).toList ∧
      e = { target := .fn (.func fn) ys, args := xs ++ zs } ∧ DR ρ σ r t
theorem DR.mono {σ σ' : Sg} (h : Le σ σ') : ∀ (ds : DS) (l : List Deferred), DR ρ σ ds l → DR ρ σ' ds l
  | [], _, e => e
  | _ :: r, _, ⟨e, t, fn, fs, cs, xs, ys, zs, h1, h2, h3, h4, h5, h6, h7⟩ => ⟨e, t, fn, fs, cs, xs, ys, zs, h1, h2, VRs.mono h _ _ h3, VRs.mono h _ _ h4, VRs.mono h _ _ h5, h6, DR.mono h r t h7⟩
theorem gdst_eq (ops : Array Oper) (j : Nat) : gdst ops.toList j = (ops[j]?).bind (·.dst) := by
  unfold gdst; rw [Array.getElem?_toList]
/-- what a guard says -/
theorem guard_inv {ops : Array Oper} {k : RO} {want : Bool} {gd : Nat} (h : xGuard want k g n (gdst ops.toList gd) = .ok v g') :
    ∃ q : Option Bool, (∀ σ a, EnvR ρ σ n a → yielded ops a.tmps gd = q) ∧ ((q = some want ∧ k = .ok v g') ∨ (q ≠ some want ∧ v = unitV ∧ g' = g)) := by
  rw [gdst_eq] at h
  cases hd : (ops[gd]?).bind (·.dst) with
  | none => rw [hd] at h; exact (bad_ne (show RO.bad 131 = .ok v g' from h)).elim
  | some d =>
    rw [hd] at h
    have h : elB (evT d n) (fun q => cnd (beqB q want) k (.ok unitV g)) (sk0 (evT d n) (.ok unitV g) (.bad 132)) = .ok v g' := h
    cases hq : evT d n with
    | b q =>
      rw [hq] at h
      have h : cnd (beqB q want) k (.ok unitV g) = .ok v g' := h
      refine ⟨some q, fun σ a he => ?_, ?_⟩
      · have := he d
        rw [hq] at this; simp only [VR] at this
        unfold yielded
        rw [hd]
        have hx : a.tmps[d]? = some (.bool q) := by
          rw [Array.getD_eq_getD_getElem?] at this
          cases hh : a.tmps[d]? with
          | none => rw [hh] at this; simp [undef] at this
          | some y => rw [hh] at this; exact congrArg some this
        show (match a.tmps[d]? with | some (.bool b) => some b | _ => none) = _
        rw [hx]
      · rw [cnd_eq, beqB_eq] at h
        by_cases hqw : q = want
        · rw [if_pos (by simp [hqw])] at h; exact .inl ⟨by rw [hqw], h⟩
        · rw [if_neg (by simp [hqw])] at h
          obtain ⟨rfl, rfl⟩ := ok_inj h
          exact .inr ⟨by simp [hqw], rfl, rfl⟩
    | t l =>
      rw [hq] at h
      cases l with
      | nil =>
        obtain ⟨rfl, rfl⟩ := ok_inj (show RO.ok unitV g = .ok v g' from h)
        refine ⟨none, fun σ a he => ?_, .inr ⟨by simp, rfl, rfl⟩⟩
        have := he d
        rw [hq] at this; simp only [VR] at this
        obtain ⟨xs, this, _⟩ := this
        unfold yielded
        rw [hd]
        show (match a.tmps[d]? with | some (.bool b) => some b | _ => none) = _
        rw [Array.getD_eq_getD_getElem?] at this
        cases hh : a.tmps[d]? with
        | none => rfl
        | some y => rw [hh] at this; have this : y = .tuple xs := this; rw [this]
      | cons x l => exact (bad_ne (show RO.bad 132 = .ok v g' from h)).elim
    | _ => rw [hq] at h; exact (bad_ne (show RO.bad 132 = .ok v g' from h)).elim
/-- one operation of a region -/
theorem op1_ok (hρ : Opq ρ) (hc : CallOk ρ call) {ops : Array Oper} {i : Nat} (hi : ops[i]? = some o) (h : xOp1 ops.toList o call n g = .ok v g') :
    Grow g g' ∧ ∀ σ F a w K Q, Pre ρ σ F g g' w → EnvR ρ σ n a → (∀ σ' rv w', Step ρ σ F g g' w σ' w' → VR ρ σ' v rv → K (a.put o.dst rv) w') → wpOp PP ops Q i K a w := by
  unfold xOp1 at h
  cases hg : o.guard with
  | none =>
    rw [hg] at h
    obtain ⟨h1, h2⟩ := disp_ok hρ hc (show disp o.op call n g = .ok v g' from h)
    refine ⟨h1, fun σ F a w K Q hp he hk => ?_⟩
    unfold wpOp
    simp only [hi]
    rw [if_pos (by simp [Region.wanted, hg])]
    exact .inl (h2 σ F a w K Q hp he hk)
  | some gd =>
    obtain ⟨j, want⟩ := gd
    rw [hg] at h
    obtain ⟨q, hq, hh⟩ := guard_inv (ρ := ρ) (ops := ops) (show xGuard want (disp o.op call n g) g n (gdst ops.toList j) = .ok v g' from h)
    rcases hh with ⟨rfl, h8⟩ | ⟨hne, rfl, rfl⟩
    · obtain ⟨h1, h2⟩ := disp_ok hρ hc h8
      refine ⟨h1, fun σ F a w K Q hp he hk => ?_⟩
      unfold wpOp
      simp only [hi]
      rw [if_pos (by simp [Region.wanted, hg, hq σ a he])]
      exact .inl (h2 σ F a w K Q hp he hk)
    · refine ⟨.refl _, fun σ F a w K Q hp he hk => ?_⟩
      unfold wpOp
      simp only [hi]
      rw [if_neg (by simp [Region.wanted, hg, hq σ a he, hne])]
      exact hk σ undef w (.refl hp) vu
end
end Go.Ev
namespace Go.Ev
open Go
set_option maxRecDepth 100000
section
variable {ρ : Rho} {o : Oper} {n : Env} {g g' : G} {v : V} {call : Cl}
theorem guard_df {ops : Array Oper} {k : RO} {want : Bool} {gd : Nat} {f : V} {aa : List V} (h : xGuard want k g n (gdst ops.toList gd) = .df f aa g') :
    k = .df f aa g' ∧ ∀ σ a, EnvR ρ σ n a → yielded ops a.tmps gd = some want := by
  rw [gdst_eq] at h
  cases hd : (ops[gd]?).bind (·.dst) with
  | none => rw [hd] at h; cases (show RO.bad 131 = .df f aa g' from h)
  | some d =>
    rw [hd] at h
    have h : elB (evT d n) (fun q => cnd (beqB q want) k (.ok unitV g)) (sk0 (evT d n) (.ok unitV g) (.bad 132)) = .df f aa g' := h
    cases hq : evT d n with
    | b q =>
      rw [hq] at h
      have h : cnd (beqB q want) k (.ok unitV g) = .df f aa g' := h
      rw [cnd_eq, beqB_eq] at h
      by_cases hqw : q = want
      · subst hqw
        rw [if_pos (by simp)] at h
        refine ⟨h, fun σ a he => ?_⟩
        have := he d
        rw [hq] at this; simp only [VR] at this
        unfold yielded
        rw [hd]
        have hx : a.tmps[d]? = some (.bool q) := by
          rw [Array.getD_eq_getD_getElem?] at this
          cases hh : a.tmps[d]? with
          | none => rw [hh] at this; simp [undef] at this
          | some y => rw [hh] at this; exact congrArg some this
        show (match a.tmps[d]? with | some (.bool b) => some b | _ => none) = _
        rw [hx]
      · rw [if_neg (by simp [hqw])] at h; cases h
    | t l =>
      rw [hq] at h
      cases l with
      | nil => cases (show RO.ok unitV g = .df f aa g' from h)
      | cons x l => cases (show RO.bad 132 = .df f aa g' from h)
    | _ => rw [hq] at h; cases (show RO.bad 132 = .df f aa g' from h)
theorem xDefer_inv {k : Call} {f : V} {aa : List V} (h : xDefer k call n g = .df f aa g') :
    ∃ x ar ats fn fs cs, k = ⟨.value x, ar, ats⟩ ∧ ev x n = .f fn fs cs ∧ f = .f fn fs cs ∧ aa = evs ar.toList n ∧ g' = g := by
  obtain ⟨cal, ar, ats⟩ := k
  cases cal with
  | value x =>
    have h : elF (ev x n) (fun fn fs cs => .df (.f fn fs cs) (evs ar.toList n) g) (.bad 123) = .df f aa g' := h
    cases hx : ev x n with
    | f fn fs cs =>
      rw [hx] at h
      have h : RO.df (.f fn fs cs) (evs ar.toList n) g = .df f aa g' := h
      cases h
      exact ⟨x, ar, ats, fn, fs, cs, rfl, hx, rfl, rfl, rfl⟩
    | _ => rw [hx] at h; cases (show RO.bad 123 = .df f aa g' from h)
  | invoke r m => cases (show RO.bad 123 = .df f aa g' from h)
  | builtin b => cases (show RO.bad 124 = .df f aa g' from h)
/-- a deferral in a region -/
theorem op1_df {ops : Array Oper} {i : Nat} {f : V} {aa : List V} (hi : ops[i]? = some o) (hdf : isDf o.op = true) (h : xOp1 ops.toList o call n g = .df f aa g') :
    g' = g ∧ ∀ σ a w K Q, EnvR ρ σ n a → (∀ d, DR ρ σ [(f, aa)] [d] → K ({ a with defers := d :: a.defers }.put o.dst undef) w) → wpOp PP ops Q i K a w := by
  have hk : ∃ k, o.op = .defer k := by
    unfold isDf at hdf
    split at hdf
    · exact ⟨_, by assumption⟩
    · cases hdf
  obtain ⟨k, hop⟩ := hk
  have key : xDefer k call n g = .df f aa g' ∧ ∀ σ a, EnvR ρ σ n a → Region.wanted o (yielded ops a.tmps) = true := by
    unfold xOp1 at h
    cases hg : o.guard with
    | none =>
      rw [hg] at h
      have h : disp o.op call n g = .df f aa g' := h
      rw [hop] at h
      exact ⟨h, fun σ a he => by simp [Region.wanted, hg]⟩
    | some gd =>
      obtain ⟨j, want⟩ := gd
      rw [hg] at h
      obtain ⟨h1, h2⟩ := guard_df (ρ := ρ) (ops := ops) (show xGuard want (disp o.op call n g) g n (gdst ops.toList j) = .df f aa g' from h)
      rw [hop] at h1
      exact ⟨h1, fun σ a he => by simp [Region.wanted, hg, h2 σ a he]⟩
  obtain ⟨x, ar, ats, fn, fs, cs, rfl, hx, rfl, rfl, rfl⟩ := xDefer_inv key.1
  refine ⟨rfl, fun σ a w K Q he hk => ?_⟩
  unfold wpOp
  simp only [hi]
  rw [if_pos (key.2 σ a he)]
  refine .inl ?_
  have vx := ev_ok he x; rw [hx] at vx; simp only [VR] at vx
  obtain ⟨xs, ys, vx, v1, v2⟩ := vx
  have hex : execOp a.eval o = pure (.defer { target := .fn (.func fn) ys, args := xs ++ ar.map a.eval }) := by
    simp only [execOp, hop, resolve, vx, Deferred.ofValue]
    rfl
  unfold Oper.wp
  rw [hex]
  exact hk _ ⟨_, [], fn, fs, cs, xs, ys, ar.map a.eval, rfl, rfl, v1, v2, by rw [Array.toList_map]; exact evs_ok he _, rfl, rfl⟩
theorem EnvR.done {σ : Sg} {a : Act} (h : EnvR ρ σ n a) : EnvR ρ σ ⟨n.gm, .e, n.t⟩ a := by
  intro i
  have := h i
  obtain ⟨gm, l, t⟩ := n
  show VR ρ σ (@Bool.rec (fun _ => V) (getL .e i) (getT t i) (Nat.testBit gm i)) _
  have this : VR ρ σ (@Bool.rec (fun _ => V) (getL l i) (getT t i) (Nat.testBit gm i)) _ := this
  cases hb : gm.testBit i with
  | false => show VR ρ σ .u _; simp only [VR]
  | true => rw [hb] at this; exact this
/-- a region that keeps its order -/
theorem regR_ok (hρ : Opq ρ) (hc : CallOk ρ call) {ops : Array Oper} {N : Nat} (hd : ∀ o ∈ ops.toList, ∀ d, o.dst = some d → d < N) :
    ∀ (l : List Oper) (i : Nat), ops.toList.drop i = l → ∀ n ds g e t' ds' g', regR ops.toList l call n ds g = .ok e t' ds' g' →
      e = .nrm ∧ Grow g g' ∧ ∀ σ F a w Q, Pre ρ σ F g g' w → EnvR ρ σ n a → DR ρ σ ds a.defers → a.tmps.size = N →
        (∀ σ' a' w', Step ρ σ F g g' w σ' w' → EnvR ρ σ' ⟨n.gm, .e, t'⟩ a' → DR ρ σ' ds' a'.defers → a'.tmps.size = N → Q .normal a' w') →
        wpOps PP ops Q (List.range' i l.length) a w := by
  intro l
  induction l with
  | nil =>
    intro i hl n ds g e t' ds' g' h
    obtain ⟨gm, lv, t⟩ := n
    have h : R.ok .nrm t ds g = .ok e t' ds' g' := h
    cases h
    exact ⟨rfl, .refl _, fun σ F a w Q hp he hds hN hq => hq σ a w (.refl hp) he.done hds hN⟩
  | cons o l ih =>
    intro i hl n ds g e t' ds' g' h
    have hi : ops[i]? = some o := by
      rw [← Array.getElem?_toList]
      have := congrArg (·[0]?) hl
      simpa using this
    have hl' : ops.toList.drop (i + 1) = l := by
      rw [← List.drop_drop, hl]; rfl
    have hmem : o ∈ ops.toList := by
      have := List.drop_subset i ops.toList (a := o)
      exact this (by rw [hl]; simp)
    have h : elRR (xOp1 ops.toList o call n g) (fun v g => putE o.dst v n fun t => regR ops.toList l call t ds g)
      (fun f aa g => @Bool.rec (fun _ => R) (.bad 157) (putE o.dst unitV n fun t => regR ops.toList l call t ((f, aa) :: ds) g) (isDf o.op)) = .ok e t' ds' g' := h
    have hgm : ∀ v, (putN o.dst v n).gm = n.gm := fun v => by
      unfold putN; split
      · rfl
      · split <;> rfl
    cases hx : xOp1 ops.toList o call n g with
    | bad w => rw [hx] at h; cases (show R.bad w = .ok e t' ds' g' from h)
    | ok v g1 =>
      rw [hx] at h
      have h : (putE o.dst v n fun t => regR ops.toList l call t ds g1) = .ok e t' ds' g' := h
      rw [putE_eq] at h
      obtain ⟨he, G2, h2⟩ := ih (i + 1) hl' _ _ _ _ _ _ _ h
      obtain ⟨G1, h1⟩ := op1_ok (ρ := ρ) hρ hc hi hx
      refine ⟨he, G1.trans G2, fun σ F a w Q hp hen hds hN hq => ?_⟩
      rw [List.length_cons, List.range'_succ, wpOps_cons]
      refine h1 σ F a w _ Q (hp.fst G1 G2) hen fun σ1 rv w1 s1 v1 => ?_
      have hp1 := hp.fst G1 G2
      have hle := s1.le hp1
      refine h2 σ1 F _ w1 Q (hp.snd G1 s1) ((hen.mono hle).put v1 fun d hdd => by rw [hN]; exact hd o hmem d hdd) (by rw [put_defers]; exact DR.mono hle _ _ hds) (by rw [put_size]; exact hN) fun σ2 a2 w2 s2 e2 d2 n2 => ?_
      rw [hgm] at e2
      exact hq σ2 a2 w2 (s1.trans hp G1 G2 s2) e2 d2 n2
    | df f aa g1 =>
      rw [hx] at h
      have h : @Bool.rec (fun _ => R) (.bad 157) (putE o.dst unitV n fun t => regR ops.toList l call t ((f, aa) :: ds) g1) (isDf o.op) = .ok e t' ds' g' := h
      cases hdf : isDf o.op with
      | false => rw [hdf] at h; cases h
      | true =>
        rw [hdf] at h
        have h : (putE o.dst unitV n fun t => regR ops.toList l call t ((f, aa) :: ds) g1) = .ok e t' ds' g' := h
        rw [putE_eq] at h
        obtain ⟨he, G2, h2⟩ := ih (i + 1) hl' _ _ _ _ _ _ _ h
        obtain ⟨rfl, h1⟩ := op1_df (ρ := ρ) hi hdf hx
        refine ⟨he, G2, fun σ F a w Q hp hen hds hN hq => ?_⟩
        rw [List.length_cons, List.range'_succ, wpOps_cons]
        refine h1 σ a w _ Q hen fun d hdd => ?_
        have hen' : EnvR ρ σ n { a with defers := d :: a.defers } := hen
        refine h2 σ F _ w Q hp (hen'.put vu fun d hdd => by show d < a.tmps.size; rw [hN]; exact hd o hmem d hdd) ?_ (by rw [put_size]; exact hN) fun σ2 a2 w2 s2 e2 d2 n2 => ?_
        · rw [put_defers]
          obtain ⟨e, t, fn, fs, cs, xs, ys, zs, k1, k2, k3, k4, k5, k6, k7⟩ := hdd
          cases k1
          exact ⟨_, _, fn, fs, cs, xs, ys, zs, rfl, k2, k3, k4, k5, k6, hds⟩
        · rw [hgm] at e2
          exact hq σ2 a2 w2 s2 e2 d2 n2
end
end Go.Ev
namespace Go.Ev
open Go
set_option maxRecDepth 100000
def lkL : List Operand → Nat
  | [] => 0
  | .tmp t :: r => Nat.lor (Nat.shiftLeft 1 t) (lkL r)
  | _ :: r => lkL r
def bitO : Option Nat → Nat
  | some d => Nat.shiftLeft 1 d
  | none => 0
/-- the temporaries that an operation looks at, and the one that it writes -/
noncomputable def lkO (ops : List Oper) (o : Oper) : Nat := Nat.lor (lkL o.op.operands.toList) (match o.guard with
  | some gd => bitO (gdst ops gd.1)
  | none => 0)
def prB (m d l : Nat) : List (Nat × Nat × Nat) → Bool
  | [] => true
  | q :: r => (Nat.testBit m q.1 || Nat.beq (Nat.lor (Nat.land q.2.1 (Nat.lor l d)) (Nat.land d q.2.2)) 0) && prB m d l r
def bkB (k : Nat) : List Edge → Bool
  | [] => true
  | e :: r => (!Region.binds .any e || Nat.blt e.on k) && bkB k r
noncomputable def drB (ops : List Oper) : List Oper → List Nat → Nat → List (Nat × Nat × Nat) → Bool
  | [], _, _, _ => true
  | o :: r, ms, k, acc => (bkB k o.after.toList && prB (hdN ms) (bitO o.dst) (lkO ops o) acc) && drB ops r ms.tail (k + 1) ((k, bitO o.dst, lkO ops o) :: acc)
/-- of operations that no edge orders neither looks at what the other one writes -/
noncomputable def drawB (ops : List Oper) : Bool := drB ops ops (befs ops) 0 []
section
variable {ρ : Rho} {call : Cl} {N gm : Nat}
def exOf : Ex → Exit
  | .nrm => .normal
  | .ext i => .exit i
  | .ret => .ret
/-- what stands behind a code -/
def Fin (ρ : Rho) (N gm : Nat) (σ : Sg) (F : Nat → Prop) (g : G) (w : World) (t' : PT V) (ds' : DS) (g' : G) (K : Act → World → Prop) : Prop :=
  ∀ σ' a' w', Step ρ σ F g g' w σ' w' → EnvR ρ σ' ⟨gm, .e, t'⟩ a' → DR ρ σ' ds' a'.defers → a'.tmps.size = N → K a' w'
structure At (ρ : Rho) (N gm : Nat) (σ : Sg) (F : Nat → Prop) (g g' : G) (w : World) (t : PT V) (ds : DS) (a : Act) : Prop where
  pre : Pre ρ σ F g g' w
  env : EnvR ρ σ ⟨gm, .e, t⟩ a
  dr : DR ρ σ ds a.defers
  size : a.tmps.size = N
/-- a code's answer in E -/
def KSim (ρ : Rho) (N gm : Nat) (call : Cl) (c : Code) (k : K) : Prop := ∀ t ds g e t' ds' g', k call gm t ds g = .ok e t' ds' g' →
  Grow g g' ∧ ∀ σ F a w Q, At ρ N gm σ F g g' w t ds a → Fin ρ N gm σ F g w t' ds' g' (Q (exOf e)) → c.wp PP Q a w
theorem Fin.then {σ σ1 : Sg} {F : Nat → Prop} {g g1 g2 : G} {w w1 : World} {t2 : PT V} {ds2 : DS} {K : Act → World → Prop} (hp : Pre ρ σ F g g2 w) (G1 : Grow g g1) (G2 : Grow g1 g2)
    (s : Step ρ σ F g g1 w σ1 w1) (h : Fin ρ N gm σ F g w t2 ds2 g2 K) : Fin ρ N gm σ1 F g1 w1 t2 ds2 g2 K :=
  fun σ' a' w' s' e d n => h σ' a' w' (s.trans hp G1 G2 s') e d n
theorem elR_inv {r : R} {k : PT V → DS → G → R} {e : Ex} {t : PT V} {ds : DS} {g : G} (h : elR r k = .ok e t ds g) :
    (∃ t1 ds1 g1, r = .ok .nrm t1 ds1 g1 ∧ k t1 ds1 g1 = .ok e t ds g) ∨ (e ≠ .nrm ∧ r = .ok e t ds g) := by
  cases r with
  | bad w => cases h
  | ok e1 t1 ds1 g1 =>
    cases e1 with
    | nrm => exact .inl ⟨t1, ds1, g1, rfl, h⟩
    | ext i => cases h; exact .inr ⟨by simp, rfl⟩
    | ret => cases h; exact .inr ⟨by simp, rfl⟩
theorem seq_ok {c d : Code} {k k' : K} (h : KSim ρ N gm call c k) (h' : KSim ρ N gm call d k') : KSim ρ N gm call (.seq c d) (cSeq c d k k') := by
  intro t ds g e t' ds' g' hr
  rcases elR_inv (show elR (k call gm t ds g) (k' call gm) = .ok e t' ds' g' from hr) with ⟨t1, ds1, g1, h1, h2⟩ | ⟨hne, h1⟩
  · obtain ⟨G1, s1⟩ := h _ _ _ _ _ _ _ h1
    obtain ⟨G2, s2⟩ := h' _ _ _ _ _ _ _ h2
    refine ⟨G1.trans G2, fun σ F a w Q hat hf => wp_seq (s1 σ F a w _ ⟨hat.pre.fst G1 G2, hat.env, hat.dr, hat.size⟩ fun σ1 a1 w1 st e1 d1 n1 => ?_)⟩
    exact s2 σ1 F a1 w1 Q ⟨hat.pre.snd G1 st, e1, d1, n1⟩ (hf.then hat.pre G1 G2 st)
  · obtain ⟨G1, s1⟩ := h _ _ _ _ _ _ _ h1
    refine ⟨G1, fun σ F a w Q hat hf => wp_seq (s1 σ F a w _ hat fun σ1 a1 w1 st e1 d1 n1 => ?_)⟩
    have := hf σ1 a1 w1 st e1 d1 n1
    cases e with
    | nrm => exact absurd rfl hne
    | ext i => exact this
    | ret => exact this
theorem skip_ok : KSim ρ N gm call .skip cSkip := by
  intro t ds g e t' ds' g' hr
  cases (show R.ok .nrm t ds g = .ok e t' ds' g' from hr)
  exact ⟨.refl _, fun σ F a w Q hat hf => wp_skip (hf σ a w (.refl hat.pre) hat.env hat.dr hat.size)⟩
theorem label_ok {l : Nat} : KSim ρ N gm call (.label l) cSkip := by
  intro t ds g e t' ds' g' hr
  cases (show R.ok .nrm t ds g = .ok e t' ds' g' from hr)
  exact ⟨.refl _, fun σ F a w Q hat hf => wp_label (hf σ a w (.refl hat.pre) hat.env hat.dr hat.size)⟩
theorem exit_ok {i : Nat} : KSim ρ N gm call (.exit i) (cExit i) := by
  intro t ds g e t' ds' g' hr
  cases (show R.ok (.ext i) t ds g = .ok e t' ds' g' from hr)
  exact ⟨.refl _, fun σ F a w Q hat hf => wp_exit (hf σ a w (.refl hat.pre) hat.env hat.dr hat.size)⟩
theorem ret_ok : KSim ρ N gm call .ret cRet := by
  intro t ds g e t' ds' g' hr
  cases (show R.ok .ret t ds g = .ok e t' ds' g' from hr)
  exact ⟨.refl _, fun σ F a w Q hat hf => wp_ret (hf σ a w (.refl hat.pre) hat.env hat.dr hat.size)⟩
theorem bad_ok {c : Code} {m : Nat} : KSim ρ N gm call c (badK m) := by
  intro t ds g e t' ds' g' hr
  cases (show R.bad m = .ok e t' ds' g' from hr)
theorem cond_ok {x : Operand} {c d : Code} {k k' : K} (h : KSim ρ N gm call c k) (h' : KSim ρ N gm call d k') : KSim ρ N gm call (.cond x c d) (cCond x c d k k') := by
  intro t ds g e t' ds' g' hr
  have hr : elBR (ev x ⟨gm, .e, t⟩) (@Bool.rec (fun _ => R) (k' call gm t ds g) (k call gm t ds g)) (.bad 141) = .ok e t' ds' g' := hr
  cases hx : ev x ⟨gm, .e, t⟩ with
  | b q =>
    rw [hx] at hr
    have hv : ∀ σ a, EnvR ρ σ ⟨gm, .e, t⟩ a → a.eval x = .bool q := fun σ a he => by
      have := ev_ok he x; rw [hx] at this; simpa only [VR] using this
    cases q with
    | true =>
      obtain ⟨G1, s1⟩ := h _ _ _ _ _ _ _ (show k call gm t ds g = .ok e t' ds' g' from hr)
      exact ⟨G1, fun σ F a w Q hat hf => wp_cond_true (hv σ a hat.env) (s1 σ F a w Q hat hf)⟩
    | false =>
      obtain ⟨G1, s1⟩ := h' _ _ _ _ _ _ _ (show k' call gm t ds g = .ok e t' ds' g' from hr)
      exact ⟨G1, fun σ F a w Q hat hf => wp_cond_false (hv σ a hat.env) (s1 σ F a w Q hat hf)⟩
  | _ => rw [hx] at hr; cases (show R.bad 141 = .ok e t' ds' g' from hr)
theorem block_ok {i : Nat} {c : Code} {k : K} (h : KSim ρ N gm call c k) : KSim ρ N gm call (.block i c) (cBlock i c k) := by
  intro t ds g e t' ds' g' hr
  have hr : outB i (k call gm t ds g) = .ok e t' ds' g' := hr
  cases hk : k call gm t ds g with
  | bad w => rw [hk] at hr; cases hr
  | ok e1 t1 ds1 g1 =>
    rw [hk] at hr
    obtain ⟨G1, s1⟩ := h _ _ _ _ _ _ _ hk
    cases e1 with
    | nrm =>
      cases (show R.ok .nrm t1 ds1 g1 = .ok e t' ds' g' from hr)
      exact ⟨G1, fun σ F a w Q hat hf => wp_block (s1 σ F a w _ hat hf)⟩
    | ret =>
      cases (show R.ok .ret t1 ds1 g1 = .ok e t' ds' g' from hr)
      exact ⟨G1, fun σ F a w Q hat hf => wp_block (s1 σ F a w _ hat hf)⟩
    | ext j =>
      have hr : @Bool.rec (fun _ => R) (.ok (.ext j) t1 ds1 g1) (.ok .nrm t1 ds1 g1) (Nat.beq j i) = .ok e t' ds' g' := hr
      cases hb : Nat.beq j i with
      | true =>
        rw [hb] at hr
        cases (show R.ok .nrm t1 ds1 g1 = .ok e t' ds' g' from hr)
        have := Nat.eq_of_beq_eq_true hb
        exact ⟨G1, fun σ F a w Q hat hf => wp_block (s1 σ F a w _ hat fun σ1 a1 w1 st e1 d1 n1 => by
          show (if j = i then Q .normal a1 w1 else Q (.exit j) a1 w1)
          rw [if_pos this]; exact hf σ1 a1 w1 st e1 d1 n1)⟩
      | false =>
        rw [hb] at hr
        cases (show R.ok (.ext j) t1 ds1 g1 = .ok e t' ds' g' from hr)
        have : j ≠ i := fun hh => by subst hh; rw [Nat.beq_refl] at hb; cases hb
        exact ⟨G1, fun σ F a w Q hat hf => wp_block (s1 σ F a w _ hat fun σ1 a1 w1 st e1 d1 n1 => by
          show (if j = i then Q .normal a1 w1 else Q (.exit j) a1 w1)
          rw [if_neg this]; exact hf σ1 a1 w1 st e1 d1 n1)⟩
theorem scope_ok {c : Code} {k : K} (h : KSim ρ N gm call c k) : KSim ρ N gm call (.scope c) k := by
  intro t ds g e t' ds' g' hr
  obtain ⟨G1, s1⟩ := h _ _ _ _ _ _ _ hr
  exact ⟨G1, fun σ F a w Q hat hf => wp_scope_straight (s1 σ F a w _ hat fun σ1 a1 w1 st e1 d1 n1 => by
    have := hf σ1 a1 w1 st e1 d1 n1
    cases e <;> exact this)⟩
end
end Go.Ev
namespace Go.Ev
open Go
set_option maxRecDepth 100000
section
variable {ρ : Rho} {call : Cl} {N gm : Nat}
/-- some rounds of a loop -/
def LP (c : Code) (Q : Exit → Act → World → Prop) (K : Act → World → Prop) (a : Act) (w : World) : Prop := ∀ (b : Frame) (k : List Item) (cs : List Frame),
  (∃ a' w', K a' w' ∧ Steps PP (lone (b.at a (.code c :: .inLoop c :: k)) cs w) (lone (b.at a' (.code c :: .inLoop c :: k)) cs w')) ∨
  ∃ e a' w', Q e a' w' ∧ Arrives PP (lone (b.at a (.code c :: .inLoop c :: k)) cs w) b k cs e a' w'
theorem lp_one {c : Code} {Q : Exit → Act → World → Prop} {K : Act → World → Prop} {a : Act} {w : World} (h : c.wp PP (Exit.then K Q) a w) : LP c Q K a w := by
  intro b k cs
  obtain ⟨e, a1, w1, hq, harr⟩ := h b (.inLoop c :: k) cs
  cases e with
  | normal => exact .inl ⟨a1, w1, hq, Steps.trans harr (.one step_inLoop)⟩
  | exit id => exact .inr ⟨_, a1, w1, hq, .pass (x := .inLoop c) rfl (fun _ _ => .inl (by simp)) harr⟩
  | goto l => exact .inr ⟨_, a1, w1, hq, .pass (x := .inLoop c) rfl (fun _ _ => .inl (by simp)) harr⟩
  | ret => exact .inr ⟨_, a1, w1, hq, .pass (x := .inLoop c) rfl (fun _ _ => .inl (by simp)) harr⟩
  | panic ch => exact .inr ⟨_, a1, w1, hq, .pass (x := .inLoop c) rfl (fun _ _ => .inl (by simp)) harr⟩
  | outgrown => exact .inr ⟨_, a1, w1, hq, .pass (x := .inLoop c) rfl (fun _ _ => .inl (by simp)) harr⟩
theorem lp_two {c : Code} {Q : Exit → Act → World → Prop} {K : Act → World → Prop} {a : Act} {w : World} (h : LP c Q (LP c Q K) a w) : LP c Q K a w := by
  intro b k cs
  rcases h b k cs with ⟨a1, w1, h1, s1⟩ | h
  · rcases h1 b k cs with ⟨a2, w2, h2, s2⟩ | ⟨e, a2, w2, h2, s2⟩
    · exact .inl ⟨a2, w2, h2, s1.trans s2⟩
    · exact .inr ⟨e, a2, w2, h2, .of_steps s1 s2⟩
  · exact .inr h
theorem lp_loop {c : Code} {Q : Exit → Act → World → Prop} {a : Act} {w : World} (h : LP c Q (fun _ _ => False) a w) : (Code.loop c).wp PP Q a w := by
  intro b k cs
  rcases h b k cs with ⟨a1, w1, h1, _⟩ | ⟨e, a2, w2, h2, s2⟩
  · exact h1.elim
  · exact ⟨e, a2, w2, h2, .of_steps (.one step_loop) s2⟩
/-- rounds in E -/
def LSim (ρ : Rho) (N gm : Nat) (call : Cl) (c : Code) (k : K) : Prop := ∀ t ds g e t' ds' g', k call gm t ds g = .ok e t' ds' g' →
  Grow g g' ∧ ∀ σ F a w Q K', At ρ N gm σ F g g' w t ds a → Fin ρ N gm σ F g w t' ds' g' (Exit.then K' Q (exOf e)) → LP c Q K' a w
theorem loopN_ok {c : Code} {k : K} (h : KSim ρ N gm call c k) : ∀ m, LSim ρ N gm call c (cLoopN k m) := by
  intro m
  induction m with
  | zero =>
    intro t ds g e t' ds' g' hr
    obtain ⟨G1, s1⟩ := h _ _ _ _ _ _ _ (show k call gm t ds g = .ok e t' ds' g' from hr)
    exact ⟨G1, fun σ F a w Q K' hat hf => lp_one (s1 σ F a w _ hat hf)⟩
  | succ m ih =>
    intro t ds g e t' ds' g' hr
    rcases elR_inv (show elR (cLoopN k m call gm t ds g) (cLoopN k m call gm) = .ok e t' ds' g' from hr) with ⟨t1, ds1, g1, h1, h2⟩ | ⟨hne, h1⟩
    · obtain ⟨G1, s1⟩ := ih _ _ _ _ _ _ _ h1
      obtain ⟨G2, s2⟩ := ih _ _ _ _ _ _ _ h2
      refine ⟨G1.trans G2, fun σ F a w Q K' hat hf => lp_two (s1 σ F a w Q _ ⟨hat.pre.fst G1 G2, hat.env, hat.dr, hat.size⟩ fun σ1 a1 w1 st e1 d1 n1 => ?_)⟩
      exact s2 σ1 F a1 w1 Q K' ⟨hat.pre.snd G1 st, e1, d1, n1⟩ (hf.then hat.pre G1 G2 st)
    · obtain ⟨G1, s1⟩ := ih _ _ _ _ _ _ _ h1
      refine ⟨G1, fun σ F a w Q K' hat hf => s1 σ F a w Q K' hat hf⟩
theorem loop_ok {c : Code} {k : K} (h : KSim ρ N gm call c k) : KSim ρ N gm call (.loop c) (cLoop c k) := by
  intro t ds g e t' ds' g' hr
  rcases elR_inv (show elR (cLoopN k 24 call gm t ds g) badR = .ok e t' ds' g' from hr) with ⟨t1, ds1, g1, h1, h2⟩ | ⟨hne, h1⟩
  · cases (show R.bad 142 = .ok e t' ds' g' from h2)
  · obtain ⟨G1, s1⟩ := loopN_ok h 24 _ _ _ _ _ _ _ h1
    refine ⟨G1, fun σ F a w Q hat hf => lp_loop (s1 σ F a w Q _ hat fun σ1 a1 w1 st e1 d1 n1 => ?_)⟩
    have := hf σ1 a1 w1 st e1 d1 n1
    cases e with
    | nrm => exact absurd rfl hne
    | ext i => exact this
    | ret => exact this
/-- where an operation writes: within the function's temporaries -/
def dstO (N : Nat) (o : Oper) : Bool := match o.dst with
  | some d => Nat.blt d N
  | none => true
noncomputable def dstB (N : Nat) : Code → Bool
  | .region _ ops draw => ops.toList.all (dstO N) && (!draw || drawB ops.toList)
  | .seq a b => dstB N a && dstB N b
  | .cond _ a b => dstB N a && dstB N b
  | .block _ a => dstB N a
  | .loop a => dstB N a
  | .scope a => dstB N a
  | _ => true
theorem dstO_all {ops : List Oper} (h : ops.all (dstO N) = true) : ∀ o ∈ ops, ∀ d, o.dst = some d → d < N := by
  intro o ho d hd
  have := List.all_eq_true.1 h o ho
  unfold dstO at this
  rw [hd] at this
  exact Nat.le_of_ble_eq_true (show Nat.ble (d + 1) N = true from this)
theorem region_ok (hρ : Opq ρ) (hc : CallOk ρ call) {id : Nat} {ops : Array Oper} (hd : dstB N (.region id ops false) = true) : KSim ρ N gm call (.region id ops false) (cRegion id ops false) := by
  intro t ds g e t' ds' g' hr
  obtain ⟨rfl, G1, s1⟩ := regR_ok hρ hc (dstO_all (Bool.and_eq_true_iff.1 hd).1) ops.toList 0 rfl _ _ _ _ _ _ _ (show regR ops.toList ops.toList call ⟨gm, .e, t⟩ ds g = .ok e t' ds' g' from hr)
  refine ⟨G1, fun σ F a w Q hat hf => wp_region ?_⟩
  have := s1 σ F a w Q hat.pre hat.env hat.dr hat.size hf
  rw [List.range_eq_range']
  simpa using this
def DrawOk (ρ : Rho) (N gm : Nat) (call : Cl) : Prop := ∀ id ops, dstB N (.region id ops true) = true → KSim ρ N gm call (.region id ops true) (cRegion id ops true)
theorem code_ok (hρ : Opq ρ) (hc : CallOk ρ call) (hD : DrawOk ρ N gm call) : ∀ c : Code, dstB N c = true → KSim ρ N gm call c (code c) := by
  intro c
  induction c with
  | skip => intro _; exact skip_ok
  | region id ops draw =>
    intro h
    cases draw with
    | false => exact region_ok hρ hc h
    | true => exact hD id ops h
  | seq a b iha ihb =>
    intro h
    obtain ⟨h1, h2⟩ := Bool.and_eq_true_iff.1 (show (dstB N a && dstB N b) = true from h)
    exact seq_ok (iha h1) (ihb h2)
  | cond x a b iha ihb =>
    intro h
    obtain ⟨h1, h2⟩ := Bool.and_eq_true_iff.1 (show (dstB N a && dstB N b) = true from h)
    exact cond_ok (iha h1) (ihb h2)
  | block id a iha => intro h; exact block_ok (iha h)
  | loop a iha => intro h; exact loop_ok (iha h)
  | rangeFunc f ps a b _ _ => intro _; exact bad_ok
  | exit id => intro _; exact exit_ok
  | scope a iha => intro h; exact scope_ok (iha h)
  | label l => intro _; exact label_ok
  | goto l => intro _; exact bad_ok
  | ret => intro _; exact ret_ok
  | refuse y => intro _; exact bad_ok
end
end Go.Ev
namespace Go.Ev
open Go
set_option maxRecDepth 100000
section
variable {ρ : Rho} {call : Cl} {N gm : Nat} {n : Env} {g g' : G} {v : V}
def res1 (tmps : Array Value) : ResultVar → Sem Value
  | .tmp t => pure (tmps.getD t undef)
  | .cell a t => do loadVar t (← asAddr (tmps.getD a undef))
theorem results_eq (fn : Func) (tmps : Array Value) (w w' : World) (rl : List Value) (h : (fn.results.toList.mapM (res1 tmps)).run PP w = .ok rl w') :
    (results fn tmps).run PP w = .ok (if h : rl.toArray.size = 1 then rl.toArray[0] else .tuple rl.toArray) w' := by
  have e : fn.results.mapM (res1 tmps) = List.toArray <$> fn.results.toList.mapM (res1 tmps) := Array.mapM_eq_mapM_toList
  have e2 : results fn tmps = (do let vs ← fn.results.mapM (res1 tmps); pure (if h : vs.size = 1 then vs[0] else .tuple vs)) := rfl
  rw [e2, e]
  simp [h]
theorem resV_ok : ∀ (rs : List ResultVar) (g : G) (k : List V → G → RO), resV n rs g k = .ok v g' →
    ∃ vs g1, k vs g1 = .ok v g' ∧ Grow g g1 ∧ ∀ σ F w a, Pre ρ σ F g g1 w → EnvR ρ σ n a → ∃ rl, VRs ρ σ vs rl ∧ Step ρ σ F g g1 w σ w ∧ (rs.mapM (res1 a.tmps)).run PP w = .ok rl w := by
  intro rs
  induction rs with
  | nil => intro g k h; exact ⟨[], g, h, .refl _, fun σ F w a hp he => ⟨[], by simp [VRs], .refl hp, rfl⟩⟩
  | cons r rs ih =>
    intro g k h
    cases r with
    | tmp x =>
      obtain ⟨vs, g1, h1, G1, s1⟩ := ih g _ (show resV n rs g (fun vs g => k (evT x n :: vs) g) = .ok v g' from h)
      refine ⟨_, g1, h1, G1, fun σ F w a hp he => ?_⟩
      obtain ⟨rl, v1, st, hr⟩ := s1 σ F w a hp he
      refine ⟨a.tmps.getD x undef :: rl, by simp only [VRs]; exact ⟨_, _, rfl, he x, v1⟩, st, ?_⟩
      rw [List.mapM_cons]
      simp [res1, hr]
    | cell x ty =>
      obtain ⟨b, off, hx, h⟩ := elP_inv (show elP (evT x n) (fun b o => cnd (kn ty) (cnd (agg ty) (loadC b o (siz ty) g fun cs g => resV n rs g fun vs g => k (.g cs :: vs) g)
        (loadW b o g fun v g => resV n rs g fun vs g => k (v :: vs) g)) (.bad 149)) (.bad 150) = .ok v g' from h)
      obtain ⟨hk, h⟩ := cnd_inv h
      cases ha : agg ty with
      | true =>
        rw [ha] at h
        obtain ⟨sz, t, hb, hle, h2⟩ := loadC_inv (show loadC b off (siz ty) g (fun cs g => resV n rs g fun vs g => k (.g cs :: vs) g) = .ok v g' from h)
        obtain ⟨vs, g1, h1, G1, s1⟩ := ih _ _ h2
        have G0 := grow_rd b g
        refine ⟨_, g1, h1, G0.trans G1, fun σ F w a hp he => ?_⟩
        have vx := he x; rw [hx] at vx; simp only [VR] at vx
        obtain ⟨L, hL, vx⟩ := vx
        have hp0 := hp.fst G0 G1
        obtain ⟨xs, hv, hr⟩ := load_agg hp0.rep (hp0.cov b (.inl (rd_in b g))) hb hL hk ha hle
        have st0 := step_rd hp0
        obtain ⟨rl, v1, st, hr2⟩ := s1 σ F w a (hp.snd G0 st0) he
        refine ⟨.agg xs.toArray :: rl, by simp only [VRs, VR]; exact ⟨_, _, rfl, ⟨_, rfl, by simpa using hv⟩, v1⟩, st0.trans hp G0 G1 st, ?_⟩
        rw [List.mapM_cons]
        simp [res1, asAddr, vx, hr, hr2]
      | false =>
        rw [ha] at h
        obtain ⟨sz, t, hb, hle, h2⟩ := loadW_inv (show loadW b off g (fun v g => resV n rs g fun vs g => k (v :: vs) g) = .ok v g' from h)
        obtain ⟨vs, g1, h1, G1, s1⟩ := ih _ _ h2
        have G0 := grow_rd b g
        refine ⟨_, g1, h1, G0.trans G1, fun σ F w a hp he => ?_⟩
        have vx := he x; rw [hx] at vx; simp only [VR] at vx
        obtain ⟨L, hL, vx⟩ := vx
        have hp0 := hp.fst G0 G1
        obtain ⟨y, hv, hr⟩ := load_one hp0.rep (hp0.cov b (.inl (rd_in b g))) hb hL hk ha hle
        have st0 := step_rd hp0
        obtain ⟨rl, v1, st, hr2⟩ := s1 σ F w a (hp.snd G0 st0) he
        refine ⟨y :: rl, by simp only [VRs]; exact ⟨_, _, rfl, hv, v1⟩, st0.trans hp G0 G1 st, ?_⟩
        rw [List.mapM_cons]
        simp [res1, asAddr, vx, hr, hr2]
theorem oneV_ok {σ : Sg} {vs : List V} {rl : List Value} (h : oneV vs g = .ok v g') (hv : VRs ρ σ vs rl) : g' = g ∧ VR ρ σ v (if h : rl.toArray.size = 1 then rl.toArray[0] else .tuple rl.toArray) := by
  have hl := hv.len
  unfold oneV at h
  split at h
  · obtain ⟨rfl, rfl⟩ := ok_inj h
    simp only [VRs] at hv
    obtain ⟨b, t, rfl, h1, rfl⟩ := hv
    exact ⟨rfl, by simpa using h1⟩
  · rename_i hne
    obtain ⟨rfl, rfl⟩ := ok_inj h
    refine ⟨rfl, ?_⟩
    have : ¬ rl.toArray.size = 1 := by
      intro hh
      have h1 : vs.length = 1 := by rw [← hl]; simpa using hh
      obtain ⟨x, rfl⟩ := List.length_eq_one_iff.1 h1
      exact hne x rfl
    rw [dif_neg this]
    simp only [VR]
    exact ⟨_, rfl, by simpa using hv⟩
end
end Go.Ev
namespace Go.Ev
open Go
set_option maxRecDepth 100000
section
variable {P : Program}
theorem leavesD_steps {fn : Func} {tmps : Array Value} {R : Ending → World → Prop} : ∀ (ds : List Deferred) (u : FrameMode) (w : World) (fr : Frame)
    (cs : List Frame), fr.mode = u → fr.defers = ds → fr.tmps = tmps → P.funcs[fr.fn]? = some fn → fr.kind = .deferred → Leaves P fn tmps R ds u w →
    ∃ e w' fr', R e w' ∧ Comes P (lone fr cs w) (lone fr' cs w') e ∧ fr'.kind = .deferred ∧ fr'.going P w' e := by
  intro ds
  induction ds with
  | nil =>
    intro u w fr cs hu hd ht hf hk h
    cases u with
    | run => exact h.elim
    | returning =>
      obtain ⟨v, hr, hR⟩ := h
      exact ⟨.returned v, w, fr, hR, Steps.refl P _, hk, hu, hd, fn, hf, ht ▸ hr⟩
    | panicking chain => exact ⟨.panicked chain, w, fr, h, Steps.refl P _, hk, hu, hd, fn, hf⟩
  | cons d ds ih =>
    intro u w fr cs hu hd ht hf hk h
    obtain ⟨hrun, fv, cap, f, args, htar, hinv, hcall⟩ := h
    have h1 := step_defer (cs := cs) (hu ▸ hrun) hd htar hinv
    obtain ⟨e, u', w', frX, hR, hsteps, hkX, hgo⟩ := hcall { fr with defers := ds } cs hu
    cases e with
    | returned v =>
      have h2 := step_going_returned (c := { { fr with defers := ds } with mode := u' }) (cs := cs) hkX hgo
      obtain ⟨e', w'', fr', hR', hs', hfn', hl'⟩ := ih (settle u') w' { { { fr with defers := ds } with mode := u' } with mode := settle u' } cs rfl rfl ht hf hk hR
      exact ⟨e', w'', fr', hR', Comes.of_steps (.head h1 (Steps.trans hsteps (.one h2))) hs', hfn', hl'⟩
    | panicked chain =>
      have h2 := step_going_panicked (c := { { fr with defers := ds } with mode := u' }) (cs := cs) hgo
      obtain ⟨e', w'', fr', hR', hs', hfn', hl'⟩ := ih (raised u' chain) w' { { { fr with defers := ds } with mode := u' } with mode := raised u' chain } cs rfl rfl ht hf hk hR
      exact ⟨e', w'', fr', hR', Comes.of_steps (.head h1 (Steps.trans hsteps (.one h2))) hs', hfn', hl'⟩
    | outgrown => exact ⟨.outgrown, w', fr, hR, Outgrown.of_steps (.one h1) hsteps, hk, trivial⟩
theorem callsD_of_wp_defers {f : FuncId} {fn : Func} {c : Code} {args : Array Value} {w : World} {u : FrameMode} {R : Ending → World → Prop}
    (hf : P.funcs[f]? = some fn) (hb : fn.body = some c)
    (h : c.wp P (bodyPostD P fn R) { tmps := args ++ Array.replicate (fn.ntmps - args.size) undef, defers := [] } w) : CallsD P f args u w fun e u' w' => u' = u ∧ R e w' := by
  intro c₀ cs hu
  let b : Frame := { (default : Frame) with fn := f, kind := .deferred }
  have henter : Frame.enter P f args .deferred =
      b.at { tmps := args ++ Array.replicate (fn.ntmps - args.size) undef, defers := [] } [.code c] := by
    simp [Frame.enter, Frame.at, hf, hb, b]
  have hc : ({ c₀ with mode := u } : Frame) = c₀ := by subst hu; rfl
  obtain ⟨e, a', w', hq, harr⟩ := h b [] (c₀ :: cs)
  rw [← henter] at harr
  cases e with
  | normal =>
    obtain ⟨e', w'', fr', hR, hs, hfn, hl⟩ := leavesD_steps a'.defers .returning w' { b.at a' [] with mode := .returning } (c₀ :: cs) rfl rfl rfl hf rfl hq
    exact ⟨e', u, w'', fr', ⟨rfl, hR⟩, by rw [hc]; exact Comes.of_steps (Steps.trans harr (.one step_end)) hs, hfn, hl⟩
  | ret =>
    obtain ⟨todo, hs₀⟩ := harr
    obtain ⟨e', w'', fr', hR, hs, hfn, hl⟩ := leavesD_steps a'.defers .returning w' { b.at a' todo with mode := .returning } (c₀ :: cs) rfl rfl rfl hf rfl hq
    exact ⟨e', u, w'', fr', ⟨rfl, hR⟩, by rw [hc]; exact Comes.of_steps hs₀ hs, hfn, hl⟩
  | panic chain =>
    obtain ⟨todo, hs₀⟩ := harr
    obtain ⟨e', w'', fr', hR, hs, hfn, hl⟩ := leavesD_steps a'.defers (.panicking chain) w' { b.at a' todo with mode := .panicking chain } (c₀ :: cs) rfl rfl rfl hf rfl hq
    exact ⟨e', u, w'', fr', ⟨rfl, hR⟩, by rw [hc]; exact Comes.of_steps hs₀ hs, hfn, hl⟩
  | exit id => exact hq.elim
  | goto l => exact hq.elim
  | outgrown => exact ⟨.outgrown, u, w', b, ⟨rfl, hq⟩, harr.resolve_left (by simp [b]), rfl, trivial⟩
end
end Go.Ev
namespace Go.Ev
open Go
set_option maxRecDepth 100000
section
variable {ρ : Rho} {call : Cl} {N gm : Nat} {n : Env} {v : V}
theorem runDs_ok (hc : CallOk ρ call) : ∀ (ds : DS) (g g' : G) (k : G → RO), runDs call ds g k = .ok v g' →
    ∃ g1, k g1 = .ok v g' ∧ Grow g g1 ∧ ∀ (fn : Func) (tmps : Array Value) (R : Ending → World → Prop) σ F w l, Pre ρ σ F g g1 w → DR ρ σ ds l →
      (∀ σ' w', Step ρ σ F g g1 w σ' w' → Leaves PP fn tmps R [] .returning w') → Leaves PP fn tmps R l .returning w := by
  intro ds
  induction ds with
  | nil =>
    intro g g' k h
    refine ⟨g, h, .refl _, fun fn tmps R σ F w l hp hd hk => ?_⟩
    have hd : l = [] := hd
    subst hd
    exact hk σ w (.refl hp)
  | cons d ds ih =>
    intro g g' k h
    obtain ⟨fn0, fs, cs, hf, h1⟩ := elF_inv (show elF d.1 (fun fn fs cs => elRO (@Option.rec _ (fun _ => RO) (call fn (appL fs (appL d.2 cs)) g) (fun _ => .bad 156) (primsOf fn)) (fun _ g => runDs call ds g k)) (.bad 151) = .ok v g' from h)
    obtain ⟨v1, g1, h2, h3⟩ := elRO_inv h1
    cases hpr : primsOf fn0 with
    | some pr => rw [hpr] at h2; exact (bad_ne (show RO.bad 156 = .ok v1 g1 from h2)).elim
    | none =>
      rw [hpr] at h2
      obtain ⟨_, hD⟩ := hc _ _ _ _ _ (show call fn0 (appL fs (appL d.2 cs)) g = .ok v1 g1 from h2)
      obtain ⟨G1, s1⟩ := hD hpr
      obtain ⟨g2, h4, G2, s2⟩ := ih g1 g' k h3
      refine ⟨g2, h4, G1.trans G2, fun fn tmps R σ F w l hp hd hk => ?_⟩
      obtain ⟨e, t, fn', fs', cs', xs, ys, zs, rfl, k2, k3, k4, k5, rfl, k7⟩ := hd
      rw [hf] at k2
      cases k2
      have hA : VRs ρ σ (appL fs (appL d.2 cs)) ((xs ++ zs) ++ ys).toList := by
        rw [appL_eq, appL_eq, ← List.append_assoc, Array.toList_append, Array.toList_append]
        exact (k3.app k5).app k4
      have hp1 := hp.fst G1 G2
      obtain ⟨c1, c2⟩ := s1 σ F w _ hp1 hA
      refine leaves_cons (by simp) c1 (CallsD.mono c2 fun e u' w' he => ?_)
      obtain ⟨rfl, σ1, rv, rfl, st, _⟩ := he
      exact s2 fn tmps R σ1 F w' t (hp.snd G1 st) (DR.mono (st.le hp1) _ _ k7) fun σ2 w2 st2 => hk σ2 w2 (st.trans hp G1 G2 st2)
end
end Go.Ev
namespace Go.Ev
open Go
set_option maxRecDepth 100000
section
variable {ρ : Rho} {call : Cl} {N gm : Nat} {n : Env} {v : V} {g g' : G}
theorem dstO_le {M N : Nat} (h : M ≤ N) {o : Oper} (ho : dstO M o = true) : dstO N o = true := by
  unfold dstO at ho ⊢
  split at ho
  · exact Nat.ble_eq_true_of_le (Nat.le_trans (Nat.le_of_ble_eq_true ho) h)
  · rfl
theorem dstB_le {M N : Nat} (h : M ≤ N) : ∀ c : Code, dstB M c = true → dstB N c = true := by
  intro c
  induction c with
  | region id ops d => intro hc; obtain ⟨h1, h2⟩ := Bool.and_eq_true_iff.1 (show (ops.toList.all (dstO M) && (!d || drawB ops.toList)) = true from hc); exact Bool.and_eq_true_iff.2 ⟨List.all_eq_true.2 fun o ho => dstO_le h (List.all_eq_true.1 h1 o ho), h2⟩
  | seq a b iha ihb => intro hc; obtain ⟨h1, h2⟩ := Bool.and_eq_true_iff.1 (show (dstB M a && dstB M b) = true from hc); exact Bool.and_eq_true_iff.2 ⟨iha h1, ihb h2⟩
  | cond x a b iha ihb => intro hc; obtain ⟨h1, h2⟩ := Bool.and_eq_true_iff.1 (show (dstB M a && dstB M b) = true from hc); exact Bool.and_eq_true_iff.2 ⟨iha h1, ihb h2⟩
  | block id a iha => intro hc; exact iha hc
  | loop a iha => intro hc; exact iha hc
  | scope a iha => intro hc; exact iha hc
  | _ => intro _; rfl
theorem env0 {σ : Sg} {aa : List V} {A : Array Value} (h : VRs ρ σ aa A.toList) (m : Nat) (ds : List Deferred) : EnvR ρ σ ⟨gm, .e, ptOf aa 0 .e⟩ { tmps := A ++ Array.replicate m undef, defers := ds } := by
  intro i
  show VR ρ σ (@Bool.rec (fun _ => V) (getL .e i) (getT (ptOf aa 0 .e) i) (Nat.testBit gm i)) _
  cases hb : gm.testBit i with
  | false => show VR ρ σ .u _; simp only [VR]
  | true =>
    show VR ρ σ (getT (ptOf aa 0 .e) i) _
    rw [ptOf_get]
    have hl := h.len
    by_cases hi : i < aa.length
    · rw [if_pos ⟨Nat.zero_le _, by omega⟩]
      obtain ⟨x, hx, vx⟩ := h.get i hi
      have : (A ++ Array.replicate m undef).getD i undef = x := by
        rw [Array.getElem?_toList] at hx
        rw [Array.getD_eq_getD_getElem?, Array.getElem?_append_left (by rw [← Array.length_toList, hl]; exact hi), hx]; rfl
      show VR ρ σ _ ((A ++ Array.replicate m undef).getD i undef)
      rw [this]; exact vx
    · rw [if_neg (by omega)]
      show VR ρ σ .u _; simp only [VR]
/-- a function's body -/
theorem body_ok (hρ : Opq ρ) (hc : CallOk ρ call) (hD : ∀ N gm, DrawOk ρ N gm call) {fn : Func} {c : Code} {aa : List V} (hb : fn.body = some c) (hd : dstB fn.ntmps c = true)
    (h : bodyE call gm fn aa g = .ok v g') : Grow g g' ∧ ∀ σ F w A, Pre ρ σ F g g' w → VRs ρ σ aa (A : Array Value).toList →
      c.wp PP (bodyPostD PP fn (Ends ρ σ F g g' w v)) { tmps := A ++ Array.replicate (fn.ntmps - A.size) undef, defers := [] } w := by
  unfold bodyE at h
  rw [hb] at h
  have h : endR fn.results.toList call gm (code c call gm (ptOf aa 0 .e) [] g) = .ok v g' := h
  cases hcd : code c call gm (ptOf aa 0 .e) [] g with
  | bad w => rw [hcd] at h; cases h
  | ok e t1 ds1 g1 =>
    rw [hcd] at h
    have hx : (e = .nrm ∨ e = .ret) ∧ outF fn.results.toList call ⟨gm, .e, t1⟩ ds1 g1 = .ok v g' := by
      cases e with
      | nrm => exact ⟨.inl rfl, h⟩
      | ret => exact ⟨.inr rfl, h⟩
      | ext i => exact (bad_ne (show RO.bad 153 = .ok v g' from h)).elim
    obtain ⟨he, h⟩ := hx
    obtain ⟨g2, h2, G2, s2⟩ := runDs_ok (ρ := ρ) hc ds1 g1 g' _ (show runDs call ds1 g1 (fun g => resV ⟨gm, .e, t1⟩ fn.results.toList g oneV) = .ok v g' from h)
    obtain ⟨vs, g3, h3, G3, s3⟩ := resV_ok (ρ := ρ) _ _ _ h2
    have G1 : Grow g g1 := (code_ok hρ hc (hD fn.ntmps gm) c hd _ _ _ _ _ _ _ hcd).1
    have hg3 : g' = g3 := by
      have : ∃ x, v = x := ⟨v, rfl⟩
      unfold oneV at h3
      split at h3 <;> exact (ok_inj h3).2.symm
    subst hg3
    refine ⟨G1.trans (G2.trans G3), fun σ F w A hp hA => ?_⟩
    have hsz : fn.ntmps ≤ A.size + (fn.ntmps - A.size) := by omega
    obtain ⟨_, s1⟩ := code_ok (N := A.size + (fn.ntmps - A.size)) hρ hc (hD _ gm) c (dstB_le hsz c hd) _ _ _ _ _ _ _ hcd
    refine s1 σ F _ w _ ⟨hp.fst G1 (G2.trans G3), env0 hA _ _, rfl, by simp⟩ fun σ1 a1 w1 st1 e1 d1 n1 => ?_
    have hp1 := hp.snd G1 st1
    have key : Leaves PP fn a1.tmps (Ends ρ σ F g g' w v) a1.defers .returning w1 := by
      refine s2 fn a1.tmps _ σ1 F w1 a1.defers (hp1.fst G2 G3) d1 fun σ2 w2 st2 => ?_
      have hp2 := hp1.snd G2 st2
      obtain ⟨rl, v1, st3, hr⟩ := s3 σ2 F w2 a1 hp2 (e1.mono (st2.le (hp1.fst G2 G3)))
      obtain ⟨_, vv⟩ := oneV_ok h3 v1
      exact ⟨_, results_eq fn a1.tmps w2 w2 rl hr, σ2, _, rfl, st1.trans hp G1 (G2.trans G3) (st2.trans hp1 G2 G3 st3), vv⟩
    rcases he with rfl | rfl
    · exact key
    · exact key
end
end Go.Ev
namespace Go.Ev
open Go
set_option maxRecDepth 100000
section
variable {ρ : Rho}
/-- the primitives answer as the program does -/
def PrimsOk (ρ : Rho) : Prop := ∀ f pr call, primsOf f = some pr → CallOk ρ call → ∀ aa g v g', pr call aa g = .ok v g' → CSim ρ f aa g v g'
/-- what is asked of the program's functions -/
def ProgOk : Prop := ∀ (f : Nat) (fn : Func) (c : Code), PP.funcs[f]? = some fn → fn.body = some c → dstB fn.ntmps c = true ∧ (fn.name == "runtime.NumGoroutine") = false
theorem bodyAt_ok (hρ : Opq ρ) (hG : ProgOk) (hD : ∀ call, CallOk ρ call → ∀ N gm, DrawOk ρ N gm call) {call : Cl} (ih : CallOk ρ call) {f : Nat} {aa : List V} {g g' : G} {v : V} (h : bodyAt call f aa g = .ok v g') : CSim ρ f aa g v g' ∧ DSim ρ f aa g v g' := by
  have h : @Option.rec Func (fun _ => RO) (.bad 155) (fun fn => bodyE call (gmOf f) fn aa g) (fnAt f) = .ok v g' := h
  cases hfn : fnAt f with
  | none => rw [hfn] at h; exact (bad_ne (show RO.bad 155 = .ok v g' from h)).elim
  | some fn =>
    rw [hfn] at h
    have h : bodyE call (gmOf f) fn aa g = .ok v g' := h
    have hf : PP.funcs[f]? = some fn := by rw [← Array.getElem?_toList]; exact hfn
    cases hb : fn.body with
    | none => unfold bodyE at h; rw [hb] at h; exact (bad_ne (show RO.bad 152 = .ok v g' from h)).elim
    | some c =>
      obtain ⟨hd, hn⟩ := hG f fn c hf hb
      obtain ⟨G1, s1⟩ := body_ok (ρ := ρ) hρ ih (hD _ ih) hb hd h
      have hcf : ∀ A w, (callFunc f A).run PP w = .ok (.enter f A) w := fun A w => Go.MuLone.run_callFunc_enter hf hn hb A w
      exact ⟨⟨G1, fun σ F w A hp hA => .inr ⟨hcf A w, calls_of_wp_defers hf hb (s1 σ F w A hp hA)⟩⟩,
        ⟨G1, fun σ F w A hp hA => ⟨hcf A w, callsD_of_wp_defers hf hb (s1 σ F w A hp hA)⟩⟩⟩
theorem callE_ok (hρ : Opq ρ) (hP : PrimsOk ρ) (hG : ProgOk) (hD : ∀ call, CallOk ρ call → ∀ N gm, DrawOk ρ N gm call) : ∀ m, CallOk ρ (callE m) := by
  intro m
  induction m with
  | zero => intro f aa g v g' h; exact (bad_ne (show RO.bad 154 = .ok v g' from h)).elim
  | succ m ih =>
    intro f aa g v g' h
    have h : @Option.rec _ (fun _ => RO) (bodyAt (callE m) f aa g) (fun pr => orE (pr (callE m) aa g) (bodyAt (callE m) f aa g)) (primsOf f) = .ok v g' := h
    cases hpr : primsOf f with
    | some pr =>
      rw [hpr] at h
      have h : orE (pr (callE m) aa g) (bodyAt (callE m) f aa g) = .ok v g' := h
      cases hx : pr (callE m) aa g with
      | ok v1 g1 =>
        rw [hx] at h
        obtain ⟨rfl, rfl⟩ := ok_inj (show RO.ok v1 g1 = .ok v g' from h)
        exact ⟨hP f pr _ hpr ih aa g _ _ hx, fun hh => by cases hh⟩
      | bad k =>
        rw [hx] at h
        obtain ⟨h1, _⟩ := bodyAt_ok hρ hG hD ih (show bodyAt (callE m) f aa g = .ok v g' from h)
        exact ⟨h1, fun hh => by cases hh⟩
      | df a b c => rw [hx] at h; exact (bad_ne (show RO.bad 158 = .ok v g' from h)).elim
    | none =>
      rw [hpr] at h
      obtain ⟨h1, h2⟩ := bodyAt_ok hρ hG hD ih (show bodyAt (callE m) f aa g = .ok v g' from h)
      exact ⟨h1, fun _ => h2⟩
end
end Go.Ev
namespace Go.Ev
open Go
set_option maxRecDepth 100000
section
variable {ρ : Rho} {call : Cl} {g : G} {n n' : Env}
theorem evs_congr : ∀ (l : List Operand), (∀ x ∈ l, ev x n = ev x n') → evs l n = evs l n'
  | [], _ => rfl
  | a :: l, h => by show ev a n :: evs l n = ev a n' :: evs l n'; rw [h a (by simp), evs_congr l fun x hx => h x (by simp [hx])]
theorem fill_congr (pl : Nat → Option (Nat × Nat)) : ∀ (ps : List (Nat × Operand)) (cs : List V), (∀ p ∈ ps, ev p.2 n = ev p.2 n') → fillL pl n ps cs = fillL pl n' ps cs
  | [], _, _ => by simp only [fillL]
  | (i, x) :: ps, cs, h => by
    have e : ev x n = ev x n' := h (i, x) (by simp)
    have ih : ∀ cs, fillL pl n ps cs = fillL pl n' ps cs := fun cs => fill_congr pl ps cs fun p hp => h p (by simp [hp])
    simp only [fillL, e, ih]
theorem bnd_congr {x : Option Operand} (h : ∀ y, x = some y → ev y n = ev y n') (a b : Nat) (k : Nat → RO) : bnd x n a b k = bnd x n' a b k := by
  cases x with
  | none => rfl
  | some y => simp only [bnd, h y rfl]
theorem disp_congr {p : Op} (h : ∀ x ∈ p.operands, ev x n = ev x n') : disp p call n g = disp p call n' g := by
  cases p with
  | move x => show xMove x call n g = xMove x call n' g; unfold xMove; rw [h x (by simp [Op.operands])]
  | assign x => show xMove x call n g = xMove x call n' g; unfold xMove; rw [h x (by simp [Op.operands])]
  | pick c a b => show xPick c a b call n g = xPick c a b call n' g; unfold xPick; rw [h c (by simp [Op.operands]), h a (by simp [Op.operands]), h b (by simp [Op.operands])]
  | box e x => show xBox e x call n g = xBox e x call n' g; unfold xBox; rw [h x (by simp [Op.operands])]
  | load e x => show xLoad e x call n g = xLoad e x call n' g; unfold xLoad; rw [h x (by simp [Op.operands])]
  | store e x y => show xStore e x y call n g = xStore e x y call n' g; unfold xStore; rw [h x (by simp [Op.operands]), h y (by simp [Op.operands])]
  | nilCheck x => show xNil x call n g = xNil x call n' g; unfold xNil; rw [h x (by simp [Op.operands])]
  | binOp op t x y t2 => show xBin op t x y t2 call n g = xBin op t x y t2 call n' g; unfold xBin; rw [h x (by simp [Op.operands]), h y (by simp [Op.operands])]
  | unOp op t x => show xUn op t x call n g = xUn op t x call n' g; unfold xUn; rw [h x (by simp [Op.operands])]
  | convert s d x => show xConv s d x call n g = xConv s d x call n' g; unfold xConv; rw [h x (by simp [Op.operands])]
  | build t ps =>
    show xBuild t ps call n g = xBuild t ps call n' g
    have e : ∀ pl cs, fillL pl n ps.toList cs = fillL pl n' ps.toList cs := fun pl cs => fill_congr pl ps.toList cs (fun p hp => h p.2 (by simp [Op.operands]; exact ⟨p.1, by simpa using hp⟩))
    unfold xBuild; split <;> simp only [e]
  | buildSlice t l ps =>
    show xBuildSlice t l ps call n g = xBuildSlice t l ps call n' g
    have e : ∀ pl cs, fillL pl n ps.toList cs = fillL pl n' ps.toList cs := fun pl cs => fill_congr pl ps.toList cs (fun p hp => h p.2 (by simp [Op.operands]; exact ⟨p.1, by simpa using hp⟩))
    unfold xBuildSlice; split <;> simp only [e]
  | makeFunc f fs cs => show xFunc f fs cs call n g = xFunc f fs cs call n' g; simp only [xFunc, evs_congr fs.toList (fun x hx => h x (by simp [Op.operands]; exact .inl (by simpa using hx))), evs_congr cs.toList (fun x hx => h x (by simp [Op.operands]; exact .inr (by simpa using hx)))]
  | makeSlice t x y => show xMakeSlice t x y call n g = xMakeSlice t x y call n' g; unfold xMakeSlice; rw [h x (by simp [Op.operands]), h y (by simp [Op.operands])]
  | fieldAddr s x f => show xFieldAddr s x f call n g = xFieldAddr s x f call n' g; unfold xFieldAddr; rw [h x (by simp [Op.operands])]
  | field s x f => show xField s x f call n g = xField s x f call n' g; unfold xField; rw [h x (by simp [Op.operands])]
  | indexAddr t x y => show xIndexAddr t x y call n g = xIndexAddr t x y call n' g; unfold xIndexAddr; rw [h x (by simp [Op.operands]), h y (by simp [Op.operands])]
  | index t x y => show xIndex t x y call n g = xIndex t x y call n' g; unfold xIndex; rw [h x (by simp [Op.operands]), h y (by simp [Op.operands])]
  | lookup t x y ok => show xLookup t x y ok call n g = xLookup t x y ok call n' g; unfold xLookup; rw [h x (by simp [Op.operands]), h y (by simp [Op.operands])]
  | mapUpdate t x y z => show xMapSet t x y z call n g = xMapSet t x y z call n' g; unfold xMapSet; rw [h x (by simp [Op.operands]), h y (by simp [Op.operands]), h z (by simp [Op.operands])]
  | insert t x y z => show xMapSet t x y z call n g = xMapSet t x y z call n' g; unfold xMapSet; rw [h x (by simp [Op.operands]), h y (by simp [Op.operands]), h z (by simp [Op.operands])]
  | extract x i => show xExtract x i call n g = xExtract x i call n' g; unfold xExtract; rw [h x (by simp [Op.operands])]
  | slice t x lo hi mx =>
    have e : ev x n = ev x n' := h x (by simp [Op.operands])
    have e1 : ∀ a b k, bnd lo n a b k = bnd lo n' a b k := fun a b k => bnd_congr (fun y hy => h y (by simp [Op.operands, hy])) a b k
    have e2 : ∀ a b k, bnd hi n a b k = bnd hi n' a b k := fun a b k => bnd_congr (fun y hy => h y (by simp [Op.operands, hy])) a b k
    have e3 : ∀ a b k, bnd mx n a b k = bnd mx n' a b k := fun a b k => bnd_congr (fun y hy => h y (by simp [Op.operands, hy])) a b k
    show xSlice t x lo hi mx call n g = xSlice t x lo hi mx call n' g
    unfold xSlice
    rw [e]
    generalize ev x n' = z
    generalize und t = d
    cases d <;> cases z <;> cases mx <;> cases hi <;> first | rfl | (dsimp only; simp only [e1, e2, e3])
  | call k =>
    obtain ⟨cal, ar, ats⟩ := k
    have ea : evs ar.toList n = evs ar.toList n' := evs_congr _ fun x hx => h x (by
      cases cal <;> simp [Op.operands, Call.operands] <;> (try right) <;> simpa using hx)
    cases cal with
    | value f =>
      have ef : ev f n = ev f n' := h f (by simp [Op.operands, Call.operands])
      show elF (ev f n) (fun fn fs cs => call fn (appL fs (appL (evs ar.toList n) cs)) g) (.bad 121) = elF (ev f n') (fun fn fs cs => call fn (appL fs (appL (evs ar.toList n') cs)) g) (.bad 121)
      rw [ef, ea]
    | invoke r m => rfl
    | builtin b =>
      show xBuiltin b ats.toList (evs ar.toList n) g = xBuiltin b ats.toList (evs ar.toList n') g
      rw [ea]
  | defer k =>
    obtain ⟨cal, ar, ats⟩ := k
    have ea : evs ar.toList n = evs ar.toList n' := evs_congr _ fun x hx => h x (by
      cases cal <;> simp [Op.operands, Call.operands] <;> (try right) <;> simpa using hx)
    cases cal with
    | value f =>
      have ef : ev f n = ev f n' := h f (by simp [Op.operands, Call.operands])
      show elF (ev f n) (fun fn fs cs => RO.df (.f fn fs cs) (evs ar.toList n) g) (.bad 123) = elF (ev f n') (fun fn fs cs => RO.df (.f fn fs cs) (evs ar.toList n') g) (.bad 123)
      rw [ef, ea]
    | invoke r m => rfl
    | builtin b => rfl
  | _ => rfl
end
end Go.Ev
namespace Go.Ev
open Go
set_option maxRecDepth 100000
section
variable {call : Cl}
/-- a state of a run in the text's order: v r w are the last operation's -/
structure St where
  n : Env
  h : PT O
  nx : Nat
  v : V
  r : Nat
  w : Nat
def okLg (m r w : Nat) (l : Lg) : Prop := m.testBit l.i = true ∨ ∀ b, (w.testBit b = true → l.r.testBit b = false ∧ l.w.testBit b = false) ∧ (r.testBit b = true → l.w.testBit b = false)
theorem freeOf_inv {m r w : Nat} : ∀ {ls : List Lg}, freeOf m r w ls = true → ∀ l ∈ ls, okLg m r w l := by
  intro ls
  induction ls with
  | nil => intro _ l hl; cases hl
  | cons a ls ih =>
    intro h
    have h : @Bool.rec (fun _ => Bool) false (freeOf m r w ls) (orB (Nat.beq (Nat.lor (Nat.land w (Nat.lor a.r a.w)) (Nat.land r a.w)) 0) (Nat.testBit m a.i)) = true := h
    cases hb : orB (Nat.beq (Nat.lor (Nat.land w (Nat.lor a.r a.w)) (Nat.land r a.w)) 0) (Nat.testBit m a.i) with
    | false => rw [hb] at h; cases h
    | true =>
      rw [hb] at h
      intro l hl
      rcases List.mem_cons.1 hl with rfl | hl
      · have hb : @Bool.rec (fun _ => Bool) (Nat.testBit m l.i) true (Nat.beq (Nat.lor (Nat.land w (Nat.lor l.r l.w)) (Nat.land r l.w)) 0) = true := hb
        cases hz : Nat.beq (Nat.lor (Nat.land w (Nat.lor l.r l.w)) (Nat.land r l.w)) 0 with
        | false => rw [hz] at hb; exact .inl hb
        | true =>
          refine .inr fun b => ?_
          have hz : (w &&& (l.r ||| l.w)) ||| (r &&& l.w) = 0 := Nat.eq_of_beq_eq_true hz
          have hz := congrArg (Nat.testBit · b) hz
          simp only [Nat.testBit_or, Nat.testBit_and, Nat.zero_testBit, Bool.or_eq_false_iff, Bool.and_eq_false_iff] at hz
          refine ⟨fun e => ?_, fun e => ?_⟩
          · rcases hz.1 with q | q
            · rw [e] at q; cases q
            · exact q
          · rcases hz.2 with q | q
            · rw [e] at q; cases q
            · exact q
      · exact ih h l hl
theorem okLg_zero {m r w j : Nat} : okLg m r w ⟨j, 0, 0⟩ := .inr fun b => ⟨fun _ => ⟨Nat.zero_testBit b, Nat.zero_testBit b⟩, fun _ => Nat.zero_testBit b⟩
theorem addLg_eq (i r w : Nat) (ls : List Lg) : addLg i r w ls = if r = 0 ∧ w = 0 then ls else ⟨i, r, w⟩ :: ls := by
  show @Bool.rec (fun _ => List Lg) (⟨i, r, w⟩ :: ls) ls (Nat.beq (Nat.lor r w) 0) = _
  by_cases h : r = 0 ∧ w = 0
  · obtain ⟨rfl, rfl⟩ := h; rfl
  · rw [if_neg h]
    have : Nat.beq (Nat.lor r w) 0 = false := by
      cases hq : Nat.beq (Nat.lor r w) 0 with
      | false => rfl
      | true =>
        have hq : r ||| w = 0 := Nat.eq_of_beq_eq_true hq
        exact absurd (Nat.or_eq_zero_iff.1 hq) h
    rw [this]
theorem unionR_tb : ∀ (ls : List Lg) (a b : Nat), (unionR ls a).testBit b = true ↔ a.testBit b = true ∨ ∃ l ∈ ls, l.r.testBit b = true := by
  intro ls
  induction ls with
  | nil => intro a b; show a.testBit b = true ↔ _; simp
  | cons l ls ih =>
    intro a b
    show (unionR ls (Nat.lor a l.r)).testBit b = true ↔ _
    rw [ih, show Nat.lor a l.r = a ||| l.r from rfl, Nat.testBit_or]
    simp [or_assoc]
theorem unionW_tb : ∀ (ls : List Lg) (a b : Nat), (unionW ls a).testBit b = true ↔ a.testBit b = true ∨ ∃ l ∈ ls, l.w.testBit b = true := by
  intro ls
  induction ls with
  | nil => intro a b; show a.testBit b = true ↔ _; simp
  | cons l ls ih =>
    intro a b
    show (unionW ls (Nat.lor a l.w)).testBit b = true ↔ _
    rw [ih, show Nat.lor a l.w = a ||| l.w from rfl, Nat.testBit_or]
    simp [or_assoc]
theorem addLg_ex (i r w : Nat) (ls : List Lg) (f : Lg → Nat) (hf : f ⟨i, 0, 0⟩ = 0) (b : Nat) :
    (∃ l ∈ addLg i r w ls, (f l).testBit b = true) ↔ (f ⟨i, r, w⟩).testBit b = true ∨ ∃ l ∈ ls, (f l).testBit b = true := by
  rw [addLg_eq]
  split
  · rename_i h
    obtain ⟨rfl, rfl⟩ := h
    simp [hf]
  · simp
theorem addLg_all {i r w : Nat} {ls : List Lg} {m r' w' : Nat} (h : ∀ l ∈ addLg i r w ls, okLg m r' w' l) : okLg m r' w' ⟨i, r, w⟩ ∧ ∀ l ∈ ls, okLg m r' w' l := by
  rw [addLg_eq] at h
  split at h
  · rename_i h0
    obtain ⟨rfl, rfl⟩ := h0
    exact ⟨okLg_zero, h⟩
  · exact ⟨h _ (by simp), fun l hl => h l (by simp [hl])⟩
def Tr (ops : Array Oper) (call : Cl) (s : Nat → St) (k : Nat) : Prop := ∃ o on x, ops[k]? = some o ∧
  xOp1 ops.toList o call (s k).n ⟨(s k).h, (s k).nx, true, 0, 0⟩ = .ok (s (k + 1)).v ⟨(s (k + 1)).h, (s (k + 1)).nx, on, (s (k + 1)).r, x⟩ ∧
  (s (k + 1)).w = x ||| (1 <<< (s (k + 1)).nx - 1 <<< (s k).nx) ∧ (s (k + 1)).n = putN o.dst (s (k + 1)).v (s k).n
structure DrawInv (ops : Array Oper) (call : Cl) (i : Nat) (ms : List Nat) (ls : List Lg) (on : Bool) (r0 w0 : Nat) (ds : DS) (e : Ex) (t' : PT V) (ds' : DS) (g' : G) (s : Nat → St) : Prop where
  fe : e = .nrm
  fds : ds' = ds
  ft : t' = (s ops.size).n.t
  tr : ∀ k, i ≤ k → k < ops.size → Tr ops call s k
  old : ∀ k, i ≤ k → k < ops.size → ∀ L ∈ ls, okLg (ms.getD (k - i) 0) (s (k + 1)).r (s (k + 1)).w L
  new : ∀ j k, i ≤ j → j < k → k < ops.size → okLg (ms.getD (k - i) 0) (s (k + 1)).r (s (k + 1)).w ⟨j, (s (j + 1)).r, (s (j + 1)).w⟩
  gh : g'.h = (s ops.size).h
  gnx : g'.nx = (s ops.size).nx
  gon : g'.on = on
  off : on = false → g'.r = r0 ∧ g'.w = w0
  gr : on = true → ∀ b, g'.r.testBit b = true ↔ r0.testBit b = true ∨ (∃ L ∈ ls, L.r.testBit b = true) ∨ ∃ k, i ≤ k ∧ k < ops.size ∧ (s (k + 1)).r.testBit b = true
  gw : on = true → ∀ b, g'.w.testBit b = true ↔ w0.testBit b = true ∨ (∃ L ∈ ls, L.w.testBit b = true) ∨ ∃ k, i ≤ k ∧ k < ops.size ∧ (s (k + 1)).w.testBit b = true
theorem drawR_inv {ops : Array Oper} {on : Bool} {r0 w0 : Nat} {ds : DS} {e : Ex} {t' : PT V} {ds' : DS} {g' : G} :
    ∀ (l : List Oper) (i : Nat), ops.toList.drop i = l → i ≤ ops.size → ∀ ms ls n h nx r1 w1 (st : St), st.n = n → st.h = h → st.nx = nx →
      drawR ops.toList l ms i ls on r0 w0 call n ds ⟨h, nx, true, r1, w1⟩ = .ok e t' ds' g' → ∃ s, s i = st ∧ DrawInv ops call i ms ls on r0 w0 ds e t' ds' g' s := by
  intro l
  induction l with
  | nil =>
    intro i hl hi ms ls n h nx r1 w1 st e1 e2 e3 hr
    have hsz : ops.size = i := by
      have := congrArg List.length hl
      simp at this; omega
    subst e1 e2 e3
    have hr : @Bool.rec (fun _ => R) (endE st.n ds ⟨st.h, st.nx, false, r0, w0⟩) (fcR (unionR ls r0) fun r => fcR (unionW ls w0) fun w => endE st.n ds ⟨st.h, st.nx, true, r, w⟩) on = .ok e t' ds' g' := hr
    refine ⟨fun _ => st, rfl, ?_⟩
    have hend : ∀ g, endE st.n ds g = .ok .nrm st.n.t ds g := fun g => by obtain ⟨⟨gm, lv, t⟩, _, _, _, _, _⟩ := st; rfl
    cases on with
    | false =>
      have hr : endE st.n ds ⟨st.h, st.nx, false, r0, w0⟩ = .ok e t' ds' g' := hr
      rw [hend] at hr
      cases hr
      exact ⟨rfl, rfl, rfl, fun k _ _ => by omega, fun k _ _ => by omega, fun j k _ _ _ => by omega, rfl, rfl, rfl, fun _ => ⟨rfl, rfl⟩, fun e => (by cases e), fun e => (by cases e)⟩
    | true =>
      have hr : (fcR (unionR ls r0) fun r => fcR (unionW ls w0) fun w => endE st.n ds ⟨st.h, st.nx, true, r, w⟩) = .ok e t' ds' g' := hr
      rw [fcR_eq, fcR_eq, hend] at hr
      cases hr
      refine ⟨rfl, rfl, rfl, fun k _ _ => by omega, fun k _ _ => by omega, fun j k _ _ _ => by omega, rfl, rfl, rfl, fun e => (by cases e), fun _ b => ?_, fun _ b => ?_⟩
      · rw [show (unionR ls r0).testBit b = true ↔ _ from unionR_tb ls r0 b]
        refine or_congr_right ⟨.inl, fun q => q.elim id fun ⟨k, _, _, _⟩ => by omega⟩
      · rw [show (unionW ls w0).testBit b = true ↔ _ from unionW_tb ls w0 b]
        refine or_congr_right ⟨.inl, fun q => q.elim id fun ⟨k, _, _, _⟩ => by omega⟩
  | cons o l ih =>
    intro i hl hi ms ls n h nx r1 w1 st e1 e2 e3 hr
    have hil : i < ops.size := by
      have := congrArg List.length hl
      simp at this; omega
    have hio : ops[i]? = some o := by
      rw [← Array.getElem?_toList]
      have := congrArg (·[0]?) hl
      simpa using this
    have hl' : ops.toList.drop (i + 1) = l := by rw [← List.drop_drop, hl]; rfl
    subst e1 e2 e3
    have hr : elRR (xOp1 ops.toList o call st.n ⟨st.h, st.nx, true, 0, 0⟩) (fun v g' => @G.rec (fun _ => R) (fun h' nx' _ r' w' =>
      fcR (Nat.lor w' (Nat.sub (Nat.shiftLeft 1 nx') (Nat.shiftLeft 1 st.nx))) fun w' =>
        @Bool.rec (fun _ => R) (.bad 140) (putE o.dst v st.n fun t => drawR ops.toList l ms.tail (Nat.succ i) (addLg i r' w' ls) on r0 w0 call t ds ⟨h', nx', true, r', w'⟩) (freeOf (hdN ms) r' w' ls)) g')
      (fun _ _ _ => .bad 141) = .ok e t' ds' g' := hr
    cases hx : xOp1 ops.toList o call st.n ⟨st.h, st.nx, true, 0, 0⟩ with
    | bad w => rw [hx] at hr; cases (show R.bad w = .ok e t' ds' g' from hr)
    | df f aa g1 => rw [hx] at hr; cases (show R.bad 141 = .ok e t' ds' g' from hr)
    | ok v g1 =>
      obtain ⟨h', nx', on', r', x⟩ := g1
      rw [hx] at hr
      have hr : (fcR (Nat.lor x (Nat.sub (Nat.shiftLeft 1 nx') (Nat.shiftLeft 1 st.nx))) fun w' =>
        @Bool.rec (fun _ => R) (.bad 140) (putE o.dst v st.n fun t => drawR ops.toList l ms.tail (Nat.succ i) (addLg i r' w' ls) on r0 w0 call t ds ⟨h', nx', true, r', w'⟩) (freeOf (hdN ms) r' w' ls)) = .ok e t' ds' g' := hr
      rw [fcR_eq] at hr
      have hw' : Nat.lor x (Nat.sub (Nat.shiftLeft 1 nx') (Nat.shiftLeft 1 st.nx)) = x ||| (1 <<< nx' - 1 <<< st.nx) := rfl
      generalize Nat.lor x (Nat.sub (Nat.shiftLeft 1 nx') (Nat.shiftLeft 1 st.nx)) = w' at hr hw'
      cases hf : freeOf (hdN ms) r' w' ls with
      | false => rw [hf] at hr; cases hr
      | true =>
        rw [hf] at hr
        have hr : (putE o.dst v st.n fun t => drawR ops.toList l ms.tail (Nat.succ i) (addLg i r' w' ls) on r0 w0 call t ds ⟨h', nx', true, r', w'⟩) = .ok e t' ds' g' := hr
        rw [putE_eq] at hr
        obtain ⟨s', hs1, I⟩ := ih (i + 1) hl' hil ms.tail (addLg i r' w' ls) _ h' nx' r' w' ⟨putN o.dst v st.n, h', nx', v, r', w'⟩ rfl rfl rfl hr
        have hm : ∀ k, i + 1 ≤ k → ms.tail.getD (k - (i + 1)) 0 = ms.getD (k - i) 0 := fun k hk => by
          cases ms with
          | nil => simp
          | cons m ms => rw [show k - i = (k - (i + 1)) + 1 by omega]; rfl
        have hm0 : hdN ms = ms.getD 0 0 := by cases ms <;> rfl
        let s : Nat → St := fun k => if k ≤ i then st else s' k
        have hs0 : s i = st := by show (if i ≤ i then st else s' i) = st; rw [if_pos (Nat.le_refl i)]
        have hs : ∀ k, i + 1 ≤ k → s k = s' k := fun k hk => by show (if k ≤ i then st else s' k) = s' k; rw [if_neg (by omega)]
        have hsi : s (i + 1) = ⟨putN o.dst v st.n, h', nx', v, r', w'⟩ := (hs _ (Nat.le_refl _)).trans hs1
        have hsz : s ops.size = s' ops.size := hs _ hil
        clear_value s
        refine ⟨s, hs0, I.fe, I.fds, by rw [hsz]; exact I.ft, fun k h1 h2 => ?_, fun k h1 h2 L hL => ?_, fun j k h1 h2 h3 => ?_, by rw [hsz]; exact I.gh, by rw [hsz]; exact I.gnx, I.gon, I.off, fun ho b => ?_, fun ho b => ?_⟩
        · by_cases hk : k = i
          · subst hk
            exact ⟨o, on', x, hio, by rw [hs0, hsi]; exact hx, by rw [hs0, hsi]; exact hw', by rw [hs0, hsi]⟩
          · have := I.tr k (by omega) h2
            unfold Tr at this ⊢
            rw [hs k (by omega), hs (k + 1) (by omega)]
            exact this
        · by_cases hk : k = i
          · subst hk
            rw [hsi, Nat.sub_self, ← hm0]
            exact freeOf_inv hf L hL
          · have := (addLg_all (I.old k (by omega) h2)).2 L hL
            rw [hm k (by omega)] at this
            rw [hs (k + 1) (by omega)]
            exact this
        · rw [hs (k + 1) (by omega)]
          by_cases hj : j = i
          · subst hj
            have := (addLg_all (I.old k (by omega) h3)).1
            rw [hm k (by omega)] at this
            rw [hsi]
            exact this
          · have := I.new j k (by omega) h2 h3
            rw [hm k (by omega)] at this
            rw [hs (j + 1) (by omega)]
            exact this
        · rw [I.gr ho b, addLg_ex i r' w' ls (·.r) rfl b]
          constructor
          · rintro (q | (q | q) | ⟨k, k1, k2, k3⟩)
            · exact .inl q
            · exact .inr (.inr ⟨i, Nat.le_refl _, hil, by rw [hsi]; exact q⟩)
            · exact .inr (.inl q)
            · exact .inr (.inr ⟨k, by omega, k2, by rw [hs (k + 1) (by omega)]; exact k3⟩)
          · rintro (q | q | ⟨k, k1, k2, k3⟩)
            · exact .inl q
            · exact .inr (.inl (.inr q))
            · by_cases hk : k = i
              · subst hk
                rw [hsi] at k3
                exact .inr (.inl (.inl k3))
              · rw [hs (k + 1) (by omega)] at k3
                exact .inr (.inr ⟨k, by omega, k2, k3⟩)
        · rw [I.gw ho b, addLg_ex i r' w' ls (·.w) rfl b]
          constructor
          · rintro (q | (q | q) | ⟨k, k1, k2, k3⟩)
            · exact .inl q
            · exact .inr (.inr ⟨i, Nat.le_refl _, hil, by rw [hsi]; exact q⟩)
            · exact .inr (.inl q)
            · exact .inr (.inr ⟨k, by omega, k2, by rw [hs (k + 1) (by omega)]; exact k3⟩)
          · rintro (q | q | ⟨k, k1, k2, k3⟩)
            · exact .inl q
            · exact .inr (.inl (.inr q))
            · by_cases hk : k = i
              · subst hk
                rw [hsi] at k3
                exact .inr (.inl (.inl k3))
              · rw [hs (k + 1) (by omega)] at k3
                exact .inr (.inr ⟨k, by omega, k2, k3⟩)
end
end Go.Ev
namespace Go.Ev
open Go
set_option maxRecDepth 100000
section
variable {ops : Array Oper} {call : Cl} {ρ : Rho}
/-- a set of operations with which all is that is ahead of them -/
def Clo (ops : Array Oper) (D : Nat → Bool) : Prop := ∀ k o, D k = true → ops[k]? = some o → ∀ e ∈ o.after, Region.binds .any e = true → D e.on = true
def Rdy (ops : Array Oper) (D : Nat → Bool) (k : Nat) : Prop := ∀ o, ops[k]? = some o → ∀ e ∈ o.after, Region.binds .any e = true → D e.on = true
def Ah (ops : Array Oper) (k j : Nat) : Prop := ∀ D, Clo ops D → Rdy ops D k → D j = true
noncomputable def ahd (ops : Array Oper) (k : Nat) : Nat := (befs ops.toList).getD k 0
structure DrawStat (ops : Array Oper) : Prop where
  back : ∀ k o, ops[k]? = some o → ∀ e ∈ o.after, Region.binds .any e = true → e.on < k
  apart : ∀ j k oj ok, j < k → ops[j]? = some oj → ops[k]? = some ok → (ahd ops k).testBit j = true ∨ oj.apart ops ok = true
theorem befE_tb (acc : List Nat) (j : Nat) : ∀ es : List Edge, (befE acc es).testBit j = true → ∃ e ∈ es, Region.binds .any e = true ∧ (e.on = j ∨ (acc.getD (acc.length - (e.on + 1)) 0).testBit j = true) := by
  intro es
  induction es with
  | nil => intro h; simp [befE] at h
  | cons e es ih =>
    intro h
    unfold befE at h
    split at h
    · rename_i hb
      have h : ((1 <<< e.on ||| acc.getD (acc.length - (e.on + 1)) 0) ||| befE acc es).testBit j = true := h
      rw [Nat.testBit_or, Nat.testBit_or, Nat.shiftLeft_eq, Nat.one_mul, Nat.testBit_two_pow] at h
      simp only [Bool.or_eq_true, decide_eq_true_eq] at h
      rcases h with (h | h) | h
      · exact ⟨e, by simp, hb, .inl h⟩
      · exact ⟨e, by simp, hb, .inr h⟩
      · obtain ⟨e', h1, h2⟩ := ih h
        exact ⟨e', by simp [h1], h2⟩
    · obtain ⟨e', h1, h2⟩ := ih h
      exact ⟨e', by simp [h1], h2⟩
theorem bef_spec (hb : ∀ k o, ops[k]? = some o → ∀ e ∈ o.after, Region.binds .any e = true → e.on < k) : ∀ (l : List Oper) (acc : List Nat), ops.toList.drop acc.length = l → acc.length ≤ ops.size →
    (∀ k, k < acc.length → ∀ j, (acc.getD (acc.length - (k + 1)) 0).testBit j = true → Ah ops k j) →
    (bef l acc).length = ops.size ∧ ∀ k, k < ops.size → ∀ j, ((bef l acc).getD (ops.size - (k + 1)) 0).testBit j = true → Ah ops k j := by
  intro l
  induction l with
  | nil =>
    intro acc hl hle hP
    have : acc.length = ops.size := by
      have := congrArg List.length hl
      simp at this; omega
    exact ⟨this, by rw [← this]; exact hP⟩
  | cons o l ih =>
    intro acc hl hle hP
    have hil : acc.length < ops.size := by
      have := congrArg List.length hl
      simp at this; omega
    have hio : ops[acc.length]? = some o := by
      rw [← Array.getElem?_toList]
      have := congrArg (·[0]?) hl
      simpa using this
    refine ih (befE acc o.after.toList :: acc) ?_ hil fun k hk j hj => ?_
    · show ops.toList.drop (acc.length + 1) = l
      rw [← List.drop_drop, hl]; rfl
    · have hk : k < acc.length + 1 := hk
      by_cases he : k = acc.length
      · subst he
        have hj : (befE acc o.after.toList).testBit j = true := by
          rw [show (befE acc o.after.toList :: acc).length - (acc.length + 1) = 0 by simp] at hj
          exact hj
        obtain ⟨e, h1, h2, h3⟩ := befE_tb acc j _ hj
        have h1 : e ∈ o.after := by simpa using h1
        intro D hc hr
        have hon := hr o hio e h1 h2
        rcases h3 with rfl | h3
        · exact hon
        · exact hP e.on (hb _ o hio e h1 h2) j h3 D hc fun o' ho' e' he' hbe' => hc _ o' hon ho' e' he' hbe'
      · rw [show (befE acc o.after.toList :: acc).length - (k + 1) = (acc.length - (k + 1)) + 1 by simp; omega] at hj
        exact hP k (by omega) j hj
theorem ahd_spec (st : DrawStat ops) {k j : Nat} (hk : k < ops.size) (h : (ahd ops k).testBit j = true) : Ah ops k j := by
  obtain ⟨h1, h2⟩ := bef_spec st.back ops.toList [] rfl (Nat.zero_le _) (fun k hk => by simp at hk)
  refine h2 k hk j ?_
  have e : ahd ops k = (bef ops.toList []).getD (ops.size - (k + 1)) 0 := by
    unfold ahd befs
    rw [List.getD_eq_getElem?_getD, List.getElem?_reverse (by omega), List.getD_eq_getElem?_getD, h1]
    congr 2
    omega
  rw [← e]; exact h
theorem ahd_done (st : DrawStat ops) {D : Nat → Bool} (hc : Clo ops D) {k j : Nat} (hk : k < ops.size) (h : (ahd ops k).testBit j = true) (hr : Rdy ops D k ∨ D k = true) : D j = true :=
  ahd_spec st hk h D hc (hr.elim id fun hd o ho => hc k o hd ho)

/-! the contents behind a set of operations -/
noncomputable def hd (s : Nat → St) (D : Nat → Bool) : Nat → Nat → O
  | 0, b => getH (s 0).h b
  | k + 1, b => if D k = true ∧ (s (k + 1)).w.testBit b = true then getH (s (k + 1)).h b else hd s D k b
noncomputable def nd (ops : Array Oper) (s : Nat → St) (D : Nat → Bool) : Nat → Env
  | 0 => (s 0).n
  | k + 1 => if D k = true then putN ((ops[k]?).bind (·.dst)) (s (k + 1)).v (nd ops s D k) else nd ops s D k
structure Cx (ρ : Rho) (ops : Array Oper) (call : Cl) (s : Nat → St) (g g' : G) : Prop where
  tr : ∀ k, k < ops.size → Tr ops call s k
  fr : ∀ j k, j < k → k < ops.size → okLg (ahd ops k) (s (k + 1)).r (s (k + 1)).w ⟨j, (s (j + 1)).r, (s (j + 1)).w⟩
  wf : ∀ k, k < ops.size → ∀ b, (s (k + 1)).w.testBit b = true → Wt g' b
  rf : ∀ k, k < ops.size → ∀ b, (s (k + 1)).r.testBit b = true → Rd g' b
  h0 : g.h = (s 0).h
  nx0 : g.nx = (s 0).nx
  nxm : g'.nx = (s ops.size).nx
  st : DrawStat ops
  hρ : Opq ρ
  hcall : CallOk ρ call
theorem tb_rng (n n' b : Nat) (h : n ≤ n') : (1 <<< n' - 1 <<< n).testBit b = true ↔ n ≤ b ∧ b < n' := by
  have e : 1 <<< n' - 1 <<< n = 2 ^ n * (2 ^ (n' - n) - 1) := by
    rw [Nat.shiftLeft_eq, Nat.shiftLeft_eq, Nat.one_mul, Nat.one_mul, Nat.mul_sub, Nat.mul_one, ← Nat.pow_add]
    congr 2; omega
  rw [e, Nat.testBit_two_pow_mul, Nat.testBit_two_pow_sub_one]
  simp only [Bool.and_eq_true, decide_eq_true_eq]
  omega
variable {s : Nat → St} {g g' : G}
structure TrF (s : Nat → St) (k : Nat) : Prop where
  nx : (s k).nx ≤ (s (k + 1)).nx
  keep : ∀ b, (s (k + 1)).w.testBit b = false → getH (s (k + 1)).h b = getH (s k).h b
  lv : ∀ b, (s (k + 1)).w.testBit b = true → getH (s k).h b ≠ .no ∨ ((s k).nx ≤ b ∧ b < (s (k + 1)).nx)
  inn : ∀ b, (s k).nx ≤ b → b < (s (k + 1)).nx → (s (k + 1)).w.testBit b = true
theorem Cx.at (C : Cx ρ ops call s g g') {k : Nat} (hk : k < ops.size) : TrF s k := by
  obtain ⟨o, on, x, ho, hx, hw, hn⟩ := C.tr k hk
  obtain ⟨G, _⟩ := op1_ok (ρ := ρ) C.hρ C.hcall ho hx
  have hnx : (s k).nx ≤ (s (k + 1)).nx := G.nx
  have hon : on = true := G.on
  have tb : ∀ b, (s (k + 1)).w.testBit b = true ↔ x.testBit b = true ∨ ((s k).nx ≤ b ∧ b < (s (k + 1)).nx) := fun b => by
    rw [hw, Nat.testBit_or, Bool.or_eq_true, tb_rng _ _ _ hnx]
  refine ⟨hnx, fun b hb => ?_, fun b hb => ?_, fun b h1 h2 => (tb b).2 (.inr ⟨h1, h2⟩)⟩
  · have hb' : ¬ (x.testBit b = true ∨ ((s k).nx ≤ b ∧ b < (s (k + 1)).nx)) := fun q => by rw [(tb b).2 q] at hb; cases hb
    refine G.keep b (fun q => ?_) (fun q => hb' (.inr q))
    rcases q with q | q
    · exact absurd (hon.symm.trans q) (by simp)
    · exact hb' (.inl q)
  · rcases (tb b).1 hb with q | q
    · rcases G.lv rfl b q with z | z
      · simp at z
      · exact z
    · exact .inr q
theorem hd_all (C : Cx ρ ops call s g g') {D : Nat → Bool} {b : Nat} : ∀ k, k ≤ ops.size → (∀ j, j < k → (s (j + 1)).w.testBit b = true → D j = true) → hd s D k b = getH (s k).h b := by
  intro k
  induction k with
  | zero => intro _ _; rfl
  | succ k ih =>
    intro hk h
    unfold hd
    by_cases hw : (s (k + 1)).w.testBit b = true
    · rw [if_pos ⟨h k (by omega) hw, hw⟩]
    · rw [if_neg (fun q => hw q.2), ih (by omega) fun j hj => h j (by omega), (C.at (by omega)).keep b (by simpa using hw)]
theorem hd_none {D : Nat → Bool} {b k : Nat} : ∀ k', k ≤ k' → (∀ j, k ≤ j → j < k' → (s (j + 1)).w.testBit b = true → D j = false) → hd s D k' b = hd s D k b := by
  intro k'
  induction k' with
  | zero => intro h _; obtain rfl : k = 0 := by omega
            rfl
  | succ k' ih =>
    intro h h1
    by_cases he : k = k' + 1
    · rw [he]
    · rw [hd, if_neg (fun q => by rw [h1 k' (by omega) (by omega) q.2] at q; cases q.1), ih (by omega) fun j h2 h3 => h1 j h2 (by omega)]
theorem hd_eq {D D' : Nat → Bool} {b : Nat} : ∀ k, (∀ j, j < k → (s (j + 1)).w.testBit b = true → D j = D' j) → hd s D k b = hd s D' k b := by
  intro k
  induction k with
  | zero => intro _; rfl
  | succ k ih =>
    intro h
    unfold hd
    rw [ih fun j hj => h j (by omega)]
    by_cases hw : (s (k + 1)).w.testBit b = true
    · rw [h k (by omega) hw]
    · rw [if_neg (fun q => hw q.2), if_neg (fun q => hw q.2)]
def dsts (ops : Array Oper) (k : Nat) : Option Nat := (ops[k]?).bind (·.dst)
theorem nd_succ (D : Nat → Bool) (k : Nat) : nd ops s D (k + 1) = if D k = true then putN (dsts ops k) (s (k + 1)).v (nd ops s D k) else nd ops s D k := rfl
theorem nd_at (D : Nat → Bool) (k x : Nat) : evT x (nd ops s D (k + 1)) = if D k = true ∧ dsts ops k = some x then (s (k + 1)).v else evT x (nd ops s D k) := by
  rw [nd_succ]
  by_cases hD : D k = true
  · rw [if_pos hD, evT_put]
    by_cases hx : dsts ops k = some x
    · rw [if_pos hx, if_pos ⟨hD, hx⟩]
    · rw [if_neg hx, if_neg (fun q => hx q.2)]
  · rw [if_neg hD, if_neg (fun q => hD q.1)]
theorem Cx.put (C : Cx ρ ops call s g g') {k : Nat} (hk : k < ops.size) (x : Nat) : evT x (s (k + 1)).n = if dsts ops k = some x then (s (k + 1)).v else evT x (s k).n := by
  obtain ⟨o, on, y, ho, hx, hw, hn⟩ := C.tr k hk
  rw [hn, evT_put, show o.dst = dsts ops k by unfold dsts; rw [ho]; rfl]
theorem nd_all (C : Cx ρ ops call s g g') {D : Nat → Bool} {x : Nat} : ∀ k, k ≤ ops.size → (∀ j, j < k → dsts ops j = some x → D j = true) → evT x (nd ops s D k) = evT x (s k).n := by
  intro k
  induction k with
  | zero => intro _ _; rfl
  | succ k ih =>
    intro hk h
    rw [nd_at, C.put (by omega), ih (by omega) fun j hj => h j (by omega)]
    by_cases hd : dsts ops k = some x
    · rw [if_pos ⟨h k (by omega) hd, hd⟩, if_pos hd]
    · rw [if_neg (fun q => hd q.2), if_neg hd]
theorem nd_none {D : Nat → Bool} {x k : Nat} : ∀ k', k ≤ k' → (∀ j, k ≤ j → j < k' → dsts ops j = some x → D j = false) → evT x (nd ops s D k') = evT x (nd ops s D k) := by
  intro k'
  induction k' with
  | zero => intro h _; obtain rfl : k = 0 := by omega
            rfl
  | succ k' ih =>
    intro h h1
    by_cases he : k = k' + 1
    · rw [he]
    · rw [nd_at, if_neg (fun q => by rw [h1 k' (by omega) (by omega) q.2] at q; cases q.1), ih (by omega) fun j h2 h3 => h1 j h2 (by omega)]
theorem nd_eq {D D' : Nat → Bool} {x : Nat} : ∀ k, (∀ j, j < k → dsts ops j = some x → D j = D' j) → evT x (nd ops s D k) = evT x (nd ops s D' k) := by
  intro k
  induction k with
  | zero => intro _; rfl
  | succ k ih =>
    intro h
    rw [nd_at, nd_at, ih fun j hj => h j (by omega)]
    by_cases hw : dsts ops k = some x
    · rw [h k (by omega) hw]
    · rw [if_neg (fun q => hw q.2), if_neg (fun q => hw q.2)]
/-- what an operation that may come next touches is as in the text's order -/
theorem Cx.conf (C : Cx ρ ops call s g g') {D : Nat → Bool} (hc : Clo ops D) {i : Nat} (hi : i < ops.size) (hr : Rdy ops D i) (hD : D i = false) {b : Nat}
    (hT : (s (i + 1)).r.testBit b = true ∨ (s (i + 1)).w.testBit b = true) :
    (∀ j, j < i → (s (j + 1)).w.testBit b = true → D j = true) ∧ ∀ j, i < j → j < ops.size → (s (j + 1)).w.testBit b = true → D j = false := by
  refine ⟨fun j hj hw => ?_, fun j hj hjm hw => ?_⟩
  · rcases C.fr j i hj hi with h | h
    · exact ahd_done C.st hc hi h (.inl hr)
    · have := h b
      rcases hT with q | q
      · rw [this.2 q] at hw; cases hw
      · rw [(this.1 q).2] at hw; cases hw
  · rcases C.fr i j hj hjm with h | h
    · cases hd : D j with
      | false => rfl
      | true =>
        have := ahd_done C.st hc hjm h (.inr hd)
        rw [hD] at this; cases this
    · have := (h b).1 hw
      rcases hT with q | q
      · rw [this.1] at q; cases q
      · rw [this.2] at q; cases q
theorem Cx.hd_i (C : Cx ρ ops call s g g') {D : Nat → Bool} (hc : Clo ops D) {i : Nat} (hi : i < ops.size) (hr : Rdy ops D i) (hD : D i = false) {b : Nat}
    (hT : (s (i + 1)).r.testBit b = true ∨ (s (i + 1)).w.testBit b = true) : hd s D ops.size b = getH (s i).h b := by
  obtain ⟨h1, h2⟩ := C.conf hc hi hr hD hT
  rw [hd_none (k := i) _ (by omega) fun j h3 h4 h5 => ?_, hd_all C i (by omega) h1]
  by_cases he : j = i
  · subst he; exact hD
  · exact h2 j (by omega) h4 h5
theorem Cx.nd_i (C : Cx ρ ops call s g g') {D : Nat → Bool} (hc : Clo ops D) {i : Nat} {o : Oper} (ho : ops[i]? = some o) (hr : Rdy ops D i) (hD : D i = false) {x : Nat}
    (hT : x ∈ o.looksAt ops) : evT x (nd ops s D ops.size) = evT x (s i).n := by
  have hi : i < ops.size := (Array.getElem?_eq_some_iff.1 ho).1
  have dst : ∀ j, dsts ops j = some x → ∃ oj, ops[j]? = some oj ∧ oj.dst = some x := fun j h => by
    unfold dsts at h
    cases hj : ops[j]? with
    | none => rw [hj] at h; cases h
    | some oj => rw [hj] at h; exact ⟨oj, rfl, h⟩
  rw [nd_none (k := i) _ (by omega) fun j h3 h4 h5 => ?_, nd_all C i (by omega) fun j h3 h4 => ?_]
  · obtain ⟨oj, hj, hd⟩ := dst j h4
    rcases C.st.apart j i oj o h3 hj ho with h | h
    · exact ahd_done C.st hc hi h (.inl hr)
    · exact absurd hT ((Oper.apart_spec h).1 x hd)
  · by_cases he : j = i
    · subst he; exact hD
    · obtain ⟨oj, hj, hd⟩ := dst j h5
      rcases C.st.apart i j o oj (by omega) ho hj with h | h
      · cases hdj : D j with
        | false => rfl
        | true =>
          have := ahd_done C.st hc h4 h (.inr hdj)
          rw [hD] at this; cases this
      · exact absurd hT ((Oper.apart_spec h).2.2 x hd)
/-- .. and where it writes -/
theorem Cx.nd_w (C : Cx ρ ops call s g g') {D : Nat → Bool} (hc : Clo ops D) {i : Nat} {o : Oper} (ho : ops[i]? = some o) (hD : D i = false) {x : Nat}
    (hx : o.dst = some x) {j : Nat} (hj : i < j) (hjm : j < ops.size) (hd : dsts ops j = some x) : D j = false := by
  unfold dsts at hd
  cases hoj : ops[j]? with
  | none => rw [hoj] at hd; cases hd
  | some oj =>
    rw [hoj] at hd
    have hd : oj.dst = some x := hd
    rcases C.st.apart i j o oj hj ho hoj with h | h
    · cases hdj : D j with
      | false => rfl
      | true =>
        have := ahd_done C.st hc hjm h (.inr hdj)
        rw [hD] at this; cases this
    · exact absurd hd ((Oper.apart_spec h).2.1 x hx)
end
end Go.Ev
namespace Go.Ev
open Go
set_option maxRecDepth 100000
section
variable {ops : Array Oper} {call : Cl} {ρ : Rho} {s : Nat → St} {g g' : G} {σ0 : Sg} {F : Nat → Prop} {w0 : World} {ds : DS} {N : Nat}
theorem ev_congr {n n' : Env} (x : Operand) (h : ∀ t, x = .tmp t → evT t n = evT t n') : ev x n = ev x n' := by
  cases x with
  | tmp t => exact h t rfl
  | _ => rfl
theorem xOp1_congr {o : Oper} {n n' : Env} {g : G} (h : ∀ x ∈ o.looksAt ops, evT x n = evT x n') : xOp1 ops.toList o call n g = xOp1 ops.toList o call n' g := by
  have e1 : disp o.op call n g = disp o.op call n' g := disp_congr fun x hx => ev_congr x fun t ht => h t (by
    unfold Oper.looksAt
    rw [List.mem_append]
    subst ht
    exact .inl (List.mem_filterMap.2 ⟨.tmp t, by simpa using hx, rfl⟩))
  unfold xOp1
  cases hg : o.guard with
  | none => exact e1
  | some gd =>
    obtain ⟨j, want⟩ := gd
    show xGuard want (disp o.op call n g) g n (gdst ops.toList j) = xGuard want (disp o.op call n' g) g n' (gdst ops.toList j)
    rw [e1, gdst_eq]
    cases hd : (ops[j]?).bind (·.dst) with
    | none => rfl
    | some d =>
      have e2 : evT d n = evT d n' := h d (by
        unfold Oper.looksAt
        rw [List.mem_append]
        refine .inr ?_
        rw [hg]
        show d ∈ ((ops[j]?).bind (·.dst)).toList
        rw [hd]; simp)
      show elB (evT d n) _ _ = elB (evT d n') _ _
      rw [e2]
structure DInv (ρ : Rho) (ops : Array Oper) (s : Nat → St) (g g' : G) (σ0 : Sg) (F : Nat → Prop) (w0 : World) (ds : DS) (N : Nat) (D : Nat → Bool) (σ : Sg) (w : World) (a : Act) : Prop where
  rel : ∀ b, F b → hd s D ops.size b ≠ .no → ∃ L, σ b = some L ∧ OR ρ σ w L (hd s D ops.size b)
  inj : ∀ b b' L L', F b → F b' → hd s D ops.size b ≠ .no → hd s D ops.size b' ≠ .no → σ b = some L → σ b' = some L' → L.r = L'.r → b = b'
  bnd : Bnd σ w
  free : ∀ k, k < ops.size → D k = false → Free σ (s k).nx (s (k + 1)).nx
  same : ∀ b, ¬ (g.nx ≤ b ∧ b < g'.nx) → σ b = σ0 b
  new : ∀ b L, g.nx ≤ b → b < g'.nx → σ b = some L → L.r < w.heap.size ∧ (w0.heap.size ≤ L.r ∨ ∃ c K, Wt g' c ∧ σ0 c = some K ∧ K.r = L.r)
  fr : Fr σ0 (Wt g') w0 w
  env : EnvR ρ σ (nd ops s D ops.size) a
  dr : DR ρ σ ds a.defers
  size : a.tmps.size = N
  inv : Inv ρ σ w
theorem Cx.mono (C : Cx ρ ops call s g g') {j : Nat} : ∀ k, j ≤ k → k ≤ ops.size → (s j).nx ≤ (s k).nx := by
  intro k
  induction k with
  | zero => intro h _; obtain rfl : j = 0 := by omega
            exact Nat.le_refl _
  | succ k ih =>
    intro h hk
    by_cases e : j = k + 1
    · rw [e]; exact Nat.le_refl _
    · exact Nat.le_trans (ih (by omega) (by omega)) (C.at (k := k) (by omega)).nx
theorem DInv.step (C : Cx ρ ops call s g g') (hF : ∀ b, Rd g' b → F b) (hdst : ∀ (k : Nat) (o : Oper), ops[k]? = some o → ∀ d, o.dst = some d → d < N) {D D' : Nat → Bool} {σ : Sg} {w : World} {a : Act}
    (I : DInv ρ ops s g g' σ0 F w0 ds N D σ w a) (hc : Clo ops D) {i : Nat} {o : Oper} (ho : ops[i]? = some o) (hr : Rdy ops D i) (hD : D i = false) (hDi : D' i = true) (hDn : ∀ k, k ≠ i → D' k = D k)
    {K : Act → World → Prop} {Q : Exit → Act → World → Prop} (hk : ∀ σ' w' a', DInv ρ ops s g g' σ0 F w0 ds N D' σ' w' a' → K a' w') : wpOp PP ops Q i K a w := by
  have hi : i < ops.size := (Array.getElem?_eq_some_iff.1 ho).1
  have TF := C.at hi
  obtain ⟨o', on, x, ho', hx, hw, hn⟩ := C.tr i hi
  obtain rfl : o = o' := Option.some.inj (ho.symm.trans ho')
  have hcg : xOp1 ops.toList o call (nd ops s D ops.size) ⟨(s i).h, (s i).nx, true, 0, 0⟩ = xOp1 ops.toList o call (s i).n ⟨(s i).h, (s i).nx, true, 0, 0⟩ :=
    xOp1_congr fun x hx => C.nd_i hc ho hr hD hx
  rw [← hcg] at hx
  obtain ⟨G, sim⟩ := op1_ok (ρ := ρ) C.hρ C.hcall ho hx
  have hon : on = true := G.on
  subst hon
  have tb : ∀ b, (s (i + 1)).w.testBit b = true ↔ x.testBit b = true ∨ ((s i).nx ≤ b ∧ b < (s (i + 1)).nx) := fun b => by
    rw [hw, Nat.testBit_or, Bool.or_eq_true, tb_rng _ _ _ TF.nx]
  have wF : ∀ b, (s (i + 1)).w.testBit b = true → F b := fun b hb => hF b ((C.wf i hi b hb).imp id .inr)
  have rF : ∀ b, (s (i + 1)).r.testBit b = true → F b := fun b hb => hF b (C.rf i hi b hb)
  have FF : ∀ b, ((s (i + 1)).r.testBit b = true ∨ (s (i + 1)).w.testBit b = true) → F b := fun b hb => hb.elim (rF b) (wF b)
  have at_i : ∀ b, ((s (i + 1)).r.testBit b = true ∨ (s (i + 1)).w.testBit b = true) → hd s D ops.size b = getH (s i).h b := fun b hb => C.hd_i hc hi hr hD hb
  have hfree := I.free i hi hD
  have pre : Pre ρ σ (fun b => (s (i + 1)).r.testBit b = true ∨ (s (i + 1)).w.testBit b = true) ⟨(s i).h, (s i).nx, true, 0, 0⟩ ⟨(s (i + 1)).h, (s (i + 1)).nx, true, (s (i + 1)).r, x⟩ w := by
    refine ⟨⟨fun b hb hl => ?_, fun b b' L L' hb hb' hl hl' e e' er => ?_⟩, I.bnd, hfree, fun b hb => ?_, I.inv⟩
    · have hl : getH (s i).h b ≠ .no := hl
      rw [← at_i b hb] at hl
      obtain ⟨L, h1, h2⟩ := I.rel b (FF b hb) hl
      rw [at_i b hb] at h2
      exact ⟨L, h1, h2⟩
    · have hl : getH (s i).h b ≠ .no := hl
      have hl' : getH (s i).h b' ≠ .no := hl'
      rw [← at_i b hb] at hl
      rw [← at_i b' hb'] at hl'
      exact I.inj b b' L L' (FF b hb) (FF b' hb') hl hl' e e' er
    · rcases hb with hb | hb
      · rcases hb with hb | hb | hb
        · exact absurd hb (by simp)
        · exact .inl hb
        · exact .inr ((tb b).2 (.inl hb))
      · exact .inr ((tb b).2 (.inr hb))
  refine sim σ _ a w K Q pre I.env fun σ' rv w' st vr => hk σ' w' _ ?_
  have le : Le σ σ' := st.ext.le hfree
  have Wx : ∀ {c}, Wt ⟨(s (i + 1)).h, (s (i + 1)).nx, true, (s (i + 1)).r, x⟩ c → (s (i + 1)).w.testBit c = true := fun {c} h => (tb c).2 (.inl (h.elim (fun q => absurd q (by simp)) id))
  have live : ∀ {c K}, (s (i + 1)).w.testBit c = true → σ c = some K → hd s D ops.size c ≠ .no := fun {c K} h e => by
    rw [at_i c (.inr h)]
    rcases TF.lv c h with q | q
    · exact q
    · rw [hfree c q.1 q.2] at e; cases e
  have hdW : ∀ b, (s (i + 1)).w.testBit b = true → hd s D' ops.size b = getH (s (i + 1)).h b := fun b hb => by
    rw [hd_none (k := i + 1) _ (by omega) fun j h3 h4 h5 => ?_, hd, if_pos ⟨hDi, hb⟩]
    rw [hDn j (by omega)]
    exact (C.conf hc hi hr hD (.inr hb)).2 j (by omega) h4 h5
  have hdN : ∀ b, ¬ (s (i + 1)).w.testBit b = true → hd s D' ops.size b = hd s D ops.size b := fun b hb =>
    hd_eq _ fun j hj hw => hDn j fun e => hb (by rw [← e]; exact hw)
  have keep : ∀ {b L}, F b → ¬ (s (i + 1)).w.testBit b = true → hd s D ops.size b ≠ .no → σ b = some L → w'.heap[L.r]? = w.heap[L.r]? := fun {b L} hb hW hl e =>
    st.fr.same _ (I.bnd b L e) fun c M hc1 hc2 hc3 => hW (by
      rw [I.inj b c L M hb (wF c (Wx hc1)) hl (live (Wx hc1) hc2) e hc2 hc3.symm]; exact Wx hc1)
  have mix : ∀ {b b' L L'}, F b → F b' → (s (i + 1)).w.testBit b = true → ¬ (s (i + 1)).w.testBit b' = true → hd s D ops.size b' ≠ .no → σ' b = some L → σ' b' = some L' → L.r = L'.r → b = b' := by
    intro b b' L L' hb hb' hW hW' hl' e e' er
    obtain ⟨M, h1, _⟩ := I.rel b' hb' hl'
    obtain rfl : M = L' := Option.some.inj ((le _ _ h1).symm.trans e')
    by_cases hn : (s i).nx ≤ b ∧ b < (s (i + 1)).nx
    · obtain ⟨_, q⟩ := st.ext.new b L hn.1 hn.2 e
      rcases q with q | ⟨c, M', c1, c2, c3⟩
      · have := I.bnd b' M h1
        have q : w.heap.size ≤ L.r := q
        omega
      · have := I.inj c b' M' M (wF c (Wx c1)) hb' (live (Wx c1) c2) hl' c2 h1 (c3.trans er)
        exact absurd (this ▸ Wx c1) hW'
    · have e : σ b = some L := (st.ext.same b hn).symm.trans e
      exact I.inj b b' L M hb hb' (live hW e) hl' e h1 er
  refine ⟨fun b hb hl => ?_, fun b b' L L' hb hb' hl hl' e e' er => ?_, st.bnd, fun k hk hDk b h1 h2 => ?_, fun b hb => ?_, fun b L h1 h2 h3 => ?_, ⟨Nat.le_trans I.fr.size st.fr.size, fun r hr hW => ?_, I.fr.env.trans st.fr.env⟩, fun y => ?_, ?_, ?_, I.inv.step st⟩
  · by_cases hW : (s (i + 1)).w.testBit b = true
    · rw [hdW b hW] at hl ⊢
      exact st.rep.rel b (.inr hW) hl
    · rw [hdN b hW] at hl ⊢
      obtain ⟨L, h1, h2⟩ := I.rel b hb hl
      exact ⟨L, le _ _ h1, OR.mono le (keep hb hW hl h1) _ h2⟩
  · by_cases hW : (s (i + 1)).w.testBit b = true
    · by_cases hW' : (s (i + 1)).w.testBit b' = true
      · rw [hdW b hW] at hl
        rw [hdW b' hW'] at hl'
        exact st.rep.inj b b' L L' (.inr hW) (.inr hW') hl hl' e e' er
      · rw [hdN b' hW'] at hl'
        exact mix hb hb' hW hW' hl' e e' er
    · rw [hdN b hW] at hl
      by_cases hW' : (s (i + 1)).w.testBit b' = true
      · exact (mix hb' hb hW' hW hl e' e er.symm).symm
      · rw [hdN b' hW'] at hl'
        obtain ⟨M, h1, _⟩ := I.rel b hb hl
        obtain ⟨M', h2, _⟩ := I.rel b' hb' hl'
        obtain rfl : M = L := Option.some.inj ((le _ _ h1).symm.trans e)
        obtain rfl : M' = L' := Option.some.inj ((le _ _ h2).symm.trans e')
        exact I.inj b b' M M' hb hb' hl hl' h1 h2 er
  · have hki : k ≠ i := fun e => by rw [e, hDi] at hDk; cases hDk
    rw [hDn k hki] at hDk
    have hb : ¬ ((s i).nx ≤ b ∧ b < (s (i + 1)).nx) := fun q => by
      rcases Nat.lt_or_gt_of_ne hki with q' | q'
      · have := C.mono (j := k + 1) i (by omega) (by omega); omega
      · have := C.mono (j := i + 1) k (by omega) (by omega); omega
    rw [st.ext.same b hb]
    exact I.free k hk hDk b h1 h2
  · have m1 := C.mono (j := 0) i (by omega) (by omega)
    have m2 := C.mono (j := i + 1) ops.size (by omega) (by omega)
    have n0 := C.nx0; have nm := C.nxm
    rw [st.ext.same b (fun q => by
      have q1 : (s i).nx ≤ b := q.1
      have q2 : b < (s (i + 1)).nx := q.2
      exact hb (by omega))]
    exact I.same b hb
  · by_cases hn : (s i).nx ≤ b ∧ b < (s (i + 1)).nx
    · obtain ⟨q1, q⟩ := st.ext.new b L hn.1 hn.2 h3
      refine ⟨q1, ?_⟩
      rcases q with q | ⟨c, M, c1, c2, c3⟩
      · exact .inl (Nat.le_trans I.fr.size q)
      · by_cases hcn : g.nx ≤ c ∧ c < g'.nx
        · obtain ⟨_, q⟩ := I.new c M hcn.1 hcn.2 c2
          rw [c3] at q
          exact q
        · rw [I.same c hcn] at c2
          exact .inr ⟨c, M, C.wf i hi c (Wx c1), c2, c3⟩
    · rw [st.ext.same b hn] at h3
      obtain ⟨q1, q⟩ := I.new b L h1 h2 h3
      exact ⟨Nat.lt_of_lt_of_le q1 st.fr.size, q⟩
  · rw [st.fr.same r (Nat.lt_of_lt_of_le hr I.fr.size) ?_, I.fr.same r hr hW]
    intro c M c1 c2 c3
    by_cases hcn : g.nx ≤ c ∧ c < g'.nx
    · obtain ⟨_, q⟩ := I.new c M hcn.1 hcn.2 c2
      rcases q with q | ⟨c', M', d1, d2, d3⟩
      · omega
      · exact hW c' M' d1 d2 (d3.trans c3)
    · rw [I.same c hcn] at c2
      exact hW c M (C.wf i hi c (Wx c1)) c2 c3
  · have he := (I.env.mono le).put (dst := o.dst) vr (fun d hd => by rw [I.size]; exact hdst i o ho d hd) y
    have e : evT y (nd ops s D' ops.size) = evT y (putN o.dst (s (i + 1)).v (nd ops s D ops.size)) := by
      rw [evT_put]
      have hoi : dsts ops i = o.dst := by unfold dsts; rw [ho]; rfl
      by_cases hy : o.dst = some y
      · rw [if_pos hy, nd_none (k := i + 1) _ (by omega) fun j h3 h4 h5 => ?_, nd_at, if_pos ⟨hDi, hoi.trans hy⟩]
        rw [hDn j (by omega)]
        exact C.nd_w hc ho hD hy h3 h4 h5
      · rw [if_neg hy]
        exact nd_eq _ fun j hj hd => hDn j fun ej => hy (by rw [← hoi, ← ej]; exact hd)
    rw [e]; exact he
  · rw [put_defers]; exact DR.mono le _ _ I.dr
  · rw [put_size]; exact I.size
end
end Go.Ev
namespace Go.Ev
open Go
set_option maxRecDepth 100000
section
variable {ops : Array Oper} {call : Cl} {ρ : Rho} {s : Nat → St} {g g' : G} {σ0 : Sg} {F : Nat → Prop} {w0 : World} {ds : DS} {N : Nat}
def doneOf (listed : Array Bool) (k : Nat) : Bool := listed.getD k false
theorem all_done (st : DrawStat ops) {listed : Array Bool} (hs : listed.size = ops.size) (h : Region.ready .any ops listed = []) : ∀ k, k < ops.size → doneOf listed k = true := by
  intro k
  induction k using Nat.strongRecOn with
  | _ k ih =>
    intro hk
    cases hd : doneOf listed k with
    | true => rfl
    | false =>
      have : k ∈ Region.ready .any ops listed := by
        rw [mem_ready]
        have ho : ops[k]? = some ops[k] := Array.getElem?_eq_getElem hk
        refine ⟨?_, _, ho, fun e he hb => ih e.on (st.back k _ ho e he hb) ?_⟩
        · have hk' : k < listed.size := by omega
          unfold doneOf at hd
          rw [Array.getD_eq_getD_getElem?, Array.getElem?_eq_getElem hk'] at hd ⊢
          exact hd
        · have := st.back k _ ho e he hb; omega
      rw [h] at this; cases this
theorem draw_any (C : Cx ρ ops call s g g') (hF : ∀ b, Rd g' b → F b) (hdst : ∀ (k : Nat) (o : Oper), ops[k]? = some o → ∀ d, o.dst = some d → d < N) {Q : Exit → Act → World → Prop}
    (hq : ∀ D σ w a, (∀ k, k < ops.size → D k = true) → DInv ρ ops s g g' σ0 F w0 ds N D σ w a → Q .normal a w) :
    ∀ fuel (listed : Array Bool) σ w a, listed.size = ops.size → listed.count false ≤ fuel → Clo ops (doneOf listed) → DInv ρ ops s g g' σ0 F w0 ds N (doneOf listed) σ w a → wpAny PP .any ops Q fuel listed a w := by
  intro fuel
  induction fuel with
  | zero =>
    intro listed σ w a hs hn hc I
    have hz : false ∉ listed := Array.count_eq_zero.1 (by omega)
    have hall : ∀ k, k < ops.size → listed[k]? = some true := fun k hk => by
      have hk' : k < listed.size := by omega
      rw [Array.getElem?_eq_getElem hk']
      cases hb : listed[k] with
      | true => rfl
      | false => exact absurd (hb ▸ Array.getElem_mem hk') hz
    have hnil : Region.ready .any ops listed = [] := by
      rw [List.eq_nil_iff_forall_not_mem]
      intro k hk
      rw [mem_ready] at hk
      obtain ⟨h0, o, ho, _⟩ := hk
      have hk := (Array.getElem?_eq_some_iff.1 ho).1
      rw [Array.getD_eq_getD_getElem?, hall k hk] at h0
      cases h0
    exact ⟨hnil, hq _ σ w a (all_done C.st hs hnil) I⟩
  | succ fuel ih =>
    intro listed σ w a hs hn hc I
    refine ⟨fun hnil => hq _ σ w a (all_done C.st hs hnil) I, fun i hi => ?_⟩
    rw [mem_ready] at hi
    obtain ⟨h0, o, ho, hr⟩ := hi
    have hi := (Array.getElem?_eq_some_iff.1 ho).1
    have hi' : i < listed.size := by omega
    have hDi : doneOf listed i = false := by
      unfold doneOf
      rw [Array.getD_eq_getD_getElem?, Array.getElem?_eq_getElem hi'] at h0 ⊢
      exact h0
    have hli : listed[i] = false := by
      have := hDi
      unfold doneOf at this
      rwa [Array.getD_eq_getD_getElem?, Array.getElem?_eq_getElem hi'] at this
    have hset : listed.setIfInBounds i true = listed.set i true hi' := by
      unfold Array.setIfInBounds; rw [dif_pos hi']
    have hDi' : doneOf (listed.setIfInBounds i true) i = true := by
      unfold doneOf
      rw [hset, Array.getD_eq_getD_getElem?, Array.getElem?_set_self]; rfl
    have hDn : ∀ k, k ≠ i → doneOf (listed.setIfInBounds i true) k = doneOf listed k := fun k hk => by
      unfold doneOf; exact getD_set_ne false (Ne.symm hk)
    have hrdy : Rdy ops (doneOf listed) i := fun o' ho' e he hb => by
      obtain rfl := Option.some.inj (ho.symm.trans ho')
      exact hr e he hb
    refine I.step C hF hdst hc ho hrdy hDi hDi' hDn fun σ' w' a' I' => ih _ σ' w' a' (by simpa using hs) ?_ ?_ I'
    · rw [hset, Array.count_set hi', hli]
      simp
      omega
    · intro k o' hk hok e he hb
      by_cases hki : k = i
      · subst hki
        obtain rfl := Option.some.inj (ho.symm.trans hok)
        by_cases hei : e.on = k
        · rw [hei]; exact hDi'
        · rw [hDn _ hei]; exact hr e he hb
      · rw [hDn k hki] at hk
        have := hc k o' hk hok e he hb
        by_cases hei : e.on = i
        · rw [hei]; exact hDi'
        · rw [hDn _ hei]; exact this
theorem Cx.born (C : Cx ρ ops call s g g') {b : Nat} : ∀ k, k ≤ ops.size → getH (s k).h b ≠ .no → getH (s 0).h b ≠ .no ∨ ((s 0).nx ≤ b ∧ b < (s k).nx) := by
  intro k
  induction k with
  | zero => intro _ h; exact .inl h
  | succ k ih =>
    intro hk h
    have T := C.at (k := k) (by omega)
    have up : getH (s 0).h b ≠ .no ∨ ((s 0).nx ≤ b ∧ b < (s k).nx) → getH (s 0).h b ≠ .no ∨ ((s 0).nx ≤ b ∧ b < (s (k + 1)).nx) := fun q => q.imp id fun q => ⟨q.1, Nat.lt_of_lt_of_le q.2 T.nx⟩
    by_cases hw : (s (k + 1)).w.testBit b = true
    · rcases T.lv b hw with q | q
      · exact up (ih (by omega) q)
      · exact .inr ⟨Nat.le_trans (C.mono (j := 0) k (by omega) (by omega)) q.1, q.2⟩
    · rw [T.keep b (by simpa using hw)] at h
      exact up (ih (by omega) h)
theorem Cx.gm (C : Cx ρ ops call s g g') : ∀ k, k ≤ ops.size → (s k).n.gm = (s 0).n.gm := by
  intro k
  induction k with
  | zero => intro _; rfl
  | succ k ih =>
    intro hk
    obtain ⟨o, on, x, ho, hx, hw, hn⟩ := C.tr k (by omega)
    rw [hn, ← ih (by omega)]
    unfold putN; split
    · rfl
    · split <;> rfl
theorem draw_ok (hρ : Opq ρ) (hc : CallOk ρ call) (st : DrawStat ops) {gm rid : Nat} (hdst : ∀ (k : Nat) (o : Oper), ops[k]? = some o → ∀ d, o.dst = some d → d < N) :
    KSim ρ N gm call (.region rid ops true) (cRegion rid ops true) := by
  intro t ds g e t' ds' g' hr
  obtain ⟨h, nx, on, r, w⟩ := g
  have hr : drawR ops.toList ops.toList (befs ops.toList) 0 [] on r w call ⟨gm, .e, t⟩ ds ⟨h, nx, true, 0, 0⟩ = .ok e t' ds' g' := hr
  obtain ⟨s, hs0, I⟩ := drawR_inv ops.toList 0 rfl (Nat.zero_le _) (befs ops.toList) [] _ h nx 0 0 ⟨⟨gm, .e, t⟩, h, nx, .u, 0, 0⟩ rfl rfl rfl hr
  obtain ⟨fe, fds, ft, tr, old, new, gh, gnx, gon, off, gr, gw⟩ := I
  subst fe fds
  have e0 : (s 0).h = h ∧ (s 0).nx = nx ∧ (s 0).n = ⟨gm, .e, t⟩ := by rw [hs0]; exact ⟨rfl, rfl, rfl⟩
  have C : Cx ρ ops call s ⟨h, nx, on, r, w⟩ g' := by
    refine ⟨fun k hk => tr k (Nat.zero_le _) hk, fun j k h1 h2 => new j k (Nat.zero_le _) h1 h2, fun k hk b hb => ?_, fun k hk b hb => ?_, e0.1.symm, e0.2.1.symm, gnx, st, hρ, hc⟩
    · cases on with
      | false => exact .inl gon
      | true => exact .inr ((gw rfl b).2 (.inr (.inr ⟨k, Nat.zero_le _, hk, hb⟩)))
    · cases on with
      | false => exact .inl gon
      | true => exact .inr (.inl ((gr rfl b).2 (.inr (.inr ⟨k, Nat.zero_le _, hk, hb⟩))))
  have hmono := C.mono (j := 0) ops.size (Nat.zero_le _) (Nat.le_refl _)
  have hnx : nx ≤ g'.nx := by rw [gnx, ← e0.2.1]; exact hmono
  refine ⟨⟨hnx, gon, fun b hb => ?_, fun b hb => ?_, fun b h1 h2 => ?_, fun ho b hb => ?_⟩, fun σ F a w Q hat hf => ?_⟩
  · cases on with
    | false => rw [(off rfl).1]; exact hb
    | true => exact (gr rfl b).2 (.inl hb)
  · cases on with
    | false => rw [(off rfl).2]; exact hb
    | true => exact (gw rfl b).2 (.inl hb)
  · have hno : ∀ j, j < ops.size → (s (j + 1)).w.testBit b = true → False := fun j hj hw => h1 (C.wf j hj b hw)
    rw [gh, ← hd_all C (D := fun _ => false) ops.size (Nat.le_refl _) fun j hj hw => (hno j hj hw).elim, hd_none (k := 0) _ (Nat.zero_le _) fun _ _ _ _ => rfl]
    show getH (s 0).h b = _
    rw [e0.1]
  · rcases (gw ho b).1 hb with q | q | ⟨k, _, k2, k3⟩
    · exact .inl q
    · obtain ⟨L, hL, _⟩ := q; cases hL
    · right
      show getH h b ≠ .no ∨ (nx ≤ b ∧ b < g'.nx)
      rw [← e0.1, ← e0.2.1, gnx]
      have m2 := C.mono (j := k + 1) ops.size k2 (Nat.le_refl _)
      have m1 := C.mono (j := 0) k (Nat.zero_le _) (by omega)
      rcases (C.at k2).lv b k3 with q | q
      · have m3 := (C.at k2).nx
        exact (C.born k (by omega) q).imp id fun q => ⟨q.1, by omega⟩
      · exact .inr ⟨by omega, by omega⟩
  · refine wp_region_any rfl ?_
    have hF : ∀ b, Rd g' b → F b := fun b hb => hat.pre.cov b (.inl hb)
    have h00 : ∀ b, hd s (doneOf (Array.replicate ops.size false)) ops.size b = getH h b := fun b => by
      rw [hd_none (k := 0) _ (Nat.zero_le _) fun j _ hj _ => by unfold doneOf; simp [Array.getD_eq_getD_getElem?, hj]]
      show getH (s 0).h b = _
      rw [e0.1]
    have hn0 : ∀ x, evT x (nd ops s (doneOf (Array.replicate ops.size false)) ops.size) = evT x ⟨gm, .e, t⟩ := fun x => by
      rw [nd_none (k := 0) _ (Nat.zero_le _) fun j _ hj _ => by unfold doneOf; simp [Array.getD_eq_getD_getElem?, hj]]
      show evT x (s 0).n = _
      rw [e0.2.2]
    have hd0 : ∀ k, doneOf (Array.replicate ops.size false) k = false := fun k => by
      unfold doneOf
      by_cases hk : k < ops.size <;> simp [Array.getD_eq_getD_getElem?, hk]
    refine draw_any (σ0 := σ) (F := F) (w0 := w) (ds := ds') (N := N) C hF hdst (fun D σ' w' a' hall J => ?_) ops.size _ σ _ a (by simp) (by simp) (fun k o hk => by rw [hd0] at hk; cases hk) ?_
    · have hh : ∀ b, hd s D ops.size b = getH g'.h b := fun b => by rw [gh]; exact hd_all C _ (Nat.le_refl _) fun j hj _ => hall j hj
      refine hf σ' a' w' ⟨⟨J.same, J.new⟩, ⟨fun b hb hl => ?_, fun b b' L L' hb hb' hl hl' e1 e2 er => ?_⟩, J.fr, J.bnd⟩ ?_ J.dr J.size
      · rw [← hh b] at hl ⊢
        exact J.rel b hb hl
      · rw [← hh b] at hl
        rw [← hh b'] at hl'
        exact J.inj b b' L L' hb hb' hl hl' e1 e2 er
      · have he : EnvR ρ σ' (s ops.size).n a' := fun x => by
          rw [← nd_all C (D := D) _ (Nat.le_refl _) fun j hj _ => hall j hj]
          exact J.env x
        have := he.done
        rw [C.gm _ (Nat.le_refl _), e0.2.2] at this
        rw [ft]; exact this
    · have hp := hat.pre
      refine ⟨fun b hb hl => ?_, fun b b' L L' hb hb' hl hl' e1 e2 er => ?_, fun b L e => hp.bnd b L e, fun k hk _ b h1 h2 => hp.free b ?_ ?_, fun _ _ => rfl, fun b L h1 h2 h3 => ?_, ⟨Nat.le_refl _, fun _ _ _ => rfl, rfl, rfl, rfl⟩, fun x => ?_, hat.dr, hat.size, ⟨hp.inv.size, hp.inv.old, hp.inv.far⟩⟩
      · rw [h00] at hl ⊢
        obtain ⟨L, h1, h2⟩ := hp.rep.rel b hb hl
        exact ⟨L, h1, OR.mono (w' := { w with drawn := w.drawn + 1 }) (Le.refl _) rfl _ h2⟩
      · rw [h00] at hl hl'
        exact hp.rep.inj b b' L L' hb hb' hl hl' e1 e2 er
      · have := C.mono (j := 0) k (Nat.zero_le _) (by omega)
        rw [e0.2.1] at this
        exact Nat.le_trans this h1
      · have := C.mono (j := k + 1) ops.size hk (Nat.le_refl _)
        rw [← gnx] at this
        exact Nat.lt_of_lt_of_le h2 this
      · rw [hp.free b h1 h2] at h3; cases h3
      · rw [hn0]; exact hat.env x
end
end Go.Ev
namespace Go.Ev
open Go
set_option maxRecDepth 100000
section
variable {ops : Array Oper} {call : Cl} {ρ : Rho} {N : Nat}
theorem tb_one (t x : Nat) : (Nat.shiftLeft 1 t).testBit x = decide (t = x) := by
  show (1 <<< t).testBit x = _
  rw [Nat.shiftLeft_eq, Nat.one_mul, Nat.testBit_two_pow]
theorem lkL_tb {t : Nat} : ∀ {l : List Operand}, Operand.tmp t ∈ l → (lkL l).testBit t = true := by
  intro l
  induction l with
  | nil => intro h; cases h
  | cons a l ih =>
    intro h
    rcases List.mem_cons.1 h with e | h9
    · subst e
      show ((Nat.shiftLeft 1 t) ||| lkL l).testBit t = true
      rw [Nat.testBit_or, tb_one]; simp
    · cases a with
      | tmp u =>
        show ((Nat.shiftLeft 1 u) ||| lkL l).testBit t = true
        rw [Nat.testBit_or, ih h9]; simp
      | _ => exact ih h9
theorem lkO_tb {o : Oper} {t : Nat} (h : t ∈ o.looksAt ops) : (lkO ops.toList o).testBit t = true := by
  unfold lkO
  show Nat.testBit (lkL o.op.operands.toList ||| _) t = true
  rw [Nat.testBit_or, Bool.or_eq_true]
  unfold Oper.looksAt at h
  rw [List.mem_append] at h
  rcases h with h | h
  · left
    obtain ⟨x, hx, hh⟩ := List.mem_filterMap.1 h
    cases x with
    | tmp u => obtain rfl := Option.some.inj hh; exact lkL_tb (by simpa using hx)
    | _ => cases hh
  · right
    cases hg : o.guard with
    | none => rw [hg] at h; cases h
    | some gd =>
      obtain ⟨j, q⟩ := gd
      rw [hg] at h
      have h : t ∈ ((ops[j]?).bind (·.dst)).toList := h
      show (bitO (gdst ops.toList j)).testBit t = true
      rw [gdst_eq]
      cases hd : (ops[j]?).bind (·.dst) with
      | none => rw [hd] at h; cases h
      | some d =>
        rw [hd] at h
        obtain rfl : t = d := by simpa using h
        show (Nat.shiftLeft 1 t).testBit t = true
        rw [tb_one]; simp
def prOk (ops : Array Oper) (m : Nat) (o : Oper) (q : Nat × Nat × Nat) : Prop := m.testBit q.1 = true ∨ (q.2.1 &&& (lkO ops.toList o ||| bitO o.dst)) ||| (bitO o.dst &&& q.2.2) = 0
theorem prB_inv {m : Nat} {o : Oper} : ∀ {acc : List (Nat × Nat × Nat)}, prB m (bitO o.dst) (lkO ops.toList o) acc = true → ∀ q ∈ acc, prOk ops m o q := by
  intro acc
  induction acc with
  | nil => intro _ q hq; cases hq
  | cons a acc ih =>
    intro h q hq
    obtain ⟨h1, h2⟩ := Bool.and_eq_true_iff.1 (show ((Nat.testBit m a.1 || Nat.beq (Nat.lor (Nat.land a.2.1 (Nat.lor (lkO ops.toList o) (bitO o.dst))) (Nat.land (bitO o.dst) a.2.2)) 0) && prB m (bitO o.dst) (lkO ops.toList o) acc) = true from h)
    rcases List.mem_cons.1 hq with rfl | hq
    · rcases Bool.or_eq_true_iff.1 h1 with h1 | h1
      · exact .inl h1
      · exact .inr (Nat.eq_of_beq_eq_true h1)
    · exact ih h2 q hq
theorem bkB_inv {k : Nat} : ∀ {l : List Edge}, bkB k l = true → ∀ e ∈ l, Region.binds .any e = true → e.on < k := by
  intro l
  induction l with
  | nil => intro _ e he; cases he
  | cons a l ih =>
    intro h e he hbd
    obtain ⟨h1, h2⟩ := Bool.and_eq_true_iff.1 (show ((!Region.binds .any a || Nat.blt a.on k) && bkB k l) = true from h)
    rcases List.mem_cons.1 he with rfl | he
    · rw [hbd] at h1
      exact Nat.le_of_ble_eq_true (show Nat.ble (e.on + 1) k = true from h1)
    · exact ih h2 e he hbd
theorem drB_inv : ∀ (l : List Oper) (i : Nat), ops.toList.drop i = l → ∀ ms acc, drB ops.toList l ms i acc = true →
    ∀ k o, i ≤ k → ops[k]? = some o → (∀ e ∈ o.after, Region.binds .any e = true → e.on < k) ∧ (∀ q ∈ acc, prOk ops (ms.getD (k - i) 0) o q) ∧
      ∀ j oj, i ≤ j → j < k → ops[j]? = some oj → prOk ops (ms.getD (k - i) 0) o (j, bitO oj.dst, lkO ops.toList oj) := by
  intro l
  induction l with
  | nil =>
    intro i hl ms acc _ k o hk ho
    have hk' := (Array.getElem?_eq_some_iff.1 ho).1
    have := congrArg List.length hl
    simp at this; omega
  | cons o l ih =>
    intro i hl ms acc h k ok hk hok
    have hio : ops[i]? = some o := by
      rw [← Array.getElem?_toList]
      have := congrArg (·[0]?) hl
      simpa using this
    have hl' : ops.toList.drop (i + 1) = l := by rw [← List.drop_drop, hl]; rfl
    obtain ⟨h1, h2⟩ := Bool.and_eq_true_iff.1 (show ((bkB i o.after.toList && prB (hdN ms) (bitO o.dst) (lkO ops.toList o) acc) && drB ops.toList l ms.tail (i + 1) ((i, bitO o.dst, lkO ops.toList o) :: acc)) = true from h)
    obtain ⟨h1, h3⟩ := Bool.and_eq_true_iff.1 h1
    have hm0 : hdN ms = ms.getD 0 0 := by cases ms <;> rfl
    by_cases he : k = i
    · subst he
      obtain rfl := Option.some.inj (hio.symm.trans hok)
      refine ⟨fun e he => bkB_inv h1 e (by simpa using he), fun q hq => ?_, fun j oj _ _ => by omega⟩
      rw [Nat.sub_self, ← hm0]
      exact prB_inv h3 q hq
    · have hm : ms.tail.getD (k - (i + 1)) 0 = ms.getD (k - i) 0 := by
        cases ms with
        | nil => simp
        | cons m ms => rw [show k - i = (k - (i + 1)) + 1 by omega]; rfl
      obtain ⟨r1, r2, r3⟩ := ih (i + 1) hl' ms.tail _ h2 k ok (by omega) hok
      rw [hm] at r2 r3
      refine ⟨r1, fun q hq => r2 q (by simp [hq]), fun j oj h4 h5 h6 => ?_⟩
      by_cases hj : j = i
      · subst hj
        obtain rfl := Option.some.inj (hio.symm.trans h6)
        exact r2 _ (by simp)
      · exact r3 j oj (by omega) h5 h6
theorem drawB_stat (h : drawB ops.toList = true) : DrawStat ops := by
  have H := drB_inv ops.toList 0 rfl (befs ops.toList) [] h
  refine ⟨fun k o ho e he hb => (H k o (Nat.zero_le _) ho).1 e he hb, fun j k oj ok hj hoj hok => ?_⟩
  rcases (H k ok (Nat.zero_le _) hok).2.2 j oj (Nat.zero_le _) hj hoj with q | q
  · exact .inl q
  · right
    obtain ⟨q1, q2⟩ := Nat.or_eq_zero_iff.1 (show (bitO oj.dst &&& (lkO ops.toList ok ||| bitO ok.dst)) ||| (bitO ok.dst &&& lkO ops.toList oj) = 0 from q)
    have bd : ∀ {o : Oper} {d}, o.dst = some d → (bitO o.dst).testBit d = true := fun {o d} h => by
      rw [h]; show (Nat.shiftLeft 1 d).testBit d = true; rw [tb_one]; simp
    have p1 : ∀ d, oj.dst = some d → d ∉ ok.looksAt ops ∧ ok.dst ≠ some d := fun d hd => by
      have := congrArg (Nat.testBit · d) q1
      simp only [Nat.testBit_and, Nat.testBit_or, Nat.zero_testBit, bd hd, Bool.true_and, Bool.or_eq_false_iff] at this
      refine ⟨fun hm => ?_, fun hm => ?_⟩
      · rw [lkO_tb hm] at this; cases this.1
      · rw [bd hm] at this; cases this.2
    have p2 : ∀ d, ok.dst = some d → d ∉ oj.looksAt ops := fun d hd hm => by
      have := congrArg (Nat.testBit · d) q2
      simp only [Nat.testBit_and, Nat.zero_testBit, bd hd, Bool.true_and] at this
      rw [lkO_tb hm] at this; cases this
    unfold Oper.apart
    rw [Bool.and_eq_true]
    constructor
    · cases hd : oj.dst with
      | none => rfl
      | some d =>
        obtain ⟨r1, r2⟩ := p1 d hd
        show (!(ok.looksAt ops).contains d && ok.dst != some d) = true
        rw [Bool.and_eq_true]
        exact ⟨by simpa using r1, by simpa using r2⟩
    · cases hd : ok.dst with
      | none => rfl
      | some d =>
        show (!(oj.looksAt ops).contains d) = true
        simpa using p2 d hd
theorem draw_all (hρ : Opq ρ) (hc : CallOk ρ call) (gm : Nat) : DrawOk ρ N gm call := by
  intro rid ops h
  obtain ⟨h1, h2⟩ := Bool.and_eq_true_iff.1 (show (ops.toList.all (dstO N) && (!true || drawB ops.toList)) = true from h)
  refine draw_ok hρ hc (drawB_stat h2) fun k o ho d hd => dstO_all h1 o ?_ d hd
  rw [← Array.getElem?_toList] at ho
  exact List.mem_of_getElem? ho
end
end Go.Ev
namespace Go.Ev
open Go
set_option maxRecDepth 100000
noncomputable def progB : List Func → Bool
  | [] => true
  | fn :: r => (match fn.body with
    | none => true
    | some c => dstB fn.ntmps c && !(fn.name == "runtime.NumGoroutine")) && progB r
theorem progB_all : ∀ {l : List Func}, progB l = true → ∀ fn ∈ l, ∀ c, fn.body = some c → dstB fn.ntmps c = true ∧ (fn.name == "runtime.NumGoroutine") = false := by
  intro l
  induction l with
  | nil => intro _ fn h; cases h
  | cons a l ih =>
    intro h fn hfn c hc
    obtain ⟨h1, h2⟩ := Bool.and_eq_true_iff.1 (show ((match a.body with
      | none => true
      | some c => dstB a.ntmps c && !(a.name == "runtime.NumGoroutine")) && progB l) = true from h)
    rcases List.mem_cons.1 hfn with rfl | hfn
    · rw [hc] at h1
      obtain ⟨h3, h4⟩ := Bool.and_eq_true_iff.1 (show (dstB fn.ntmps c && !(fn.name == "runtime.NumGoroutine")) = true from h1)
      exact ⟨h3, by simpa using h4⟩
    · exact ih h2 fn hfn c hc
theorem prog_b : progB PP.funcs.toList = true := by kernel_rfl
theorem prog_ok : ProgOk := fun f fn c hf hc => progB_all prog_b fn (by rw [← Array.getElem?_toList] at hf; exact List.mem_of_getElem? hf) c hc
end Go.Ev
namespace Go.Ev
open Go
set_option maxRecDepth 100000
section
variable {ρ : Rho} {g g' : G} {v : V} {call : Cl} {aa : List V}
noncomputable def fnOf (k : Nat) : Func := (PP.funcs[k]?).getD default
structure Ext1 (k : Nat) (e : Array Value → Sem Value) : Prop where
  f : PP.funcs[k]? = some (fnOf k)
  nm : ((fnOf k).name == "runtime.NumGoroutine") = false
  b : (fnOf k).body.isNone = true
  nx : Extern.findNext (fnOf k) = none
  fd : Extern.find (fnOf k) = some e
theorem VRs.three_ {σ : Sg} {x y z : V} {A : Array Value} (h : VRs ρ σ [x, y, z] A.toList) : ∃ rx ry rz, A = #[rx, ry, rz] ∧ VR ρ σ x rx ∧ VR ρ σ y ry ∧ VR ρ σ z rz := by
  simp only [VRs] at h
  obtain ⟨rx, t, h1, h2, ry, t', rfl, h3, rz, t'', rfl, h4, rfl⟩ := h
  exact ⟨rx, ry, rz, by rw [← Array.toList_inj, h1], h2, h3, h4⟩
theorem ikEq_inv {k k' : IntKind} (h : ikEq k k' = true) : k = k' := by
  cases k <;> cases k' <;> first | rfl | cases h
/-- a primitive that is no function of the program -/
theorem csim_ext {f : Nat} {e : Array Value → Sem Value} (_hE : Ext1 f e) (hg : Grow g g')
    (h : ∀ σ F w A, Pre ρ σ F g g' w → VRs ρ σ aa (A : Array Value).toList → ∃ σ' rv w', (callFunc f A).run PP w = .ok (.value rv) w' ∧ Step ρ σ F g g' w σ' w' ∧ VR ρ σ' v rv) : CSim ρ f aa g v g' :=
  ⟨hg, fun σ F w A hp hA => .inl (h σ F w A hp hA)⟩
theorem isU8_inv {k : IntKind} {r : RO} (h : isU8 k r = .ok v g') : k = .u8 ∧ r = .ok v g' := by
  obtain ⟨h1, h2⟩ := cnd_inv h
  exact ⟨ikEq_inv h1, h2⟩
theorem packL_mod (a : UInt8) (l : List UInt8) : packL (a :: l) % 256 = a.toNat ∧ packL (a :: l) / 256 = packL l := by
  have := a.toNat_lt
  rw [packL_cons]
  omega
theorem beq_u8 (a : UInt8) {c : Nat} (hc : c ≤ 255) : (a == (Int.ofNat c).toNat.toUInt8) = Nat.beq a.toNat c := by
  have e : ((Int.ofNat c).toNat.toUInt8).toNat = c := by
    show (UInt8.ofNat c).toNat = c
    rw [UInt8.toNat_ofNat']; omega
  rw [Bool.eq_iff_iff, beq_iff_eq]
  constructor
  · intro h
    rw [← UInt8.toNat_inj, e] at h
    rw [h]; exact Nat.beq_refl c
  · intro h
    rw [← UInt8.toNat_inj, e]
    exact Nat.eq_of_beq_eq_true h
theorem cntS_ok {c : Nat} (hc : c ≤ 255) : ∀ l : List UInt8, cntS l.length (packL l) c = Lib.countByte l (Int.ofNat c).toNat.toUInt8 := by
  intro l
  induction l with
  | nil => rfl
  | cons a l ih =>
    obtain ⟨h1, h2⟩ := packL_mod a l
    show Nat.add (@Bool.rec (fun _ => Nat) 0 1 (Nat.beq (packL (a :: l) % 256) c)) (cntS l.length (packL (a :: l) / 256) c) = _
    rw [h1, h2, ih]
    unfold Lib.countByte
    rw [List.count_cons, beq_u8 a hc]
    cases Nat.beq a.toNat c
    · show 0 + _ = _; simp
    · show 1 + _ = _; simp [Nat.add_comm]
theorem pCount_ok (hE : Ext1 485 Extern.BytealgCount.count) (h : pCount call aa g = .ok v g') : CSim ρ 485 aa g v g' := by
  unfold pCount at h
  split at h
  · rename_i l n k c
    obtain ⟨rfl, h1⟩ := isU8_inv h
    obtain ⟨hc, h2⟩ := cnd_inv h1
    have hc : c ≤ 255 := Nat.le_of_ble_eq_true hc
    rw [fcN_eq] at h2
    obtain ⟨rfl, rfl⟩ := ok_inj (show RO.ok (.i .i64 (.ofNat (cntS l n c))) g = .ok v g' from h2)
    refine csim_ext hE (.refl _) fun σ F w A hp hA => ?_
    obtain ⟨rx, ry, rfl, v1, v2⟩ := hA.two_
    simp only [VR] at v1 v2
    obtain ⟨bs, rfl, rfl, rfl⟩ := v1
    subst v2
    refine ⟨σ, .int .i64 (Lib.countByte bs.data.toList (Int.ofNat c).toNat.toUInt8 : Nat), w, ?_, .refl hp, ?_⟩
    · rw [run_callFunc_extern hE.f hE.nm hE.b hE.nx hE.fd, Lib.run_countString]; rfl
    · simp only [VR, cntS_ok hc]; rfl
  · exact (bad_ne h).elim
theorem idxS_ok {c : Nat} (hc : c ≤ 255) : ∀ (l : List UInt8) (i : Nat), idxS l.length (packL l) c i = if Lib.indexByte l (Int.ofNat c).toNat.toUInt8 = -1 then -1 else Lib.indexByte l (Int.ofNat c).toNat.toUInt8 + i := by
  intro l
  induction l with
  | nil => intro i; rfl
  | cons a l ih =>
    intro i
    obtain ⟨h1, h2⟩ := packL_mod a l
    show @Bool.rec (fun _ => Int) (idxS l.length (packL (a :: l) / 256) c (i + 1)) (.ofNat i) (Nat.beq (packL (a :: l) % 256) c) = _
    rw [h1, h2, ih]
    have hge := Lib.indexByte_ge l (Int.ofNat c).toNat.toUInt8
    have e : Lib.indexByte (a :: l) (Int.ofNat c).toNat.toUInt8 = if (a == (Int.ofNat c).toNat.toUInt8) then 0 else if Lib.indexByte l (Int.ofNat c).toNat.toUInt8 == -1 then -1 else Lib.indexByte l (Int.ofNat c).toNat.toUInt8 + 1 := by rw [Lib.indexByte]
    rw [e, beq_u8 a hc]
    generalize Lib.indexByte l (Int.ofNat c).toNat.toUInt8 = z at hge ⊢
    cases Nat.beq a.toNat c
    · show (if z = -1 then (-1 : Int) else z + ((i + 1 : Nat) : Int)) = _
      simp only [Bool.false_eq_true, if_false, beq_iff_eq]
      by_cases e : z = -1
      · simp [e]
      · have : ¬ (z + 1 = -1) := by omega
        rw [if_neg e, if_neg e, if_neg this]
        push_cast
        omega
    · show (Int.ofNat i) = _
      simp
theorem pIdx_ok (hE : Ext1 502 Extern.BytealgIndexByte.indexByte) (h : pIdx call aa g = .ok v g') : CSim ρ 502 aa g v g' := by
  unfold pIdx at h
  split at h
  · rename_i l n k c
    obtain ⟨rfl, h1⟩ := isU8_inv h
    obtain ⟨hc, h2⟩ := cnd_inv h1
    have hc : c ≤ 255 := Nat.le_of_ble_eq_true hc
    rw [fcI_eq] at h2
    obtain ⟨rfl, rfl⟩ := ok_inj h2
    refine csim_ext hE (.refl _) fun σ F w A hp hA => ?_
    obtain ⟨rx, ry, rfl, v1, v2⟩ := hA.two_
    simp only [VR] at v1 v2
    obtain ⟨bs, rfl, rfl, rfl⟩ := v1
    subst v2
    refine ⟨σ, .int .i64 (Lib.indexByte bs.data.toList (Int.ofNat c).toNat.toUInt8), w, ?_, .refl hp, ?_⟩
    · rw [run_callFunc_extern hE.f hE.nm hE.b hE.nx hE.fd, Lib.run_indexByteString]; rfl
    · simp only [VR, idxS_ok hc]
      split
      · rename_i e; rw [e]
      · simp
  · exact (bad_ne h).elim
/-- the cell that an atomic looks at -/
theorem cell_at {σ : Sg} {F : Nat → Prop} {h : PT O} {w : World} {b sz o : Nat} {t : PT V} (hr : Rep ρ σ F h w) (hF : F b) (hb : getH h b = .c sz t) {L : Loc} (hL : σ b = some L) (ho : o < sz) :
    ∃ x, w.cell? ⟨L.r, L.d + o, none⟩ = some x ∧ VR ρ σ (getT t o) x ∧ w.frozen? ⟨L.r, L.d + o, none⟩ = false := by
  obtain ⟨cs, e, fz, h1, h2, h3, h4, h5⟩ := live_row hr hF hb hL
  obtain ⟨x, hx, vx⟩ := h5 o ho
  refine ⟨x, by rw [cell_of h1, hx], vx, ?_⟩
  exact frozen_of h1 _ (by rw [h2]; exact h4) (by omega)
theorem pLd_ok {f : Nat} {k : IntKind} (hE : Ext1 f (Extern.Atomic.loadT (.int k))) (h : pLd k call aa g = .ok v g') : CSim ρ f aa g v g' := by
  unfold pLd at h
  split at h
  · rename_i b o
    obtain ⟨sz, t, hb, hlt, h1⟩ := loadW_inv h
    obtain ⟨k', n, hv, h2⟩ := elI_inv h1
    obtain ⟨hk, h3⟩ := cnd_inv h2
    obtain rfl := ikEq_inv hk
    obtain ⟨rfl, rfl⟩ := ok_inj h3
    refine csim_ext hE (grow_rd _ _) fun σ F w A hp hA => ?_
    obtain ⟨rx, rfl, v1⟩ := hA.one_
    simp only [VR] at v1
    obtain ⟨L, hL, rfl⟩ := v1
    obtain ⟨x, hc, vx, hz⟩ := cell_at hp.rep (hp.cov b (.inl (rd_in b g))) hb hL hlt
    rw [hv] at vx; simp only [VR] at vx; subst vx
    exact ⟨σ, _, w, run_call_load hE.f hE.nm hE.b hE.nx k hE.fd hc, step_rd hp, by simp only [VR]⟩
  · exact (bad_ne h).elim
theorem setCells_one (w : World) (r o : Nat) (v : Value) : w.setCells r o [v] = w.setCell ⟨r, o, none⟩ v := rfl
theorem vrs_int {σ : Sg} {k : IntKind} {n : Int} : VRs ρ σ [V.i k n] [Value.int k n] := by
  simp only [VRs]; exact ⟨_, _, rfl, by simp only [VR], rfl⟩
theorem pSt_ok {f : Nat} (hE : Ext1 f Extern.Atomic.storeT) (h : pSt call aa g = .ok v g') : CSim ρ f aa g v g' := by
  unfold pSt at h
  split at h
  · rename_i b o k y
    obtain ⟨sz, t, hb, hle, hok, h1⟩ := storeC_inv h
    obtain ⟨rfl, rfl⟩ := ok_inj (show RO.ok unitV _ = .ok v g' from h1)
    refine csim_ext hE (grow_wr _ _ _ (by rw [hb]; simp)) fun σ F w A hp hA => ?_
    obtain ⟨rx, ry, rfl, v1, v2⟩ := hA.two_
    simp only [VR] at v1 v2
    obtain ⟨L, hL, rfl⟩ := v1
    subst v2
    obtain ⟨x, hc, vx, hz⟩ := cell_at hp.rep (hp.cov b (.inl ((wr_in b _ g).imp id .inr))) hb hL (show o < sz from hle)
    obtain ⟨st, _⟩ := step_store hp hb hL hle vrs_int
    rw [setCells_one] at st
    exact ⟨σ, _, _, run_call_store hE.f hE.nm hE.b hE.nx hE.fd hc hz, st, vu⟩
  · exact (bad_ne h).elim
theorem pAdd_ok {f : Nat} {k : IntKind} (hE : Ext1 f (Extern.Atomic.update (Op.intArith .add) k true)) (h : pAdd k call aa g = .ok v g') : CSim ρ f aa g v g' := by
  unfold pAdd at h
  split at h
  · rename_i b o k1 d
    obtain ⟨hk, h1⟩ := cnd_inv h
    obtain rfl := ikEq_inv hk
    obtain ⟨sz0, t0, hb0, hlt, h2⟩ := loadW_inv h1
    obtain ⟨k2, n, hv, h3⟩ := elI_inv h2
    obtain ⟨hk2, h4⟩ := cnd_inv h3
    obtain rfl := ikEq_inv hk2
    rw [fcI_eq] at h4
    obtain ⟨sz, t, hb, hle, hok, h5⟩ := storeC_inv h4
    have hb1 : getH g.h b = .c sz t := by rw [← rd_h b g]; exact hb
    rw [hb0] at hb1
    obtain ⟨rfl, rfl⟩ : sz0 = sz ∧ t0 = t := by injection hb1 with a1 a2; exact ⟨a1, a2⟩
    obtain ⟨rfl, rfl⟩ := ok_inj h5
    have G1 := grow_rd b g
    have G2 := grow_wr b (.c sz0 (ptOf [.i k (wrp k (addI n d))] o t0)) (rd b g) (by rw [hb]; simp)
    refine csim_ext hE (G1.trans G2) fun σ F w A hp hA => ?_
    obtain ⟨rx, ry, rfl, v1, v2⟩ := hA.two_
    simp only [VR] at v1 v2
    obtain ⟨L, hL, rfl⟩ := v1
    subst v2
    have hp1 := hp.fst G1 G2
    have s1 : Step ρ σ F g (rd b g) w σ w := step_rd hp1
    have hp2 := hp.snd G1 s1
    obtain ⟨x, hc, vx, hz⟩ := cell_at hp.rep (hp1.cov b (.inl (rd_in b g))) hb0 hL hlt
    rw [hv] at vx; simp only [VR] at vx; subst vx
    obtain ⟨st, _⟩ := step_store hp2 hb hL hle vrs_int
    rw [setCells_one] at st
    have hs : (Op.intArith .add k n d).run PP w = .ok (.int k (wrp k (addI n d))) w := by
      rw [wrp_eq, addI_eq]; simp [Op.intArith]
    exact ⟨σ, _, _, run_call_add hE.f hE.nm hE.b hE.nx k hE.fd hc hz hs, s1.trans hp G1 G2 st, by simp only [VR]⟩
  · exact (bad_ne h).elim
theorem pCas_ok {f : Nat} {k : IntKind} (hE : Ext1 f (Extern.Atomic.casT (.int k))) (h : pCas k call aa g = .ok v g') : CSim ρ f aa g v g' := by
  unfold pCas at h
  split at h
  · rename_i b o k1 x k2 y
    obtain ⟨hk, h1⟩ := cnd_inv h
    obtain rfl := ikEq_inv hk
    obtain ⟨hk2, h2⟩ := cnd_inv h1
    obtain rfl := ikEq_inv hk2
    obtain ⟨sz0, t0, hb0, hlt, h3⟩ := loadW_inv h2
    obtain ⟨k3, n, hv, h4⟩ := elI_inv h3
    obtain ⟨hk3, h5⟩ := cnd_inv h4
    obtain rfl := ikEq_inv hk3
    rw [cnd_eq] at h5
    by_cases he : eqI n x = true
    · rw [if_pos he] at h5
      obtain ⟨sz, t, hb, hle, hok, h6⟩ := storeC_inv h5
      have hb1 : getH g.h b = .c sz t := by rw [← rd_h b g]; exact hb
      rw [hb0] at hb1
      obtain ⟨rfl, rfl⟩ : sz0 = sz ∧ t0 = t := by injection hb1 with a1 a2; exact ⟨a1, a2⟩
      obtain ⟨rfl, rfl⟩ := ok_inj h6
      have G1 := grow_rd b g
      have G2 := grow_wr b (.c sz0 (ptOf [.i k y] o t0)) (rd b g) (by rw [hb]; simp)
      refine csim_ext hE (G1.trans G2) fun σ F w A hp hA => ?_
      obtain ⟨rx, ry, rz, rfl, v1, v2, v3⟩ := hA.three_
      simp only [VR] at v1 v2 v3
      obtain ⟨L, hL, rfl⟩ := v1
      subst v2 v3
      have hp1 := hp.fst G1 G2
      have s1 : Step ρ σ F g (rd b g) w σ w := step_rd hp1
      have hp2 := hp.snd G1 s1
      obtain ⟨z, hc, vx, hz⟩ := cell_at hp.rep (hp1.cov b (.inl (rd_in b g))) hb0 hL hlt
      rw [hv] at vx; simp only [VR] at vx; subst vx
      obtain ⟨st, _⟩ := step_store hp2 hb hL hle vrs_int
      rw [setCells_one] at st
      rw [eqI_eq, beq_iff_eq] at he
      subst he
      exact ⟨σ, _, _, run_call_cas_hit hE.f hE.nm hE.b hE.nx k hE.fd hc hz, s1.trans hp G1 G2 st, by simp only [VR]⟩
    · rw [if_neg he] at h5
      obtain ⟨rfl, rfl⟩ := ok_inj h5
      refine csim_ext hE (grow_rd _ _) fun σ F w A hp hA => ?_
      obtain ⟨rx, ry, rz, rfl, v1, v2, v3⟩ := hA.three_
      simp only [VR] at v1 v2 v3
      obtain ⟨L, hL, rfl⟩ := v1
      subst v2 v3
      obtain ⟨z, hc, vx, hz⟩ := cell_at hp.rep (hp.cov b (.inl (rd_in b g))) hb0 hL hlt
      rw [hv] at vx; simp only [VR] at vx; subst vx
      rw [eqI_eq, beq_iff_eq] at he
      exact ⟨σ, _, w, run_call_cas_miss hE.f hE.nm hE.b hE.nx k hE.fd hc hz he, step_rd hp, by simp only [VR]⟩
  · exact (bad_ne h).elim
theorem pU0_ok {f : Nat} {m : Mark} (hE : Ext1 f (fun _ => do mark m; pure Extern.Race.none_)) (h : pU0 call aa g = .ok v g') : CSim ρ f aa g v g' := by
  unfold pU0 at h
  split at h
  · obtain ⟨rfl, rfl⟩ := ok_inj (show RO.ok unitV _ = .ok v g' from h)
    refine csim_ext hE (.refl _) fun σ F w A hp hA => ?_
    simp only [VRs] at hA
    obtain rfl : A = #[] := by rw [← Array.toList_inj, hA]
    exact ⟨σ, _, w, run_call_mark0 hE.f hE.nm hE.b hE.nx m hE.fd w, .refl hp, vu⟩
  · exact (bad_ne h).elim
theorem pU1_ok {f : Nat} {m : Addr → Mark} (hE : Ext1 f (Extern.Race.marked m)) (h : pU1 call aa g = .ok v g') : CSim ρ f aa g v g' := by
  unfold pU1 at h
  split at h
  · obtain ⟨rfl, rfl⟩ := ok_inj (show RO.ok unitV _ = .ok v g' from h)
    refine csim_ext hE (.refl _) fun σ F w A hp hA => ?_
    obtain ⟨rx, rfl, v1⟩ := hA.one_
    simp only [VR] at v1
    obtain ⟨L, hL, rfl⟩ := v1
    exact ⟨σ, _, w, run_call_marked hE.f hE.nm hE.b hE.nx m hE.fd _ w, .refl hp, vu⟩
  · exact (bad_ne h).elim
end
theorem e485 : Ext1 485 Extern.BytealgCount.count := ⟨by kernel_rfl, by kernel_rfl, by kernel_rfl, by kernel_rfl, by kernel_rfl⟩
theorem e502 : Ext1 502 Extern.BytealgIndexByte.indexByte := ⟨by kernel_rfl, by kernel_rfl, by kernel_rfl, by kernel_rfl, by kernel_rfl⟩
theorem e387 : Ext1 387 (Extern.Atomic.loadT (.int .u64)) := ⟨by kernel_rfl, by kernel_rfl, by kernel_rfl, by kernel_rfl, by kernel_rfl⟩
theorem e503 : Ext1 503 (Extern.Atomic.loadT (.int .u32)) := ⟨by kernel_rfl, by kernel_rfl, by kernel_rfl, by kernel_rfl, by kernel_rfl⟩
theorem e537 : Ext1 537 Extern.Atomic.storeT := ⟨by kernel_rfl, by kernel_rfl, by kernel_rfl, by kernel_rfl, by kernel_rfl⟩
theorem e391 : Ext1 391 (Extern.Atomic.update (Op.intArith .add) .u64 true) := ⟨by kernel_rfl, by kernel_rfl, by kernel_rfl, by kernel_rfl, by kernel_rfl⟩
theorem e562 : Ext1 562 (Extern.Atomic.update (Op.intArith .add) .i32 true) := ⟨by kernel_rfl, by kernel_rfl, by kernel_rfl, by kernel_rfl, by kernel_rfl⟩
theorem e557 : Ext1 557 (Extern.Atomic.casT (.int .i32)) := ⟨by kernel_rfl, by kernel_rfl, by kernel_rfl, by kernel_rfl, by kernel_rfl⟩
theorem e556 : Ext1 556 (fun _ => do mark .disable; pure Extern.Race.none_) := ⟨by kernel_rfl, by kernel_rfl, by kernel_rfl, by kernel_rfl, by kernel_rfl⟩
theorem e558 : Ext1 558 (fun _ => do mark .enable; pure Extern.Race.none_) := ⟨by kernel_rfl, by kernel_rfl, by kernel_rfl, by kernel_rfl, by kernel_rfl⟩
theorem e559 : Ext1 559 (Extern.Race.marked .acquire) := ⟨by kernel_rfl, by kernel_rfl, by kernel_rfl, by kernel_rfl, by kernel_rfl⟩
theorem e561 : Ext1 561 (Extern.Race.marked .releaseMerge) := ⟨by kernel_rfl, by kernel_rfl, by kernel_rfl, by kernel_rfl, by kernel_rfl⟩
end Go.Ev
