/-
  Calls with their states, as oracles; laws with arguments.
-/
import Derived.Test.YtdfgmieinbmfkaaGreatEvF
namespace Go.Ev
open Go
set_option maxRecDepth 100000
/-! values under other numbers of blocks -/
mutual
noncomputable def rnV (d : Nat) : V → V
  | .p b o => .p (Nat.add b d) o
  | .l b o n c x => .l (Nat.add b d) o n c x
  | .m r => .m (Nat.add r d)
  | .f a fs cs => .f a (rnVs d fs) (rnVs d cs)
  | .g cs => .g (rnVs d cs)
  | .t cs => .t (rnVs d cs)
  | .d t v => .d t (rnV d v)
  | .u => .u
  | .b x => .b x
  | .i k n => .i k n
  | .s l n => .s l n
  | .pn => .pn
  | .ln => .ln
  | .mn => .mn
  | .fn => .fn
  | .x n => .x n
noncomputable def rnVs (d : Nat) : List V → List V
  | [] => []
  | a :: r => rnV d a :: rnVs d r
end
section
variable {ρ : Rho}
mutual
theorem VR_rn {σ : Sg} {d : Nat} : ∀ (v : V) (rv : Value), VR ρ σ (rnV d v) rv ↔ VR ρ (fun b => σ (b + d)) v rv
  | .p b o, rv => by simp only [rnV, VR]; exact Iff.rfl
  | .l b o n c x, rv => by simp only [rnV, VR]; exact Iff.rfl
  | .m r, rv => by simp only [rnV, VR]; exact Iff.rfl
  | .f a fs cs, rv => by
    simp only [rnV, VR]
    exact ⟨fun ⟨xs, ys, h, h1, h2⟩ => ⟨xs, ys, h, (VRs_rn _ _).1 h1, (VRs_rn _ _).1 h2⟩, fun ⟨xs, ys, h, h1, h2⟩ => ⟨xs, ys, h, (VRs_rn _ _).2 h1, (VRs_rn _ _).2 h2⟩⟩
  | .g cs, rv => by
    simp only [rnV, VR]
    exact ⟨fun ⟨xs, h, h1⟩ => ⟨xs, h, (VRs_rn _ _).1 h1⟩, fun ⟨xs, h, h1⟩ => ⟨xs, h, (VRs_rn _ _).2 h1⟩⟩
  | .t cs, rv => by
    simp only [rnV, VR]
    exact ⟨fun ⟨xs, h, h1⟩ => ⟨xs, h, (VRs_rn _ _).1 h1⟩, fun ⟨xs, h, h1⟩ => ⟨xs, h, (VRs_rn _ _).2 h1⟩⟩
  | .d t v, rv => by
    simp only [rnV, VR]
    exact ⟨fun ⟨y, h, h1⟩ => ⟨y, h, (VR_rn _ _).1 h1⟩, fun ⟨y, h, h1⟩ => ⟨y, h, (VR_rn _ _).2 h1⟩⟩
  | .u, rv => by simp only [rnV, VR]
  | .b x, rv => by simp only [rnV, VR]
  | .i k n, rv => by simp only [rnV, VR]
  | .s l n, rv => by simp only [rnV, VR]
  | .pn, rv => by simp only [rnV, VR]
  | .ln, rv => by simp only [rnV, VR]
  | .mn, rv => by simp only [rnV, VR]
  | .fn, rv => by simp only [rnV, VR]
  | .x n, rv => by simp only [rnV, VR]
theorem VRs_rn {σ : Sg} {d : Nat} : ∀ (l : List V) (rl : List Value), VRs ρ σ (rnVs d l) rl ↔ VRs ρ (fun b => σ (b + d)) l rl
  | [], rl => by simp only [rnVs, VRs]
  | a :: r, rl => by
    simp only [rnVs, VRs]
    exact ⟨fun ⟨b, t, h, h1, h2⟩ => ⟨b, t, h, (VR_rn _ _).1 h1, (VRs_rn _ _).1 h2⟩, fun ⟨b, t, h, h1, h2⟩ => ⟨b, t, h, (VR_rn _ _).2 h1, (VRs_rn _ _).2 h2⟩⟩
end
noncomputable def rnT (d : Nat) : PT V → PT V
  | .e => .e
  | .n v l r => .n (rnV d v) (rnT d l) (rnT d r)
noncomputable def rnM (d : Nat) : List (V × V) → List (V × V)
  | [] => []
  | a :: r => (rnV d a.1, rnV d a.2) :: rnM d r
noncomputable def rnO (d : Nat) : O → O
  | .no => .no
  | .c n t => .c n (rnT d t)
  | .m es => .m (rnM d es)
theorem rnT_at (d : Nat) : ∀ (t : PT V) (p : List Bool), getVP (rnT d t) p = rnV d (getVP t p) := by
  intro t
  induction t with
  | e => intro p; show V.u = rnV d .u; simp only [rnV]
  | n v l r ihl ihr =>
    intro p
    cases p with
    | nil => rfl
    | cons b p =>
      show getVP (.n (rnV d v) (rnT d l) (rnT d r)) (b :: p) = _
      rw [getVP_n, getVP_n]
      cases b
      · exact ihr p
      · exact ihl p
theorem ERs_rn {σ : Sg} {d : Nat} : ∀ (es : List (V × V)) (rl : List MapEntry), ERs ρ σ (rnM d es) rl ↔ ERs ρ (fun b => σ (b + d)) es rl := by
  intro es
  induction es with
  | nil => intro rl; exact Iff.rfl
  | cons a es ih =>
    intro rl
    constructor
    · rintro ⟨b, t, h, h1, h2, h3⟩
      exact ⟨b, t, h, (VR_rn _ _).1 h1, (VR_rn _ _).1 h2, (ih t).1 h3⟩
    · rintro ⟨b, t, h, h1, h2, h3⟩
      exact ⟨b, t, h, (VR_rn _ _).2 h1, (VR_rn _ _).2 h2, (ih t).2 h3⟩
theorem OR_rn {σ : Sg} {d : Nat} {w : World} {L : Loc} : ∀ o : O, OR ρ σ w L (rnO d o) ↔ OR ρ (fun b => σ (b + d)) w L o
  | .no => Iff.rfl
  | .c n t => by
    have e : ∀ i, getT (rnT d t) i = rnV d (getT t i) := fun i => rnT_at d t (path i)
    constructor
    · rintro ⟨cs, ee, fz, h1, h2, h3, h4, h5⟩
      exact ⟨cs, ee, fz, h1, h2, h3, h4, fun i hi => let ⟨x, hx, vx⟩ := h5 i hi; ⟨x, hx, (VR_rn _ _).1 (e i ▸ vx)⟩⟩
    · rintro ⟨cs, ee, fz, h1, h2, h3, h4, h5⟩
      exact ⟨cs, ee, fz, h1, h2, h3, h4, fun i hi => let ⟨x, hx, vx⟩ := h5 i hi; ⟨x, hx, (e i).symm ▸ (VR_rn _ _).2 vx⟩⟩
  | .m es => by
    constructor
    · rintro ⟨rs, ck, h1, h2, h3⟩
      exact ⟨rs, ck, h1, (ERs_rn _ _).1 h2, h3⟩
    · rintro ⟨rs, ck, h1, h2, h3⟩
      exact ⟨rs, ck, h1, (ERs_rn _ _).2 h2, h3⟩
end
end Go.Ev
namespace Go.Ev
open Go
set_option maxRecDepth 100000
/-! a call known from other numbers of blocks -/
mutual
noncomputable def okRf (P : Nat → Bool) : V → Bool
  | .p b _ => P b
  | .l b _ _ _ _ => P b
  | .m r => P r
  | .f _ fs cs => okRfs P fs && okRfs P cs
  | .g cs => okRfs P cs
  | .t cs => okRfs P cs
  | .d _ v => okRf P v
  | .u => true
  | .b _ => true
  | .i _ _ => true
  | .s _ _ => true
  | .pn => true
  | .ln => true
  | .mn => true
  | .fn => true
  | .x _ => true
noncomputable def okRfs (P : Nat → Bool) : List V → Bool
  | [] => true
  | a :: r => okRf P a && okRfs P r
end
section
variable {ρ : Rho}
mutual
theorem VR_on {σ σ0 : Sg} {P : Nat → Bool} (h : ∀ b, P b = true → σ0 b = σ b) : ∀ (v : V) (rv : Value), okRf P v = true → VR ρ σ v rv → VR ρ σ0 v rv
  | .p b o, rv, k, e => by simp only [okRf] at k; simp only [VR, h b k] at e ⊢; exact e
  | .l b o n c x, rv, k, e => by simp only [okRf] at k; simp only [VR, h b k] at e ⊢; exact e
  | .m r, rv, k, e => by simp only [okRf] at k; simp only [VR, h r k] at e ⊢; exact e
  | .f a fs cs, rv, k, e => by
    simp only [okRf, Bool.and_eq_true] at k; simp only [VR] at e ⊢
    obtain ⟨xs, ys, e0, e1, e2⟩ := e
    exact ⟨xs, ys, e0, VRs_on h _ _ k.1 e1, VRs_on h _ _ k.2 e2⟩
  | .g cs, rv, k, e => by
    simp only [okRf] at k; simp only [VR] at e ⊢
    obtain ⟨xs, e0, e1⟩ := e
    exact ⟨xs, e0, VRs_on h _ _ k e1⟩
  | .t cs, rv, k, e => by
    simp only [okRf] at k; simp only [VR] at e ⊢
    obtain ⟨xs, e0, e1⟩ := e
    exact ⟨xs, e0, VRs_on h _ _ k e1⟩
  | .d t v, rv, k, e => by
    simp only [okRf] at k; simp only [VR] at e ⊢
    obtain ⟨y, e0, e1⟩ := e
    exact ⟨y, e0, VR_on h _ _ k e1⟩
  | .u, rv, _, e => by simp only [VR]
  | .b x, rv, _, e => by simp only [VR] at e ⊢; exact e
  | .i a n, rv, _, e => by simp only [VR] at e ⊢; exact e
  | .s l n, rv, _, e => by simp only [VR] at e ⊢; exact e
  | .pn, rv, _, e => by simp only [VR] at e ⊢; exact e
  | .ln, rv, _, e => by simp only [VR] at e ⊢; exact e
  | .mn, rv, _, e => by simp only [VR] at e ⊢; exact e
  | .fn, rv, _, e => by simp only [VR] at e ⊢; exact e
  | .x n, rv, _, e => by simp only [VR] at e ⊢; exact e
theorem VRs_on {σ σ0 : Sg} {P : Nat → Bool} (h : ∀ b, P b = true → σ0 b = σ b) : ∀ (l : List V) (rl : List Value), okRfs P l = true → VRs ρ σ l rl → VRs ρ σ0 l rl
  | [], rl, _, e => by simp only [VRs] at e ⊢; exact e
  | a :: r, rl, k, e => by
    simp only [okRfs, Bool.and_eq_true] at k; simp only [VRs] at e ⊢
    obtain ⟨b, t, e0, e1, e2⟩ := e
    exact ⟨b, t, e0, VR_on h _ _ k.1 e1, VRs_on h _ _ k.2 e2⟩
end
/-- what a footprint's blocks hold leads to its blocks alone -/
def Clos (P : Nat → Bool) : O → Prop
  | .no => True
  | .c n t => ∀ i, i < n → okRf P (getT t i) = true
  | .m es => ∀ e ∈ es, okRf P e.1 = true ∧ okRf P e.2 = true
theorem ERs_on {σ σ0 : Sg} {P : Nat → Bool} (h : ∀ b, P b = true → σ0 b = σ b) : ∀ (es : List (V × V)) (rl : List MapEntry), (∀ e ∈ es, okRf P e.1 = true ∧ okRf P e.2 = true) → ERs ρ σ es rl → ERs ρ σ0 es rl := by
  intro es
  induction es with
  | nil => intro rl _ e; exact e
  | cons a es ih =>
    intro rl hk e
    obtain ⟨b, t, e0, e1, e2, e3⟩ := e
    obtain ⟨k1, k2⟩ := hk a List.mem_cons_self
    exact ⟨b, t, e0, VR_on h _ _ k1 e1, VR_on h _ _ k2 e2, ih t (fun e he => hk e (List.mem_cons_of_mem _ he)) e3⟩
theorem OR_on {σ σ0 : Sg} {P : Nat → Bool} (h : ∀ b, P b = true → σ0 b = σ b) {w : World} {L : Loc} : ∀ o : O, Clos P o → OR ρ σ w L o → OR ρ σ0 w L o
  | .no, _, _ => trivial
  | .c _ _, k, ⟨cs, ee, fz, h1, h2, h3, h4, h5⟩ => ⟨cs, ee, fz, h1, h2, h3, h4, fun i hi => let ⟨x, hx, vx⟩ := h5 i hi; ⟨x, hx, VR_on h _ _ (k i hi) vx⟩⟩
  | .m _, k, ⟨rs, ck, h1, h2, h3⟩ => ⟨rs, ck, h1, ERs_on h _ _ k h2, h3⟩
/-- a footprint, and where it lies -/
structure Foot (d n0 n2 : Nat) (H0 H2 H H' : PT O) (a0 : List V) (P : Nat → Bool) : Prop where
  live : ∀ b, P b = true ↔ getH H0 b ≠ .no
  lt : ∀ b, P b = true → b < n0
  le : n0 ≤ n2
  args : okRfs P a0 = true
  clos : ∀ b, P b = true → Clos P (getH H0 b)
  here : ∀ b, P b = true → getH H (b + d) = rnO d (getH H0 b)
  foot : ∀ b, (P b = true ∨ (n0 ≤ b ∧ b < n2)) → getH H' (b + d) = .no ∨ getH H' (b + d) = rnO d (getH H2 b)
  rest : ∀ c, (∀ b, c = b + d → P b = false ∧ ¬ (n0 ≤ b ∧ b < n2)) → getH H' c = .no ∨ getH H' c = getH H c
theorem foot_step {d n0 n2 r0 w0 : Nat} {H0 H2 H H' : PT O} {a0 : List V} {P : Nat → Bool} (K : Foot d n0 n2 H0 H2 H H' a0 P) {σ : Sg} {F : Nat → Prop} {w : World}
    (hp : Pre ρ σ F ⟨H, n0 + d, false, r0, w0⟩ ⟨H', n2 + d, false, r0, w0⟩ w) :
    ∃ σ0 : Sg, Pre ρ σ0 (fun _ => True) ⟨H0, n0, false, 0, 0⟩ ⟨H2, n2, false, 0, 0⟩ w ∧ (∀ l rl, okRfs P l = true → VRs ρ σ (rnVs d l) rl → VRs ρ σ0 l rl) ∧
      ∀ σ1 w', Step ρ σ0 (fun _ => True) ⟨H0, n0, false, 0, 0⟩ ⟨H2, n2, false, 0, 0⟩ w σ1 w' → ∃ σ', Step ρ σ F ⟨H, n0 + d, false, r0, w0⟩ ⟨H', n2 + d, false, r0, w0⟩ w σ' w' ∧ ∀ v rv, VR ρ σ1 v rv → VR ρ σ' (rnV d v) rv := by
  have hF : ∀ b, F b := fun b => hp.cov b (.inl (.inl rfl))
  have ne_of : ∀ {o : O}, o ≠ .no → rnO d o ≠ .no := fun {o} h => by cases o <;> simp [rnO] at h ⊢
  let σ0 : Sg := fun b => if P b = true then σ (b + d) else none
  have s0 : ∀ b, P b = true → σ0 b = σ (b + d) := fun b hb => by show (if P b = true then σ (b + d) else none) = _; rw [if_pos hb]
  have s0n : ∀ b, ¬ P b = true → σ0 b = none := fun b hb => by show (if P b = true then σ (b + d) else none) = _; rw [if_neg hb]
  clear_value σ0
  have s0P : ∀ b L, σ0 b = some L → P b = true ∧ σ (b + d) = some L := fun b L e => by
    by_cases hb : P b = true
    · exact ⟨hb, (s0 b hb).symm.trans e⟩
    · rw [s0n b hb] at e; cases e
  have hl0 : ∀ b, P b = true → getH H (b + d) ≠ .no := fun b hb => by rw [K.here b hb]; exact ne_of ((K.live b).1 hb)
  have on0 : ∀ b, P b = true → σ0 b = (fun b => σ (b + d)) b := fun b hb => s0 b hb
  refine ⟨σ0, ⟨⟨fun b _ hl => ?_, fun b b' L L' _ _ hl hl' e e' er => ?_⟩, fun b L e => hp.bnd (b + d) L (s0P b L e).2, fun b h1 _ => ?_, fun _ _ => trivial, ⟨hp.inv.size, hp.inv.old, fun b L e => hp.inv.far (b + d) L (s0P b L e).2⟩⟩, fun l rl hk hv => VRs_on on0 l rl hk ((VRs_rn l rl).1 hv), fun σ1 w' st => ?_⟩
  · have hP := (K.live b).2 hl
    obtain ⟨L, h1, h2⟩ := hp.rep.rel (b + d) (hF _) (hl0 b hP)
    have h2 : OR ρ σ w L (getH H (b + d)) := h2
    rw [K.here b hP] at h2
    exact ⟨L, (s0 b hP).trans h1, OR_on on0 _ (K.clos b hP) ((OR_rn _).1 h2)⟩
  · obtain ⟨p1, q1⟩ := s0P b L e
    obtain ⟨p2, q2⟩ := s0P b' L' e'
    have := hp.rep.inj (b + d) (b' + d) L L' (hF _) (hF _) (hl0 b p1) (hl0 b' p2) q1 q2 er
    omega
  · exact s0n b fun hP => by have := K.lt b hP; have h1 : n0 ≤ b := h1; omega
  · let σ' : Sg := fun c => if n0 + d ≤ c ∧ c < n2 + d then σ1 (c - d) else σ c
    have t1 : ∀ c, n0 + d ≤ c ∧ c < n2 + d → σ' c = σ1 (c - d) := fun c hc => by show (if n0 + d ≤ c ∧ c < n2 + d then σ1 (c - d) else σ c) = _; rw [if_pos hc]
    have t2 : ∀ c, ¬ (n0 + d ≤ c ∧ c < n2 + d) → σ' c = σ c := fun c hc => by show (if n0 + d ≤ c ∧ c < n2 + d then σ1 (c - d) else σ c) = _; rw [if_neg hc]
    clear_value σ'
    have le1 : Le σ1 (fun b => σ' (b + d)) := fun b L e => by
      show σ' (b + d) = some L
      by_cases hb : n0 ≤ b ∧ b < n2
      · rw [t1 _ ⟨by omega, by omega⟩, Nat.add_sub_cancel]; exact e
      · rw [st.ext.same b hb] at e
        obtain ⟨p, q⟩ := s0P b L e
        have := K.lt b p
        rw [t2 _ (by omega)]; exact q
    have far : ∀ c L, (∀ b, c = b + d → P b = false ∧ ¬ (n0 ≤ b ∧ b < n2)) → getH H c ≠ .no → σ c = some L → ∀ b M, σ0 b = some M → M.r ≠ L.r := fun c L hc hl e b M eM er => by
      obtain ⟨p, q⟩ := s0P b M eM
      have := hp.rep.inj (b + d) c M L (hF _) (hF _) (hl0 b p) hl q e er
      have h := (hc b this.symm).1
      rw [p] at h; cases h
    have isf : ∀ c, (∃ b, c = b + d ∧ (P b = true ∨ (n0 ≤ b ∧ b < n2))) ∨ (∀ b, c = b + d → P b = false ∧ ¬ (n0 ≤ b ∧ b < n2)) := fun c => by
      by_cases h : ∃ b, c = b + d ∧ (P b = true ∨ (n0 ≤ b ∧ b < n2))
      · exact .inl h
      · refine .inr fun b hb => ⟨?_, ?_⟩
        · cases hP : P b with
          | false => rfl
          | true => exact (h ⟨b, hb, .inl hP⟩).elim
        · exact fun hn => h ⟨b, hb, .inr hn⟩
    have rf : ∀ b, (P b = true ∨ (n0 ≤ b ∧ b < n2)) → getH H' (b + d) ≠ .no → getH H' (b + d) = rnO d (getH H2 b) ∧ getH H2 b ≠ .no := fun b hb hl => by
      have e := (K.foot b hb).resolve_left hl
      refine ⟨e, fun h => hl ?_⟩
      rw [e, h]; rfl
    have ro : ∀ c, (∀ b, c = b + d → P b = false ∧ ¬ (n0 ≤ b ∧ b < n2)) → getH H' c ≠ .no → getH H' c = getH H c ∧ getH H c ≠ .no := fun c hc hl => by
      have e := (K.rest c hc).resolve_left hl
      exact ⟨e, e ▸ hl⟩
    have so : ∀ c, (∀ b, c = b + d → P b = false ∧ ¬ (n0 ≤ b ∧ b < n2)) → σ' c = σ c := fun c hc => t2 c fun h => by
      exact (hc (c - d) (by omega)).2 ⟨by omega, by omega⟩
    have mix : ∀ b c L L', (P b = true ∨ (n0 ≤ b ∧ b < n2)) → (∀ b, c = b + d → P b = false ∧ ¬ (n0 ≤ b ∧ b < n2)) → getH H c ≠ .no → σ1 b = some L → σ c = some L' → L.r = L'.r → False := fun b c L L' hb hc hl e e' er => by
      by_cases hn : n0 ≤ b ∧ b < n2
      · obtain ⟨_, q⟩ := st.ext.new b L hn.1 hn.2 e
        rcases q with q | ⟨c0, M, _, q2, q3⟩
        · have := hp.bnd c L' e'
          have q : w.heap.size ≤ L.r := q
          omega
        · exact far c L' hc hl e' c0 M q2 (q3.trans er)
      · rw [st.ext.same b hn] at e
        exact far c L' hc hl e' b L e er
    refine ⟨σ', ⟨⟨fun c hc => t2 c hc, fun c L h1 h2 h3 => ?_⟩, ⟨fun c _ hl => ?_, fun c c' L L' _ _ hl hl' e e' er => ?_⟩, ⟨st.fr.size, fun r hr hW => ?_, st.fr.env⟩, fun c L e => ?_⟩, fun v rv hv => (VR_rn v rv).2 (VR.mono le1 v rv hv)⟩
    · have h1 : n0 + d ≤ c := h1
      have h2 : c < n2 + d := h2
      rw [t1 c ⟨h1, h2⟩] at h3
      obtain ⟨q1, q⟩ := st.ext.new (c - d) L (by show n0 ≤ c - d; omega) (by show c - d < n2; omega) h3
      refine ⟨q1, q.imp id fun ⟨c0, M, _, u, v⟩ => ⟨c0 + d, M, .inl rfl, (s0P c0 M u).2, v⟩⟩
    · have hl : getH H' c ≠ .no := hl
      show ∃ L, σ' c = some L ∧ OR ρ σ' w' L (getH H' c)
      rcases isf c with ⟨b, rfl, hb⟩ | hc
      · obtain ⟨e, hl2⟩ := rf b hb hl
        obtain ⟨L, h1, h2⟩ := st.rep.rel b trivial hl2
        refine ⟨L, le1 b L h1, ?_⟩
        rw [e]
        exact (OR_rn _).2 (OR.mono le1 rfl _ h2)
      · obtain ⟨e, hl2⟩ := ro c hc hl
        obtain ⟨L, h1, h2⟩ := hp.rep.rel c (hF _) hl2
        refine ⟨L, (so c hc).trans h1, ?_⟩
        rw [e]
        have hle : Le σ σ' := fun x M ex => by
          by_cases hx : n0 + d ≤ x ∧ x < n2 + d
          · have := hp.free x hx.1 hx.2
            rw [this] at ex; cases ex
          · rw [t2 x hx]; exact ex
        exact OR.mono hle (st.fr.same L.r (hp.bnd c L h1) fun b M _ eM => far c L hc hl2 h1 b M eM) _ h2
    · have hl : getH H' c ≠ .no := hl
      have hl' : getH H' c' ≠ .no := hl'
      rcases isf c with ⟨b, rfl, hb⟩ | hc
      · obtain ⟨_, hl2⟩ := rf b hb hl
        obtain ⟨M, h1, _⟩ := st.rep.rel b trivial hl2
        obtain rfl : M = L := Option.some.inj ((le1 b M h1).symm.trans e)
        rcases isf c' with ⟨b', rfl, hb'⟩ | hc'
        · obtain ⟨_, hl2'⟩ := rf b' hb' hl'
          obtain ⟨M', h1', _⟩ := st.rep.rel b' trivial hl2'
          obtain rfl : M' = L' := Option.some.inj ((le1 b' M' h1').symm.trans e')
          have := st.rep.inj b b' M M' trivial trivial hl2 hl2' h1 h1' er
          rw [this]
        · obtain ⟨_, hl2'⟩ := ro c' hc' hl'
          rw [so c' hc'] at e'
          exact (mix b c' M L' hb hc' hl2' h1 e' er).elim
      · obtain ⟨_, hl2⟩ := ro c hc hl
        rw [so c hc] at e
        rcases isf c' with ⟨b', rfl, hb'⟩ | hc'
        · obtain ⟨_, hl2'⟩ := rf b' hb' hl'
          obtain ⟨M', h1', _⟩ := st.rep.rel b' trivial hl2'
          obtain rfl : M' = L' := Option.some.inj ((le1 b' M' h1').symm.trans e')
          exact (mix b' c M' L hb' hc hl2 h1' e er.symm).elim
        · obtain ⟨_, hl2'⟩ := ro c' hc' hl'
          rw [so c' hc'] at e'
          exact hp.rep.inj c c' L L' (hF _) (hF _) hl2 hl2' e e' er
    · exact st.fr.same r hr fun b M _ eM => by
        obtain ⟨_, q⟩ := s0P b M eM
        exact hW (b + d) M (.inl rfl) q
    · by_cases hx : n0 + d ≤ c ∧ c < n2 + d
      · rw [t1 c hx] at e
        exact st.bnd _ L e
      · rw [t2 c hx] at e
        exact Nat.lt_of_lt_of_le (hp.bnd c L e) st.fr.size
end
end Go.Ev
namespace Go.Ev
open Go
set_option maxRecDepth 100000
/-! calls with states, as oracles -/
structure Ent where
  f : Nat
  a : List V
  l0 : List (Nat × O)
  n0 : Nat
  v : V
  l2 : List (Nat × O)
  n2 : Nat
noncomputable def hOf : List (Nat × O) → PT O := @List.rec (Nat × O) (fun _ => PT O) .e (fun p _ ih => setH ih p.1 p.2)
noncomputable def memK (b : Nat) : List (Nat × O) → Bool
  | [] => false
  | p :: r => Nat.beq p.1 b || memK b r
noncomputable def eqO (x y : O) : Bool := match x, y with
  | .no, .no => true
  | .c n t, .c n' t' => Nat.beq n n' && eqT t t'
  | .m es, .m es' => eqM es es'
  | _, _ => false
noncomputable def isNo : O → Bool
  | .no => true
  | _ => false
noncomputable def hasL (d : Nat) (h : PT O) : List (Nat × O) → Bool
  | [] => true
  | p :: r => eqO (getH h (Nat.add p.1 d)) (rnO d p.2) && hasL d h r
noncomputable def putL (d : Nat) (h : PT O) : List (Nat × O) → PT O
  | [] => h
  | p :: r => setH (putL d h r) (Nat.add p.1 d) (rnO d p.2)
noncomputable def oneE (e : Ent) (base : Cl) : Cl := fun f aa g => @Bool.rec (fun _ => RO) (base f aa g)
  (@G.rec (fun _ => RO) (fun h nx on r w => @Bool.rec (fun _ => RO) (@Bool.rec (fun _ => RO) (base f aa g)
    (fcN (Nat.sub nx e.n0) fun d => @Bool.rec (fun _ => RO) (base f aa g) (.ok (rnV d e.v) ⟨putL d h e.l2, Nat.add e.n2 d, false, r, w⟩) (sqVs aa (rnVs d e.a) && hasL d h e.l0))
    (Nat.ble e.n0 nx)) (base f aa g) on) g) (Nat.beq f e.f)
/-- an entry is a run -/
noncomputable def chkE (call : Cl) (e : Ent) : Bool := match call e.f e.a ⟨hOf e.l0, e.n0, false, nat_lit 0, nat_lit 0⟩ with
  | .ok v g => sqV v e.v && (Nat.beq g.nx e.n2 && (Nat.beq g.r 0 && (Nat.beq g.w 0 && subH (hOf e.l2) g.h)))
  | _ => false
/-- an entry is in order -/
noncomputable def okPT (P : Nat → Bool) : PT V → Bool
  | .e => true
  | .n v l r => okRf P v && (okPT P l && okPT P r)
noncomputable def okO (P : Nat → Bool) : O → Bool
  | .no => false
  | .c _ t => okPT P t
  | .m es => es.all fun p => okRf P p.1 && okRf P p.2
noncomputable def wfE (e : Ent) : Bool := okRfs (fun b => memK b e.l0) e.a && (e.l0.all (fun p => okO (fun b => memK b e.l0) p.2 && (Nat.blt p.1 e.n0 && memK p.1 e.l2)) && (nodK e.l0 && (nodK e.l2 && e.l2.all fun p => memK p.1 e.l0 || (Nat.ble e.n0 p.1 && Nat.blt p.1 e.n2))))
where nodK : List (Nat × O) → Bool
  | [] => true
  | p :: r => !memK p.1 r && nodK r
theorem memK_iff {b : Nat} : ∀ {l : List (Nat × O)}, memK b l = true ↔ ∃ o, (b, o) ∈ l := by
  intro l
  induction l with
  | nil => simp [memK]
  | cons p r ih =>
    obtain ⟨x, o⟩ := p
    show (Nat.beq x b || memK b r) = true ↔ _
    rw [Bool.or_eq_true, ih]
    constructor
    · rintro (h | ⟨o', h⟩)
      · rw [nbeq h]; exact ⟨o, List.mem_cons_self⟩
      · exact ⟨o', List.mem_cons_of_mem _ h⟩
    · rintro ⟨o', h⟩
      rcases List.mem_cons.1 h with h | h
      · injection h with h1 h2
        subst h1
        exact .inl (Nat.beq_refl b)
      · exact .inr ⟨o', h⟩
theorem hOf_get {b : Nat} : ∀ {l : List (Nat × O)}, wfE.nodK l = true → (∀ o, (b, o) ∈ l → getH (hOf l) b = o) ∧ (memK b l = false → getH (hOf l) b = .no) := by
  intro l
  induction l with
  | nil => intro _; exact ⟨fun o h => (by cases h), fun _ => rfl⟩
  | cons p r ih =>
    intro h
    obtain ⟨x, o⟩ := p
    have h : (!memK x r && wfE.nodK r) = true := h
    rw [Bool.and_eq_true] at h
    obtain ⟨h1, h2⟩ := h
    obtain ⟨i1, i2⟩ := ih h2
    have e : getH (hOf ((x, o) :: r)) b = if x = b then o else getH (hOf r) b := getH_set (hOf r) x b o
    refine ⟨fun o' ho => ?_, fun hm => ?_⟩
    · rw [e]
      rcases List.mem_cons.1 ho with ho | ho
      · injection ho with e1 e2
        rw [if_pos e1.symm, e2]
      · have hx : x ≠ b := fun hx => by
          have : memK x r = true := memK_iff.2 ⟨o', hx ▸ ho⟩
          rw [this] at h1; cases h1
        rw [if_neg hx]; exact i1 o' ho
    · have hm : (Nat.beq x b || memK b r) = false := hm
      rw [Bool.or_eq_false_iff] at hm
      have hx : x ≠ b := fun hx => by
        subst hx
        rw [show Nat.beq x x = true from Nat.beq_refl x] at hm; cases hm.1
      rw [e, if_neg hx]; exact i2 hm.2
theorem putL_get {d : Nat} {h : PT O} : ∀ (l : List (Nat × O)), wfE.nodK l = true → ∀ c, (∀ b o, (b, o) ∈ l → c = b + d → getH (putL d h l) c = rnO d o) ∧ ((∀ b, c = b + d → memK b l = false) → getH (putL d h l) c = getH h c) := by
  intro l
  induction l with
  | nil => intro _ c; exact ⟨fun b o h => (by cases h), fun _ => rfl⟩
  | cons p r ih =>
    intro hn c
    obtain ⟨x, o⟩ := p
    have hn : (!memK x r && wfE.nodK r) = true := hn
    rw [Bool.and_eq_true] at hn
    obtain ⟨h1, h2⟩ := hn
    obtain ⟨i1, i2⟩ := ih h2 c
    have e : getH (putL d h ((x, o) :: r)) c = if x + d = c then rnO d o else getH (putL d h r) c := getH_set (putL d h r) (x + d) c (rnO d o)
    refine ⟨fun b o' ho hc => ?_, fun hm => ?_⟩
    · rw [e]
      rcases List.mem_cons.1 ho with ho | ho
      · injection ho with e1 e2
        subst e1 e2
        rw [if_pos hc.symm]
      · have hx : x + d ≠ c := fun hx => by
          have hxb : x = b := by omega
          have : memK x r = true := memK_iff.2 ⟨o', hxb ▸ ho⟩
          rw [this] at h1; cases h1
        rw [if_neg hx]; exact i1 b o' ho hc
    · have hx : x + d ≠ c := fun hx => by
        have hm : (Nat.beq x x || memK x r) = false := hm x hx.symm
        rw [show Nat.beq x x = true from Nat.beq_refl x] at hm; cases hm
      rw [e, if_neg hx]
      refine i2 fun b hb => ?_
      have hm : (Nat.beq x b || memK b r) = false := hm b hb
      exact (Bool.or_eq_false_iff.1 hm).2
theorem eqO_ok : ∀ (x y : O), eqO x y = true → x = y
  | .no, y, h => by cases y <;> simp [eqO] at h ⊢
  | .c n t, y, h => by
    cases y <;> simp only [eqO, Bool.false_eq_true, Bool.and_eq_true] at h
    rw [nbeq h.1, eqT_ok _ _ h.2]
  | .m es, y, h => by
    cases y <;> simp only [eqO, Bool.false_eq_true] at h
    rw [eqM_ok _ _ h]
theorem hasL_ok {d : Nat} {h : PT O} : ∀ (l : List (Nat × O)), hasL d h l = true → ∀ b o, (b, o) ∈ l → getH h (b + d) = rnO d o := by
  intro l
  induction l with
  | nil => intro _ b o hm; cases hm
  | cons p r ih =>
    intro hh b o hm
    have hh : (eqO (getH h (p.1 + d)) (rnO d p.2) && hasL d h r) = true := hh
    rw [Bool.and_eq_true] at hh
    rcases List.mem_cons.1 hm with hm | hm
    · subst hm; exact eqO_ok _ _ hh.1
    · exact ih hh.2 b o hm
theorem okPT_at {P : Nat → Bool} : ∀ (t : PT V), okPT P t = true → ∀ p, okRf P (getVP t p) = true := by
  intro t
  induction t with
  | e => intro _ p; show okRf P .u = true; simp only [okRf]
  | n v l r ihl ihr =>
    intro h p
    have h : (okRf P v && (okPT P l && okPT P r)) = true := h
    simp only [Bool.and_eq_true] at h
    cases p with
    | nil => exact h.1
    | cons b p =>
      rw [getVP_n]
      cases b
      · exact ihr h.2.2 p
      · exact ihl h.2.1 p
theorem okO_clos {P : Nat → Bool} {o : O} (h : okO P o = true) : Clos P o ∧ o ≠ .no := by
  cases o with
  | no => simp [okO] at h
  | c n t => exact ⟨fun i _ => okPT_at t h (path i), by simp⟩
  | m es =>
    refine ⟨fun e he => ?_, by simp⟩
    have := List.all_eq_true.1 (show (es.all fun p => okRf P p.1 && okRf P p.2) = true from h) e he
    rwa [Bool.and_eq_true] at this
section
variable {ρ : Rho}
theorem oneE_ok {e : Ent} {call base : Cl} (hw : wfE e = true) (hc : CallOk ρ call) (hE : chkE call e = true) (hp0 : primsOf e.f = none) (hb : CallOk ρ base) : CallOk ρ (oneE e base) := by
  intro f aa g v g' hr
  obtain ⟨h, nx, on, r, w⟩ := g
  have hr : @Bool.rec (fun _ => RO) (base f aa ⟨h, nx, on, r, w⟩)
    (@Bool.rec (fun _ => RO) (@Bool.rec (fun _ => RO) (base f aa ⟨h, nx, on, r, w⟩)
      (fcN (Nat.sub nx e.n0) fun d => @Bool.rec (fun _ => RO) (base f aa ⟨h, nx, on, r, w⟩) (.ok (rnV d e.v) ⟨putL d h e.l2, Nat.add e.n2 d, false, r, w⟩) (sqVs aa (rnVs d e.a) && hasL d h e.l0))
      (Nat.ble e.n0 nx)) (base f aa ⟨h, nx, on, r, w⟩) on) (Nat.beq f e.f) = .ok v g' := hr
  cases hf : Nat.beq f e.f with
  | false => rw [hf] at hr; exact hb _ _ _ _ _ hr
  | true =>
    rw [hf] at hr
    obtain rfl := nbeq hf
    cases on with
    | true => exact hb _ _ _ _ _ hr
    | false =>
      cases hn : Nat.ble e.n0 nx with
      | false => rw [hn] at hr; exact hb _ _ _ _ _ hr
      | true =>
        rw [hn] at hr
        have hr : (fcN (Nat.sub nx e.n0) fun d => @Bool.rec (fun _ => RO) (base e.f aa ⟨h, nx, false, r, w⟩) (.ok (rnV d e.v) ⟨putL d h e.l2, Nat.add e.n2 d, false, r, w⟩) (sqVs aa (rnVs d e.a) && hasL d h e.l0)) = .ok v g' := hr
        rw [fcN_eq] at hr
        obtain ⟨d, hd⟩ : ∃ d, Nat.sub nx e.n0 = d := ⟨_, rfl⟩
        rw [hd] at hr
        have hnx : nx = e.n0 + d := by have : nx - e.n0 = d := hd; have := Nat.le_of_ble_eq_true hn; omega
        subst hnx
        cases hk : (sqVs aa (rnVs d e.a) && hasL d h e.l0) with
        | false => rw [hk] at hr; exact hb _ _ _ _ _ hr
        | true =>
          rw [hk] at hr
          obtain ⟨rfl, rfl⟩ := ok_inj (show RO.ok (rnV d e.v) ⟨putL d h e.l2, e.n2 + d, false, r, w⟩ = .ok v g' from hr)
          rw [Bool.and_eq_true] at hk
          obtain ⟨hk1, hk2⟩ := hk
          obtain rfl := sqVs_ok _ _ hk1
          -- the entry's run
          unfold chkE at hE
          cases hrun : call e.f e.a ⟨hOf e.l0, e.n0, false, nat_lit 0, nat_lit 0⟩ with
          | bad m => rw [hrun] at hE; cases hE
          | df a b c => rw [hrun] at hE; cases hE
          | ok v1 g1 =>
            rw [hrun] at hE
            have hE : (sqV v1 e.v && (Nat.beq g1.nx e.n2 && (Nat.beq g1.r 0 && (Nat.beq g1.w 0 && subH (hOf e.l2) g1.h)))) = true := hE
            simp only [Bool.and_eq_true] at hE
            obtain ⟨E1, E2, E3, E4, E5⟩ := hE
            obtain rfl := sqV_ok _ _ E1
            obtain ⟨⟨GG, cs⟩, cd⟩ := hc _ _ _ _ _ hrun
            obtain ⟨_, ds⟩ := cd hp0
            obtain ⟨h1, nx1, on1, r1, w1⟩ := g1
            obtain rfl := nbeq (show Nat.beq nx1 e.n2 = true from E2)
            obtain rfl := nbeq (show Nat.beq r1 0 = true from E3)
            obtain rfl := nbeq (show Nat.beq w1 0 = true from E4)
            obtain rfl : on1 = false := GG.on
            have E5 : subH (hOf e.l2) h1 = true := E5
            have hwf := hw
            unfold wfE at hwf
            simp only [Bool.and_eq_true] at hwf
            obtain ⟨W1, W2, W3, W4, W5⟩ := hwf
            have W2' : ∀ b o, (b, o) ∈ e.l0 → okO (fun b => memK b e.l0) o = true ∧ b < e.n0 ∧ memK b e.l2 = true := fun b o hm => by
              have := List.all_eq_true.1 W2 (b, o) hm
              simp only [Bool.and_eq_true] at this
              exact ⟨this.1, Nat.le_of_ble_eq_true this.2.1, this.2.2⟩
            have W5' : ∀ b o, (b, o) ∈ e.l2 → memK b e.l0 = true ∨ (e.n0 ≤ b ∧ b < e.n2) := fun b o hm => by
              have := List.all_eq_true.1 W5 (b, o) hm
              rw [Bool.or_eq_true, Bool.and_eq_true] at this
              exact this.imp id fun q => ⟨Nat.le_of_ble_eq_true q.1, Nat.le_of_ble_eq_true q.2⟩
            have hle : e.n0 ≤ e.n2 := GG.nx
            have foot : ∀ σ F w0, Pre ρ σ F ⟨h, e.n0 + d, false, r, w⟩ ⟨putL d h e.l2, e.n2 + d, false, r, w⟩ w0 → Foot d e.n0 e.n2 (hOf e.l0) h1 h (putL d h e.l2) e.a (fun b => memK b e.l0) := fun σ F w0 hp => by
              refine ⟨fun b => ?_, fun b hb => ?_, hle, W1, fun b hb => ?_, fun b hb => ?_, fun b hb => ?_, fun c hc => ?_⟩
              · constructor
                · intro hm
                  obtain ⟨o, ho⟩ := memK_iff.1 hm
                  rw [(hOf_get W3).1 o ho]
                  exact (okO_clos (W2' b o ho).1).2
                · intro hl
                  cases hm : memK b e.l0 with
                  | true => rfl
                  | false => exact (hl ((hOf_get W3).2 hm)).elim
              · obtain ⟨o, ho⟩ := memK_iff.1 hb
                exact (W2' b o ho).2.1
              · obtain ⟨o, ho⟩ := memK_iff.1 hb
                rw [(hOf_get W3).1 o ho]
                exact (okO_clos (W2' b o ho).1).1
              · obtain ⟨o, ho⟩ := memK_iff.1 hb
                rw [(hOf_get W3).1 o ho]
                exact hasL_ok _ hk2 b o ho
              · cases hm : memK b e.l2 with
                | true =>
                  obtain ⟨o, ho⟩ := memK_iff.1 hm
                  rw [(putL_get e.l2 W4 (b + d)).1 b o ho rfl]
                  have := subH_ok E5 b
                  rw [(hOf_get W4).1 o ho] at this
                  exact this.imp (fun q => by rw [q]; rfl) fun q => by rw [q]
                | false =>
                  left
                  rw [(putL_get e.l2 W4 (b + d)).2 fun b' hb' => by rw [← show b = b' by omega]; exact hm]
                  rcases hb with hb | hb
                  · obtain ⟨o, ho⟩ := memK_iff.1 hb
                    rw [(W2' b o ho).2.2] at hm; cases hm
                  · cases hx : getH h (b + d) with
                    | no => rfl
                    | c n t =>
                      obtain ⟨L, q, _⟩ := hp.rep.rel (b + d) (hp.cov _ (.inl (.inl rfl))) (by show getH h (b + d) ≠ .no; rw [hx]; simp)
                      rw [hp.free (b + d) (by show e.n0 + d ≤ b + d; omega) (by show b + d < e.n2 + d; omega)] at q; cases q
                    | m es =>
                      obtain ⟨L, q, _⟩ := hp.rep.rel (b + d) (hp.cov _ (.inl (.inl rfl))) (by show getH h (b + d) ≠ .no; rw [hx]; simp)
                      rw [hp.free (b + d) (by show e.n0 + d ≤ b + d; omega) (by show b + d < e.n2 + d; omega)] at q; cases q
              · right
                refine (putL_get e.l2 W4 c).2 fun b hb => ?_
                cases hm : memK b e.l2 with
                | false => rfl
                | true =>
                  obtain ⟨o, ho⟩ := memK_iff.1 hm
                  rcases W5' b o ho with q | q
                  · rw [(hc b hb).1] at q; cases q
                  · exact ((hc b hb).2 q).elim
            have GN : Grow ⟨h, e.n0 + d, false, r, w⟩ ⟨putL d h e.l2, e.n2 + d, false, r, w⟩ :=
              ⟨Nat.add_le_add_right hle d, rfl, fun _ h => h, fun _ h => h, fun b hb _ => (hb (.inl rfl)).elim, fun ho => by cases ho⟩
            refine ⟨⟨GN, fun σ F w0 A hp hA => ?_⟩, fun _ => ⟨GN, fun σ F w0 A hp hA => ?_⟩⟩
            · obtain ⟨σ0, hp0, hv, hs⟩ := foot_step (foot σ F w0 hp) hp
              rcases cs σ0 _ w0 A hp0 (hv _ _ W1 hA) with ⟨σ1, rv, w', k1, k2, k3⟩ | ⟨k1, k2⟩
              · obtain ⟨σ', s1, s2⟩ := hs σ1 w' k2
                exact .inl ⟨σ', rv, w', k1, s1, s2 _ _ k3⟩
              · refine .inr ⟨k1, k2.mono fun ee w' he => ?_⟩
                obtain ⟨σ1, rv, rfl, k2, k3⟩ := he
                obtain ⟨σ', s1, s2⟩ := hs σ1 w' k2
                exact ⟨σ', rv, rfl, s1, s2 _ _ k3⟩
            · obtain ⟨σ0, hp0, hv, hs⟩ := foot_step (foot σ F w0 hp) hp
              obtain ⟨k1, k2⟩ := ds σ0 _ w0 A hp0 (hv _ _ W1 hA)
              refine ⟨k1, k2.mono fun ee u w' he => ⟨he.1, ?_⟩⟩
              obtain ⟨_, σ1, rv, rfl, k2, k3⟩ := he
              obtain ⟨σ', s1, s2⟩ := hs σ1 w' k2
              exact ⟨σ', rv, rfl, s1, s2 _ _ k3⟩
end
end Go.Ev
namespace Go.Ev
open Go
set_option maxRecDepth 100000
/-! calls with oracles at every depth -/
noncomputable def stepE (ih : Cl) : Cl := fun f aa g => @Option.rec _ (fun _ => RO) (bodyAt ih f aa g) (fun pr => orE (pr ih aa g) (bodyAt ih f aa g)) (primsOf f)
noncomputable def callX (wr : Cl → Cl) : Nat → Cl := @Nat.rec (fun _ => Cl) (fun _ _ _ => .bad (nat_lit 154)) (fun _ ih => wr (stepE ih))
section
variable {ρ : Rho}
theorem stepE_ok (hρ : Opq ρ) {call : Cl} (ih : CallOk ρ call) : CallOk ρ (stepE call) := by
  intro f aa g v g' h
  have hD : ∀ call, CallOk ρ call → ∀ N gm, DrawOk ρ N gm call := fun call hc N gm => draw_all hρ hc gm
  unfold stepE at h
  cases hpr : primsOf f with
  | some pr =>
    rw [hpr] at h
    have h : orE (pr call aa g) (bodyAt call f aa g) = .ok v g' := h
    cases hx : pr call aa g with
    | ok v1 g1 =>
      rw [hx] at h
      obtain ⟨rfl, rfl⟩ := ok_inj (show RO.ok v1 g1 = .ok v g' from h)
      exact ⟨prims_ok f pr _ hpr ih aa g _ _ hx, fun hh => by cases hh⟩
    | bad k =>
      rw [hx] at h
      obtain ⟨h1, _⟩ := bodyAt_ok hρ prog_ok hD ih (show bodyAt call f aa g = .ok v g' from h)
      exact ⟨h1, fun hh => by cases hh⟩
    | df a b c => rw [hx] at h; exact (bad_ne (show RO.bad 158 = .ok v g' from h)).elim
  | none =>
    rw [hpr] at h
    obtain ⟨h1, h2⟩ := bodyAt_ok hρ prog_ok hD ih (show bodyAt call f aa g = .ok v g' from h)
    exact ⟨h1, fun _ => h2⟩
theorem callX_ok (hρ : Opq ρ) {wr : Cl → Cl} (hw : ∀ base, CallOk ρ base → CallOk ρ (wr base)) : ∀ m, CallOk ρ (callX wr m) := by
  intro m
  induction m with
  | zero => intro f aa g v g' h; exact (bad_ne (show RO.bad 154 = .ok v g' from h)).elim
  | succ m ih => exact hw _ (stepE_ok hρ ih)
end
end Go.Ev
namespace Go.Ev
open Go
set_option maxRecDepth 100000
/-! laws with arguments -/
noncomputable def chkT : RO → Bool
  | .ok v _ => sqV v (.b true)
  | _ => false
section
variable {ρ : Rho}
theorem law_run {call : Cl} (hc : CallOk ρ call) {f : Nat} {aa : List V} (hE : In1 f) (hp0 : primsOf f = none) (h : chkT (call f aa g00) = true) (w : World) (hw : ρ.w0 = w) (A : Array Value) (hA : VRs ρ (fun _ => none) aa A.toList) :
    Calls PP f A w (Truth w) ∧ CallsD PP f A .returning w (fun e u w' => u = .returning ∧ Truth w e w') := by
  generalize hr : call f aa g00 = r at h
  cases r with
  | bad m => cases h
  | df a b c => cases h
  | ok v g' =>
    obtain rfl := sqV_ok _ _ (show sqV v (.b true) = true from h)
    obtain ⟨⟨hg, hs⟩, hd⟩ := hc _ _ _ _ _ hr
    have hp : Pre ρ (fun _ => none) (fun _ => True) g00 g' w :=
      ⟨⟨fun b _ hl => (hl rfl).elim, fun b b' L L' _ _ hl => (hl rfl).elim⟩, fun b L e => (by cases e), fun _ _ _ => rfl, fun _ _ => trivial, ⟨by rw [hw]; exact Nat.le_refl _, fun r _ => by rw [hw], fun b L e => (by cases e)⟩⟩
    have key : ∀ e w', Ends ρ (fun _ => none) (fun _ => True) g00 g' w (.b true) e w' → Truth w e w' := fun e w' he => by
      obtain ⟨σ', rv, rfl, st, vv⟩ := he
      simp only [VR] at vv
      exact ⟨by rw [vv], st.fr.size, fun r hr => st.fr.same r hr fun b L _ e => (by cases e), st.fr.env⟩
    constructor
    · rcases hs _ _ w A hp hA with ⟨σ', rv, w', h1, h2, h3⟩ | ⟨h1, h2⟩
      · rw [Go.MuLone.run_callFunc_enter hE.f hE.nm hE.b A w] at h1
        cases h1
      · exact h2.mono key
    · exact ((hd hp0).2 _ _ w A hp hA).2.mono fun e u w' he => ⟨he.1, key e w' he.2⟩
theorem law_run0 {call : Cl} {f : Nat} (w : World) (hc : CallOk (rho w) call) (hE : In1 f) (hp0 : primsOf f = none) (h : chkT (call f [] g00) = true) :
    Calls PP f #[] w (Truth w) ∧ CallsD PP f #[] .returning w (fun e u w' => u = .returning ∧ Truth w e w') :=
  law_run hc hE hp0 h w rfl #[] (by simp [VRs])
/-! a test of one row of opaque cells, as an oracle -/
noncomputable def xsV : Nat → Nat → List V := @Nat.rec (fun _ => Nat → List V) (fun _ => []) (fun _ ih k => .x k :: ih (Nat.succ k))
noncomputable def ansB (_β : Bool) (bs g : RO) (c : Bool) : RO := @Bool.rec (fun _ => RO) bs g c
noncomputable def orG (f0 n : Nat) (β : Bool) (base : Cl) : Cl := fun f aa g => @Bool.rec (fun _ => RO) (base f aa g) (match aa with
  | [.l b 0 1 1 0] => ansB β (base f aa g) (.ok (.b β) (rd b g)) (eqO (getH g.h b) (.c n (ptOf (xsV n 0) 0 .e)))
  | _ => base f aa g) (Nat.beq f f0)
/-- what is asked of the test -/
def Asks (w : World) (β : Bool) (e : Ending) (w' : World) : Prop := e = .returned (.bool β) ∧ w.heap.size ≤ w'.heap.size ∧ (∀ r, r < w.heap.size → w'.heap[r]? = w.heap[r]?) ∧ Env3 w w'
theorem xsV_get : ∀ n k i, i < n → (xsV n k)[i]? = some (.x (k + i)) := by
  intro n
  induction n with
  | zero => intro k i hi; omega
  | succ n ih =>
    intro k i hi
    show (V.x k :: xsV n (k + 1))[i]? = _
    cases i with
    | zero => rfl
    | succ i => rw [List.getElem?_cons_succ, ih (k + 1) i (by omega)]; rw [show k + 1 + i = k + (i + 1) by omega]
theorem xsV_len : ∀ n k, (xsV n k).length = n := by
  intro n
  induction n with
  | zero => intro k; rfl
  | succ n ih => intro k; show (V.x k :: xsV n (k + 1)).length = _; rw [List.length_cons, ih]
theorem orG_ok {f0 n : Nat} {β : Bool} (hE : In1 f0)
    (h : ∀ w b o, ρ.w0.heap.size ≤ w.heap.size → (∀ r, r < ρ.w0.heap.size → w.heap[r]? = ρ.w0.heap[r]?) → (∀ i, i < n → w.cell? ⟨b, o + i, none⟩ = some (ρ i)) →
      Calls PP f0 #[.slice (some ⟨b, o, none⟩) 1 1] w (Asks w β) ∧ CallsD PP f0 #[.slice (some ⟨b, o, none⟩) 1 1] .returning w (fun e u w' => u = .returning ∧ Asks w β e w')) {base : Cl} (hb : CallOk ρ base) : CallOk ρ (orG f0 n β base) := by
  intro f aa g v g' hr
  unfold orG at hr
  cases hf : Nat.beq f f0 with
  | false => rw [hf] at hr; exact hb f aa g v g' hr
  | true =>
    rw [hf] at hr
    obtain rfl := Nat.eq_of_beq_eq_true hf
    dsimp only at hr
    split at hr
    · rename_i b
      cases he : eqO (getH g.h b) (.c n (ptOf (xsV n 0) 0 .e)) with
      | false => rw [he] at hr; exact hb f _ g v g' hr
      | true =>
        rw [he] at hr
        have hbl := eqO_ok _ _ he
        obtain ⟨rfl, rfl⟩ := ok_inj (show RO.ok (.b β) (rd b g) = .ok v g' from hr)
        have hcf : ∀ A w, (callFunc f A).run PP w = .ok (.enter f A) w := fun A w => Go.MuLone.run_callFunc_enter hE.f hE.nm hE.b A w
        have G1 := grow_rd b g
        have ends : ∀ σ F w, Pre ρ σ F g (rd b g) w → ∀ e w', Asks w β e w' → Ends ρ σ F g (rd b g) w (.b β) e w' := fun σ F w hp e w' he => by
          obtain ⟨rfl, u1, u2, u3⟩ := he
          exact ⟨σ, _, rfl, step_multi (fun _ => False) hp (rd_nx b g) (fun _ h => h.elim) (fun _ h => h.elim) (fun b _ => by rw [rd_h]) u1 (fun r hr _ => u2 r hr) (fun _ _ h => h.elim) u3, by simp only [VR]⟩
        have args : ∀ σ F w A, Pre ρ σ F g (rd b g) w → VRs ρ σ [V.l b 0 1 1 0] (A : Array Value).toList → ∃ r o, A = #[.slice (some ⟨r, o, none⟩) 1 1] ∧ ∀ i, i < n → w.cell? ⟨r, o + i, none⟩ = some (ρ i) := fun σ F w A hp hA => by
          obtain ⟨rx, rfl, v1⟩ := hA.one_
          simp only [VR] at v1
          obtain ⟨L, a, rc, h1, rfl, h2, h3, h4, h5, h6, h7⟩ := v1
          obtain rfl := h6 (.inl trivial)
          obtain rfl := h4 trivial
          refine ⟨L.r, L.d + 0, rfl, fun i hi => ?_⟩
          obtain ⟨x, c1, c2, _⟩ := cell_at hp.rep (hp.cov b (.inl (rd_in b g))) hbl h1 hi
          rw [ptOf_get, if_pos ⟨Nat.zero_le _, by rw [xsV_len]; omega⟩, Nat.sub_zero, xsV_get n 0 i hi] at c2
          simp only [Option.getD_some, VR, Nat.zero_add] at c2
          rw [Nat.add_zero, c1, c2]
        refine ⟨⟨G1, fun σ F w A hp hA => .inr ?_⟩, fun _ => ⟨G1, fun σ F w A hp hA => ?_⟩⟩
        · obtain ⟨r, o, rfl, hc⟩ := args σ F w A hp hA
          exact ⟨hcf _ w, (h w r o hp.inv.size hp.inv.old hc).1.mono fun e w' he => ends σ F w hp e w' he⟩
        · obtain ⟨r, o, rfl, hc⟩ := args σ F w A hp hA
          exact ⟨hcf _ w, (h w r o hp.inv.size hp.inv.old hc).2.mono fun e u w' he => ⟨he.1, ends σ F w hp e w' he.2⟩⟩
    · exact hb f _ g v g' hr
end
end Go.Ev
