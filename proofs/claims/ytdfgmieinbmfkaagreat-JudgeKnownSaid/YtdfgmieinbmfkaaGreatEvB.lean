/-
  What the interpreter says the program does, one operation at a time.
-/
import Derived.Test.YtdfgmieinbmfkaaGreatEvA
namespace Go.Ev
open Go

theorem mod_beq (n : Nat) : Nat.beq (Nat.mod n 2) 0 = true ↔ n % 2 = 0 := by
  show (n % 2).beq 0 = true ↔ _
  rw [Nat.beq_eq]
def un : List Bool → Nat
  | [] => 0
  | true :: q => 2 * un q + 1
  | false :: q => 2 * un q + 2
theorem un_path : ∀ f k, k < f → un (pathF f k) = k := by
  intro f
  induction f with
  | zero => intro k h; omega
  | succ f ih =>
    intro k h
    cases k with
    | zero => rfl
    | succ k =>
      show un (Nat.beq (Nat.mod k 2) 0 :: pathF f (Nat.div k 2)) = k + 1
      have hd : Nat.div k 2 = k / 2 := rfl
      have h2 := ih (Nat.div k 2) (by rw [hd]; omega)
      cases hb : Nat.beq (Nat.mod k 2) 0 with
      | true =>
        have := (mod_beq k).1 hb
        show 2 * un (pathF f (Nat.div k 2)) + 1 = k + 1
        rw [h2, hd]; omega
      | false =>
        have : ¬ k % 2 = 0 := fun e => by rw [(mod_beq k).2 e] at hb; cases hb
        show 2 * un (pathF f (Nat.div k 2)) + 2 = k + 1
        rw [h2, hd]; omega
theorem path_inj {i j : Nat} (h : path i = path j) : i = j := by
  have hi := un_path (i + 1) i (by omega)
  have hj := un_path (j + 1) j (by omega)
  have : pathF (i + 1) i = pathF (j + 1) j := h
  rw [this] at hi
  omega

theorem getVP_e (p : List Bool) : getVP .e p = .u := rfl
theorem getOP_e (p : List Bool) : getOP .e p = .no := rfl
theorem getVP_set : ∀ (p q : List Bool) (t : PT V) (v : V), getVP (setVP p t v) q = if p = q then v else getVP t q := by
  intro p
  induction p with
  | nil =>
    intro q t v
    cases t <;> cases q <;> first | rfl | (rename_i b _; cases b <;> rfl)
  | cons b p ih =>
    intro q t v
    cases t with
    | e =>
      cases q with
      | nil => cases b <;> rfl
      | cons c q =>
        cases b <;> cases c
        · show getVP (setVP p .e v) q = _; rw [ih]; simp; rfl
        · simp; rfl
        · simp; rfl
        · show getVP (setVP p .e v) q = _; rw [ih]; simp; rfl
    | n w l r =>
      cases q with
      | nil => cases b <;> rfl
      | cons c q =>
        cases b <;> cases c
        · show getVP (setVP p r v) q = _; rw [ih]; simp; rfl
        · simp; rfl
        · simp; rfl
        · show getVP (setVP p l v) q = _; rw [ih]; simp; rfl
theorem getOP_set : ∀ (p q : List Bool) (t : PT O) (v : O), getOP (setOP p t v) q = if p = q then v else getOP t q := by
  intro p
  induction p with
  | nil =>
    intro q t v
    cases t <;> cases q <;> first | rfl | (rename_i b _; cases b <;> rfl)
  | cons b p ih =>
    intro q t v
    cases t with
    | e =>
      cases q with
      | nil => cases b <;> rfl
      | cons c q =>
        cases b <;> cases c
        · show getOP (setOP p .e v) q = _; rw [ih]; simp; rfl
        · simp; rfl
        · simp; rfl
        · show getOP (setOP p .e v) q = _; rw [ih]; simp; rfl
    | n w l r =>
      cases q with
      | nil => cases b <;> rfl
      | cons c q =>
        cases b <;> cases c
        · show getOP (setOP p r v) q = _; rw [ih]; simp; rfl
        · simp; rfl
        · simp; rfl
        · show getOP (setOP p l v) q = _; rw [ih]; simp; rfl
theorem getT_set (t : PT V) (k j : Nat) (v : V) : getT (setT t k v) j = if k = j then v else getT t j := by
  unfold getT setT
  rw [getVP_set]
  by_cases h : k = j
  · simp [h]
  · rw [if_neg h, if_neg (fun e => h (path_inj e))]
theorem getH_set (t : PT O) (k j : Nat) (v : O) : getH (setH t k v) j = if k = j then v else getH t j := by
  unfold getH setH
  rw [getOP_set]
  by_cases h : k = j
  · simp [h]
  · rw [if_neg h, if_neg (fun e => h (path_inj e))]
theorem getT_e (k : Nat) : getT .e k = .u := rfl
theorem getH_e (k : Nat) : getH .e k = .no := rfl

theorem lenL_eq (l : List V) : lenL l = l.length := by
  induction l with
  | nil => rfl
  | cons a l ih => show Nat.succ (lenL l) = _; rw [ih]; rfl
theorem appL_eq (a b : List V) : appL a b = a ++ b := by
  induction a with
  | nil => rfl
  | cons x a ih => show x :: appL a b = _; rw [ih]; rfl
theorem dropL_eq : ∀ (n : Nat) (l : List V), dropL n l = l.drop n := by
  intro n
  induction n with
  | zero => intro l; rfl
  | succ n ih => intro l; cases l with
    | nil => rfl
    | cons a l => exact ih l
theorem takeL_eq : ∀ (n : Nat) (l : List V), takeL n l = l.take n := by
  intro n
  induction n with
  | zero => intro l; rfl
  | succ n ih => intro l; cases l with
    | nil => rfl
    | cons a l => exact congrArg (a :: ·) (ih l)
theorem nthL_eq (i : Nat) (l : List V) : nthL i l = (l[i]?).getD .u := by
  unfold nthL
  rw [dropL_eq]
  induction l generalizing i with
  | nil => cases i <;> rfl
  | cons a l ih =>
    cases i with
    | zero => rfl
    | succ i => simpa using ih i
theorem takeC_len (t : PT V) : ∀ n o, (takeC t n o).length = n := by
  intro n
  induction n with
  | zero => intro o; rfl
  | succ n ih => intro o; show (getT t o :: takeC t n (o + 1)).length = _; rw [List.length_cons, ih]
theorem takeC_get (t : PT V) : ∀ n o i, i < n → (takeC t n o)[i]? = some (getT t (o + i)) := by
  intro n
  induction n with
  | zero => intro o i h; omega
  | succ n ih =>
    intro o i h
    show (getT t o :: takeC t n (o + 1))[i]? = _
    cases i with
    | zero => rfl
    | succ i => rw [List.getElem?_cons_succ, ih _ _ (by omega)]; congr 2; omega
theorem ptOf_get : ∀ (l : List V) (k : Nat) (t : PT V) (j : Nat), getT (ptOf l k t) j = if k ≤ j ∧ j < k + l.length then (l[j - k]?).getD .u else getT t j := by
  intro l
  induction l with
  | nil => intro k t j; rw [if_neg (by simp)]; rfl
  | cons a l ih =>
    intro k t j
    show getT (ptOf l (k + 1) (setT t k a)) j = _
    rw [ih, getT_set]
    by_cases h : k + 1 ≤ j ∧ j < k + 1 + l.length
    · rw [if_pos h, if_pos (by simp; omega)]
      obtain ⟨d, rfl⟩ : ∃ d, j = k + 1 + d := ⟨j - (k + 1), by omega⟩
      have h1 : k + 1 + d - k = d + 1 := by omega
      have h2 : k + 1 + d - (k + 1) = d := by omega
      rw [h1, h2, List.getElem?_cons_succ]
    · rw [if_neg h]
      by_cases e : k = j
      · subst e
        rw [if_pos rfl, if_pos (by simp)]
        simp
      · rw [if_neg e, if_neg (by simp; omega)]
end Go.Ev
namespace Go.Ev
open Go

structure Loc where
  r : Nat
  d : Nat
  n : Nat
abbrev Sg := Nat → Option Loc
/-- what is handed in: values that are not looked into, and the memory that was there -/
structure Rho where
  f : Nat → Value
  w0 : World
instance : CoeFun Rho (fun _ => Nat → Value) := ⟨Rho.f⟩
section
variable (ρ : Rho)
mutual
def VR (σ : Sg) : V → Value → Prop
  | .u, _ => True
  | .b x, v => v = .bool x
  | .i k n, v => v = .int k n
  | .s l n, v => ∃ bs : ByteArray, v = .string bs ∧ bs.data.toList.length = l ∧ packL bs.data.toList = n
  | .p b o, v => ∃ L, σ b = some L ∧ v = .pointer (some ⟨L.r, L.d + o, none⟩)
  | .pn, v => v = .pointer none
  | .l b o n c x, v => ∃ L a rc, σ b = some L ∧ v = .slice (some a) n rc ∧ n ≤ c ∧ c ≤ rc ∧ (x = 0 → rc = c) ∧ a.block = L.r ∧
      ((x = 0 ∨ 0 < rc) → a = ⟨L.r, L.d + o, none⟩) ∧ (∀ z, x = z + 1 → L.d + o + rc * z ≤ L.n)
  | .ln, v => v = .slice none 0 0
  | .m b, v => ∃ L, σ b = some L ∧ v = .map (some L.r)
  | .mn, v => v = .map none
  | .f fn fs cs, v => ∃ xs ys, v = .func (.func fn) xs ys ∧ VRs σ fs xs.toList ∧ VRs σ cs ys.toList
  | .fn, v => v = .nilFunc
  | .g cs, v => ∃ xs, v = .agg xs ∧ VRs σ cs xs.toList
  | .t cs, v => ∃ xs, v = .tuple xs ∧ VRs σ cs xs.toList
  | .d ty x, v => ∃ y, v = .iface ty y ∧ VR σ x y
  | .x n, v => v = ρ n
def VRs (σ : Sg) : List V → List Value → Prop
  | [], l => l = []
  | a :: r, l => ∃ b t, l = b :: t ∧ VR σ a b ∧ VRs σ r t
end
def Le (σ σ' : Sg) : Prop := ∀ b L, σ b = some L → σ' b = some L
theorem Le.refl (σ : Sg) : Le σ σ := fun _ _ h => h
theorem Le.trans {a b c : Sg} (h : Le a b) (h' : Le b c) : Le a c := fun x L e => h' x L (h x L e)
variable {ρ}
mutual
theorem VR.mono {σ σ' : Sg} (h : Le σ σ') : ∀ (v : V) (rv : Value), VR ρ σ v rv → VR ρ σ' v rv
  | .u, _, _ => by simp [VR]
  | .b x, v, e => by simpa [VR] using e
  | .i k n, v, e => by simpa [VR] using e
  | .s l n, v, e => by simpa [VR] using e
  | .p b o, v, e => by
    simp only [VR] at e ⊢
    obtain ⟨L, h1, h2⟩ := e
    exact ⟨L, h _ _ h1, h2⟩
  | .pn, v, e => by simpa [VR] using e
  | .l b o n c x, v, e => by
    simp only [VR] at e ⊢
    obtain ⟨L, a, rc, h1, h2⟩ := e
    exact ⟨L, a, rc, h _ _ h1, h2⟩
  | .ln, v, e => by simpa [VR] using e
  | .m b, v, e => by
    simp only [VR] at e ⊢
    obtain ⟨L, h1, h2⟩ := e
    exact ⟨L, h _ _ h1, h2⟩
  | .mn, v, e => by simpa [VR] using e
  | .f fn fs cs, v, e => by
    simp only [VR] at e ⊢
    obtain ⟨xs, ys, h1, h2, h3⟩ := e
    exact ⟨xs, ys, h1, VRs.mono h fs _ h2, VRs.mono h cs _ h3⟩
  | .fn, v, e => by simpa [VR] using e
  | .g cs, v, e => by
    simp only [VR] at e ⊢
    obtain ⟨xs, h1, h2⟩ := e
    exact ⟨xs, h1, VRs.mono h cs _ h2⟩
  | .t cs, v, e => by
    simp only [VR] at e ⊢
    obtain ⟨xs, h1, h2⟩ := e
    exact ⟨xs, h1, VRs.mono h cs _ h2⟩
  | .d ty x, v, e => by
    simp only [VR] at e ⊢
    obtain ⟨y, h1, h2⟩ := e
    exact ⟨y, h1, VR.mono h x _ h2⟩
  | .x n, v, e => by simpa [VR] using e
theorem VRs.mono {σ σ' : Sg} (h : Le σ σ') : ∀ (l : List V) (rl : List Value), VRs ρ σ l rl → VRs ρ σ' l rl
  | [], l, e => by simpa [VRs] using e
  | a :: r, l, e => by
    simp only [VRs] at e ⊢
    obtain ⟨b, t, h1, h2, h3⟩ := e
    exact ⟨b, t, h1, VR.mono h a _ h2, VRs.mono h r _ h3⟩
end
theorem VRs.len {σ : Sg} : ∀ {l : List V} {rl : List Value}, VRs ρ σ l rl → rl.length = l.length := by
  intro l
  induction l with
  | nil => intro rl h; simp only [VRs] at h; subst h; rfl
  | cons a r ih => intro rl h; simp only [VRs] at h; obtain ⟨b, t, rfl, _, h3⟩ := h; simp [ih h3]
theorem VRs.get {σ : Sg} : ∀ {l : List V} {rl : List Value} (i : Nat), VRs ρ σ l rl → i < l.length → ∃ x, rl[i]? = some x ∧ VR ρ σ ((l[i]?).getD .u) x := by
  intro l
  induction l with
  | nil => intro rl i h hi; simp at hi
  | cons a r ih =>
    intro rl i h hi
    simp only [VRs] at h
    obtain ⟨b, t, rfl, h2, h3⟩ := h
    cases i with
    | zero => exact ⟨b, rfl, by simpa using h2⟩
    | succ i => simpa using ih i h3 (by simpa using hi)
theorem VRs.of_get {σ : Sg} : ∀ {l : List V} {rl : List Value}, rl.length = l.length → (∀ i x, i < l.length → rl[i]? = some x → VR ρ σ ((l[i]?).getD .u) x) → VRs ρ σ l rl := by
  intro l
  induction l with
  | nil => intro rl h _; simp only [VRs]; exact List.length_eq_zero_iff.1 h
  | cons a r ih =>
    intro rl h hg
    cases rl with
    | nil => simp at h
    | cons b t =>
      simp only [VRs]
      refine ⟨b, t, rfl, by simpa using hg 0 b (by simp) rfl, ih (by simpa using h) fun i x hi hx => ?_⟩
      have := hg (i + 1) x (by simpa using hi) (by simpa using hx)
      simpa using this
theorem VRs.app {σ : Sg} : ∀ {l l' : List V} {rl rl' : List Value}, VRs ρ σ l rl → VRs ρ σ l' rl' → VRs ρ σ (l ++ l') (rl ++ rl') := by
  intro l
  induction l with
  | nil => intro l' rl rl' h h'; simp only [VRs] at h; subst h; exact h'
  | cons a r ih =>
    intro l' rl rl' h h'
    simp only [VRs] at h
    obtain ⟨b, t, rfl, h2, h3⟩ := h
    show VRs ρ σ (a :: (r ++ l')) (b :: (t ++ rl'))
    simp only [VRs]
    exact ⟨b, _, rfl, h2, ih h3 h'⟩
def ERs (ρ : Rho) (σ : Sg) : List (V × V) → List MapEntry → Prop
  | [], l => l = []
  | a :: r, l => ∃ b t, l = b :: t ∧ VR ρ σ a.1 b.key ∧ VR ρ σ a.2 b.val ∧ ERs ρ σ r t
theorem ERs.mono {σ σ' : Sg} (h : Le σ σ') : ∀ (l : List (V × V)) (rl : List MapEntry), ERs ρ σ l rl → ERs ρ σ' l rl
  | [], _, e => e
  | _ :: r, _, ⟨b, t, h1, h2, h3, h4⟩ => ⟨b, t, h1, VR.mono h _ _ h2, VR.mono h _ _ h3, ERs.mono h r _ h4⟩
def OR (ρ : Rho) (σ : Sg) (w : World) (L : Loc) : O → Prop
  | .no => True
  | .c n t => ∃ cs e fz, w.heap[L.r]? = some (.cells cs e fz) ∧ cs.size = L.n ∧ L.d + n ≤ L.n ∧ (fz.1 = fz.2 ∨ L.n ≤ fz.1) ∧
      ∀ i, i < n → ∃ x, cs[L.d + i]? = some x ∧ VR ρ σ (getT t i) x
  | .m es => ∃ rs ck, w.heap[L.r]? = some (.map rs ck) ∧ ERs ρ σ es rs.toList ∧ (rs.toList.map (·.born)).Nodup ∧ ∀ e ∈ rs.toList, e.born < ck
theorem OR.mono {σ σ' : Sg} (h : Le σ σ') {w w' : World} {L : Loc} (hw : w'.heap[L.r]? = w.heap[L.r]?) : ∀ (o : O), OR ρ σ w L o → OR ρ σ' w' L o
  | .no, _ => trivial
  | .c _ _, ⟨cs, e, fz, h1, h2, h3, h4, h5⟩ => ⟨cs, e, fz, hw.trans h1, h2, h3, h4, fun i hi => let ⟨x, hx, hv⟩ := h5 i hi; ⟨x, hx, VR.mono h _ _ hv⟩⟩
  | .m _, ⟨rs, ck, h1, h2, h3⟩ => ⟨rs, ck, hw.trans h1, ERs.mono h _ _ h2, h3⟩
theorem OR.lt {σ : Sg} {w : World} {L : Loc} {o : O} (h : OR ρ σ w L o) (ho : o ≠ .no) : L.r < w.heap.size := by
  cases o with
  | no => exact absurd rfl ho
  | c n t => obtain ⟨cs, e, fz, h1, _⟩ := h; exact (Array.getElem?_eq_some_iff.1 h1).1
  | m es => obtain ⟨rs, ck, h1, _⟩ := h; exact (Array.getElem?_eq_some_iff.1 h1).1

/-- the live blocks of F lie in w -/
structure Rep (ρ : Rho) (σ : Sg) (F : Nat → Prop) (h : PT O) (w : World) : Prop where
  rel : ∀ b, F b → getH h b ≠ .no → ∃ L, σ b = some L ∧ OR ρ σ w L (getH h b)
  inj : ∀ b b' L L', F b → F b' → getH h b ≠ .no → getH h b' ≠ .no → σ b = some L → σ b' = some L' → L.r = L'.r → b = b'
/-- what is outside of memory is as it was -/
def Env3 (w w' : World) : Prop := w'.os = w.os ∧ w'.tape = w.tape ∧ w'.output = w.output
theorem Env3.trans {a b c : World} (h : Env3 a b) (k : Env3 b c) : Env3 a c := ⟨k.1.trans h.1, k.2.1.trans h.2.1, k.2.2.trans h.2.2⟩
/-- nothing but images of W is turned -/
structure Fr (σ : Sg) (W : Nat → Prop) (w w' : World) : Prop where
  size : w.heap.size ≤ w'.heap.size
  same : ∀ r, r < w.heap.size → (∀ b L, W b → σ b = some L → L.r ≠ r) → w'.heap[r]? = w.heap[r]?
  env : Env3 w w'
/-- what a step makes of the map of blocks -/
structure Ext (σ σ' : Sg) (W : Nat → Prop) (nx nx' : Nat) (w w' : World) : Prop where
  same : ∀ b, ¬ (nx ≤ b ∧ b < nx') → σ' b = σ b
  new : ∀ b L, nx ≤ b → b < nx' → σ' b = some L → L.r < w'.heap.size ∧ (w.heap.size ≤ L.r ∨ ∃ c K, W c ∧ σ c = some K ∧ K.r = L.r)
def Bnd (σ : Sg) (w : World) : Prop := ∀ b L, σ b = some L → L.r < w.heap.size
/-- the memory that was there stays -/
structure Inv (ρ : Rho) (σ : Sg) (w : World) : Prop where
  size : ρ.w0.heap.size ≤ w.heap.size
  old : ∀ r, r < ρ.w0.heap.size → w.heap[r]? = ρ.w0.heap[r]?
  far : ∀ b L, σ b = some L → ρ.w0.heap.size ≤ L.r
def Free (σ : Sg) (nx nx' : Nat) : Prop := ∀ b, nx ≤ b → b < nx' → σ b = none
theorem Ext.le {σ σ' : Sg} {W : Nat → Prop} {nx nx' : Nat} {w w' : World} (h : Ext σ σ' W nx nx' w w') (hf : Free σ nx nx') : Le σ σ' := by
  intro b L e
  by_cases hb : nx ≤ b ∧ b < nx'
  · rw [hf b hb.1 hb.2] at e; cases e
  · rw [h.same b hb]; exact e
end
end Go.Ev
namespace Go.Ev
open Go
section
variable {ρ : Rho}
/-- touched -/
def Rd (g : G) (b : Nat) : Prop := g.on = false ∨ g.r.testBit b = true ∨ g.w.testBit b = true
def Wt (g : G) (b : Nat) : Prop := g.on = false ∨ g.w.testBit b = true
structure Grow (g g' : G) : Prop where
  nx : g.nx ≤ g'.nx
  on : g'.on = g.on
  r : ∀ b, g.r.testBit b = true → g'.r.testBit b = true
  w : ∀ b, g.w.testBit b = true → g'.w.testBit b = true
  keep : ∀ b, ¬ Wt g' b → ¬ (g.nx ≤ b ∧ b < g'.nx) → getH g'.h b = getH g.h b
  lv : g.on = true → ∀ b, g'.w.testBit b = true → g.w.testBit b = true ∨ getH g.h b ≠ .no ∨ (g.nx ≤ b ∧ b < g'.nx)
theorem Grow.refl (g : G) : Grow g g := ⟨Nat.le_refl _, rfl, fun _ h => h, fun _ h => h, fun _ _ _ => rfl, fun _ _ h => .inl h⟩
theorem Grow.wt {g g' : G} (h : Grow g g') {b : Nat} (hb : Wt g b) : Wt g' b := hb.imp (fun e => h.on.trans e) (h.w b)
theorem Grow.rd {g g' : G} (h : Grow g g') {b : Nat} (hb : Rd g b) : Rd g' b := hb.imp (fun e => h.on.trans e) fun e => e.imp (h.r b) (h.w b)
theorem Grow.trans {a b c : G} (h : Grow a b) (h' : Grow b c) : Grow a c where
  nx := Nat.le_trans h.nx h'.nx
  on := h'.on.trans h.on
  r := fun x e => h'.r x (h.r x e)
  w := fun x e => h'.w x (h.w x e)
  keep := fun x e1 e2 => by
    have := h.nx; have := h'.nx
    rw [h'.keep x e1 (fun e => e2 ⟨by omega, e.2⟩), h.keep x (fun e => e1 (h'.wt e)) (fun e => e2 ⟨e.1, by omega⟩)]
  lv := fun ho x e1 => by
    have n1 := h.nx; have n2 := h'.nx
    have lo : b.w.testBit x = true → a.w.testBit x = true ∨ getH a.h x ≠ .no ∨ (a.nx ≤ x ∧ x < c.nx) := fun e =>
      (h.lv ho x e).imp id fun e => e.imp id fun e => ⟨e.1, by omega⟩
    rcases h'.lv (h.on.trans ho) x e1 with e | e | e
    · exact lo e
    · by_cases hw : b.w.testBit x = true
      · exact lo hw
      · by_cases hn : a.nx ≤ x ∧ x < b.nx
        · exact .inr (.inr ⟨hn.1, by omega⟩)
        · rw [h.keep x (fun q => q.elim (fun q => by rw [h.on, ho] at q; cases q) hw) hn] at e
          exact .inr (.inl e)
    · exact .inr (.inr ⟨by omega, e.2⟩)
def Cov (F : Nat → Prop) (g g' : G) : Prop := ∀ b, (Rd g' b ∨ (g.nx ≤ b ∧ b < g'.nx)) → F b
theorem Cov.fst {F : Nat → Prop} {a b c : G} (h : Cov F a c) (_h1 : Grow a b) (h2 : Grow b c) : Cov F a b :=
  fun x e => h x (e.imp h2.rd fun e => ⟨e.1, Nat.lt_of_lt_of_le e.2 h2.nx⟩)
theorem Cov.snd {F : Nat → Prop} {a b c : G} (h : Cov F a c) (h1 : Grow a b) : Cov F b c :=
  fun x e => h x (e.imp id fun e => ⟨Nat.le_trans h1.nx e.1, e.2⟩)
structure Pre (ρ : Rho) (σ : Sg) (F : Nat → Prop) (g g' : G) (w : World) : Prop where
  rep : Rep ρ σ F g.h w
  bnd : Bnd σ w
  free : Free σ g.nx g'.nx
  cov : Cov F g g'
  inv : Inv ρ σ w
structure Step (ρ : Rho) (σ : Sg) (F : Nat → Prop) (g g' : G) (w : World) (σ' : Sg) (w' : World) : Prop where
  ext : Ext σ σ' (Wt g') g.nx g'.nx w w'
  rep : Rep ρ σ' F g'.h w'
  fr : Fr σ (Wt g') w w'
  bnd : Bnd σ' w'
theorem Fr.refl (σ : Sg) (W : Nat → Prop) (w : World) : Fr σ W w w := ⟨Nat.le_refl _, fun _ _ _ => rfl, rfl, rfl, rfl⟩
theorem Step.refl {σ : Sg} {F : Nat → Prop} {g : G} {w : World} (h : Pre ρ σ F g g w) : Step ρ σ F g g w σ w where
  ext := ⟨fun _ _ => rfl, fun b L h1 h2 => by omega⟩
  rep := h.rep
  fr := .refl _ _ _
  bnd := h.bnd
theorem Pre.fst {σ : Sg} {F : Nat → Prop} {a b c : G} {w : World} (h : Pre ρ σ F a c w) (h1 : Grow a b) (h2 : Grow b c) : Pre ρ σ F a b w :=
  ⟨h.rep, h.bnd, fun x e1 e2 => h.free x e1 (Nat.lt_of_lt_of_le e2 h2.nx), h.cov.fst h1 h2, h.inv⟩
theorem Inv.step {σ σ1 : Sg} {F : Nat → Prop} {a b : G} {w w1 : World} (h : Inv ρ σ w) (s : Step ρ σ F a b w σ1 w1) : Inv ρ σ1 w1 where
  size := Nat.le_trans h.size s.fr.size
  old := fun r hr => by
    rw [s.fr.same r (Nat.lt_of_lt_of_le hr h.size) fun c L _ e => by have := h.far c L e; omega]
    exact h.old r hr
  far := fun c L e => by
    by_cases hb : a.nx ≤ c ∧ c < b.nx
    · obtain ⟨_, q⟩ := s.ext.new c L hb.1 hb.2 e
      rcases q with q | ⟨k, K, _, q2, q3⟩
      · exact Nat.le_trans h.size q
      · rw [← q3]; exact h.far k K q2
    · rw [s.ext.same c hb] at e; exact h.far c L e
theorem Pre.snd {σ σ1 : Sg} {F : Nat → Prop} {a b c : G} {w w1 : World} (h : Pre ρ σ F a c w) (h1 : Grow a b) (s : Step ρ σ F a b w σ1 w1) : Pre ρ σ1 F b c w1 :=
  ⟨s.rep, s.bnd, fun x e1 e2 => by rw [s.ext.same x (by omega)]; exact h.free x (Nat.le_trans h1.nx e1) e2, h.cov.snd h1, h.inv.step s⟩
theorem Step.le {σ σ1 : Sg} {F : Nat → Prop} {a b : G} {w w1 : World} (h : Pre ρ σ F a b w) (s : Step ρ σ F a b w σ1 w1) : Le σ σ1 := s.ext.le h.free
theorem Step.trans {σ σ1 σ2 : Sg} {F : Nat → Prop} {a b c : G} {w w1 w2 : World} (_h : Pre ρ σ F a c w) (h1 : Grow a b) (h2 : Grow b c)
    (s : Step ρ σ F a b w σ1 w1) (t : Step ρ σ1 F b c w1 σ2 w2) : Step ρ σ F a c w σ2 w2 where
  ext := by
    have n1 := h1.nx; have n2 := h2.nx
    refine ⟨fun x e => ?_, fun x L e1 e2 e3 => ?_⟩
    · rw [t.ext.same x (by omega), s.ext.same x (by omega)]
    · by_cases hb : x < b.nx
      · rw [t.ext.same x (by omega)] at e3
        obtain ⟨f1, f2⟩ := s.ext.new x L e1 hb e3
        exact ⟨Nat.lt_of_lt_of_le f1 t.fr.size, f2.imp id fun ⟨k, K, u, v⟩ => ⟨k, K, h2.wt u, v⟩⟩
      · obtain ⟨f1, f2⟩ := t.ext.new x L (by omega) e2 e3
        refine ⟨f1, ?_⟩
        rcases f2 with f2 | ⟨k, K, u, v, z⟩
        · exact .inl (Nat.le_trans s.fr.size f2)
        · by_cases hk : a.nx ≤ k ∧ k < b.nx
          · obtain ⟨_, q⟩ := s.ext.new k K hk.1 hk.2 v
            rw [z] at q
            exact q.imp id fun ⟨k', K', u', v'⟩ => ⟨k', K', h2.wt u', v'⟩
          · rw [s.ext.same k hk] at v
            exact .inr ⟨k, K, u, v, z⟩
  rep := t.rep
  fr := by
    refine ⟨Nat.le_trans s.fr.size t.fr.size, fun r hr hW => ?_, s.fr.env.trans t.fr.env⟩
    rw [t.fr.same r (Nat.lt_of_lt_of_le hr s.fr.size) ?_, s.fr.same r hr fun x L e1 e2 => hW x L (h2.wt e1) e2]
    intro x L e1 e2 e3
    by_cases hk : a.nx ≤ x ∧ x < b.nx
    · obtain ⟨_, q⟩ := s.ext.new x L hk.1 hk.2 e2
      rcases q with q | ⟨k, K, u, v, z⟩
      · omega
      · exact hW k K (h2.wt u) v (z.trans e3)
    · rw [s.ext.same x hk] at e2
      exact hW x L e1 e2 e3
  bnd := t.bnd

/-- the real temporaries are these -/
def EnvR (ρ : Rho) (σ : Sg) (n : Env) (a : Act) : Prop := ∀ i, VR ρ σ (evT i n) (a.tmps.getD i undef)
theorem EnvR.mono {σ σ' : Sg} (h : Le σ σ') {n : Env} {a : Act} (e : EnvR ρ σ n a) : EnvR ρ σ' n a := fun i => VR.mono h _ _ (e i)

theorem cv1_ok (σ : Sg) (v : Value) : VR ρ σ (cv1 v) v := by
  cases v with
  | bool b => show VR ρ σ (.b b) _; simp [VR]
  | int k n => show VR ρ σ (.i k n) _; simp [VR]
  | string s => show VR ρ σ (.s _ _) _; simp only [VR]; exact ⟨s, rfl, rfl, rfl⟩
  | pointer a => cases a with
    | none => show VR ρ σ .pn _; simp [VR]
    | some a => show VR ρ σ .u _; simp [VR]
  | slice a n c => cases a with
    | none => cases n with
      | zero => cases c with
        | zero => show VR ρ σ .ln _; simp [VR]
        | succ c => show VR ρ σ .u _; simp [VR]
      | succ n => show VR ρ σ .u _; simp [VR]
    | some a => show VR ρ σ .u _; simp [VR]
  | map a => cases a with
    | none => show VR ρ σ .mn _; simp [VR]
    | some a => show VR ρ σ .u _; simp [VR]
  | nilFunc => show VR ρ σ .fn _; simp [VR]
  | _ => show VR ρ σ .u _; simp [VR]
theorem cv1s_ok (σ : Sg) : ∀ l : List Value, VRs ρ σ (cv1s l) l
  | [] => by show VRs ρ σ [] _; simp [VRs]
  | a :: r => by show VRs ρ σ (cv1 a :: cv1s r) _; simp only [VRs]; exact ⟨a, r, rfl, cv1_ok σ a, cv1s_ok σ r⟩
theorem cv_ok (σ : Sg) (v : Value) : VR ρ σ (cv v) v := by
  cases v with
  | agg cs => show VR ρ σ (.g _) _; simp only [VR]; exact ⟨cs, rfl, cv1s_ok σ _⟩
  | tuple cs => show VR ρ σ (.t _) _; simp only [VR]; exact ⟨cs, rfl, cv1s_ok σ _⟩
  | bool b => exact cv1_ok σ (.bool b)
  | int k n => exact cv1_ok σ (.int k n)
  | string s => exact cv1_ok σ (.string s)
  | pointer a => exact cv1_ok σ (.pointer a)
  | slice a n c => exact cv1_ok σ (.slice a n c)
  | map a => exact cv1_ok σ (.map a)
  | nilFunc => exact cv1_ok σ .nilFunc
  | _ => show VR ρ σ .u _; simp [VR]
theorem ev_ok {σ : Sg} {n : Env} {a : Act} (h : EnvR ρ σ n a) (x : Operand) : VR ρ σ (ev x n) (a.eval x) := by
  cases x with
  | tmp t => exact h t
  | const v => exact cv_ok σ v
  | global g => show VR ρ σ .u _; simp [VR]
  | func f => show VR ρ σ (.f f [] []) (.func (.func f) #[] #[]); simp [VR, VRs]
theorem evs_ok {σ : Sg} {n : Env} {a : Act} (h : EnvR ρ σ n a) : ∀ l : List Operand, VRs ρ σ (evs l n) (l.map a.eval)
  | [] => by show VRs ρ σ [] _; simp [VRs]
  | x :: r => by show VRs ρ σ (ev x n :: evs r n) _; simp only [VRs]; exact ⟨_, _, rfl, ev_ok h x, evs_ok h r⟩

/-- an operation whose answer in E is v, g' -/
def OpSim (ρ : Rho) (o : Oper) (n : Env) (g : G) (v : V) (g' : G) : Prop :=
  Grow g g' ∧ ∀ σ F a w next Q, Pre ρ σ F g g' w → EnvR ρ σ n a →
    (∀ σ' rv w', Step ρ σ F g g' w σ' w' → VR ρ σ' v rv → next (a.put o.dst rv) w') → o.wp PP a w next Q
theorem wp_value {o : Oper} {a : Act} {w w' : World} {rv : Value} {next : Act → World → Prop} {Q : Exit → Act → World → Prop}
    (h : (execOp a.eval o).run PP w = .ok (.value rv) w') (hn : next (a.put o.dst rv) w') : o.wp PP a w next Q := by
  unfold Oper.wp; rw [h]; exact hn
theorem wp_skip_ {o : Oper} {a : Act} {w w' : World} {next : Act → World → Prop} {Q : Exit → Act → World → Prop}
    (h : (execOp a.eval o).run PP w = .ok .skip w') (hn : next (a.put o.dst undef) w') : o.wp PP a w next Q := by
  unfold Oper.wp; rw [h]; exact hn
/-- an operation that only computes -/
theorem pure_sim {o : Oper} {n : Env} {g : G} {v : V} (h : ∀ σ a w, EnvR ρ σ n a → ∃ rv, VR ρ σ v rv ∧ (execOp a.eval o).run PP w = .ok (.value rv) w) :
    OpSim ρ o n g v g :=
  ⟨.refl g, fun σ F a w next Q hp he hn => by
    obtain ⟨rv, h1, h2⟩ := h σ a w he
    exact wp_value h2 (hn σ rv w (.refl hp) h1)⟩
end
end Go.Ev
namespace Go.Ev
open Go
theorem bad_ne {w : Nat} {v : V} {g : G} (h : RO.bad w = RO.ok v g) : False := by cases h
theorem df_ne {f : V} {l : List V} {g' : G} {v : V} {g : G} (h : RO.df f l g' = RO.ok v g) : False := by cases h
theorem ok_inj {v v' : V} {g g' : G} (h : RO.ok v g = RO.ok v' g') : v = v' ∧ g = g' := RO.ok.inj h
section
variable {r : V} {g : G} {w : Nat}
theorem elP_inv {v : V} {k : Nat → Nat → RO} (h : elP v k (.bad w) = .ok r g) : ∃ b o, v = .p b o ∧ k b o = .ok r g := by
  cases v <;> first | exact ⟨_, _, rfl, h⟩ | exact (bad_ne h).elim
theorem elI_inv {v : V} {k : IntKind → Int → RO} (h : elI v k (.bad w) = .ok r g) : ∃ i n, v = .i i n ∧ k i n = .ok r g := by
  cases v <;> first | exact ⟨_, _, rfl, h⟩ | exact (bad_ne h).elim
theorem elB_inv {v : V} {k : Bool → RO} (h : elB v k (.bad w) = .ok r g) : ∃ q, v = .b q ∧ k q = .ok r g := by
  cases v <;> first | exact ⟨_, rfl, h⟩ | exact (bad_ne h).elim
theorem elS_inv {v : V} {k : Nat → Nat → RO} (h : elS v k (.bad w) = .ok r g) : ∃ l n, v = .s l n ∧ k l n = .ok r g := by
  cases v <;> first | exact ⟨_, _, rfl, h⟩ | exact (bad_ne h).elim
theorem elG_inv {v : V} {k : List V → RO} (h : elG v k (.bad w) = .ok r g) : ∃ l, v = .g l ∧ k l = .ok r g := by
  cases v <;> first | exact ⟨_, rfl, h⟩ | exact (bad_ne h).elim
theorem elT_inv {v : V} {k : List V → RO} (h : elT v k (.bad w) = .ok r g) : ∃ l, v = .t l ∧ k l = .ok r g := by
  cases v <;> first | exact ⟨_, rfl, h⟩ | exact (bad_ne h).elim
theorem elF_inv {v : V} {k : Nat → List V → List V → RO} (h : elF v k (.bad w) = .ok r g) : ∃ f a c, v = .f f a c ∧ k f a c = .ok r g := by
  cases v <;> first | exact ⟨_, _, _, rfl, h⟩ | exact (bad_ne h).elim
theorem elO_inv {v : O} {k : Nat → PT V → RO} (h : elO v k (.bad w) = .ok r g) : ∃ n t, v = .c n t ∧ k n t = .ok r g := by
  cases v <;> first | exact ⟨_, _, rfl, h⟩ | exact (bad_ne h).elim
theorem elOM_inv {v : O} {k : List (V × V) → RO} (h : elOM v k (.bad w) = .ok r g) : ∃ es, v = .m es ∧ k es = .ok r g := by
  cases v <;> first | exact ⟨_, rfl, h⟩ | exact (bad_ne h).elim
theorem cnd_inv {b : Bool} {x : RO} (h : cnd b x (.bad w) = .ok r g) : b = true ∧ x = .ok r g := by
  cases b <;> first | exact ⟨rfl, h⟩ | exact (bad_ne h).elim
theorem toN_inv {n : Int} {k : Nat → RO} (h : toN n (.bad w) k = .ok r g) : ∃ m, n = Int.ofNat m ∧ k m = .ok r g := by
  cases n <;> first | exact ⟨_, rfl, h⟩ | exact (bad_ne h).elim
theorem elRO_inv {x : RO} {k : V → G → RO} (h : elRO x k = .ok r g) : ∃ v g1, x = .ok v g1 ∧ k v g1 = .ok r g := by
  cases x <;> first | exact ⟨_, _, rfl, h⟩ | exact (bad_ne h).elim
end
theorem fcN_eq (n : Nat) (k : Nat → RO) : fcN n k = k n := by cases n <;> rfl
theorem fcG_eq (n : Nat) (k : Nat → G) : fcG n k = k n := by cases n <;> rfl
theorem fcR_eq (n : Nat) (k : Nat → R) : fcR n k = k n := by cases n <;> rfl
theorem fcI_eq (n : Int) (k : Int → RO) : fcI n k = k n := by
  cases n with
  | ofNat m => cases m <;> rfl
  | negSucc m => cases m <;> rfl
theorem cnd_eq (b : Bool) (x y : RO) : cnd b x y = if b then x else y := by cases b <;> rfl
theorem notB_eq (b : Bool) : notB b = !b := by cases b <;> rfl
theorem beqB_eq (a b : Bool) : beqB a b = (a == b) := by cases a <;> cases b <;> rfl
theorem cndN_eq (b : Bool) (x y : Nat) : cndN b x y = if b then x else y := by cases b <;> rfl

/-! ints -/
theorem addI_eq (x y : Int) : addI x y = x + y := by cases x <;> cases y <;> rfl
theorem negI_eq (x : Int) : negI x = -x := by
  cases x with
  | ofNat a => cases a <;> rfl
  | negSucc a => rfl
theorem subI_eq (x y : Int) : subI x y = x - y := by
  cases x with
  | ofNat a => cases y with
    | ofNat b =>
      show @Bool.rec (fun _ => Int) (negI (.ofNat (Nat.sub b a))) (.ofNat (Nat.sub a b)) (Nat.ble b a) = _
      cases hb : Nat.ble b a with
      | true =>
        have : b ≤ a := Nat.le_of_ble_eq_true hb
        show Int.ofNat (a - b) = Int.ofNat a - Int.ofNat b
        simp; omega
      | false =>
        have : ¬ b ≤ a := fun e => by rw [Nat.ble_eq_true_of_le e] at hb; cases hb
        show negI (.ofNat (b - a)) = Int.ofNat a - Int.ofNat b
        rw [negI_eq]; simp; omega
    | negSucc b => show Int.ofNat (a + (b + 1)) = Int.ofNat a - Int.negSucc b; simp [Int.negSucc_eq] <;> omega
  | negSucc a => cases y with
    | ofNat b => show Int.negSucc (a + b) = Int.negSucc a - Int.ofNat b; simp [Int.negSucc_eq]; omega
    | negSucc b => show addI (.negSucc a) (.ofNat (b + 1)) = _; rw [addI_eq]; simp [Int.negSucc_eq]
theorem eqI_eq (x y : Int) : eqI x y = (x == y) := by
  cases x <;> cases y
  · rename_i a b; show Nat.beq a b = _; rw [Bool.eq_iff_iff]; simp; omega
  · rename_i a b; show false = _; symm; rw [beq_eq_false_iff_ne]; intro h; cases h
  · rename_i a b; show false = _; symm; rw [beq_eq_false_iff_ne]; intro h; cases h
  · rename_i a b; show Nat.beq a b = _; rw [Bool.eq_iff_iff]; simp
theorem leI_eq (x y : Int) : leI x y = decide (x ≤ y) := by
  cases x <;> cases y
  · rename_i a b; show Nat.ble a b = _; rw [Bool.eq_iff_iff]; simp
  · rename_i a b; show false = _; symm; simp [Int.negSucc_eq]; omega
  · rename_i a b; show true = _; symm; simp [Int.negSucc_eq]; omega
  · rename_i a b; show Nat.ble b a = _; rw [Bool.eq_iff_iff]; simp [Int.negSucc_eq]
theorem ltI_eq (x y : Int) : ltI x y = decide (x < y) := by
  cases x <;> cases y
  · rename_i a b; show Nat.ble (a + 1) b = _; rw [Bool.eq_iff_iff]; simp; omega
  · rename_i a b; show false = _; symm; simp [Int.negSucc_eq]; omega
  · rename_i a b; show true = _; symm; simp [Int.negSucc_eq]; omega
  · rename_i a b; show Nat.ble (b + 1) a = _; rw [Bool.eq_iff_iff]; simp [Int.negSucc_eq]; omega
theorem ikEq_eq {a b : IntKind} (h : ikEq a b = true) : a = b := by
  cases a <;> cases b <;> first | rfl | exact absurd h (by decide)
theorem ikEq_ff {a b : IntKind} (h : ikEq a b = false) : a ≠ b := by
  intro e; subst e; cases a <;> exact absurd h (by decide)
theorem mxk_max (k : IntKind) : ((mxk k : Nat) : Int) = k.max := by cases k <;> rfl
theorem wrp_eq (k : IntKind) (n : Int) : wrp k n = k.wrap n := by
  cases n with
  | ofNat m =>
    show @Bool.rec (fun _ => Int) (k.wrap (Int.ofNat m)) (Int.ofNat m) (Nat.ble m (mxk k)) = _
    cases hb : Nat.ble m (mxk k) with
    | false => rfl
    | true =>
      have h1 : m ≤ mxk k := Nat.le_of_ble_eq_true hb
      have h2 := mxk_max k
      show Int.ofNat m = k.wrap (Int.ofNat m)
      have h3 : (Int.ofNat m) = (m : Int) := rfl
      rw [h3]
      cases k <;> (simp only [IntKind.wrap, IntKind.bits, IntKind.signed, mxk] at *; simp; omega)
  | negSucc m => rfl
end Go.Ev
namespace Go.Ev
open Go
set_option maxRecDepth 100000
section
variable {ρ : Rho} {o : Oper} {n : Env} {g g' : G} {v : V} {call : Cl}
theorem run_v {s : Sem Value} {w w' : World} {rv : Value} (h : s.run PP w = .ok rv w') : (do pure (Next.value (← s)) : Sem Next).run PP w = .ok (.value rv) w' := by
  simp [h]
theorem VR_eq {σ : Sg} {v : V} {x y : Value} (h : VR ρ σ v x) (e : x = y) : VR ρ σ v y := e ▸ h

theorem xMove_ok {x : Operand} (ho : o.op = .move x ∨ o.op = .assign x) (h : xMove x call n g = .ok v g') : OpSim ρ o n g v g' := by
  obtain ⟨rfl, rfl⟩ := ok_inj (show RO.ok (ev x n) g = .ok v g' from h)
  refine pure_sim fun σ a w he => ⟨a.eval x, ev_ok he x, ?_⟩
  rcases ho with ho | ho <;> simp [execOp, ho]
theorem xPick_ok {k x y : Operand} (ho : o.op = .pick k x y) (h : xPick k x y call n g = .ok v g') : OpSim ρ o n g v g' := by
  obtain ⟨q, hq, h⟩ := elB_inv h
  cases q
  · obtain ⟨rfl, rfl⟩ := ok_inj (show RO.ok (ev y n) g = .ok v g' from h)
    refine pure_sim fun σ a w he => ⟨a.eval y, ev_ok he y, ?_⟩
    have hk := ev_ok he k; rw [hq] at hk; simp only [VR] at hk
    simp [execOp, ho, hk, asBool]
  · obtain ⟨rfl, rfl⟩ := ok_inj (show RO.ok (ev x n) g = .ok v g' from h)
    refine pure_sim fun σ a w he => ⟨a.eval x, ev_ok he x, ?_⟩
    have hk := ev_ok he k; rw [hq] at hk; simp only [VR] at hk
    simp [execOp, ho, hk, asBool]
theorem xNil_ok {x : Operand} (ho : o.op = .nilCheck x) (h : xNil x call n g = .ok v g') : OpSim ρ o n g v g' := by
  obtain ⟨hq, h⟩ := cnd_inv h
  obtain ⟨rfl, rfl⟩ := ok_inj h
  refine pure_sim fun σ a w he => ⟨a.eval x, ev_ok he x, ?_⟩
  have hk := ev_ok he x
  generalize ev x n = z at *
  cases z <;> first
    | (exact absurd (show false = true from hq) (by simp))
    | skip
  · simp only [VR] at hk
    obtain ⟨L, h1, h2⟩ := hk
    simp [execOp, ho, h2]
  · simp only [VR] at hk
    obtain ⟨xs, ys, h2, _⟩ := hk
    simp [execOp, ho, h2]
theorem xExtract_ok {x : Operand} {i : Nat} (ho : o.op = .extract x i) (h : xExtract x i call n g = .ok v g') : OpSim ρ o n g v g' := by
  obtain ⟨vs, hq, h⟩ := elT_inv h
  obtain ⟨hb, h⟩ := cnd_inv h
  obtain ⟨rfl, rfl⟩ := ok_inj h
  have hi : i < vs.length := by have := Nat.le_of_ble_eq_true hb; rw [lenL_eq] at this; omega
  · refine pure_sim fun σ a w he => ?_
    have hk := ev_ok he x; rw [hq] at hk; simp only [VR] at hk
    obtain ⟨xs, hx, hs⟩ := hk
    obtain ⟨y, hy, hv⟩ := hs.get i hi
    refine ⟨y, by rw [nthL_eq]; exact hv, ?_⟩
    have : xs[i]? = some y := by rw [← hy, Array.getElem?_toList]
    simp [execOp, ho, hx, Instr.extract, this]

/-! binary operators -/
theorem okI_inv {k : IntKind} {m : Int} (h : okI k m g = .ok v g') : v = .i k (k.wrap m) ∧ g' = g := by
  unfold okI at h
  rw [fcI_eq, wrp_eq] at h
  obtain ⟨rfl, rfl⟩ := ok_inj h
  exact ⟨rfl, rfl⟩
theorem okM_inv {k : IntKind} {m : Nat} (h : okM k m g = .ok v g') : v = .i k (.ofNat m) ∧ g' = g := by
  unfold okM at h
  rw [fcN_eq] at h
  obtain ⟨rfl, rfl⟩ := ok_inj h
  exact ⟨rfl, rfl⟩
theorem okB_inv {b : Bool} (h : okB b g = .ok v g') : v = .b b ∧ g' = g := by
  cases b <;> (obtain ⟨rfl, rfl⟩ := ok_inj h; exact ⟨rfl, rfl⟩)
theorem same_inv {k k' : IntKind} {r : RO} (h : same k k' r = .ok v g') : k = k' ∧ r = .ok v g' := by
  obtain ⟨h1, h2⟩ := cnd_inv h
  exact ⟨ikEq_eq h1, h2⟩
theorem natI (k : IntKind) (x y : Nat) (f : Nat → Nat → Nat) (hf : ∀ m, f x y % 2 ^ m = f (x % 2 ^ m) (y % 2 ^ m)) :
    k.wrap (f (BitVec.ofInt k.bits (Int.ofNat x)).toNat (BitVec.ofInt k.bits (Int.ofNat y)).toNat : Nat) = k.wrap (Int.ofNat (f x y)) := by
  have h1 : ∀ z : Nat, (BitVec.ofInt k.bits (Int.ofNat z)).toNat = z % 2 ^ k.bits := fun z => by
    simp
  rw [h1, h1, ← hf]
  unfold IntKind.wrap
  have : ((f x y % 2 ^ k.bits : Nat) : Int) % (2 ^ k.bits : Int) = (Int.ofNat (f x y)) % (2 ^ k.bits : Int) := by
    simp
  rw [this]
theorem vi {σ : Sg} {k : IntKind} {m : Int} : VR ρ σ (.i k m) (.int k m) := by simp [VR]
theorem vb {σ : Sg} {q : Bool} : VR ρ σ (.b q) (.bool q) := by simp [VR]
theorem binII_ok {op : BinOp} {k k' : IntKind} {a b : Int} (h : binII op k a k' b g = .ok v g') (w : World) :
    ∃ rv, g' = g ∧ (∀ σ, VR ρ σ v rv) ∧ ∀ t, (binOp op t (.int k a) (.int k' b)).run PP w = .ok rv w := by
  cases op
  case add => obtain ⟨rfl, h1⟩ := same_inv h; obtain ⟨rfl, rfl⟩ := okI_inv h1; rw [addI_eq]; exact ⟨_, rfl, fun _ => vi, fun t => by simp [binOp, Op.intArith]⟩
  case sub => obtain ⟨rfl, h1⟩ := same_inv h; obtain ⟨rfl, rfl⟩ := okI_inv h1; rw [subI_eq]; exact ⟨_, rfl, fun _ => vi, fun t => by simp [binOp, Op.intArith]⟩
  case mul => obtain ⟨rfl, h1⟩ := same_inv h; obtain ⟨rfl, rfl⟩ := okI_inv h1; exact ⟨_, rfl, fun _ => vi, fun t => by simp [binOp, Op.intArith]⟩
  case quo =>
    obtain ⟨rfl, h1⟩ := same_inv h; obtain ⟨x, rfl, h2⟩ := toN_inv h1; obtain ⟨y, rfl, h3⟩ := toN_inv h2
    cases y with
    | zero => exact (bad_ne h3).elim
    | succ y =>
      obtain ⟨rfl, rfl⟩ := okI_inv h3
      refine ⟨_, rfl, fun _ => vi, fun t => ?_⟩
      have h0 : ¬ (Int.ofNat (y + 1) = 0) := by simp; omega
      simp only [binOp, Op.intDiv, if_neg h0, ne_eq, not_true_eq_false, if_false, Sem.run_pure]
      congr 2
  case rem =>
    obtain ⟨rfl, h1⟩ := same_inv h; obtain ⟨x, rfl, h2⟩ := toN_inv h1; obtain ⟨y, rfl, h3⟩ := toN_inv h2
    cases y with
    | zero => exact (bad_ne h3).elim
    | succ y =>
      obtain ⟨rfl, rfl⟩ := okM_inv h3
      refine ⟨_, rfl, fun _ => vi, fun t => ?_⟩
      have h0 : ¬ (Int.ofNat (y + 1) = 0) := by simp; omega
      simp only [binOp, Op.intDiv, if_neg h0, ne_eq, not_true_eq_false, if_false, Sem.run_pure]
      congr 2
  case and => obtain ⟨rfl, h1⟩ := same_inv h; obtain ⟨x, rfl, h2⟩ := toN_inv h1; obtain ⟨y, rfl, h3⟩ := toN_inv h2; obtain ⟨rfl, rfl⟩ := okI_inv h3; exact ⟨_, rfl, fun _ => vi, fun t => by simp only [binOp, Op.intBits, ne_eq, not_true_eq_false, if_false, Sem.run_pure, BitVec.toNat_and]; rw [natI k x y (· &&& ·) (fun m => Nat.and_mod_two_pow ..)]; rfl⟩
  case or => obtain ⟨rfl, h1⟩ := same_inv h; obtain ⟨x, rfl, h2⟩ := toN_inv h1; obtain ⟨y, rfl, h3⟩ := toN_inv h2; obtain ⟨rfl, rfl⟩ := okI_inv h3; exact ⟨_, rfl, fun _ => vi, fun t => by simp only [binOp, Op.intBits, ne_eq, not_true_eq_false, if_false, Sem.run_pure, BitVec.toNat_or]; rw [natI k x y (· ||| ·) (fun m => Nat.or_mod_two_pow ..)]; rfl⟩
  case xor => obtain ⟨rfl, h1⟩ := same_inv h; obtain ⟨x, rfl, h2⟩ := toN_inv h1; obtain ⟨y, rfl, h3⟩ := toN_inv h2; obtain ⟨rfl, rfl⟩ := okI_inv h3; exact ⟨_, rfl, fun _ => vi, fun t => by simp only [binOp, Op.intBits, ne_eq, not_true_eq_false, if_false, Sem.run_pure, BitVec.toNat_xor]; rw [natI k x y (· ^^^ ·) (fun m => Nat.xor_mod_two_pow ..)]; rfl⟩
  case shl =>
    obtain ⟨x, rfl, h1⟩ := toN_inv h; obtain ⟨y, rfl, h2⟩ := toN_inv h1; obtain ⟨hy, h3⟩ := cnd_inv h2; obtain ⟨rfl, rfl⟩ := okI_inv h3
    have hle := Nat.le_of_ble_eq_true hy
    refine ⟨_, rfl, fun _ => vi, fun t => ?_⟩
    have h0 : ¬ (Int.ofNat y < 0) := by simp
    have hm : min (Int.ofNat y).toNat k.bits = y := by show min y k.bits = y; omega
    simp only [binOp, Op.shift, if_neg h0, hm, Sem.run_pure]
    congr 3
    show (x : Int) * 2 ^ y = ((x <<< y : Nat) : Int)
    rw [Nat.shiftLeft_eq]; simp
  case shr =>
    obtain ⟨x, rfl, h1⟩ := toN_inv h; obtain ⟨y, rfl, h2⟩ := toN_inv h1; obtain ⟨hy, h3⟩ := cnd_inv h2; obtain ⟨rfl, rfl⟩ := okM_inv h3
    have hle := Nat.le_of_ble_eq_true hy
    refine ⟨_, rfl, fun _ => vi, fun t => ?_⟩
    have h0 : ¬ (Int.ofNat y < 0) := by simp
    have hm : min (Int.ofNat y).toNat k.bits = y := by show min y k.bits = y; omega
    simp only [binOp, Op.shift, if_neg h0, hm, Sem.run_pure]
    congr 2
    show Int.fdiv (x : Int) (2 ^ y) = ((x >>> y : Nat) : Int)
    rw [Nat.shiftRight_eq_div_pow, Int.fdiv_eq_ediv_of_nonneg _ (Int.pow_nonneg (by omega)), Int.natCast_ediv]; simp
  case andNot => exact (bad_ne h).elim
  case eql => obtain ⟨rfl, h1⟩ := same_inv h; obtain ⟨rfl, rfl⟩ := okB_inv h1; rw [eqI_eq]; exact ⟨_, rfl, fun _ => vb, fun t => by simp [binOp, Op.intCmp]⟩
  case neq => obtain ⟨rfl, h1⟩ := same_inv h; obtain ⟨rfl, rfl⟩ := okB_inv h1; rw [notB_eq, eqI_eq]; exact ⟨_, rfl, fun _ => vb, fun t => by simp [binOp, Op.intCmp]; rfl⟩
  case lss => obtain ⟨rfl, h1⟩ := same_inv h; obtain ⟨rfl, rfl⟩ := okB_inv h1; rw [ltI_eq]; exact ⟨_, rfl, fun _ => vb, fun t => by simp [binOp, Op.intCmp]⟩
  case leq => obtain ⟨rfl, h1⟩ := same_inv h; obtain ⟨rfl, rfl⟩ := okB_inv h1; rw [leI_eq]; exact ⟨_, rfl, fun _ => vb, fun t => by simp [binOp, Op.intCmp]⟩
  case gtr => obtain ⟨rfl, h1⟩ := same_inv h; obtain ⟨rfl, rfl⟩ := okB_inv h1; rw [ltI_eq]; exact ⟨_, rfl, fun _ => vb, fun t => by simp [binOp, Op.intCmp]⟩
  case geq => obtain ⟨rfl, h1⟩ := same_inv h; obtain ⟨rfl, rfl⟩ := okB_inv h1; rw [leI_eq]; exact ⟨_, rfl, fun _ => vb, fun t => by simp [binOp, Op.intCmp]⟩
end
end Go.Ev
namespace Go.Ev
open Go
set_option maxRecDepth 100000
theorem packL_cons (a : UInt8) (l : List UInt8) : packL (a :: l) = a.toNat + 256 * packL l := rfl
theorem packL_lt : ∀ l : List UInt8, packL l < 2 ^ (8 * l.length) := by
  intro l
  induction l with
  | nil => show 0 < _; simp
  | cons a l ih =>
    rw [packL_cons, List.length_cons]
    have := a.toNat_lt
    have e : 2 ^ (8 * (l.length + 1)) = 256 * 2 ^ (8 * l.length) := by rw [show 8 * (l.length + 1) = 8 + 8 * l.length by omega, Nat.pow_add]
    omega
theorem packL_app : ∀ a b : List UInt8, packL (a ++ b) = packL a + packL b * 2 ^ (8 * a.length) := by
  intro a b
  induction a with
  | nil => show packL b = 0 + packL b * 2 ^ 0; simp
  | cons x a ih =>
    rw [List.cons_append, packL_cons, packL_cons, ih, List.length_cons]
    have e : 2 ^ (8 * (a.length + 1)) = 256 * 2 ^ (8 * a.length) := by rw [show 8 * (a.length + 1) = 8 + 8 * a.length by omega, Nat.pow_add]
    rw [e]
    have : packL b * (256 * 2 ^ (8 * a.length)) = 256 * (packL b * 2 ^ (8 * a.length)) := by rw [Nat.mul_left_comm]
    omega
theorem packL_inj : ∀ {a b : List UInt8}, a.length = b.length → packL a = packL b → a = b := by
  intro a
  induction a with
  | nil => intro b h _; exact (List.length_eq_zero_iff.1 h.symm).symm
  | cons x a ih =>
    intro b h e
    cases b with
    | nil => simp at h
    | cons y b =>
      rw [packL_cons, packL_cons] at e
      have hx := x.toNat_lt; have hy := y.toNat_lt
      have h1 : x.toNat = y.toNat := by omega
      have h2 : packL a = packL b := by omega
      rw [UInt8.toNat_inj.1 h1, ih (by simpa using h) h2]
theorem eqS_eq {x y : ByteArray} {l n l' n' : Nat} (h1 : x.data.toList.length = l) (h2 : packL x.data.toList = n) (h3 : y.data.toList.length = l') (h4 : packL y.data.toList = n') :
    eqS l n l' n' = (x.toList == y.toList) := by
  rw [ByteArray.toList_eq, ByteArray.toList_eq]
  unfold eqS
  cases hl : Nat.beq l l' with
  | false =>
    show false = _
    symm; rw [beq_eq_false_iff_ne]
    intro e
    rw [← h1, ← h3, e] at hl
    simp at hl
  | true =>
    have hl' : l = l' := Nat.eq_of_beq_eq_true hl
    show Nat.beq n n' = _
    rw [Bool.eq_iff_iff, Nat.beq_eq, beq_iff_eq]
    refine ⟨fun e => packL_inj (by rw [h1, h3, hl']) (by rw [h2, h4, e]), fun e => ?_⟩
    rw [← h2, ← h4, e]
section
variable {ρ : Rho} {o : Oper} {n : Env} {g g' : G} {v : V} {call : Cl}
theorem binSS_ok {op : BinOp} {l m l' m' : Nat} {x y : ByteArray} (h : binSS op l m l' m' g = .ok v g') (h1 : x.data.toList.length = l) (h2 : packL x.data.toList = m)
    (h3 : y.data.toList.length = l') (h4 : packL y.data.toList = m') (w : World) :
    ∃ rv, g' = g ∧ (∀ σ, VR ρ σ v rv) ∧ ∀ t, (binOp op t (.string x) (.string y)).run PP w = .ok rv w := by
  cases op
  case add =>
    unfold binSS at h
    have h' : fcN (Nat.add l l') (fun a => cnd (Nat.ble a 1048576) (fcN (Nat.add m (Nat.shiftLeft m' (Nat.mul 8 l))) fun b => .ok (.s a b) g) (.bad 59)) = .ok v g' := h
    rw [fcN_eq] at h'
    obtain ⟨hle, h'⟩ := cnd_inv h'
    rw [fcN_eq] at h'
    obtain ⟨rfl, rfl⟩ := ok_inj h'
    have hle := Nat.le_of_ble_eq_true hle
    refine ⟨.string (x ++ y), rfl, fun σ => ?_, fun t => ?_⟩
    · simp only [VR]
      refine ⟨_, rfl, ?_, ?_⟩
      · rw [ByteArray.data_append, Array.toList_append, List.length_append, h1, h3]; rfl
      · simp only [ByteArray.data_append, Array.toList_append]
        rw [packL_app, h1, h2, h4]
        show _ = m + m' <<< (8 * l)
        rw [Nat.shiftLeft_eq]
    · have hs : x.size = l := h1
      have hs' : y.size = l' := h3
      have hle2 : l + l' ≤ 1048576 := hle
      have : ¬ (((x.size + y.size : Nat) : Int) > IntKind.i64.max) := by
        rw [hs, hs']; show ¬ (((l + l' : Nat) : Int) > 9223372036854775807); omega
      simp only [binOp, Op.stringOp, if_neg this, Sem.run_pure]
  case eql =>
    obtain ⟨rfl, rfl⟩ := okB_inv (show okB (eqS l m l' m') g = .ok v g' from h)
    exact ⟨_, rfl, fun _ => vb, fun t => by rw [eqS_eq h1 h2 h3 h4]; simp [binOp, Op.stringOp]⟩
  case neq =>
    obtain ⟨rfl, rfl⟩ := okB_inv (show okB (notB (eqS l m l' m')) g = .ok v g' from h)
    exact ⟨_, rfl, fun _ => vb, fun t => by rw [notB_eq, eqS_eq h1 h2 h3 h4]; simp [binOp, Op.stringOp]⟩
  all_goals exact (bad_ne h).elim
theorem und_eq {t : Nat} {d : TypeDesc} (h : und t = d) (hd : d ≠ .invalid) : PP.underlying t = some d := by
  unfold und at h
  cases hu : PP.underlying t with
  | none => rw [hu] at h; exact absurd h.symm hd
  | some x => rw [hu] at h; exact congrArg some h
/-- plain values of one kind -/
theorem keyEq_ok {d : TypeDesc} {x y : V} {q : Bool} {σ : Sg} {rx ry : Value} (h : keyEq d x y = some q) (hx : VR ρ σ x rx) (hy : VR ρ σ y ry) :
    (∀ t n w, PP.underlying t = some d → (Op.equalIn (n + 1) t rx ry).run PP w = .ok q w) ∧ Instr.sameNow d rx ry = some q := by
  cases d <;> cases x <;> cases y <;> simp only [keyEq] at h <;> try (cases h; done)
  case bool.b.b a b =>
    simp only [VR] at hx hy; subst hx hy
    obtain rfl := Option.some.inj h
    rw [beqB_eq]
    exact ⟨fun t n w ht => run_equalIn_bool w n t a b ht, rfl⟩
  case int.i.i k k1 a k2 b =>
    simp only [VR] at hx hy; subst hx hy
    split at h
    · rename_i hk
      obtain rfl := Option.some.inj h
      obtain rfl := ikEq_eq hk
      rw [eqI_eq]
      refine ⟨fun t n w ht => ?_, by simp [Instr.sameNow]⟩
      simp [Op.equalIn, run_underlying ht]
    · cases h
  case string.s.s l m l' m' =>
    simp only [VR] at hx hy
    obtain ⟨bx, rfl, h1, h2⟩ := hx
    obtain ⟨b', rfl, h3, h4⟩ := hy
    obtain rfl := Option.some.inj h
    rw [eqS_eq h1 h2 h3 h4]
    exact ⟨fun t n w ht => run_equalIn_string w n t bx b' ht, by simp [Instr.sameNow, beq_toListBytes]⟩

theorem siz_info {e : Nat} (h : siz e ≠ 0) : ∃ i, PP.info? e = some i ∧ i.size = siz e := by
  unfold siz at *
  cases hi : PP.info? e with
  | none => rw [hi] at h; exact absurd rfl h
  | some i => exact ⟨i, rfl, rfl⟩
theorem run_siz {e : Nat} (h : siz e ≠ 0) (w : World) : (sizeOf e).run PP w = .ok (siz e) w := by
  obtain ⟨i, h1, h2⟩ := siz_info h
  simp [sizeOf, typeInfo, h1, h2]
theorem keyEq_inv {q : Bool} {x y : V} (h : keyEq .invalid x y = some q) : False := by simp [keyEq] at h
/-- equality of two values that are no structs -/
theorem eq1_ok {ty : Nat} {x y : V} {q : Bool} {σ : Sg} {rx ry : Value} (h : eq1 ty x y = some q) (hx : VR ρ σ x rx) (hy : VR ρ σ y ry) (w : World) (n : Nat) :
    (Op.equalIn (n + 1) ty rx ry).run PP w = .ok q w := by
  unfold eq1 at h
  split at h
  all_goals first
    | (rename_i e hu
       have hd := und_eq hu (by simp)
       simp only [VR] at hx hy
       first
         | (obtain rfl := Option.some.inj h
            first
              | (subst hx hy; simp [Op.equalIn, run_underlying hd]; done)
              | (obtain ⟨L, _, rfl⟩ := hx; subst hy; simp [Op.equalIn, run_underlying hd]; done)
              | (obtain ⟨L, _, rfl⟩ := hy; subst hx; simp [Op.equalIn, run_underlying hd]; done)
              | (obtain ⟨L, a, rc, _, rfl, _⟩ := hx; subst hy; simp [Op.equalIn, run_underlying hd]; done)
              | (obtain ⟨L, a, rc, _, rfl, _⟩ := hy; subst hx; simp [Op.equalIn, run_underlying hd]; done)
              | (obtain ⟨L, a, rfl, _⟩ := hx; subst hy; simp [Op.equalIn, run_underlying hd]; done)
              | (obtain ⟨L, a, rfl, _⟩ := hy; subst hx; simp [Op.equalIn, run_underlying hd]; done)))
    | skip
  · rename_i e b o b' o' hu
    have hd := und_eq hu (by simp)
    simp only [VR] at hx hy
    obtain ⟨L, hL, rfl⟩ := hx
    obtain ⟨L', hL', rfl⟩ := hy
    split at h
    · rename_i hb hs
      obtain rfl := Option.some.inj h
      obtain rfl := Nat.eq_of_beq_eq_true hb
      rw [hL] at hL'
      obtain rfl := Option.some.inj hL'
      have h0 : siz e ≠ 0 := fun e0 => by rw [e0] at hs; cases hs
      have hr := run_siz h0 w
      have hsa : (sameAddr ⟨L.r, L.d + o, none⟩ ⟨L.r, L.d + o', none⟩).run PP w = .ok (Nat.beq o o') w := by
        simp [sameAddr]
        rw [Bool.eq_iff_iff]; simp
      clear hL
      generalize siz e = z at *
      simp [Op.equalIn, run_underlying hd, hr, h0, hsa]
    · cases h
  · have hd : und ty ≠ .invalid := fun e => by rw [e] at h; exact keyEq_inv h
    exact (keyEq_ok h hx hy).1 ty n w (und_eq rfl hd)
end
end Go.Ev
namespace Go.Ev
open Go
set_option maxRecDepth 100000
section
variable {ρ : Rho} {o : Oper} {n : Env} {g g' : G} {v : V} {call : Cl}
theorem run_agg {t : Nat} {d : TypeDesc} (h : PP.underlying t = some d) (w : World) : (isAgg t).run PP w = .ok (agg t) w := by
  have hu : und t = d := by unfold und; rw [h]; rfl
  unfold isAgg agg
  rw [hu, Sem.run_bind, run_underlying h]
  cases d <;> rfl
theorem run_part1 {t : Nat} {d : TypeDesc} (h : PP.underlying t = some d) (ha : agg t = false) {cs : Array Value} {i : Nat} {x : Value} (hx : cs[i]? = some x) (w : World) :
    (part t cs i).run PP w = .ok x w := by
  simp [part, run_agg h, ha, hx]
theorem keyEq_und {t : Nat} {x y : V} {q : Bool} (h : keyEq (und t) x y = some q) : PP.underlying t = some (und t) :=
  und_eq rfl fun e => by rw [e] at h; exact keyEq_inv h
theorem eqs_cons {d : TypeDesc} {ds : List TypeDesc} {a b : List V} {q : Bool} (h : eqs (d :: ds) a b = some q) :
    ∃ x a' y b', a = x :: a' ∧ b = y :: b' ∧ ((keyEq d x y = some true ∧ eqs ds a' b' = some q) ∨ (keyEq d x y = some false ∧ q = false)) := by
  cases a with
  | nil => cases b <;> simp [eqs] at h
  | cons x a => cases b with
    | nil => simp [eqs] at h
    | cons y b =>
      refine ⟨x, a, y, b, rfl, rfl, ?_⟩
      simp only [eqs] at h
      split at h
      · rename_i hk; exact .inl ⟨hk, h⟩
      · rename_i hk
        cases hq : keyEq d x y with
        | none => rw [hq] at h; cases h
        | some z =>
          cases z
          · exact .inr ⟨rfl, by rw [hq] at h; exact (Option.some.inj h).symm⟩
          · exact absurd hq hk
theorem getElem_of {xs : Array Value} {l r : List Value} {b : Value} (h : xs.toList = l ++ b :: r) : xs[l.length]? = some b := by
  rw [← Array.getElem?_toList, h]; simp
theorem flatF_cons {f : Field} {fs : List Field} {i : Nat} {ds : List TypeDesc} (h : flatF (f :: fs) i = some ds) :
    ∃ l, f.offset = i ∧ agg f.type = false ∧ f.name ≠ "_" ∧ flatF fs (i + 1) = some l ∧ ds = und f.type :: l := by
  have h' : consF (okFd f i) (und f.type) (flatF fs (i + 1)) = some ds := h
  unfold consF at h'
  split at h'
  · rename_i l hb hl
    unfold okFd at hb
    rw [notB_eq, notB_eq] at hb
    simp only [Bool.and_eq_true, Bool.not_eq_true', Nat.beq_eq] at hb
    exact ⟨l, hb.1.1, hb.2.1, by simpa using hb.2.2, hl, (Option.some.inj h').symm⟩
  · cases h'
theorem eqFields_ok {σ : Sg} {xs ys : Array Value} (k : Nat) (w : World) : ∀ (fs : List Field) (i : Nat) (ds : List TypeDesc) (a b : List V) (q : Bool) (px tx py ty : List Value),
    flatF fs i = some ds → eqs ds a b = some q → xs.toList = px ++ tx → ys.toList = py ++ ty → px.length = i → py.length = i → VRs ρ σ a tx → VRs ρ σ b ty →
    (Op.eqFields (k + 1) xs ys fs).run PP w = .ok q w := by
  intro fs
  induction fs with
  | nil =>
    intro i ds a b q px tx py ty h1 h2 _ _ _ _ _ _
    obtain rfl := Option.some.inj (show some [] = some ds from h1)
    cases a <;> cases b <;> simp [eqs] at h2
    subst h2
    simp [Op.eqFields]
  | cons f fs ih =>
    intro i ds a b q px tx py ty h1 h2 hx hy lx ly va vb
    obtain ⟨l, hoff, ha, hname, hl, rfl⟩ := flatF_cons h1
    obtain ⟨x, a', y, b', rfl, rfl, h3⟩ := eqs_cons h2
    simp only [VRs] at va vb
    obtain ⟨rx, tx', rfl, vx, va⟩ := va
    obtain ⟨ry, ty', rfl, vy, vb⟩ := vb
    have gx : xs[f.offset]? = some rx := by rw [hoff, ← lx]; exact getElem_of hx
    have gy : ys[f.offset]? = some ry := by rw [hoff, ← ly]; exact getElem_of hy
    clear h2
    rcases h3 with ⟨hk, h2⟩ | ⟨hk, rfl⟩
    · have hu := keyEq_und hk
      rw [Op.eqFields, if_pos hname]
      simp only [Sem.run_bind, run_part1 hu ha gx, run_part1 hu ha gy, Result.andThen_ok, (keyEq_ok hk vx vy).1 _ _ _ hu]
      simp only [Bool.not_true, Bool.false_eq_true, if_false]
      exact ih (i + 1) _ a' b' q (px ++ [rx]) tx' (py ++ [ry]) ty' hl h2 (by simp [hx]) (by simp [hy]) (by simp [lx]) (by simp [ly]) va vb
    · have hu := keyEq_und hk
      rw [Op.eqFields, if_pos hname]
      simp only [Sem.run_bind, run_part1 hu ha gx, run_part1 hu ha gy, Result.andThen_ok, (keyEq_ok hk vx vy).1 _ _ _ hu]
      simp
/-- the loop of an array's equality -/
def eqCells (d : Nat) (e : TypeId) (xs ys : Array Value) : List Nat → Sem Bool
  | [] => pure true
  | i :: r => do
    let a ← part e xs i
    let b ← part e ys i
    let r' ← Op.equalIn d e a b
    if (!r') = true then pure false else eqCells d e xs ys r
theorem eqCells_ok {σ : Sg} {xs ys : Array Value} (k e : Nat) (ha : agg e = false) (w : World) : ∀ (m i : Nat) (a b : List V) (q : Bool) (px tx py ty : List Value),
    eqs (List.replicate m (und e)) a b = some q → xs.toList = px ++ tx → ys.toList = py ++ ty → px.length = i → py.length = i → VRs ρ σ a tx → VRs ρ σ b ty →
    (eqCells (k + 1) e xs ys (List.range' i m)).run PP w = .ok q w := by
  intro m
  induction m with
  | zero =>
    intro i a b q px tx py ty h2 _ _ _ _ _ _
    cases a <;> cases b <;> simp [eqs] at h2
    subst h2
    simp [eqCells]
  | succ m ih =>
    intro i a b q px tx py ty h2 hx hy lx ly va vb
    rw [List.replicate_succ] at h2
    obtain ⟨x, a', y, b', rfl, rfl, h3⟩ := eqs_cons h2
    simp only [VRs] at va vb
    obtain ⟨rx, tx', rfl, vx, va⟩ := va
    obtain ⟨ry, ty', rfl, vy, vb⟩ := vb
    have gx : xs[i]? = some rx := by rw [← lx]; exact getElem_of hx
    have gy : ys[i]? = some ry := by rw [← ly]; exact getElem_of hy
    rw [List.range'_succ]
    clear h2
    rcases h3 with ⟨hk, h2⟩ | ⟨hk, rfl⟩
    · have hu := keyEq_und hk
      simp only [eqCells, Sem.run_bind, run_part1 hu ha gx, run_part1 hu ha gy, Result.andThen_ok, (keyEq_ok hk vx vy).1 _ _ _ hu]
      simp only [Bool.not_true, Bool.false_eq_true, if_false]
      exact ih (i + 1) a' b' q (px ++ [rx]) tx' (py ++ [ry]) ty' h2 (by simp [hx]) (by simp [hy]) (by simp [lx]) (by simp [ly]) va vb
    · have hu := keyEq_und hk
      simp only [eqCells, Sem.run_bind, run_part1 hu ha gx, run_part1 hu ha gy, Result.andThen_ok, (keyEq_ok hk vx vy).1 _ _ _ hu]
      simp
theorem run_equalIn_arr (d t m e : Nat) (xs ys : Array Value) (ht : PP.underlying t = some (.array m e)) (hs : siz e = 1) (w : World) :
    (Op.equalIn (d + 1) t (.agg xs) (.agg ys)).run PP w = (eqCells d e xs ys (List.range' 0 m)).run PP w := by
  have h1 := fun w => run_siz (e := e) (by rw [hs]; simp) w
  simp only [Op.equalIn, Sem.run_bind, run_underlying ht, Result.andThen_ok, h1, hs, Nat.mul_one]
  rw [Std.Legacy.Range.forIn_eq_forIn_range']
  simp only [Std.Legacy.Range.size]
  rw [show (m - 0 + 1 - 1) / 1 = m by simp]
  clear ht
  generalize (0 : Nat) = i
  induction m generalizing i w with
  | zero => simp [eqCells]
  | succ m ih =>
    rw [List.range'_succ]
    simp only [List.forIn_cons, eqCells, Sem.run_bind, Sem.run_ite]
    generalize (part e xs i).run PP w = r1
    cases r1 with
    | halt x w1 => simp [Result.andThen]
    | ok a w1 =>
      simp only [Result.andThen_ok]
      generalize (part e ys i).run PP w1 = r2
      cases r2 with
      | halt x w2 => simp [Result.andThen]
      | ok b w2 =>
        simp only [Result.andThen_ok]
        generalize (Op.equalIn d e a b).run PP w2 = r3
        cases r3 with
        | halt x w3 => simp [Result.andThen]
        | ok r w3 =>
          cases r
          · simp only [Result.andThen_ok, Bool.not_false, if_true, Sem.run_pure]
          · simp only [Result.andThen_ok, Bool.not_true, Bool.false_eq_true, if_false, Sem.run_pure]
            exact ih w3 (i + 1)
theorem keyEq_l {d : TypeDesc} {x y : V} {q : Bool} (h : keyEq d x y = some q) : (∃ b, x = .b b) ∨ (∃ k n, x = .i k n) ∨ (∃ l n, x = .s l n) := by
  cases d <;> cases x <;> cases y <;> simp [keyEq] at h ⊢
theorem eqV_ok {ty : Nat} {x y : V} {q : Bool} {σ : Sg} {rx ry : Value} (h : eqV ty x y = some q) (hx : VR ρ σ x rx) (hy : VR ρ σ y ry) (w : World) (k : Nat) :
    (Op.equalIn (k + 2) ty rx ry).run PP w = .ok q w ∧ (∀ xs ys, rx = .agg xs → ry = .agg ys → PP.eqGuardType PP.depth ty = false) := by
  unfold eqV at h
  split at h
  · rename_i a b
    split at h
    · rename_i ds hd
      simp only [VR] at hx hy
      obtain ⟨xs, rfl, vx⟩ := hx
      obtain ⟨ys, rfl, vy⟩ := hy
      unfold flatD at hd
      split at hd
      · cases hd
      · rename_i hg
        refine ⟨?_, fun _ _ _ _ => hg⟩
        split at hd
        · rename_i fs hu
          have hu := und_eq hu (by simp)
          split at hd
          · cases hd
          · rename_i hs
            have hf : PP.fieldsOf ty = fs := by unfold Program.fieldsOf; rw [hu]
            rw [run_equalIn_struct w (k + 1) ty xs ys (by rw [hf]; exact hu) hs, hf]
            exact eqFields_ok k w fs.toList 0 ds a b q [] xs.toList [] ys.toList hd h rfl rfl rfl rfl vx vy
        · rename_i m e hu
          have hu := und_eq hu (by simp)
          split at hd
          · rename_i hs ha
            obtain rfl := Option.some.inj hd
            rw [run_equalIn_arr (k + 1) ty m e xs ys hu (Nat.eq_of_beq_eq_true hs) w]
            exact eqCells_ok k e ha w m 0 a b q [] xs.toList [] ys.toList h rfl rfl rfl rfl vx vy
          · cases hd
        · cases hd
    · cases h
  · rename_i hng
    refine ⟨eq1_ok h hx hy w (k + 1), fun xs ys e1 e2 => ?_⟩
    exfalso
    subst e1 e2
    cases x <;> simp only [VR] at hx <;> first
      | (cases hx; done)
      | (obtain ⟨_, hx, _⟩ := hx; cases hx; done)
      | (obtain ⟨_, _, hx⟩ := hx; cases hx; done)
      | (obtain ⟨_, _, _, _, hx, _⟩ := hx; cases hx; done)
      | (obtain ⟨_, _, hx, _⟩ := hx; cases hx; done)
      | skip
    all_goals
      unfold eq1 at h
      split at h <;> first
        | (rename_i e; cases e; done)
        | skip
    all_goals
      rcases keyEq_l h with ⟨_, e⟩ | ⟨_, _, e⟩ | ⟨_, _, e⟩ <;> cases e

theorem eqGuard_not (op : BinOp) (t : Nat) (x y : Operand) (a b : Value) (w : World) (h : ∀ xs ys, a = .agg xs → b = .agg ys → PP.eqGuardType PP.depth t = false) (h2 : a ≠ .nilIface) :
    (eqGuard op t x y a b).run PP w = .ok () w := by
  cases op <;> first
    | rfl
    | (cases a <;> cases b <;> first
        | rfl
        | exact absurd rfl h2
        | (rename_i xs ys; have hg := h xs ys rfl rfl; simp [eqGuard, hg]))
theorem elS_cases (x : V) (k : Nat → Nat → RO) (z : RO) : (∃ l n, x = .s l n ∧ elS x k z = k l n) ∨ ((∀ l n, x ≠ .s l n) ∧ elS x k z = z) := by
  cases x <;> first | exact .inl ⟨_, _, rfl, rfl⟩ | exact .inr ⟨(fun _ _ e => nomatch e), rfl⟩
theorem elI_cases (x : V) (k : IntKind → Int → RO) (z : RO) : (∃ l n, x = .i l n ∧ elI x k z = k l n) ∨ ((∀ l n, x ≠ .i l n) ∧ elI x k z = z) := by
  cases x <;> first | exact .inl ⟨_, _, rfl, rfl⟩ | exact .inr ⟨(fun _ _ e => nomatch e), rfl⟩
/-- a value that equality takes is no nil interface -/
theorem eqV_iface {ty : Nat} {x y : V} {q : Bool} {σ : Sg} (h : eqV ty x y = some q) (hx : VR ρ σ x .nilIface) (hr : ∀ n, ρ n ≠ .nilIface) : False := by
  cases x <;> simp only [VR] at hx <;> try (first | (cases hx; done) | (obtain ⟨_, hx, _⟩ := hx; cases hx; done) | (obtain ⟨_, _, hx⟩ := hx; cases hx; done) | (obtain ⟨_, _, _, _, hx, _⟩ := hx; cases hx; done) | (obtain ⟨_, _, hx, _⟩ := hx; cases hx; done) | exact hr _ hx.symm)
  have h' : eq1 ty .u y = some q := h
  unfold eq1 at h'
  split at h' <;> first
    | (rename_i e; cases e; done)
    | skip
  rcases keyEq_l h' with ⟨_, e⟩ | ⟨_, _, e⟩ | ⟨_, _, e⟩ <;> cases e
end
end Go.Ev
namespace Go.Ev
open Go
set_option maxRecDepth 100000
/-- what the open values may be -/
structure Opq (ρ : Rho) : Prop where
  one : ∀ n, (ρ n).oneCell' = true
  nif : ∀ n, ρ n ≠ .nilIface
section
variable {ρ : Rho} {o : Oper} {n : Env} {g g' : G} {v : V} {call : Cl}
theorem binEq_fin {ty : Nat} {X Y : V} {q : Bool} {σ : Sg} {rx : Value} (h : eqV ty X Y = some q) (hi : ∀ k a, X ≠ .i k a) (hs : ∀ l m, X ≠ .s l m) (vx : VR ρ σ X rx) (ry : Value) :
    binOp .eql ty rx ry = (do pure (.bool (← Op.equal ty rx ry))) ∧ binOp .neq ty rx ry = (do pure (.bool (!(← Op.equal ty rx ry)))) := by
  have fin : (∃ b, rx = .bool b) ∨ (∃ b, rx = .pointer b) ∨ (∃ a b c, rx = .slice a b c) ∨ (∃ b, rx = .map b) ∨ (∃ a b c, rx = .func a b c) ∨ rx = .nilFunc ∨ (∃ b, rx = .agg b) := by
    cases X <;> simp only [VR] at vx
    case b => exact .inl ⟨_, vx⟩
    case i => exact absurd rfl (hi _ _)
    case s => exact absurd rfl (hs _ _)
    case p => obtain ⟨L, _, e⟩ := vx; exact .inr (.inl ⟨_, e⟩)
    case pn => exact .inr (.inl ⟨_, vx⟩)
    case l => obtain ⟨L, a, rc, _, e, _⟩ := vx; exact .inr (.inr (.inl ⟨_, _, _, e⟩))
    case ln => exact .inr (.inr (.inl ⟨_, _, _, vx⟩))
    case m => obtain ⟨L, _, e⟩ := vx; exact .inr (.inr (.inr (.inl ⟨_, e⟩)))
    case mn => exact .inr (.inr (.inr (.inl ⟨_, vx⟩)))
    case f => obtain ⟨xs, ys, e, _⟩ := vx; exact .inr (.inr (.inr (.inr (.inl ⟨_, _, _, e⟩))))
    case fn => exact .inr (.inr (.inr (.inr (.inr (.inl vx)))))
    case g => obtain ⟨xs, e, _⟩ := vx; exact .inr (.inr (.inr (.inr (.inr (.inr ⟨_, e⟩)))))
    all_goals
      exfalso
      have h' : eq1 ty _ Y = some q := h
      unfold eq1 at h'
      split at h' <;> first
        | (rename_i e; cases e; done)
        | skip
      rcases keyEq_l h' with ⟨_, e⟩ | ⟨_, _, e⟩ | ⟨_, _, e⟩ <;> cases e
  rcases fin with ⟨_, rfl⟩ | ⟨_, rfl⟩ | ⟨_, _, _, rfl⟩ | ⟨_, rfl⟩ | ⟨_, _, _, rfl⟩ | rfl | ⟨_, rfl⟩ <;> cases ry <;> exact ⟨rfl, rfl⟩
theorem xBin_ok (hρ : Opq ρ) {op : BinOp} {ty ty2 : Nat} {x y : Operand} (ho : o.op = .binOp op ty x y ty2) (h : xBin op ty x y ty2 call n g = .ok v g') : OpSim ρ o n g v g' := by
  unfold xBin at h
  rcases elI_cases (ev x n) (fun k a => elI (ev y n) (fun k' b => binII op k a k' b g) (.bad 54)) (elS (ev x n) (fun l n1 => elS (ev y n) (fun l' n' => binSS op l n1 l' n' g) (.bad 55)) (binEq op ty (ev x n) (ev y n) g)) with ⟨k, a, hx, e⟩ | ⟨hx, e⟩
  · rw [e] at h
    obtain ⟨k', b, hy, h1⟩ := elI_inv h
    obtain ⟨rv, rfl, hv, hr⟩ := binII_ok (ρ := ρ) h1 default
    refine pure_sim fun σ a' w he => ?_
    obtain ⟨rv, _, hv, hr⟩ := binII_ok (ρ := ρ) h1 w
    have vx := ev_ok he x; rw [hx] at vx; simp only [VR] at vx
    have vy := ev_ok he y; rw [hy] at vy; simp only [VR] at vy
    refine ⟨rv, hv σ, ?_⟩
    have hg := eqGuard_not op ty x y (a'.eval x) (a'.eval y) w (fun xs ys e => by rw [vx] at e; cases e) (by rw [vx]; simp)
    simp only [execOp, ho]
    refine run_v ?_
    rw [vx, vy] at hg ⊢
    rw [Sem.run_bind, hg, Result.andThen_ok, hr]
  · rw [e] at h
    rcases elS_cases (ev x n) (fun l n1 => elS (ev y n) (fun l' n' => binSS op l n1 l' n' g) (.bad 55)) (binEq op ty (ev x n) (ev y n) g) with ⟨l, m, hs, e2⟩ | ⟨hs, e2⟩
    · rw [e2] at h
      obtain ⟨l', m', hy, h1⟩ := elS_inv h
      have hg' : g' = g := by
        obtain ⟨b1, q1⟩ : ∃ b : ByteArray, b = b := ⟨default, rfl⟩
        cases op <;> first
          | (exact (bad_ne h1).elim)
          | (exact (okB_inv h1).2)
          | (have h1' : fcN (Nat.add l l') (fun a => cnd (Nat.ble a 1048576) (fcN (Nat.add m (Nat.shiftLeft m' (Nat.mul 8 l))) fun b => .ok (.s a b) g) (.bad 59)) = .ok v g' := h1
             rw [fcN_eq] at h1'
             obtain ⟨_, h1'⟩ := cnd_inv h1'
             rw [fcN_eq] at h1'
             exact (ok_inj h1').2.symm)
      subst hg'
      refine pure_sim fun σ a' w he => ?_
      have vx := ev_ok he x; rw [hs] at vx; simp only [VR] at vx
      have vy := ev_ok he y; rw [hy] at vy; simp only [VR] at vy
      obtain ⟨bx, vx, x1, x2⟩ := vx
      obtain ⟨b', vy, y1, y2⟩ := vy
      obtain ⟨rv, _, hv, hr⟩ := binSS_ok (ρ := ρ) h1 x1 x2 y1 y2 w
      refine ⟨rv, hv σ, ?_⟩
      have hg := eqGuard_not op ty x y (a'.eval x) (a'.eval y) w (fun xs ys e => by rw [vx] at e; cases e) (by rw [vx]; simp)
      simp only [execOp, ho]
      refine run_v ?_
      rw [vx, vy] at hg ⊢
      rw [Sem.run_bind, hg, Result.andThen_ok, hr]
    · rw [e2] at h
      unfold binEq at h
      have key : ∃ q, eqV ty (ev x n) (ev y n) = some q ∧ g' = g ∧ ((op = .eql ∧ v = .b q) ∨ (op = .neq ∧ v = .b (!q))) := by
        split at h
        · rename_i r hr; obtain ⟨rfl, rfl⟩ := okB_inv h; exact ⟨r, hr, rfl, .inl ⟨rfl, rfl⟩⟩
        · rename_i r hr; obtain ⟨rfl, rfl⟩ := okB_inv h; exact ⟨r, hr, rfl, .inr ⟨rfl, by rw [notB_eq]⟩⟩
        · exact (bad_ne h).elim
      obtain ⟨q, hq, rfl, hop⟩ := key
      refine pure_sim fun σ a' w he => ?_
      have vx := ev_ok he x
      have vy := ev_ok he y
      obtain ⟨hr, hgd⟩ := eqV_ok hq vx vy w 9998
      have hg := eqGuard_not op ty x y (a'.eval x) (a'.eval y) w hgd (fun e => eqV_iface hq (e ▸ vx) hρ.nif)
      have hr' : (Op.equal ty (a'.eval x) (a'.eval y)).run PP w = .ok q w := hr
      have hb : ∀ rx ry : Value, rx = a'.eval x → ry = a'.eval y → (binOp .eql ty rx ry).run PP w = .ok (.bool q) w ∧ (binOp .neq ty rx ry).run PP w = .ok (.bool (!q)) w := by
        intro rx ry e3 e4
        rw [← e3, ← e4] at hr'
        rw [← e3] at vx
        have fin : binOp .eql ty rx ry = (do pure (.bool (← Op.equal ty rx ry))) ∧ binOp .neq ty rx ry = (do pure (.bool (!(← Op.equal ty rx ry)))) := by
          exact binEq_fin hq hx hs vx ry
        rw [fin.1, fin.2]
        simp [hr']
      obtain ⟨hb1, hb2⟩ := hb _ _ rfl rfl
      rcases hop with ⟨rfl, rfl⟩ | ⟨rfl, rfl⟩
      · exact ⟨_, vb, by simp only [execOp, ho]; refine run_v ?_; rw [Sem.run_bind, hg, Result.andThen_ok, hb1]⟩
      · exact ⟨_, vb, by simp only [execOp, ho]; refine run_v ?_; rw [Sem.run_bind, hg, Result.andThen_ok, hb2]⟩
theorem xUn_ok {op : UnOp} {ty : Nat} {x : Operand} (ho : o.op = .unOp op ty x) (h : xUn op ty x call n g = .ok v g') : OpSim ρ o n g v g' := by
  unfold xUn at h
  split at h
  · rename_i q hx
    obtain ⟨rfl, rfl⟩ := okB_inv h
    refine pure_sim fun σ a w he => ?_
    have vx := ev_ok he x; rw [hx] at vx; simp only [VR] at vx
    exact ⟨_, vb, by rw [notB_eq]; simp [execOp, ho, vx, Op.unary]⟩
  · rename_i k m hx
    obtain ⟨rfl, rfl⟩ := okI_inv h
    refine pure_sim fun σ a w he => ?_
    have vx := ev_ok he x; rw [hx] at vx; simp only [VR] at vx
    exact ⟨_, vi, by rw [negI_eq]; simp [execOp, ho, vx, Op.unary, Op.intArith]⟩
  · exact (bad_ne h).elim
theorem xFunc_ok {fn : Fn} {fs cs : Array Operand} (ho : o.op = .makeFunc fn fs cs) (h : xFunc fn fs cs call n g = .ok v g') : OpSim ρ o n g v g' := by
  unfold xFunc at h
  split at h
  · rename_i f
    obtain ⟨rfl, rfl⟩ := ok_inj h
    refine pure_sim fun σ a w he => ⟨.func (.func f) (fs.map a.eval) (cs.map a.eval), ?_, ?_⟩
    · simp only [VR]
      exact ⟨_, _, rfl, by rw [Array.toList_map]; exact evs_ok he _, by rw [Array.toList_map]; exact evs_ok he _⟩
    · simp [execOp, ho, Instr.makeFunc]
  · exact (bad_ne h).elim
theorem lookR_inv {ok q : Bool} {x : V} (h : lookR ok x q g = .ok v g') : g' = g ∧ v = if ok then .t [x, .b q] else x := by
  cases ok <;> (obtain ⟨rfl, rfl⟩ := ok_inj h; exact ⟨rfl, rfl⟩)
end
end Go.Ev
namespace Go.Ev
open Go
set_option maxRecDepth 100000
theorem kn_und {t : Nat} (h : kn t = true) : PP.underlying t = some (und t) := by
  refine und_eq rfl fun e => ?_
  unfold kn at h
  rw [e] at h
  cases h
theorem und_info {t : Nat} {d : TypeDesc} (h : PP.underlying t = some d) : ∃ i, PP.info? t = some i := by
  unfold Program.underlying at h
  cases hi : PP.info? t with
  | none => rw [hi] at h; cases h
  | some i => exact ⟨i, rfl⟩
theorem run_sizK {t : Nat} {d : TypeDesc} (h : PP.underlying t = some d) (w : World) : (sizeOf t).run PP w = .ok (siz t) w := by
  obtain ⟨i, hi⟩ := und_info h
  simp [sizeOf, typeInfo, hi, siz]
section
variable {ρ : Rho} {o : Oper} {n : Env} {g g' : G} {v : V} {call : Cl}
theorem onFd_inv {x : Option Field} {bad : Nat} {k : Nat → Nat → RO} (h : onFd x bad k = .ok v g) : ∃ f, x = some f ∧ k f.offset f.type = .ok v g := by
  cases x with
  | none => exact (bad_ne h).elim
  | some f => exact ⟨f, rfl, h⟩
theorem fieldOf_inv {s i : Nat} {f : Field} (h : fieldOf s i = some f) : ∃ fs, PP.underlying s = some (.struct fs) ∧ fs[i]? = some f := by
  unfold fieldOf at h
  split at h
  · rename_i fs hu
    exact ⟨fs, und_eq hu (by simp), by rw [← h, Array.getElem?_toList]⟩
  · cases h
theorem xFieldAddr_ok {s f : Nat} {x : Operand} (ho : o.op = .fieldAddr s x f) (h : xFieldAddr s x f call n g = .ok v g') : OpSim ρ o n g v g' := by
  obtain ⟨fd, hf, h1⟩ := onFd_inv h
  obtain ⟨fs, hu, hfs⟩ := fieldOf_inv hf
  have h2 : (Nat.beq (siz fd.type) 0 = false) ∧ elP (ev x n) (fun b o => fcN (Nat.add o fd.offset) fun o => .ok (.p b o) g) (.bad 80) = .ok v g' := by
    cases hb : Nat.beq (siz fd.type) 0 with
    | true => rw [hb] at h1; exact (bad_ne h1).elim
    | false => rw [hb] at h1; exact ⟨rfl, h1⟩
  obtain ⟨hs, h3⟩ := h2
  obtain ⟨b, off, hx, h4⟩ := elP_inv h3
  rw [fcN_eq] at h4
  obtain ⟨rfl, rfl⟩ := ok_inj h4
  have h0 : siz fd.type ≠ 0 := fun e => by rw [e] at hs; cases hs
  refine pure_sim fun σ a w he => ?_
  have vx := ev_ok he x; rw [hx] at vx; simp only [VR] at vx
  obtain ⟨L, hL, vx⟩ := vx
  refine ⟨.pointer (some ⟨L.r, L.d + (off + fd.offset), none⟩), ?_, ?_⟩
  · simp only [VR]; exact ⟨L, hL, rfl⟩
  · have hr := run_siz h0 w
    clear hs h1 h3
    generalize siz fd.type = z at *
    simp only [execOp, ho]
    refine run_v ?_
    rw [vx]
    simp only [Instr.fieldAt, Sem.run_bind, run_underlying hu, Result.andThen_ok, hfs, Instr.sureAddr, Sem.run_pure, fieldPlace, hr, if_neg h0, Addr.add_mid, Nat.add_assoc]
theorem partL_ok {ty off : Nat} {cs : List V} (h : partL ty cs off g = .ok v g') : g' = g ∧ ∀ (σ : Sg) (xs : Array Value) (w : World), VRs ρ σ cs xs.toList → ∃ rv, VR ρ σ v rv ∧ (part ty xs off).run PP w = .ok rv w := by
  obtain ⟨hk, h⟩ := cnd_inv h
  obtain ⟨hl, h⟩ := cnd_inv h
  have hl := Nat.le_of_ble_eq_true hl
  rw [lenL_eq] at hl
  have hu := kn_und hk
  cases ha : agg ty with
  | true =>
    rw [ha] at h
    obtain ⟨rfl, rfl⟩ := ok_inj (show RO.ok (.g (takeL (siz ty) (dropL off cs))) g = .ok v g' from h)
    refine ⟨rfl, fun σ xs w hv => ⟨.agg (xs.extract off (off + siz ty)), ?_, ?_⟩⟩
    · simp only [VR]
      refine ⟨_, rfl, ?_⟩
      rw [takeL_eq, dropL_eq]
      have hlen := hv.len
      have e : (xs.extract off (off + siz ty)).toList = (xs.toList.drop off).take (siz ty) := by
        simp [List.take_drop]
      rw [e]
      refine VRs.of_get (by simp [hlen]) fun i x hi hx => ?_
      rw [List.length_take, List.length_drop] at hi
      have hi1 : i < siz ty := by omega
      rw [List.getElem?_take_of_lt hi1, List.getElem?_drop] at hx
      rw [List.getElem?_take_of_lt hi1, List.getElem?_drop]
      obtain ⟨y, hy, vy⟩ := hv.get (off + i) (by omega)
      rw [hx] at hy
      obtain rfl := Option.some.inj hy
      exact vy
    · simp only [part, Sem.run_bind, run_agg hu, ha, Result.andThen_ok, if_true, run_sizK hu, Sem.run_pure]
  | false =>
    rw [ha] at h
    obtain ⟨hl2, h⟩ := cnd_inv (show cnd (Nat.ble (Nat.succ off) (lenL cs)) (.ok (nthL off cs) g) (.bad 82) = .ok v g' from h)
    obtain ⟨rfl, rfl⟩ := ok_inj h
    have hl2 := Nat.le_of_ble_eq_true hl2
    rw [lenL_eq] at hl2
    refine ⟨rfl, fun σ xs w hv => ?_⟩
    obtain ⟨y, hy, vy⟩ := hv.get off (by omega)
    rw [Array.getElem?_toList] at hy
    exact ⟨y, by rw [nthL_eq]; exact vy, run_part1 hu ha hy w⟩
theorem xField_ok {s f : Nat} {x : Operand} (ho : o.op = .field s x f) (h : xField s x f call n g = .ok v g') : OpSim ρ o n g v g' := by
  obtain ⟨fd, hf, h1⟩ := onFd_inv h
  obtain ⟨fs, hu, hfs⟩ := fieldOf_inv hf
  obtain ⟨cs, hx, h2⟩ := elG_inv h1
  obtain ⟨rfl, hp⟩ := partL_ok (ρ := ρ) h2
  refine pure_sim fun σ a w he => ?_
  have vx := ev_ok he x; rw [hx] at vx; simp only [VR] at vx
  obtain ⟨xs, vx, hv⟩ := vx
  obtain ⟨rv, h3, h4⟩ := hp σ xs w hv
  refine ⟨rv, h3, ?_⟩
  simp only [execOp, ho]
  refine run_v ?_
  rw [vx]
  simp only [Instr.field, Sem.run_bind, run_underlying hu, Result.andThen_ok, hfs, asAgg, Sem.run_pure, h4]
theorem xIndexAddr_ok {ty : Nat} {x ix : Operand} (ho : o.op = .indexAddr ty x ix) (h : xIndexAddr ty x ix call n g = .ok v g') : OpSim ρ o n g v g' := by
  unfold xIndexAddr at h
  split at h
  · rename_i m e b off k i hu hx hi
    have hu := und_eq hu (by simp)
    obtain ⟨hk, h⟩ := cnd_inv h
    obtain ⟨hl, h⟩ := cnd_inv h
    rw [fcN_eq] at h
    obtain ⟨rfl, rfl⟩ := ok_inj h
    have hl := Nat.le_of_ble_eq_true hl
    refine pure_sim fun σ a w he => ?_
    have vx := ev_ok he x; rw [hx] at vx; simp only [VR] at vx
    have vi := ev_ok he ix; rw [hi] at vi; simp only [VR] at vi
    obtain ⟨L, hL, vx⟩ := vx
    refine ⟨.pointer (some ⟨L.r, L.d + (off + i * siz e), none⟩), ?_, ?_⟩
    · simp only [VR]; exact ⟨L, hL, rfl⟩
    · have hr := run_sizK (kn_und hk) w
      simp only [execOp, ho]
      refine run_v ?_
      rw [vx, vi]
      have h1 : (0 ≤ Int.ofNat i ∧ Int.ofNat i < (m : Int)) := ⟨by simp, by simp; omega⟩
      have ht : (Int.ofNat i).toNat = i := rfl
      simp only [Instr.indexAt, asIntOf, Sem.run_bind, Sem.run_pure, run_underlying hu, Result.andThen_ok, Instr.sureAddr, if_pos h1, hr, Addr.add_mid, Nat.add_assoc, ht]
  · rename_i e b off m q z k i hu hx hi
    have hu := und_eq hu (by simp)
    obtain ⟨hk, h⟩ := cnd_inv h
    obtain ⟨hl, h⟩ := cnd_inv h
    rw [fcN_eq] at h
    obtain ⟨rfl, rfl⟩ := ok_inj h
    have hl := Nat.le_of_ble_eq_true hl
    refine pure_sim fun σ a w he => ?_
    have vx := ev_ok he x; rw [hx] at vx; simp only [VR] at vx
    have vi := ev_ok he ix; rw [hi] at vi; simp only [VR] at vi
    obtain ⟨L, A, rc, hL, vx, h2, h3, h4, h5, h6, h7⟩ := vx
    refine ⟨.pointer (some ⟨L.r, L.d + (off + i * siz e), none⟩), ?_, ?_⟩
    · simp only [VR]; exact ⟨L, hL, rfl⟩
    · have hr := run_sizK (kn_und hk) w
      have hA := h6 (.inr (by omega))
      simp only [execOp, ho]
      refine run_v ?_
      rw [vx, vi, hA]
      have h1 : (0 ≤ Int.ofNat i ∧ Int.ofNat i < (m : Int)) := ⟨by simp, by simp; omega⟩
      have ht : (Int.ofNat i).toNat = i := rfl
      simp only [Instr.indexAt, asIntOf, Sem.run_bind, Sem.run_pure, run_underlying hu, Result.andThen_ok, if_pos h1, hr, Addr.add_mid, Nat.add_assoc, ht]
  · exact (bad_ne h).elim
theorem packL_get : ∀ (l : List UInt8) (i : Nat) (h : i < l.length), (packL l >>> (8 * i)) % 256 = (l[i]).toNat := by
  intro l
  induction l with
  | nil => intro i h; simp at h
  | cons a l ih =>
    intro i h
    have ha := a.toNat_lt
    cases i with
    | zero => rw [packL_cons]; simp [Nat.add_mul_mod_self_left]
    | succ i =>
      rw [packL_cons, show 8 * (i + 1) = 8 + 8 * i by omega, Nat.shiftRight_add]
      have : (a.toNat + 256 * packL l) >>> 8 = packL l := by rw [Nat.shiftRight_eq_div_pow]; omega
      rw [this, ih i (by simpa using h)]
      simp
theorem xIndex_ok {ty : Nat} {x ix : Operand} (ho : o.op = .index ty x ix) (h : xIndex ty x ix call n g = .ok v g') : OpSim ρ o n g v g' := by
  unfold xIndex at h
  split at h
  · rename_i m e cs k i hu hx hi
    have hu := und_eq hu (by simp)
    obtain ⟨hl, h⟩ := cnd_inv h
    have hk := (cnd_inv h).1
    obtain ⟨rfl, hp⟩ := partL_ok (ρ := ρ) h
    have hl := Nat.le_of_ble_eq_true hl
    refine pure_sim fun σ a w he => ?_
    have vx := ev_ok he x; rw [hx] at vx; simp only [VR] at vx
    have vi := ev_ok he ix; rw [hi] at vi; simp only [VR] at vi
    obtain ⟨xs, vx, hv⟩ := vx
    obtain ⟨rv, h3, h4⟩ := hp σ xs w hv
    refine ⟨rv, h3, ?_⟩
    have hr := run_sizK (kn_und hk) w
    simp only [execOp, ho]
    refine run_v ?_
    rw [vx, vi]
    have h1 : (0 ≤ Int.ofNat i ∧ Int.ofNat i < (m : Int)) := ⟨by simp, by simp; omega⟩
    have ht : (Int.ofNat i).toNat = i := rfl
    have h4' : (part e xs (i * siz e)).run PP w = .ok rv w := h4
    simp only [Instr.index, asIntOf, Sem.run_bind, Sem.run_pure, run_underlying hu, Result.andThen_ok, if_pos h1, hr, ht, h4']
  · rename_i l m k i hu hx hi
    have hu := und_eq hu (by simp)
    obtain ⟨hl, h⟩ := cnd_inv h
    rw [fcN_eq] at h
    obtain ⟨rfl, rfl⟩ := ok_inj h
    have hl := Nat.le_of_ble_eq_true hl
    refine pure_sim fun σ a w he => ?_
    have vx := ev_ok he x; rw [hx] at vx; simp only [VR] at vx
    have vi := ev_ok he ix; rw [hi] at vi; simp only [VR] at vi
    obtain ⟨bs, vx, h3, h4⟩ := vx
    have hb : i < bs.data.toList.length := by rw [h3]; exact hl
    refine ⟨.int .u8 ((bs.data.toList[i]).toNat : Int), ?_, ?_⟩
    · simp only [VR]
      congr 1
      rw [← packL_get _ i hb, h4]
      rfl
    · simp only [execOp, ho]
      refine run_v ?_
      rw [vx, vi]
      have h1 : (0 ≤ Int.ofNat i) := by simp
      have ht : (Int.ofNat i).toNat = i := rfl
      have hs : i < bs.size := hb
      have hg : bs[i]? = some (bs.data.toList[i]) := by
        rw [getElem?_pos bs i hs]; rfl
      simp only [Instr.index, asIntOf, Sem.run_bind, Sem.run_pure, run_underlying hu, Result.andThen_ok, if_pos h1, ht, hg]
  · exact (bad_ne h).elim
end
end Go.Ev
namespace Go.Ev
open Go
set_option maxRecDepth 100000
theorem orB_eq (x y : Bool) : orB x y = (x || y) := by cases x <;> cases y <;> rfl
section
variable {ρ : Rho} {o : Oper} {n : Env} {g g' : G} {v : V} {call : Cl}
theorem bnd_inv {x : Option Operand} {dft top : Nat} {k : Nat → RO} (h : bnd x n dft top k = .ok v g') :
    ∃ m, k m = .ok v g' ∧ ((x = none ∧ m = dft) ∨ ∃ p kk, x = some p ∧ ev p n = .i kk (Int.ofNat m) ∧ m ≤ top) := by
  cases x with
  | none => exact ⟨dft, h, .inl ⟨rfl, rfl⟩⟩
  | some p =>
    obtain ⟨kk, i, hp, h1⟩ := elI_inv (show elI (ev p n) (fun _ i => toN i (.bad 74) fun m => cnd (Nat.ble m top) (fcN m k) (.bad 75)) (.bad 73) = .ok v g' from h)
    obtain ⟨m, rfl, h2⟩ := toN_inv h1
    obtain ⟨hl, h3⟩ := cnd_inv h2
    rw [fcN_eq] at h3
    exact ⟨m, h3, .inr ⟨p, kk, rfl, hp, Nat.le_of_ble_eq_true hl⟩⟩
/-- the real bound -/
theorem bnd_run {x : Option Operand} {m dft top : Nat} (h : (x = none ∧ m = dft) ∨ ∃ p kk, x = some p ∧ ev p n = .i kk (Int.ofNat m) ∧ m ≤ top) {σ : Sg} {a : Act} (he : EnvR ρ σ n a) :
    (x.map a.eval = none ∧ m = dft) ∨ ∃ v, x.map a.eval = some v ∧ m ≤ top ∧ ∀ y, m ≤ y → ∀ c w, (Instr.sliceBound v y c).run PP w = .ok m w := by
  rcases h with ⟨rfl, rfl⟩ | ⟨p, kk, rfl, hp, hm⟩
  · exact .inl ⟨rfl, rfl⟩
  · refine .inr ⟨a.eval p, rfl, hm, fun y hy c w => ?_⟩
    have vp := ev_ok he p; rw [hp] at vp; simp only [VR] at vp
    have h1 : (0 ≤ Int.ofNat m ∧ Int.ofNat m ≤ (y : Int)) := ⟨by simp, by simp; omega⟩
    rw [vp]
    simp only [Instr.sliceBound, asIntOf, Sem.run_bind, Sem.run_pure, Result.andThen_ok, if_pos h1]
    rfl
/-- the bounds of a slice expression without a third index -/
theorem bounds2 {lo hi : Option Operand} {l h len top rc : Nat} (h2 : (hi = none ∧ h = len) ∨ ∃ p kk, hi = some p ∧ ev p n = .i kk (Int.ofNat h) ∧ h ≤ top)
    (h1 : (lo = none ∧ l = 0) ∨ ∃ p kk, lo = some p ∧ ev p n = .i kk (Int.ofNat l) ∧ l ≤ h) (ht : top ≤ rc) {σ : Sg} {a : Act} (he : EnvR ρ σ n a) (b : Bool) (w : World) :
    (Instr.sliceBounds b len rc (lo.map a.eval) (hi.map a.eval) none).run PP w = .ok (l, h, rc) w := by
  rcases bnd_run h2 he with ⟨e, rfl⟩ | ⟨vh, e, hm, hr⟩ <;> rcases bnd_run h1 he with ⟨e1, rfl⟩ | ⟨vl, e1, hm1, hr1⟩
  · simp [Instr.sliceBounds, e, e1]
  · simp [Instr.sliceBounds, e, e1, hr1 _ hm1]
  · simp [Instr.sliceBounds, e, e1, hr _ (Nat.le_trans hm ht)]
  · simp [Instr.sliceBounds, e, e1, hr _ (Nat.le_trans hm ht), hr1 _ hm1]
/-- with one -/
theorem bounds3 {lo hi : Option Operand} {p3 : Operand} {l h m len top rc : Nat} {k3 : IntKind} (h3 : ev p3 n = .i k3 (Int.ofNat m)) (hm3 : m ≤ top) (h2 : (hi = none ∧ h = len) ∨ ∃ p kk, hi = some p ∧ ev p n = .i kk (Int.ofNat h) ∧ h ≤ m)
    (h1 : (lo = none ∧ l = 0) ∨ ∃ p kk, lo = some p ∧ ev p n = .i kk (Int.ofNat l) ∧ l ≤ h) (hhi : hi ≠ none) (ht : top ≤ rc) {σ : Sg} {a : Act} (he : EnvR ρ σ n a) (b : Bool) (w : World) :
    (Instr.sliceBounds b len rc (lo.map a.eval) (hi.map a.eval) (some (a.eval p3))).run PP w = .ok (l, h, m) w := by
  have hx : (some p3 = none ∧ m = 0) ∨ ∃ p kk, some p3 = some p ∧ ev p n = .i kk (Int.ofNat m) ∧ m ≤ top := .inr ⟨p3, k3, rfl, h3, hm3⟩
  rcases bnd_run hx he with ⟨e, _⟩ | ⟨v3, e3, hm, hr3⟩
  · cases e
  obtain rfl : a.eval p3 = v3 := Option.some.inj e3
  have hr3' := fun c w => hr3 rc (Nat.le_trans hm3 ht) c w
  rcases bnd_run h2 he with ⟨e, _⟩ | ⟨vh, e, hmh, hr⟩
  · cases hi with
    | none => exact absurd rfl hhi
    | some p => cases e
  rcases bnd_run h1 he with ⟨e1, rfl⟩ | ⟨vl, e1, hm1, hr1⟩
  · simp [Instr.sliceBounds, e, e1, hr3', hr _ hmh]
  · simp [Instr.sliceBounds, e, e1, hr3', hr _ hmh, hr1 _ hm1]
theorem mkSl_inv {b o' sz l h m ex : Nat} (hh : mkSl b o' sz l h m ex g = .ok v g') :
    g' = g ∧ v = .l b (if ex = 0 then (if m = l then o' else o' + l * sz) else o' + l * sz) (h - l) (m - l) ex := by
  unfold mkSl at hh
  rw [fcN_eq, fcN_eq, fcN_eq] at hh
  obtain ⟨rfl, rfl⟩ := ok_inj hh
  refine ⟨rfl, ?_⟩
  rw [cndN_eq, cndN_eq]
  congr 1
  simp only [Nat.beq_eq]
  rfl
theorem packL_sub (l : List UInt8) (a d : Nat) (h : a + d ≤ l.length) : (packL l >>> (8 * a)) % 2 ^ (8 * d) = packL ((l.drop a).take d) := by
  have e1 : l = l.take a ++ l.drop a := (List.take_append_drop a l).symm
  have e2 : l.drop a = (l.drop a).take d ++ (l.drop a).drop d := (List.take_append_drop d _).symm
  have hl : (l.take a).length = a := by simp; omega
  have hl2 : ((l.drop a).take d).length = d := by simp; omega
  have p1 : packL l = packL (l.take a) + packL (l.drop a) * 2 ^ (8 * a) := by
    conv => lhs; rw [e1]
    rw [packL_app, hl]
  have b1 := packL_lt (l.take a)
  rw [hl] at b1
  have s1 : packL l >>> (8 * a) = packL (l.drop a) := by
    rw [Nat.shiftRight_eq_div_pow, p1, Nat.add_mul_div_right _ _ (Nat.pow_pos (by decide)), Nat.div_eq_of_lt b1]; simp
  rw [s1]
  have p2 : packL (l.drop a) = packL ((l.drop a).take d) + packL ((l.drop a).drop d) * 2 ^ (8 * d) := by
    conv => lhs; rw [e2]
    rw [packL_app, hl2]
  have b2 := packL_lt ((l.drop a).take d)
  rw [hl2] at b2
  rw [p2, Nat.add_mul_mod_self_right, Nat.mod_eq_of_lt b2]
end
end Go.Ev
namespace Go.Ev
open Go
set_option maxRecDepth 100000
section
variable {ρ : Rho} {o : Oper} {n : Env} {g g' : G} {v : V} {call : Cl}
theorem bnd_le {x : Option Operand} {m dft top : Nat} (h : (x = none ∧ m = dft) ∨ ∃ p kk, x = some p ∧ ev p n = .i kk (Int.ofNat m) ∧ m ≤ top) (hd : dft ≤ top) : m ≤ top := by
  rcases h with ⟨_, rfl⟩ | ⟨_, _, _, _, h⟩
  · exact hd
  · exact h
theorem run_slice {lo hi mx : Option Operand} {x : Operand} {ty : Nat} {a : Act} {w : World} {rv : Value} (ho : o.op = .slice ty x lo hi mx)
    (h : (Instr.sliceAt ty (a.eval x) (lo.map a.eval) (hi.map a.eval) (mx.map a.eval)).run PP w = .ok rv w) : (execOp a.eval o).run PP w = .ok (.value rv) w := by
  simp only [execOp, ho]
  exact run_v h
theorem xSlice_ok {ty : Nat} {x : Operand} {lo hi mx : Option Operand} (ho : o.op = .slice ty x lo hi mx) (h : xSlice ty x lo hi mx call n g = .ok v g') : OpSim ρ o n g v g' := by
  unfold xSlice at h
  split at h
  · -- a string
    rename_i l m hu hx
    have hu := und_eq hu (by simp)
    obtain ⟨hh, h, b2⟩ := bnd_inv h
    obtain ⟨ll, h, b1⟩ := bnd_inv h
    unfold subS at h
    rw [fcN_eq, fcN_eq] at h
    obtain ⟨rfl, rfl⟩ := ok_inj h
    have le2 := bnd_le b2 (Nat.le_refl _)
    have le1 := bnd_le b1 (Nat.zero_le _)
    refine pure_sim fun σ a w he => ?_
    have vx := ev_ok he x; rw [hx] at vx; simp only [VR] at vx
    obtain ⟨bs, vx, h3, h4⟩ := vx
    have hs : bs.size = l := h3
    refine ⟨.string (bs.extract ll hh), ?_, run_slice ho ?_⟩
    · simp only [VR]
      have e : (bs.extract ll hh).data.toList = (bs.data.toList.drop ll).take (hh - ll) := by simp [List.take_drop]
      refine ⟨_, rfl, ?_, ?_⟩
      · rw [e, List.length_take, List.length_drop, h3]; show min (hh - ll) (l - ll) = hh - ll; omega
      · rw [e, ← h4]
        exact (packL_sub _ ll (hh - ll) (by rw [h3]; omega)).symm
    · rw [vx]
      have hb := bounds2 (rc := l) b2 b1 (Nat.le_refl _) he false w
      simp only [Option.map_none, Instr.sliceAt, Instr.slice, Sem.run_bind, run_underlying hu, Result.andThen_ok, hs, Option.isSome_none, Bool.false_eq_true, if_false, hb, Sem.run_pure]
  · -- an array
    rename_i m e b off hu hx
    have hu := und_eq hu (by simp)
    obtain ⟨hk, h⟩ := cnd_inv h
    obtain ⟨hh, h, b2⟩ := bnd_inv h
    obtain ⟨ll, h, b1⟩ := bnd_inv h
    obtain ⟨rfl, rfl⟩ := mkSl_inv h
    have le2 := bnd_le b2 (Nat.le_refl _)
    have le1 := bnd_le b1 (Nat.zero_le _)
    refine pure_sim fun σ a w he => ?_
    have vx := ev_ok he x; rw [hx] at vx; simp only [VR] at vx
    obtain ⟨L, hL, vx⟩ := vx
    refine ⟨.slice (some (if m = ll then ⟨L.r, L.d + off, none⟩ else ⟨L.r, L.d + off + ll * siz e, none⟩)) (hh - ll) (m - ll), ?_, run_slice ho ?_⟩
    · simp only [VR]
      refine ⟨L, _, m - ll, hL, rfl, by omega, Nat.le_refl _, fun _ => rfl, by split <;> rfl, fun _ => ?_, fun z hz => by simp at hz⟩
      simp only [if_true]
      split <;> simp [Nat.add_assoc]
    · rw [vx]
      have hb := bounds2 (rc := m) b2 b1 (Nat.le_refl _) he false w
      simp only [Option.map_none, Instr.sliceAt, Instr.sureAddr, Sem.run_bind, run_underlying hu, Result.andThen_ok, hb, Sem.run_pure, run_sizK (kn_und hk), Addr.add_mid]
  · -- behind a pointer
    rename_i ta b off hu hx
    have hu := und_eq hu (by simp)
    split at h
    · rename_i m e hu2
      have hu2 := und_eq hu2 (by simp)
      obtain ⟨hk, h⟩ := cnd_inv h
      obtain ⟨hh, h, b2⟩ := bnd_inv h
      obtain ⟨ll, h, b1⟩ := bnd_inv h
      obtain ⟨rfl, rfl⟩ := mkSl_inv h
      have le2 := bnd_le b2 (Nat.le_refl _)
      have le1 := bnd_le b1 (Nat.zero_le _)
      refine pure_sim fun σ a w he => ?_
      have vx := ev_ok he x; rw [hx] at vx; simp only [VR] at vx
      obtain ⟨L, hL, vx⟩ := vx
      refine ⟨.slice (some (if m = ll then ⟨L.r, L.d + off, none⟩ else ⟨L.r, L.d + off + ll * siz e, none⟩)) (hh - ll) (m - ll), ?_, run_slice ho ?_⟩
      · simp only [VR]
        refine ⟨L, _, m - ll, hL, rfl, by omega, Nat.le_refl _, fun _ => rfl, by split <;> rfl, fun _ => ?_, fun z hz => by simp at hz⟩
        simp only [if_true]
        split <;> simp [Nat.add_assoc]
      · rw [vx]
        have hb := bounds2 (rc := m) b2 b1 (Nat.le_refl _) he false w
        simp only [Option.map_none, Instr.sliceAt, Instr.slice, asAddr, Sem.run_bind, run_underlying hu, run_underlying hu2, Result.andThen_ok, hb, Sem.run_pure, run_sizK (kn_und hk), Addr.add_mid]
    · exact (bad_ne h).elim
  · -- a nil slice
    rename_i e hu hx
    have hu := und_eq hu (by simp)
    obtain ⟨hk, h⟩ := cnd_inv h
    obtain ⟨hh, h, b2⟩ := bnd_inv h
    obtain ⟨ll, h, b1⟩ := bnd_inv h
    obtain ⟨rfl, rfl⟩ := ok_inj h
    have le2 := bnd_le b2 (Nat.le_refl _)
    have le1 := bnd_le b1 (Nat.zero_le _)
    refine pure_sim fun σ a w he => ?_
    have vx := ev_ok he x; rw [hx] at vx; simp only [VR] at vx
    refine ⟨.slice none 0 0, by simp only [VR], run_slice ho ?_⟩
    rw [vx]
    have hb := bounds2 (rc := 0) b2 b1 (Nat.le_refl _) he true w
    have e1 : hh = 0 := by omega
    have e2 : ll = 0 := by omega
    subst e1 e2
    simp [Instr.sliceAt, Instr.slice, run_underlying hu, hb, run_sizK (kn_und hk)]
  · -- a slice
    rename_i e b off m q ex hu hx
    have hu := und_eq hu (by simp)
    obtain ⟨hk, h⟩ := cnd_inv h
    obtain ⟨hex, h⟩ := cnd_inv h
    obtain ⟨hh, h, b2⟩ := bnd_inv h
    obtain ⟨ll, h, b1⟩ := bnd_inv h
    obtain ⟨rfl, rfl⟩ := mkSl_inv h
    rw [orB_eq, Bool.or_eq_true, Nat.beq_eq, Nat.beq_eq] at hex
    refine pure_sim fun σ a w he => ?_
    have vx := ev_ok he x; rw [hx] at vx; simp only [VR] at vx
    obtain ⟨L, A, rc, hL, vx, h2, h3, h4, h5, h6, h7⟩ := vx
    have le2 := bnd_le b2 h2
    have le1 := bnd_le b1 (Nat.zero_le _)
    refine ⟨.slice (some (if rc = ll then A else A.add (ll * siz e))) (hh - ll) (rc - ll), ?_, run_slice ho ?_⟩
    · simp only [VR]
      refine ⟨L, _, rc - ll, hL, rfl, by omega, by omega, fun e0 => by rw [h4 e0], ?_, fun hz => ?_, fun z hz => ?_⟩
      · split
        · exact h5
        · rw [← h5]; unfold Addr.add; split <;> rfl
      · rcases hz with e0 | e0
        · obtain rfl := h4 e0
          rw [if_pos e0]
          have := h6 (.inl e0)
          subst this
          split <;> simp [Addr.add_mid, Nat.add_assoc]
        · have hne : ¬ rc = ll := by omega
          have := h6 (.inr (by omega))
          subst this
          rw [if_neg hne, Addr.add_mid]
          by_cases e1 : ex = 0
          · obtain rfl := h4 e1
            rw [if_pos e1, if_neg hne]
            simp [Nat.add_assoc]
          · rw [if_neg e1]
            simp [Nat.add_assoc]
      · subst hz
        have hz : z = siz e := by rcases hex with e0 | e0 <;> omega
        have := h7 z rfl
        rw [if_neg (by omega), ← hz]
        have e1 : L.d + (off + ll * z) + (rc - ll) * z = L.d + off + rc * z := by
          have : rc = ll + (rc - ll) := by omega
          conv => rhs; rw [this, Nat.add_mul]
          omega
        omega
    · rw [vx]
      have hb := bounds2 (rc := rc) b2 b1 h3 he true w
      simp only [Option.map_none, Instr.sliceAt, Instr.slice, Sem.run_bind, run_underlying hu, Result.andThen_ok, hb, Sem.run_pure, run_sizK (kn_und hk)]
      congr 3
      split <;> simp
  · -- a nil slice, three indexes
    rename_i e p3 hu hx
    have hu := und_eq hu (by simp)
    obtain ⟨hk, h⟩ := cnd_inv h
    obtain ⟨m, h, b3⟩ := bnd_inv h
    split at h
    · obtain ⟨hh, h, b2⟩ := bnd_inv h
      obtain ⟨ll, h, b1⟩ := bnd_inv h
      obtain ⟨rfl, rfl⟩ := ok_inj h
      rcases b3 with ⟨e, _⟩ | ⟨p, k3, e, h3, hm⟩
      · cases e
      obtain rfl := Option.some.inj e
      obtain rfl : m = 0 := by omega
      have le2 := bnd_le b2 (Nat.le_refl _)
      have le1 := bnd_le b1 (Nat.zero_le _)
      refine pure_sim fun σ a w he => ?_
      have vx := ev_ok he x; rw [hx] at vx; simp only [VR] at vx
      refine ⟨.slice none 0 0, by simp only [VR], run_slice ho ?_⟩
      rw [vx]
      have hb := bounds3 (rc := 0) h3 (Nat.le_refl _) b2 b1 (by simp) (Nat.le_refl _) he true w
      have e1 : hh = 0 := by omega
      have e2 : ll = 0 := by omega
      subst e1 e2
      simp only [Option.map_some] at hb
      simp [Instr.sliceAt, Instr.slice, run_underlying hu, hb, run_sizK (kn_und hk)]
    · exact (bad_ne h).elim
  · -- a slice, three indexes
    rename_i e b off len q ex p3 hu hx
    have hu := und_eq hu (by simp)
    obtain ⟨hk, h⟩ := cnd_inv h
    obtain ⟨m, h, b3⟩ := bnd_inv h
    split at h
    · obtain ⟨hh, h, b2⟩ := bnd_inv h
      obtain ⟨ll, h, b1⟩ := bnd_inv h
      obtain ⟨hex, h⟩ := cnd_inv h
      obtain ⟨rfl, rfl⟩ := mkSl_inv h
      rw [orB_eq, Bool.or_eq_true, Nat.beq_eq] at hex
      rcases b3 with ⟨ee, _⟩ | ⟨p, k3, ee, h3, hm⟩
      · cases ee
      obtain rfl := Option.some.inj ee
      refine pure_sim fun σ a w he => ?_
      have vx := ev_ok he x; rw [hx] at vx; simp only [VR] at vx
      obtain ⟨L, A, rc, hL, vx, g2, g3, g4, g5, g6, g7⟩ := vx
      have hA := g6 (hex.imp id fun e => by have := Nat.le_of_ble_eq_true e; omega)
      subst hA
      have le2 : hh ≤ m := by
        rcases b2 with ⟨e, _⟩ | ⟨_, _, _, _, h⟩
        · cases e
        · exact h
      have le1 := bnd_le b1 (Nat.zero_le _)
      refine ⟨.slice (some (if m = ll then ⟨L.r, L.d + off, none⟩ else ⟨L.r, L.d + off + ll * siz e, none⟩)) (hh - ll) (m - ll), ?_, run_slice ho ?_⟩
      · simp only [VR]
        refine ⟨L, _, m - ll, hL, rfl, by omega, Nat.le_refl _, fun _ => rfl, by split <;> rfl, fun _ => ?_, fun z hz => by simp at hz⟩
        simp only [if_true]
        split <;> simp [Nat.add_assoc]
      · rw [vx]
        have hb := bounds3 (rc := rc) h3 hm b2 b1 (by simp) g3 he true w
        simp only [Option.map_some] at hb
        simp only [Option.map_some, Instr.sliceAt, Instr.slice, Sem.run_bind, run_underlying hu, Result.andThen_ok, hb, Sem.run_pure, run_sizK (kn_und hk)]
        congr 3
        split <;> simp [Addr.add_mid]
    · exact (bad_ne h).elim
  · exact (bad_ne h).elim
end
end Go.Ev
namespace Go.Ev
open Go
set_option maxRecDepth 100000
theorem tb_or (m b c : Nat) : (Nat.lor m (Nat.shiftLeft 1 b)).testBit c = (m.testBit c || decide (b = c)) := by
  show (m ||| (1 <<< b)).testBit c = _
  rw [Nat.testBit_or, Nat.shiftLeft_eq, Nat.one_mul, Nat.testBit_two_pow]
theorem rd_eq (b : Nat) (g : G) : rd b g = if g.on then ⟨g.h, g.nx, true, Nat.lor g.r (Nat.shiftLeft 1 b), g.w⟩ else g := by
  obtain ⟨h, nx, on, r, w⟩ := g
  cases on
  · rfl
  · show fcG (Nat.lor r (Nat.shiftLeft 1 b)) (fun r => ⟨h, nx, true, r, w⟩) = _; rw [fcG_eq]; rfl
theorem wrO_eq (b : Nat) (o : O) (g : G) : wrO b o g = if g.on then ⟨setH g.h b o, g.nx, true, g.r, Nat.lor g.w (Nat.shiftLeft 1 b)⟩ else ⟨setH g.h b o, g.nx, g.on, g.r, g.w⟩ := by
  obtain ⟨h, nx, on, r, w⟩ := g
  cases on
  · rfl
  · show fcG (Nat.lor w (Nat.shiftLeft 1 b)) (fun w => ⟨setH h b o, nx, true, r, w⟩) = _; rw [fcG_eq]; rfl
theorem rd_h (b : Nat) (g : G) : (rd b g).h = g.h := by rw [rd_eq]; split <;> rfl
theorem rd_nx (b : Nat) (g : G) : (rd b g).nx = g.nx := by rw [rd_eq]; split <;> rfl
theorem wrO_h (b : Nat) (o : O) (g : G) : (wrO b o g).h = setH g.h b o := by rw [wrO_eq]; split <;> rfl
theorem wrO_nx (b : Nat) (o : O) (g : G) : (wrO b o g).nx = g.nx := by rw [wrO_eq]; split <;> rfl
theorem grow_rd (b : Nat) (g : G) : Grow g (rd b g) := by
  rw [rd_eq]
  split
  · rename_i ho
    exact ⟨Nat.le_refl _, ho.symm, fun c hc => by show Nat.testBit _ c = true; rw [tb_or, hc]; rfl, fun _ h => h, fun _ _ _ => rfl, fun _ _ h => .inl h⟩
  · exact .refl g
theorem rd_in (b : Nat) (g : G) : Rd (rd b g) b := by
  rw [rd_eq]
  split
  · exact .inr (.inl (by show Nat.testBit _ b = true; rw [tb_or]; simp))
  · rename_i ho; exact .inl (by simpa using ho)
theorem wr_in (b : Nat) (o : O) (g : G) : Wt (wrO b o g) b := by
  rw [wrO_eq]
  split
  · exact .inr (by show Nat.testBit _ b = true; rw [tb_or]; simp)
  · rename_i ho; exact .inl (by simpa using ho)
theorem grow_wr (b : Nat) (o : O) (g : G) (hl : getH g.h b ≠ .no) : Grow g (wrO b o g) := by
  have hw := wr_in b o g
  have hh := wrO_h b o g
  have hn := wrO_nx b o g
  refine ⟨by rw [hn]; exact Nat.le_refl _, ?_, ?_, ?_, fun c h1 _ => ?_, fun _ c hc => ?_⟩
  · rw [wrO_eq]; split <;> simp_all
  · intro c hc; rw [wrO_eq]; split <;> exact hc
  · intro c hc; rw [wrO_eq]; split
    · show Nat.testBit _ c = true; rw [tb_or, hc]; rfl
    · exact hc
  · rw [hh, getH_set, if_neg]
    intro e; subst e; exact h1 hw
  · by_cases e : b = c
    · subst e; exact .inr (.inl hl)
    · by_cases ho : g.on = true
      · rw [wrO_eq, if_pos ho] at hc
        have hc : Nat.testBit (Nat.lor g.w (Nat.shiftLeft 1 b)) c = true := hc
        rw [tb_or] at hc
        simp [e] at hc
        exact .inl hc
      · rw [wrO_eq, if_neg ho] at hc
        exact .inl hc
noncomputable def newG (o : O) (g : G) : G := ⟨setH g.h g.nx o, Nat.succ g.nx, g.on, g.r, g.w⟩
theorem newO_eq (o : O) (g : G) (k : Nat → G → RO) : newO o g k = k g.nx (newG o g) := by
  obtain ⟨h, nx, on, r, w⟩ := g
  show fcN nx (fun b => k b ⟨setH h b o, Nat.succ b, on, r, w⟩) = _
  rw [fcN_eq]; rfl
theorem newC_eq (cs : List V) (g : G) (k : Nat → G → RO) : newC cs g k = k g.nx (newG (.c cs.length (ptOf cs 0 .e)) g) := by
  unfold newC
  rw [fcN_eq, newO_eq, lenL_eq]
theorem grow_new (o : O) (g : G) : Grow g (newG o g) := by
  refine ⟨Nat.le_succ _, rfl, fun _ h => h, fun _ h => h, fun c _ h2 => ?_, fun _ _ h => .inl h⟩
  show getH (setH g.h g.nx o) c = _
  rw [getH_set, if_neg]
  intro e; subst e
  exact h2 ⟨Nat.le_refl _, Nat.lt_succ_self _⟩
def upd (σ : Sg) (b : Nat) (L : Loc) : Sg := fun c => if c = b then some L else σ c
theorem upd_le {σ : Sg} {b : Nat} {L : Loc} (h : σ b = none) : Le σ (upd σ b L) := by
  intro c M e
  unfold upd
  split
  · rename_i hc; subst hc; rw [h] at e; cases e
  · exact e
theorem upd_at (σ : Sg) (b : Nat) (L : Loc) : upd σ b L b = some L := by unfold upd; simp
theorem upd_ne {σ : Sg} {b c : Nat} {L : Loc} (h : c ≠ b) : upd σ b L c = σ c := by unfold upd; simp [h]
section
variable {ρ : Rho}
/-- reading turns nothing -/
theorem step_rd {σ : Sg} {F : Nat → Prop} {g : G} {w : World} {b : Nat} (h : Pre ρ σ F g (rd b g) w) : Step ρ σ F g (rd b g) w σ w where
  ext := ⟨fun _ _ => rfl, fun c L h1 h2 => by rw [rd_nx] at h2; omega⟩
  rep := by rw [rd_h]; exact h.rep
  fr := .refl _ _ _
  bnd := h.bnd
/-- a world that differs in nothing that lies in memory -/
def SameMem (w w' : World) : Prop := w'.heap = w.heap
theorem step_mem {σ : Sg} {F : Nat → Prop} {g g' : G} {w w' u : World} {σ' : Sg} (s : Step ρ σ F g g' w σ' w') (h : u.heap = w'.heap) (he : Env3 w' u := by exact ⟨rfl, rfl, rfl⟩) : Step ρ σ F g g' w σ' u where
  ext := ⟨s.ext.same, fun b L h1 h2 h3 => by rw [h]; exact s.ext.new b L h1 h2 h3⟩
  rep := ⟨fun b hb hl => let ⟨L, h1, h2⟩ := s.rep.rel b hb hl; ⟨L, h1, OR.mono (Le.refl _) (by rw [h]) _ h2⟩, s.rep.inj⟩
  fr := ⟨by rw [h]; exact s.fr.size, fun r hr hW => by rw [h]; exact s.fr.same r hr hW, s.fr.env.trans he⟩
  bnd := fun b L e => by rw [h]; exact s.bnd b L e
theorem step_new {σ : Sg} {F : Nat → Prop} {g : G} {w w' : World} {o : O} {N : Nat} (h : Pre ρ σ F g (newG o g) w)
    (hs : w'.heap.size = w.heap.size + 1) (hk : ∀ r, r < w.heap.size → w'.heap[r]? = w.heap[r]?)
    (ho : OR ρ (upd σ g.nx ⟨w.heap.size, 0, N⟩) w' ⟨w.heap.size, 0, N⟩ o) (he : Env3 w w' := by exact ⟨rfl, rfl, rfl⟩) : Step ρ σ F g (newG o g) w (upd σ g.nx ⟨w.heap.size, 0, N⟩) w' := by
  have hf : σ g.nx = none := h.free g.nx (Nat.le_refl _) (Nat.lt_succ_self _)
  have hle := upd_le (L := ⟨w.heap.size, 0, N⟩) hf
  have live : ∀ b, F b → b ≠ g.nx → getH (newG o g).h b ≠ .no → ∃ L, σ b = some L ∧ OR ρ σ w L (getH g.h b) ∧ getH (newG o g).h b = getH g.h b ∧ getH g.h b ≠ .no := by
    intro b hb hne hl
    have e : getH (newG o g).h b = getH g.h b := by
      show getH (setH g.h g.nx o) b = _
      rw [getH_set, if_neg (fun e => hne e.symm)]
    rw [e] at hl
    obtain ⟨L, h1, h2⟩ := h.rep.rel b hb hl
    exact ⟨L, h1, h2, e, hl⟩
  refine ⟨⟨fun b hb => ?_, fun b L h1 h2 h3 => ?_⟩, ⟨fun b hb hl => ?_, fun b b' L L' hb hb' hl hl' e e' er => ?_⟩, ⟨by omega, fun r hr _ => hk r hr, he⟩, fun b L e => ?_⟩
  · exact upd_ne (fun e => hb (by subst e; exact ⟨Nat.le_refl _, Nat.lt_succ_self _⟩))
  · have h2 : b < g.nx + 1 := h2
    obtain rfl : b = g.nx := by omega
    rw [upd_at] at h3
    obtain rfl := Option.some.inj h3
    exact ⟨by show w.heap.size < _; omega, .inl (Nat.le_refl _)⟩
  · by_cases hne : b = g.nx
    · subst hne
      refine ⟨_, upd_at _ _ _, ?_⟩
      have e : getH (newG o g).h g.nx = o := by show getH (setH g.h g.nx o) g.nx = _; rw [getH_set, if_pos rfl]
      rw [e]; exact ho
    · obtain ⟨L, h1, h2, h3, h4⟩ := live b hb hne hl
      refine ⟨L, by rw [upd_ne hne]; exact h1, ?_⟩
      rw [h3]
      exact OR.mono hle (hk _ (h2.lt h4)) _ h2
  · by_cases hne : b = g.nx <;> by_cases hne' : b' = g.nx
    · rw [hne, hne']
    · subst hne
      rw [upd_at] at e; obtain rfl := Option.some.inj e
      obtain ⟨M, h1, h2, _, h4⟩ := live b' hb' hne' hl'
      rw [upd_ne hne', h1] at e'; obtain rfl := Option.some.inj e'
      have := h2.lt h4
      have er : w.heap.size = M.r := er
      omega
    · subst hne'
      rw [upd_at] at e'; obtain rfl := Option.some.inj e'
      obtain ⟨M, h1, h2, _, h4⟩ := live b hb hne hl
      rw [upd_ne hne, h1] at e; obtain rfl := Option.some.inj e
      have := h2.lt h4
      have er : M.r = w.heap.size := er
      omega
    · rw [upd_ne hne] at e; rw [upd_ne hne'] at e'
      obtain ⟨_, _, _, _, h4⟩ := live b hb hne hl
      obtain ⟨_, _, _, _, h4'⟩ := live b' hb' hne' hl'
      exact h.rep.inj b b' L L' hb hb' h4 h4' e e' er
  · by_cases hne : b = g.nx
    · subst hne
      rw [upd_at] at e; obtain rfl := Option.some.inj e
      show w.heap.size < _; omega
    · rw [upd_ne hne] at e
      have := h.bnd b L e
      omega
/-- a block that lives is written -/
theorem step_wr {σ : Sg} {F : Nat → Prop} {g : G} {w w' : World} {b : Nat} {o : O} {L : Loc} (h : Pre ρ σ F g (wrO b o g) w) (hb : σ b = some L) (hl : getH g.h b ≠ .no)
    (hs : w'.heap.size = w.heap.size) (hk : ∀ r, r ≠ L.r → w'.heap[r]? = w.heap[r]?) (ho : OR ρ σ w' L o) (henv : Env3 w w' := by exact ⟨rfl, rfl, rfl⟩) : Step ρ σ F g (wrO b o g) w σ w' := by
  have hF : F b := h.cov b (.inl ((wr_in b o g).imp id .inr))
  refine ⟨⟨fun _ _ => rfl, fun c M h1 h2 => by rw [wrO_nx] at h2; omega⟩, ⟨fun c hc hlc => ?_, fun c c' M M' hc hc' hlc hlc' e e' er => ?_⟩, ⟨by omega, fun r hr hW => ?_, henv⟩, fun c M e => ?_⟩
  · rw [wrO_h, getH_set] at hlc ⊢
    by_cases hcb : b = c
    · subst hcb
      rw [if_pos rfl]
      exact ⟨L, hb, ho⟩
    · rw [if_neg hcb] at hlc ⊢
      obtain ⟨M, h1, h2⟩ := h.rep.rel c hc hlc
      refine ⟨M, h1, OR.mono (Le.refl _) (hk _ fun e => hcb ?_) _ h2⟩
      exact h.rep.inj b c L M hF hc hl hlc hb h1 e.symm
  · rw [wrO_h, getH_set] at hlc hlc'
    refine h.rep.inj c c' M M' hc hc' ?_ ?_ e e' er
    · by_cases hcb : b = c
      · subst hcb; exact hl
      · rw [if_neg hcb] at hlc; exact hlc
    · by_cases hcb : b = c'
      · subst hcb; exact hl
      · rw [if_neg hcb] at hlc'; exact hlc'
  · exact hk r fun e => hW b L (wr_in b o g) hb e.symm
  · rw [hs]; exact h.bnd c M e
/-- a block dies -/
theorem step_kill {σ : Sg} {F : Nat → Prop} {g : G} {w : World} {b : Nat} (h : Pre ρ σ F g (wrO b .no g) w) : Step ρ σ F g (wrO b .no g) w σ w := by
  refine ⟨⟨fun _ _ => rfl, fun c M h1 h2 => by rw [wrO_nx] at h2; omega⟩, ⟨fun c hc hlc => ?_, fun c c' M M' hc hc' hlc hlc' e e' er => ?_⟩, .refl _ _ _, h.bnd⟩
  · rw [wrO_h, getH_set] at hlc ⊢
    split at hlc
    · exact absurd rfl hlc
    · rename_i hne; rw [if_neg hne]; exact h.rep.rel c hc hlc
  · rw [wrO_h, getH_set] at hlc hlc'
    split at hlc
    · exact absurd rfl hlc
    · split at hlc'
      · exact absurd rfl hlc'
      · exact h.rep.inj c c' M M' hc hc' hlc hlc' e e' er
end
end Go.Ev
namespace Go.Ev
open Go
set_option maxRecDepth 100000
/-- a row's cells laid over others -/
def over (cs : Array Value) (o : Nat) : List Value → Array Value
  | [] => cs
  | v :: r => over (cs.setIfInBounds o v) (o + 1) r
theorem over_size : ∀ (vs : List Value) (cs : Array Value) (o : Nat), (over cs o vs).size = cs.size := by
  intro vs
  induction vs with
  | nil => intro cs o; rfl
  | cons v r ih => intro cs o; show (over (cs.setIfInBounds o v) (o + 1) r).size = _; rw [ih]; simp
theorem over_get : ∀ (vs : List Value) (cs : Array Value) (o j : Nat), o + vs.length ≤ cs.size → (over cs o vs)[j]? = if o ≤ j ∧ j < o + vs.length then vs[j - o]? else cs[j]? := by
  intro vs
  induction vs with
  | nil => intro cs o j _; rw [if_neg (by simp)]; rfl
  | cons v r ih =>
    intro cs o j h
    simp only [List.length_cons] at h
    show (over (cs.setIfInBounds o v) (o + 1) r)[j]? = _
    rw [ih _ _ _ (by simp; omega)]
    by_cases h1 : o + 1 ≤ j ∧ j < o + 1 + r.length
    · rw [if_pos h1, if_pos (by simp; omega)]
      obtain ⟨d, rfl⟩ : ∃ d, j = o + 1 + d := ⟨j - (o + 1), by omega⟩
      rw [show o + 1 + d - (o + 1) = d by omega, show o + 1 + d - o = d + 1 by omega, List.getElem?_cons_succ]
    · rw [if_neg h1, Array.getElem?_setIfInBounds]
      by_cases e : o = j
      · subst e
        rw [if_pos rfl, if_pos (by omega), if_pos (by simp)]
        simp
      · rw [if_neg e, if_neg (by simp; omega)]
theorem setCells_block : ∀ (vs : List Value) (w : World) (r o : Nat) (cs : Array Value) (e : TypeId) (fz : Nat × Nat), w.heap[r]? = some (.cells cs e fz) →
    (w.setCells r o vs).heap[r]? = some (.cells (over cs o vs) e fz) ∧ (∀ q, q ≠ r → (w.setCells r o vs).heap[q]? = w.heap[q]?) ∧ (w.setCells r o vs).heap.size = w.heap.size := by
  intro vs
  induction vs with
  | nil => intro w r o cs e fz h; exact ⟨h, fun _ _ => rfl, rfl⟩
  | cons v vs ih =>
    intro w r o cs e fz h
    have h1 : (w.setCell ⟨r, o, none⟩ v).heap[r]? = some (.cells (cs.setIfInBounds o v) e fz) := by
      simp [World.setCell, Array.getElem?_modify, h]
    obtain ⟨a, b, c⟩ := ih (w.setCell ⟨r, o, none⟩ v) r (o + 1) _ e fz h1
    refine ⟨a, fun q hq => ?_, ?_⟩
    · rw [World.setCells, b q hq]
      simp [World.setCell, Array.getElem?_modify, Ne.symm hq]
    · rw [World.setCells, c]
      simp [World.setCell]
theorem cell_of {w : World} {r : Nat} {cs : Array Value} {e : TypeId} {fz : Nat × Nat} (h : w.heap[r]? = some (.cells cs e fz)) (i : Nat) : w.cell? ⟨r, i, none⟩ = cs[i]? := by
  unfold World.cell?; rw [h]; rfl
theorem frozen_of {w : World} {r : Nat} {cs : Array Value} {e : TypeId} {fz : Nat × Nat} (h : w.heap[r]? = some (.cells cs e fz)) (i : Nat) (hf : fz.1 = fz.2 ∨ cs.size ≤ fz.1) (hi : i < cs.size) :
    w.frozen? ⟨r, i, none⟩ = false := by
  obtain ⟨lo, hi'⟩ := fz
  unfold World.frozen?; rw [h]
  show (decide (lo ≤ i) && decide (i < hi')) = false
  rw [Bool.and_eq_false_iff, decide_eq_false_iff_not, decide_eq_false_iff_not]
  rcases hf with hf | hf
  · have : lo = hi' := hf; omega
  · have : cs.size ≤ lo := hf; omega
theorem there_of {w : World} {r : Nat} {cs : Array Value} {e : TypeId} {fz : Nat × Nat} (h : w.heap[r]? = some (.cells cs e fz)) (hf : fz.1 = fz.2 ∨ cs.size ≤ fz.1) {o n : Nat} (hn : o + n ≤ cs.size) :
    w.there r o n := fun j hj => ⟨by rw [cell_of h]; simp; omega, frozen_of h _ hf (by omega)⟩
theorem okC_scal : ∀ {l : List V}, okC l = true → ∀ i, i < l.length → scal ((l[i]?).getD .u) = true := by
  intro l
  induction l with
  | nil => intro _ i h; simp at h
  | cons a l ih =>
    intro h i hi
    have h2 : scal a = true ∧ okC l = true := by
      cases hs : scal a with
      | false => have : okC (a :: l) = false := by show @Bool.rec (fun _ => Bool) false (okC l) (scal a) = false; rw [hs]
                 rw [this] at h; cases h
      | true => refine ⟨rfl, ?_⟩
                have : okC (a :: l) = okC l := by show @Bool.rec (fun _ => Bool) false (okC l) (scal a) = _; rw [hs]
                rw [this] at h; exact h
    cases i with
    | zero => simpa using h2.1
    | succ i => simpa using ih h2.2 i (by simpa using hi)
section
variable {ρ : Rho} {o : Oper} {n : Env} {g g' : G} {v : V} {call : Cl}
theorem scal_one (hρ : Opq ρ) {σ : Sg} {x : V} {rv : Value} (hs : scal x = true) (h : VR ρ σ x rv) : rv.oneCell' = true := by
  cases x <;> simp only [VR] at h <;> try (exact absurd (show false = true from hs) (by simp))
  case x => subst h; exact hρ.one _
  all_goals first
    | (subst h; rfl)
    | (obtain ⟨_, rfl, _⟩ := h; rfl)
    | (obtain ⟨_, _, rfl⟩ := h; rfl)
    | (obtain ⟨_, _, rfl, _⟩ := h; rfl)
    | (obtain ⟨_, _, _, _, rfl, _⟩ := h; rfl)
theorem cells_one {rv : Value} (h : rv.oneCell' = true) : rv.cells = #[rv] := by
  cases rv <;> first | rfl | cases h
theorem cells_ok (hρ : Opq ρ) {σ : Sg} {x : V} {rv : Value} (hs : okT x = true) (h : VR ρ σ x rv) : VRs ρ σ (cells x) rv.cells.toList := by
  by_cases hx : scal x = true
  · have e : cells x = [x] := by cases x <;> first | rfl | exact absurd (show false = true from hx) (by simp)
    rw [e, cells_one (scal_one hρ hx h)]
    simp only [VRs]
    exact ⟨rv, [], rfl, h, rfl⟩
  · cases x <;> first
      | (exact absurd rfl hx)
      | (exact absurd (show false = true from hs) (by simp))
      | skip
    simp only [VR] at h
    obtain ⟨xs, rfl, hv⟩ := h
    exact hv
theorem okC_okT {x : V} (h : okC (cells x) = true) : okT x = true := by
  cases x <;> first | rfl | (exact absurd (show false = true from h) (by simp))
theorem VRs.one (hρ : Opq ρ) {σ : Sg} {l : List V} {rl : List Value} (h : VRs ρ σ l rl) (hs : okC l = true) : ∀ u ∈ rl, u.oneCell' = true := by
  intro u hu
  obtain ⟨i, hi, rfl⟩ := List.getElem_of_mem hu
  have hl := h.len
  obtain ⟨x, hx, vx⟩ := h.get i (by omega)
  rw [List.getElem?_eq_getElem hi] at hx
  obtain rfl := Option.some.inj hx
  exact scal_one hρ (okC_scal hs i (by omega)) vx
/-- a new row of cells, as E has it -/
theorem OR_new {σ : Sg} {w' : World} {L : Loc} {cs : List V} {rc : Array Value} {e : TypeId} {fz : Nat × Nat} (h : w'.heap[L.r]? = some (.cells rc e fz)) (hd : L.d = 0) (hn : rc.size = L.n)
    (hf : fz.1 = fz.2 ∨ L.n ≤ fz.1) (hv : ∃ t, rc.toList = (t : List Value) ∧ cs.length ≤ t.length ∧ VRs ρ σ cs (t.take cs.length)) : OR ρ σ w' L (.c cs.length (ptOf cs 0 .e)) := by
  obtain ⟨t, ht, hl, hv⟩ := hv
  have hsz : rc.size = t.length := by rw [← ht]; simp
  refine ⟨rc, e, fz, h, hn, by omega, hf, fun i hi => ?_⟩
  obtain ⟨x, hx, vx⟩ := hv.get i hi
  refine ⟨x, ?_, ?_⟩
  · rw [hd, Nat.zero_add, ← Array.getElem?_toList, ht]
    rw [List.getElem?_take_of_lt hi] at hx
    exact hx
  · rw [ptOf_get, if_pos (by simpa using hi)]
    simpa using vx
theorem newC_inv {cs : List V} {k : Nat → G → RO} (h : newC cs g k = .ok v g') : k g.nx (newG (.c cs.length (ptOf cs 0 .e)) g) = .ok v g' := by
  rw [newC_eq] at h; exact h
/-- a new row by the model -/
theorem step_row {σ : Sg} {F : Nat → Prop} {w : World} {cs : List V} {rc : Array Value} {e : TypeId} (h : Pre ρ σ F g (newG (.c cs.length (ptOf cs 0 .e)) g) w) (hv : VRs ρ σ cs rc.toList) :
    Step ρ σ F g (newG (.c cs.length (ptOf cs 0 .e)) g) w (upd σ g.nx ⟨w.heap.size, 0, rc.size⟩) { w with heap := w.heap.push (.cells rc e (0, 0)) } := by
  have hf : σ g.nx = none := h.free g.nx (Nat.le_refl _) (Nat.lt_succ_self _)
  refine step_new h (by simp) (fun r hr => ?_) ?_
  · show (w.heap.push _)[r]? = _
    rw [Array.getElem?_push_lt hr]
    simp [hr]
  · refine OR_new (e := e) (fz := (0, 0)) (rc := rc) (by simp) rfl rfl (.inl rfl) ⟨rc.toList, rfl, by rw [hv.len]; exact Nat.le_refl _, ?_⟩
    rw [← hv.len, List.take_length]
    exact VRs.mono (upd_le hf) _ _ hv
end
end Go.Ev
