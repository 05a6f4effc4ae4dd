/-
  Memory, maps, appends, conversions; any operation.
-/
import Derived.Test.YtdfgmieinbmfkaaGreatEvB
import Derived.Lib.ConvBytes
import Derived.Laws.IdiomStrings
namespace Go.Ev
open Go
set_option maxRecDepth 100000
section
variable {ρ : Rho} {o : Oper} {n : Env} {g g' : G} {v : V} {call : Cl}
/-- an operation that turns memory: the real run at hand -/
theorem heap_sim {o : Oper} {n : Env} {g g' : G} {v : V} (hg : Grow g g')
    (h : ∀ σ F a w, Pre ρ σ F g g' w → EnvR ρ σ n a → ∃ σ' rv w', Step ρ σ F g g' w σ' w' ∧ VR ρ σ' v rv ∧
      ((execOp a.eval o).run PP w = .ok (.value rv) w' ∨ ((execOp a.eval o).run PP w = .ok .skip w' ∧ rv = undef))) : OpSim ρ o n g v g' :=
  ⟨hg, fun σ F a w next Q hp he hn => by
    obtain ⟨σ', rv, w', h1, h2, h3 | ⟨h3, rfl⟩⟩ := h σ F a w hp he
    · exact wp_value h3 (hn σ' rv w' h1 h2)
    · exact wp_skip_ h3 (hn σ' undef w' h1 h2)⟩
theorem vu {σ : Sg} : VR ρ σ unitV undef := by show VR ρ σ (.t []) (.tuple #[]); simp [VR, VRs]
theorem run_u {s : Sem Unit} {w w' : World} (h : s.run PP w = .ok () w') : (do s; pure .skip : Sem Next).run PP w = .ok .skip w' := by
  simp [h]
theorem kz_inv {t : Nat} (h : kz t = true) : ∃ i z, PP.info? t = some i ∧ i.zero = some z ∧ zer t = cv z ∧ okT (cv z) = true := by
  unfold kz at h
  split at h
  · rename_i z hz
    cases hi : PP.info? t with
    | none => rw [hi] at hz; cases hz
    | some i =>
      rw [hi] at hz
      refine ⟨i, z, rfl, hz, ?_, h⟩
      unfold zer; rw [hi]
      show cv ((i.zero).getD undef) = cv z
      have : i.zero = some z := hz
      rw [this]; rfl
  · cases h
theorem run_zero {t : Nat} {i : TypeInfo} {z : Value} (hi : PP.info? t = some i) (hz : i.zero = some z) (w : World) : (zeroValue t).run PP w = .ok z w := by
  simp [zeroValue, typeInfo, hi, hz]
theorem zcs_ok (hρ : Opq ρ) {t : Nat} {z : Value} (h : zer t = cv z) (hk : okT (cv z) = true) (σ : Sg) : VRs ρ σ (zcs t) z.cells.toList := by
  unfold zcs; rw [h]
  exact cells_ok hρ hk (cv_ok σ z)
theorem okP_inv {b : Nat} {g1 : G} (h : okP b g1 = .ok v g') : v = .p b 0 ∧ g' = g1 := by
  obtain ⟨rfl, rfl⟩ := ok_inj h; exact ⟨rfl, rfl⟩
theorem xAlloc_ok (hρ : Opq ρ) {ty : Nat} (ho : o.op = .alloc ty) (h : xAlloc ty call n g = .ok v g') : OpSim ρ o n g v g' := by
  obtain ⟨hk, h⟩ := cnd_inv h
  obtain ⟨i, z, hi, hz, he, hT⟩ := kz_inv hk
  obtain ⟨rfl, rfl⟩ := okP_inv (newC_inv h)
  refine heap_sim (grow_new _ _) fun σ F a w hp hev => ⟨_, .pointer (some ⟨w.heap.size, 0, none⟩), _, step_row (e := ty) hp (zcs_ok hρ he hT σ), ?_, .inl ?_⟩
  · simp only [VR]; exact ⟨_, upd_at _ _ _, rfl⟩
  · simp only [execOp, ho]
    refine run_v ?_
    simp only [Instr.alloc, Sem.run_bind, run_zero hi hz, Result.andThen_ok, newVar, newRow, run_newObj, Sem.run_pure]
theorem xBox_ok (hρ : Opq ρ) {ty : Nat} {x : Operand} (ho : o.op = .box ty x) (h : xBox ty x call n g = .ok v g') : OpSim ρ o n g v g' := by
  obtain ⟨hk, h⟩ := cnd_inv h
  obtain ⟨rfl, rfl⟩ := okP_inv (newC_inv h)
  refine heap_sim (grow_new _ _) fun σ F a w hp hev => ⟨_, .pointer (some ⟨w.heap.size, 0, none⟩), _, step_row (e := ty) hp (cells_ok hρ hk (ev_ok hev x)), ?_, .inl ?_⟩
  · simp only [VR]; exact ⟨_, upd_at _ _ _, rfl⟩
  · simp only [execOp, ho]
    refine run_v ?_
    simp only [Instr.box, newVar, newRow, Sem.run_bind, run_newObj, Result.andThen_ok, Sem.run_pure]
theorem xMap_ok {ty : Nat} (ho : o.op = .makeMap ty none) (h : xMap ty none call n g = .ok v g') : OpSim ρ o n g v g' := by
  unfold xMap at h
  rw [newO_eq] at h
  obtain ⟨rfl, rfl⟩ := ok_inj h
  refine heap_sim (grow_new _ _) fun σ F a w hp hev => ⟨upd σ g.nx ⟨w.heap.size, 0, 0⟩, .map (some w.heap.size), { w with heap := w.heap.push (.map #[] 0) }, step_new hp (by simp) (fun r hr => by show (w.heap.push _)[r]? = _; rw [Array.getElem?_push_lt hr]; simp [hr]) ?_, ?_, .inl ?_⟩
  · exact ⟨#[], 0, by simp, rfl, by simp, by simp⟩
  · simp only [VR]; exact ⟨_, upd_at _ _ _, rfl⟩
  · simp [execOp, ho, Instr.makeMap]
/-! loads -/
theorem live_row {σ : Sg} {F : Nat → Prop} {h : PT O} {w : World} {b sz : Nat} {t : PT V} (hr : Rep ρ σ F h w) (hF : F b) (hb : getH h b = .c sz t) {L : Loc} (hL : σ b = some L) :
    ∃ cs e fz, w.heap[L.r]? = some (.cells cs e fz) ∧ cs.size = L.n ∧ L.d + sz ≤ L.n ∧ (fz.1 = fz.2 ∨ L.n ≤ fz.1) ∧ ∀ i, i < sz → ∃ x, cs[L.d + i]? = some x ∧ VR ρ σ (getT t i) x := by
  obtain ⟨M, h1, h2⟩ := hr.rel b hF (by rw [hb]; simp)
  rw [hL] at h1
  obtain rfl := Option.some.inj h1
  rw [hb] at h2
  exact h2
theorem range_of {σ : Sg} {w : World} {L : Loc} {cs : Array Value} {e : TypeId} {fz : Nat × Nat} {sz o m : Nat} {t : PT V} (h1 : w.heap[L.r]? = some (.cells cs e fz))
    (h5 : ∀ i, i < sz → ∃ x, cs[L.d + i]? = some x ∧ VR ρ σ (getT t i) x) (hle : o + m ≤ sz) (hs : cs.size = L.n) (h3 : L.d + sz ≤ L.n) :
    ∃ rl : List Value, rl.length = m ∧ VRs ρ σ (takeC t m o) rl ∧ w.rangeAt L.r (L.d + o) rl := by
  refine ⟨(cs.toList.drop (L.d + o)).take m, by simp; omega, VRs.of_get (by rw [takeC_len]; simp; omega) fun i x hi hx => ?_, fun j x hx => ?_⟩
  · rw [takeC_len] at hi
    rw [takeC_get _ _ _ _ hi]
    rw [List.getElem?_take_of_lt hi, List.getElem?_drop, Array.getElem?_toList] at hx
    obtain ⟨y, hy, vy⟩ := h5 (o + i) (by omega)
    rw [← Nat.add_assoc, hx] at hy
    obtain rfl := Option.some.inj hy
    exact vy
  · have hj : j < m := by
      have := (List.getElem?_eq_some_iff.1 hx).1
      rw [List.length_take] at this; omega
    rw [List.getElem?_take_of_lt hj, List.getElem?_drop, Array.getElem?_toList] at hx
    rw [cell_of h1, hx]
theorem loadC_inv {b o m : Nat} {k : List V → G → RO} (h : loadC b o m g k = .ok v g') : ∃ sz t, getH g.h b = .c sz t ∧ o + m ≤ sz ∧ k (takeC t m o) (rd b g) = .ok v g' := by
  obtain ⟨sz, t, h1, h2⟩ := elO_inv h
  obtain ⟨h3, h4⟩ := cnd_inv h2
  exact ⟨sz, t, h1, Nat.le_of_ble_eq_true h3, h4⟩
theorem loadW_inv {b o : Nat} {k : V → G → RO} (h : loadW b o g k = .ok v g') : ∃ sz t, getH g.h b = .c sz t ∧ o < sz ∧ k (getT t o) (rd b g) = .ok v g' := by
  obtain ⟨sz, t, h1, h2⟩ := elO_inv h
  obtain ⟨h3, h4⟩ := cnd_inv h2
  exact ⟨sz, t, h1, Nat.le_of_ble_eq_true h3, h4⟩
/-- what is loaded at a pointer -/
theorem load_agg {σ : Sg} {F : Nat → Prop} {w : World} {b off sz ty : Nat} {t : PT V} {L : Loc} (hr : Rep ρ σ F g.h w) (hF : F b) (hb : getH g.h b = .c sz t) (hL : σ b = some L)
    (hk : kn ty = true) (ha : agg ty = true) (hle : off + siz ty ≤ sz) : ∃ xs, VRs ρ σ (takeC t (siz ty) off) xs ∧ (loadVar ty ⟨L.r, L.d + off, none⟩).run PP w = .ok (.agg xs.toArray) w := by
  obtain ⟨cs, e, fz, h1, h2, h3, h4, h5⟩ := live_row hr hF hb hL
  obtain ⟨rl, hl, hv, hra⟩ := range_of h1 h5 hle h2 h3
  refine ⟨rl, hv, ?_⟩
  have hu := kn_und hk
  obtain ⟨i, hi⟩ := und_info hu
  refine run_loadVar_mid w L.r (L.d + off) ty rl (und ty) hra hu ?_ ?_
  · unfold agg at ha
    split at ha
    · rename_i hd; rw [hd]
    · rename_i hd; rw [hd]
    · cases ha
  · rw [hi]; show some i.size = _; rw [hl]; unfold siz; rw [hi]; rfl
theorem load_one {σ : Sg} {F : Nat → Prop} {w : World} {b off sz ty : Nat} {t : PT V} {L : Loc} (hr : Rep ρ σ F g.h w) (hF : F b) (hb : getH g.h b = .c sz t) (hL : σ b = some L)
    (hk : kn ty = true) (ha : agg ty = false) (hle : off < sz) : ∃ x, VR ρ σ (getT t off) x ∧ (loadVar ty ⟨L.r, L.d + off, none⟩).run PP w = .ok x w := by
  obtain ⟨cs, e, fz, h1, h2, h3, h4, h5⟩ := live_row hr hF hb hL
  obtain ⟨x, hx, vx⟩ := h5 off hle
  refine ⟨x, vx, ?_⟩
  have hc : w.cell? ⟨L.r, L.d + off, none⟩ = some x := by rw [cell_of h1, hx]
  simp [loadVar, run_agg (kn_und hk), ha, hc]
theorem xLoad_ok {ty : Nat} {x : Operand} (ho : o.op = .load ty x) (h : xLoad ty x call n g = .ok v g') : OpSim ρ o n g v g' := by
  obtain ⟨b, off, hx, h⟩ := elP_inv h
  obtain ⟨hk, h⟩ := cnd_inv h
  cases ha : agg ty with
  | true =>
    rw [ha] at h
    obtain ⟨sz, t, hb, hle, h⟩ := loadC_inv (show loadC b off (siz ty) g okG = .ok v g' from h)
    obtain ⟨rfl, rfl⟩ := ok_inj h
    refine heap_sim (grow_rd _ _) fun σ F a w hp hev => ?_
    have vx := ev_ok hev x; rw [hx] at vx; simp only [VR] at vx
    obtain ⟨L, hL, vx⟩ := vx
    obtain ⟨xs, hv, hr⟩ := load_agg hp.rep (hp.cov b (.inl (rd_in b g))) hb hL hk ha hle
    refine ⟨σ, .agg xs.toArray, w, step_rd hp, ?_, .inl ?_⟩
    · simp only [VR]; exact ⟨_, rfl, by simpa using hv⟩
    · simp only [execOp, ho]; refine run_v ?_; rw [vx]
      simp only [Instr.loadAt, Instr.sureAddr, Sem.run_bind, Sem.run_pure, Result.andThen_ok, hr]
  | false =>
    rw [ha] at h
    obtain ⟨sz, t, hb, hle, h⟩ := loadW_inv (show loadW b off g .ok = .ok v g' from h)
    obtain ⟨rfl, rfl⟩ := ok_inj h
    refine heap_sim (grow_rd _ _) fun σ F a w hp hev => ?_
    have vx := ev_ok hev x; rw [hx] at vx; simp only [VR] at vx
    obtain ⟨L, hL, vx⟩ := vx
    obtain ⟨y, hv, hr⟩ := load_one hp.rep (hp.cov b (.inl (rd_in b g))) hb hL hk ha hle
    refine ⟨σ, y, w, step_rd hp, hv, .inl ?_⟩
    simp only [execOp, ho]; refine run_v ?_; rw [vx]
    simp only [Instr.loadAt, Instr.sureAddr, Sem.run_bind, Sem.run_pure, Result.andThen_ok, hr]
/-! stores -/
theorem storeC_inv {b o : Nat} {cs : List V} {k : G → RO} (h : storeC b o cs g k = .ok v g') :
    ∃ sz t, getH g.h b = .c sz t ∧ o + cs.length ≤ sz ∧ okC cs = true ∧ k (wrO b (.c sz (ptOf cs o t)) g) = .ok v g' := by
  obtain ⟨sz, t, h1, h2⟩ := elO_inv h
  obtain ⟨h3, h4⟩ := cnd_inv h2
  obtain ⟨h5, h6⟩ := cnd_inv h4
  have h3 := Nat.le_of_ble_eq_true h3
  rw [lenL_eq] at h3
  exact ⟨sz, t, h1, h3, h5, h6⟩
theorem setCells_env : ∀ (vs : List Value) (w : World) (r o : Nat), Env3 w (w.setCells r o vs)
  | [], _, _, _ => ⟨rfl, rfl, rfl⟩
  | v :: vs, w, r, o => (show Env3 w (w.setCell ⟨r, o, none⟩ v) from ⟨rfl, rfl, rfl⟩).trans (setCells_env vs _ r (o + 1))
theorem step_store {σ : Sg} {F : Nat → Prop} {w : World} {b off sz : Nat} {t : PT V} {cs : List V} {L : Loc} {rl : List Value} (hp : Pre ρ σ F g (wrO b (.c sz (ptOf cs off t)) g) w)
    (hb : getH g.h b = .c sz t) (hL : σ b = some L) (hle : off + cs.length ≤ sz) (hv : VRs ρ σ cs rl) :
    Step ρ σ F g (wrO b (.c sz (ptOf cs off t)) g) w σ (w.setCells L.r (L.d + off) rl) ∧ w.there L.r (L.d + off) rl.length := by
  have hF : F b := hp.cov b (.inl ((wr_in b _ g).imp id .inr))
  obtain ⟨rc, e, fz, h1, h2, h3, h4, h5⟩ := live_row hp.rep hF hb hL
  have hlen := hv.len
  obtain ⟨s1, s2, s3⟩ := setCells_block rl w L.r (L.d + off) rc e fz h1
  refine ⟨step_wr hp hL (by rw [hb]; simp) s3 s2 ⟨_, e, fz, s1, by rw [over_size]; exact h2, h3, h4, fun i hi => ?_⟩ (setCells_env _ _ _ _), there_of h1 (by rw [h2]; exact h4) (by omega)⟩
  rw [over_get _ _ _ _ (by omega), ptOf_get]
  by_cases hc : off ≤ i ∧ i < off + cs.length
  · rw [if_pos hc, if_pos (by omega)]
    obtain ⟨x, hx, vx⟩ := hv.get (i - off) (by omega)
    exact ⟨x, by rw [show L.d + i - (L.d + off) = i - off by omega]; exact hx, vx⟩
  · rw [if_neg hc, if_neg (by omega)]
    exact h5 i hi
theorem run_storeCells_at (r o : Nat) (rl : List Value) (w : World) (ht : w.there r o rl.length) (h1 : ∀ u ∈ rl, u.oneCell' = true) :
    (storeCells ⟨r, o, none⟩ rl).run PP w = .ok () (w.setCells r o rl) := by
  have := run_storeCells_cells (P := PP) r o rl 0 w (fun j hj => by simpa using (ht j hj).1) (fun j hj => by simpa using (ht j hj).2) h1
  simpa using this
theorem run_storeV {ty r o : Nat} {d : TypeDesc} {rv : Value} {w : World} (hu : PP.underlying ty = some d) (he : rv.cells.size = siz ty) (ht : w.there r o rv.cells.toList.length) (h1 : ∀ u ∈ rv.cells.toList, u.oneCell' = true) :
    (storeVar ty ⟨r, o, none⟩ rv).run PP w = .ok () (w.setCells r o rv.cells.toList) := by
  have hc := run_storeCells_at r o rv.cells.toList w ht h1
  have hs := run_sizK hu w
  unfold storeVar
  rw [Sem.run_bind, hs, Result.andThen_ok]
  rw [if_neg (by rw [he]; simp)]
  exact hc
theorem xStore_ok (hρ : Opq ρ) {ty : Nat} {x y : Operand} (ho : o.op = .store ty x y) (h : xStore ty x y call n g = .ok v g') : OpSim ρ o n g v g' := by
  obtain ⟨b, off, hx, h⟩ := elP_inv h
  obtain ⟨hk, h⟩ := cnd_inv h
  obtain ⟨hl, h⟩ := cnd_inv h
  obtain ⟨sz, t, hb, hle, hok, h⟩ := storeC_inv h
  obtain ⟨rfl, rfl⟩ := ok_inj (show RO.ok unitV _ = .ok v g' from h)
  have hl := Nat.eq_of_beq_eq_true hl
  rw [lenL_eq] at hl
  refine heap_sim (grow_wr _ _ _ (by rw [hb]; simp)) fun σ F a w hp hev => ?_
  have vx := ev_ok hev x; rw [hx] at vx; simp only [VR] at vx
  obtain ⟨L, hL, vx⟩ := vx
  have hv := cells_ok hρ (okC_okT hok) (ev_ok hev y)
  obtain ⟨hs, hth⟩ := step_store hp hb hL hle hv
  refine ⟨σ, undef, _, hs, vu, .inr ⟨?_, rfl⟩⟩
  have hu := kn_und hk
  obtain ⟨i, hi⟩ := und_info hu
  have hlen := hv.len
  simp only [execOp, ho]
  refine run_u ?_
  rw [vx]
  have e1 : (a.eval y).cells.size = siz ty := by rw [← hl, ← hlen, Array.length_toList]
  simp only [Instr.storeAt, Instr.sureAddr, Sem.run_bind, Sem.run_pure, Result.andThen_ok]
  exact run_storeV hu e1 (fun j hj => hth j (by rw [hlen, hl, ← e1, ← Array.length_toList]; simpa using hj)) (hv.one hρ hok)
end
end Go.Ev
namespace Go.Ev
open Go
set_option maxRecDepth 100000
theorem ovw_nil (o : Nat) (vs : List V) : ovw [] o vs = [] := by cases o <;> rfl
theorem ovw_len : ∀ (cs : List V) (o : Nat) (vs : List V), (ovw cs o vs).length = cs.length := by
  intro cs
  induction cs with
  | nil => intro o vs; rw [ovw_nil]
  | cons a cs ih =>
    intro o vs
    cases o with
    | zero => cases vs with
      | nil => rfl
      | cons v vs => show (v :: ovw cs 0 vs).length = _; simp [ih]
    | succ o => show (a :: ovw cs o vs).length = _; simp [ih]
theorem ovw_get : ∀ (cs : List V) (o : Nat) (vs : List V) (j : Nat), o + vs.length ≤ cs.length → (ovw cs o vs)[j]? = if o ≤ j ∧ j < o + vs.length then vs[j - o]? else cs[j]? := by
  intro cs
  induction cs with
  | nil => intro o vs j h; rw [ovw_nil, if_neg (by have h : o + vs.length ≤ 0 := h; omega)]
  | cons a cs ih =>
    intro o vs j h
    simp only [List.length_cons] at h
    cases o with
    | zero => cases vs with
      | nil => rw [if_neg (by simp)]; rfl
      | cons v vs =>
        show (v :: ovw cs 0 vs)[j]? = _
        simp only [List.length_cons] at h
        cases j with
        | zero => simp
        | succ j =>
          rw [List.getElem?_cons_succ, ih 0 vs j (by omega)]
          by_cases hc : j < vs.length
          · rw [if_pos (by omega), if_pos (by simp; omega)]; simp
          · rw [if_neg (by omega), if_neg (by simp; omega)]; simp
    | succ o =>
      show (a :: ovw cs o vs)[j]? = _
      cases j with
      | zero => rw [if_neg (by omega)]; rfl
      | succ j =>
        rw [List.getElem?_cons_succ, ih o vs j (by omega)]
        by_cases hc : o ≤ j ∧ j < o + vs.length
        · rw [if_pos hc, if_pos (by omega)]; congr 1; omega
        · rw [if_neg hc, if_neg (by omega)]; simp
theorem fold_over : ∀ (vs : List Value) (off k : Nat) (cs : Array Value), (vs.zipIdx k).foldl (fun cs (p : Value × Nat) => cs.setIfInBounds (off + p.2) p.1) cs = over cs (off + k) vs := by
  intro vs
  induction vs with
  | nil => intro off k cs; rfl
  | cons v vs ih =>
    intro off k cs
    show (vs.zipIdx (k + 1)).foldl _ (cs.setIfInBounds (off + k) v) = _
    rw [ih]; rfl
theorem rep_len (l : List V) (m : Nat) : (rep l m).length = m * l.length := by
  induction m with
  | zero => simp; rfl
  | succ m ih => show (appL l (rep l m)).length = _; rw [appL_eq, List.length_append, ih, Nat.succ_mul]; omega
theorem rep_get (l : List V) (_hl : 0 < l.length) : ∀ (m i : Nat), i < m * l.length → (rep l m)[i]? = l[i % l.length]? := by
  intro m
  induction m with
  | zero => intro i h; simp at h
  | succ m ih =>
    intro i h
    show (appL l (rep l m))[i]? = _
    rw [appL_eq]
    by_cases hi : i < l.length
    · rw [List.getElem?_append_left hi, Nat.mod_eq_of_lt hi]
    · rw [List.getElem?_append_right (by omega), ih _ (by rw [Nat.succ_mul] at h; omega)]
      congr 1
      conv => rhs; rw [show i = (i - l.length) + l.length by omega, Nat.add_mod_right]
section
variable {ρ : Rho} {o : Oper} {n : Env} {g g' : G} {v : V} {call : Cl}
theorem VRs.over {σ : Sg} {cs vs : List V} {rc : Array Value} {rv : List Value} {off : Nat} (h : VRs ρ σ cs rc.toList) (hv : VRs ρ σ vs rv) (hle : off + vs.length ≤ cs.length) :
    VRs ρ σ (ovw cs off vs) (Ev.over rc off rv).toList := by
  have l1 := h.len; have l2 := hv.len
  rw [Array.length_toList] at l1
  refine VRs.of_get (by rw [Array.length_toList, over_size, ovw_len, l1]) fun i x hi hx => ?_
  rw [ovw_len] at hi
  rw [Array.getElem?_toList, over_get _ _ _ _ (by omega)] at hx
  rw [ovw_get _ _ _ _ hle]
  by_cases hc : off ≤ i ∧ i < off + vs.length
  · rw [if_pos (by omega)] at hx
    rw [if_pos hc]
    obtain ⟨y, hy, vy⟩ := hv.get (i - off) (by omega)
    rw [hx] at hy; obtain rfl := Option.some.inj hy
    exact vy
  · rw [if_neg (by omega)] at hx
    rw [if_neg hc]
    obtain ⟨y, hy, vy⟩ := h.get i hi
    rw [Array.getElem?_toList, hx] at hy; obtain rfl := Option.some.inj hy
    exact vy
theorem fill_ok (hρ : Opq ρ) {σ : Sg} {a : Act} (he : EnvR ρ σ n a) (pl : Nat → Option (Nat × Nat)) : ∀ (ps : List (Nat × Operand)) (cs cs' : List V) (rc : Array Value), fillL pl n ps cs = some cs' → VRs ρ σ cs rc.toList →
    ∃ rc', Instr.fill pl rc (ps.map fun p => (p.1, a.eval p.2)) = some rc' ∧ VRs ρ σ cs' rc'.toList := by
  intro ps
  induction ps with
  | nil => intro cs cs' rc h hv; simp only [fillL] at h; obtain rfl := Option.some.inj h; exact ⟨rc, rfl, hv⟩
  | cons p ps ih =>
    intro cs cs' rc h hv
    obtain ⟨i, x⟩ := p
    simp only [fillL] at h
    split at h
    · rename_i off sz hpl
      split at h
      · rename_i h1 h2 h3
        have h1 := Nat.eq_of_beq_eq_true h1
        have h2 := Nat.le_of_ble_eq_true h2
        rw [lenL_eq] at h1 h2
        have hx := cells_ok hρ h3 (ev_ok he x)
        have hlx := hx.len; have hlc := hv.len
        rw [Array.length_toList] at hlx hlc
        have hle : off + (cells (ev x n)).length ≤ cs.length := by rw [h1]; exact h2
        obtain ⟨rc', e1, e2⟩ := ih _ _ (Ev.over rc off (a.eval x).cells.toList) h (VRs.over hv hx hle)
        refine ⟨rc', ?_, e2⟩
        rw [List.map_cons, Instr.fill, hpl]
        have hc : ¬ ((a.eval x).cells.size ≠ sz || off + (a.eval x).cells.size > rc.size) = true := by simp; omega
        show (if ((a.eval x).cells.size ≠ sz || off + (a.eval x).cells.size > rc.size) = true then none else _) = _
        rw [if_neg hc, ← e1]
        congr 1
        rw [← Array.foldl_toList, Array.toList_zipIdx]
        exact fold_over _ off 0 rc
      · cases h
    · cases h
theorem knF_all : ∀ {fs : List Field}, knF fs = true → fs.mapM (fun f => (PP.info? f.type).map fun i => (f.offset, i.size)) = some (fs.map fun f => (f.offset, siz f.type)) := by
  intro fs
  induction fs with
  | nil => intro _; rfl
  | cons f fs ih =>
    intro h
    have h2 : kn f.type = true ∧ knF fs = true := by
      cases hs : kn f.type with
      | false => have : knF (f :: fs) = false := by show @Bool.rec (fun _ => Bool) false (knF fs) (kn f.type) = false; rw [hs]
                 rw [this] at h; cases h
      | true => refine ⟨rfl, ?_⟩
                have : knF (f :: fs) = knF fs := by show @Bool.rec (fun _ => Bool) false (knF fs) (kn f.type) = _; rw [hs]
                rw [this] at h; exact h
    obtain ⟨i, hi⟩ := und_info (kn_und h2.1)
    have hs : siz f.type = i.size := by unfold siz; rw [hi]; rfl
    rw [List.mapM_cons, ih h2.2, hi]
    simp [hs]
theorem okGo_inv {cs : Option (List V)} (h : okGo cs g = .ok v g') : ∃ l, cs = some l ∧ v = .g l ∧ g' = g := by
  cases cs with
  | none => exact (bad_ne h).elim
  | some l => obtain ⟨rfl, rfl⟩ := ok_inj (show RO.ok (.g l) g = .ok v g' from h); exact ⟨l, rfl, rfl, rfl⟩
theorem xBuild_ok (hρ : Opq ρ) {ty : Nat} {ps : Array (Nat × Operand)} (ho : o.op = .build ty ps) (h : xBuild ty ps call n g = .ok v g') : OpSim ρ o n g v g' := by
  unfold xBuild at h
  split at h
  · rename_i fs hu
    have hu := und_eq hu (by simp)
    obtain ⟨hk, h⟩ := cnd_inv h
    obtain ⟨hf, h⟩ := cnd_inv h
    obtain ⟨cs, hfl, rfl, rfl⟩ := okGo_inv h
    obtain ⟨i, z, hi, hz, hze, hT⟩ := kz_inv hk
    refine pure_sim fun σ a w he => ?_
    obtain ⟨rc', e1, e2⟩ := fill_ok hρ he _ ps.toList _ _ z.cells hfl (zcs_ok hρ hze hT σ)
    refine ⟨.agg rc', by simp only [VR]; exact ⟨_, rfl, e2⟩, ?_⟩
    simp only [execOp, ho]
    refine run_v (run_build w ty _ rc' ?_)
    unfold Program.built
    rw [hi, hu]
    simp only [hz, knF_all hf]
    rw [← e1]
    congr 1
    · funext j; simp
    · simp
  · rename_i m e hu
    have hu := und_eq hu (by simp)
    obtain ⟨hk, h⟩ := cnd_inv h
    obtain ⟨hke, h⟩ := cnd_inv h
    obtain ⟨cs, hfl, rfl, rfl⟩ := okGo_inv h
    obtain ⟨i, z, hi, hz, hze, hT⟩ := kz_inv hk
    obtain ⟨ie, hie⟩ := und_info (kn_und hke)
    have hs : siz e = ie.size := by unfold siz; rw [hie]; rfl
    refine pure_sim fun σ a w he => ?_
    obtain ⟨rc', e1, e2⟩ := fill_ok hρ he _ ps.toList _ _ z.cells hfl (zcs_ok hρ hze hT σ)
    refine ⟨.agg rc', by simp only [VR]; exact ⟨_, rfl, e2⟩, ?_⟩
    simp only [execOp, ho]
    refine run_v (run_build w ty _ rc' ?_)
    unfold Program.built
    rw [hi, hu]
    simp only [hz, hie]
    rw [← e1, hs]
    congr 1
    simp
  · exact (bad_ne h).elim
/-- zeros, m of them -/
theorem zeros_ok {σ : Sg} {l : List V} {z : Array Value} (h : VRs ρ σ l z.toList) (m : Nat) : VRs ρ σ (rep l m) ((Array.range (m * l.length)).map (z[· % z.size]!)).toList := by
  have hl := h.len
  rw [Array.length_toList] at hl
  refine VRs.of_get (by rw [rep_len]; simp) fun i x hi hx => ?_
  rw [rep_len] at hi
  have h0 : 0 < l.length := by
    rcases Nat.eq_zero_or_pos l.length with e | e
    · rw [e] at hi; simp at hi
    · exact e
  rw [rep_get l h0 m i hi]
  have hm : i % l.length < l.length := Nat.mod_lt _ h0
  obtain ⟨y, hy, vy⟩ := h.get (i % l.length) hm
  have : x = y := by
    rw [Array.getElem?_toList] at hx hy
    simp [hi] at hx
    rw [← hx, hl, getElem!_pos z _ (by rw [hl]; exact hm)]
    rw [getElem?_pos z _ (by rw [hl]; exact hm)] at hy
    exact Option.some.inj hy
  rw [this]; exact vy
theorem xBuildSlice_ok (hρ : Opq ρ) {ty len : Nat} {ps : Array (Nat × Operand)} (ho : o.op = .buildSlice ty len ps) (h : xBuildSlice ty len ps call n g = .ok v g') : OpSim ρ o n g v g' := by
  unfold xBuildSlice at h
  split at h
  · rename_i e hu
    have hu := und_eq hu (by simp)
    obtain ⟨hk, h⟩ := cnd_inv h
    obtain ⟨hl, h⟩ := cnd_inv h
    obtain ⟨hb, h⟩ := cnd_inv h
    unfold bsl at h
    split at h
    · rename_i cs hfl
      obtain ⟨rfl, rfl⟩ := ok_inj (newC_inv h)
      have hl := Nat.eq_of_beq_eq_true hl
      have hb := Nat.le_of_ble_eq_true hb
      rw [lenL_eq] at hl
      obtain ⟨i, z, hi, hz, hze, hT⟩ := kz_inv hk
      have hs : siz e = i.size := by unfold siz; rw [hi]; rfl
      refine heap_sim (grow_new _ _) fun σ F a w hp he => ?_
      have hzz := zeros_ok (zcs_ok hρ hze hT σ) len
      obtain ⟨rc', e1, e2⟩ := fill_ok hρ he _ ps.toList _ _ _ hfl hzz
      refine ⟨_, .slice (some ⟨w.heap.size, 0, none⟩) len len, _, step_row (e := e) hp e2, ?_, .inl ?_⟩
      · simp only [VR]
        exact ⟨_, _, len, upd_at _ _ _, rfl, Nat.le_refl _, Nat.le_refl _, fun _ => rfl, rfl, fun _ => rfl, fun z hz => by simp at hz⟩
      · simp only [execOp, ho]
        refine run_v ?_
        have hb' : ¬ (len * siz e > 2 ^ 24) := by
          have hb : len * siz e ≤ 16777216 := hb
          show ¬ (len * siz e > 16777216); omega
        have hzv : (zeroValue e).run PP w = .ok z w := run_zero hi hz w
        have hsv : (sizeOf e).run PP w = .ok (siz e) w := by simp [sizeOf, typeInfo, hi, hs]
        simp only [Instr.buildSlice, Sem.run_bind, run_underlying hu, Result.andThen_ok, hsv]
        rw [if_neg hb']
        have hps : (ps.map fun (p : Nat × Operand) => (p.1, a.eval p.2)).toList = ps.toList.map fun p => (p.1, a.eval p.2) := by simp
        have hfe : Instr.fill (fun i => some (i * siz e, siz e)) ((Array.range (len * siz e)).map (z.cells[· % z.cells.size]!)) (ps.map fun (p : Nat × Operand) => (p.1, a.eval p.2)).toList = some rc' := by
          rw [hps, ← e1, hl]; rfl
        by_cases h0 : len * siz e = 0
        · have he0 : ((Array.range (len * siz e)).map (z.cells[· % z.cells.size]!)) = #[] := by rw [h0]; simp
          rw [he0] at hfe
          have e3 : ∀ zz : Array Value, ((Array.range (len * siz e)).map (zz[· % zz.size]!)) = #[] := fun zz => by rw [h0]; simp
          simp only [Sem.run_pure, Result.andThen_ok, if_pos h0, e3, hfe, newRow, Sem.run_bind, run_newObj]
        · simp only [if_neg h0, Sem.run_bind, hzv, Sem.run_pure, Result.andThen_ok, hfe, newRow, run_newObj]
    · exact (bad_ne h).elim
  · exact (bad_ne h).elim
end
end Go.Ev
namespace Go.Ev
open Go
set_option maxRecDepth 100000
section
variable {ρ : Rho} {o : Oper} {n : Env} {g g' : G} {v : V} {call : Cl}
theorem ERs.app {σ : Sg} : ∀ {a b : List (V × V)} {ra rb : List MapEntry}, ERs ρ σ a ra → ERs ρ σ b rb → ERs ρ σ (a ++ b) (ra ++ rb) := by
  intro a
  induction a with
  | nil => intro b ra rb h h'; have h : ra = [] := h; subst h; exact h'
  | cons x a ih =>
    intro b ra rb h h'
    obtain ⟨e, t, rfl, h1, h2, h3⟩ := h
    exact ⟨e, t ++ rb, rfl, h1, h2, ih h3 h'⟩
theorem ERs.len {σ : Sg} : ∀ {a : List (V × V)} {ra : List MapEntry}, ERs ρ σ a ra → ra.length = a.length := by
  intro a
  induction a with
  | nil => intro ra h; have h : ra = [] := h; subst h; rfl
  | cons x a ih => intro ra h; obtain ⟨e, t, rfl, h1, h2, h3⟩ := h; simp [ih h3]
/-- where a key is found -/
structure FoundAt (ρ : Rho) (σ : Sg) (d : TypeDesc) (k : V) (es : List (V × V)) (rl : List MapEntry) (i : Nat) (x : V) (j : Nat) (re : MapEntry) (pre post : List (V × V)) (rpre rpost : List MapEntry) (a : V) : Prop where
  fes : es = pre ++ (a, x) :: post
  frl : rl = rpre ++ re :: rpost
  fpre : ERs ρ σ pre rpre
  fkey : VR ρ σ a re.key
  fval : VR ρ σ x re.val
  fpost : ERs ρ σ post rpost
  feq : keyEq d k a = some true
  fj : j = i + pre.length
  fset : ∀ v, mSet d k v es = pre ++ (k, v) :: post
  fdel : mDel d k es = pre ++ post
theorem mFind_ok {σ : Sg} {d : TypeDesc} {k : V} {rk : Value} (hk : VR ρ σ k rk) : ∀ (es : List (V × V)) (rl : List MapEntry) (i : Nat) (r : Option V), ERs ρ σ es rl → mFind d k es = some r →
    (r = none ∧ Instr.findNow d rk rl i = some none ∧ (∀ v, mSet d k v es = es ++ [(k, v)]) ∧ mDel d k es = es) ∨
    ∃ x j re pre post rpre rpost a, r = some x ∧ Instr.findNow d rk rl i = some (some (j, re.val)) ∧ FoundAt ρ σ d k es rl i x j re pre post rpre rpost a := by
  intro es
  induction es with
  | nil =>
    intro rl i r h hf
    have h : rl = [] := h
    subst h
    simp only [mFind] at hf
    exact .inl ⟨(Option.some.inj hf).symm, rfl, fun _ => rfl, rfl⟩
  | cons p es ih =>
    intro rl i r h hf
    obtain ⟨a, x⟩ := p
    obtain ⟨e, t, rfl, h1, h2, h3⟩ := h
    simp only [mFind] at hf
    split at hf
    · rename_i hq
      have hs := (keyEq_ok hq hk h1).2
      refine .inr ⟨x, i, e, [], es, [], t, a, (Option.some.inj hf).symm, by simp only [Instr.findNow, hs], ⟨rfl, rfl, rfl, h1, h2, h3, hq, by simp, fun v => by simp only [mSet, hq]; rfl, by simp only [mDel, hq]; rfl⟩⟩
    · rename_i hq
      have hs := (keyEq_ok hq hk h1).2
      rcases ih t (i + 1) r h3 hf with ⟨e1, e2, e3, e4⟩ | ⟨y, j, re, pre, post, rpre, rpost, b, e1, e2, f⟩
      · exact .inl ⟨e1, by simp only [Instr.findNow, hs, e2], fun v => by simp only [mSet, hq, e3]; rfl, by simp only [mDel, hq, e4]⟩
      · refine .inr ⟨y, j, re, (a, x) :: pre, post, e :: rpre, rpost, b, e1, by simp only [Instr.findNow, hs, e2], ⟨by rw [f.fes]; rfl, by rw [f.frl]; rfl, ⟨e, rpre, rfl, h1, h2, f.fpre⟩, f.fkey, f.fval, f.fpost, f.feq, by rw [f.fj]; simp; omega, fun v => ?_, ?_⟩⟩
        · simp only [mSet, hq, f.fset]; rfl
        · simp only [mDel, hq, f.fdel]; rfl
    · cases hf
theorem keyEq_shape {σ : Sg} {d : TypeDesc} {x y : V} {q : Bool} {rx : Value} (h : keyEq d x y = some q) (hx : VR ρ σ x rx) :
    (∃ k m, rx = .int k m ∧ ∃ k', d = .int k') ∨ (∃ b, rx = .string b ∧ d = .string) ∨ (∃ b, rx = .bool b ∧ d = .bool) := by
  cases d <;> cases x <;> cases y <;> simp only [keyEq] at h <;> try (cases h; done)
  case bool.b.b => simp only [VR] at hx; exact .inr (.inr ⟨_, hx, rfl⟩)
  case int.i.i => simp only [VR] at hx; exact .inl ⟨_, _, hx, _, rfl⟩
  case string.s.s => simp only [VR] at hx; obtain ⟨b, e, _⟩ := hx; exact .inr (.inl ⟨b, e, rfl⟩)
theorem run_checkKey {σ : Sg} {kt : Nat} {x y : V} {q : Bool} {rx : Value} (h : keyEq (und kt) x y = some q) (hx : VR ρ σ x rx) (b : Bool) (m : Nat) (w : World) :
    (Instr.checkKey b (m + 1) kt rx).run PP w = .ok () w := by
  have hu := keyEq_und h
  rcases keyEq_shape h hx with ⟨k, i, rfl, k', hd⟩ | ⟨s, rfl, hd⟩ | ⟨s, rfl, hd⟩ <;> (rw [hd] at hu; simp [Instr.checkKey, run_underlying hu])
theorem run_findKey {kt : Nat} {d : TypeDesc} {rk : Value} {rl : List MapEntry} {r : Option (Nat × Value)} (hu : PP.underlying kt = some d) (h : Instr.findNow d rk rl 0 = some r) (w : World) :
    (Instr.findKey kt rk rl).run PP w = .ok r w := by
  simp [Instr.findKey, run_underlying hu, h]
theorem live_map {σ : Sg} {F : Nat → Prop} {h : PT O} {w : World} {b : Nat} {es : List (V × V)} (hr : Rep ρ σ F h w) (hF : F b) (hb : getH h b = .m es) {L : Loc} (hL : σ b = some L) :
    ∃ rs ck, w.heap[L.r]? = some (.map rs ck) ∧ ERs ρ σ es rs.toList ∧ (rs.toList.map (·.born)).Nodup ∧ ∀ e ∈ rs.toList, e.born < ck := by
  obtain ⟨M, h1, h2⟩ := hr.rel b hF (by rw [hb]; simp)
  rw [hL] at h1
  obtain rfl := Option.some.inj h1
  rw [hb] at h2
  exact h2
theorem onMap_inv {r : Nat} {k : List (V × V) → RO} (h : onMap r g k = .ok v g') : ∃ es, getH g.h r = .m es ∧ k es = .ok v g' := elOM_inv h
theorem run_getMap {w : World} {r : Nat} {rs : Array MapEntry} {ck : Nat} (h : w.heap[r]? = some (.map rs ck)) : (getObj r).run PP w = .ok (.map rs ck) w := by
  simp [getObj, Sem.run, h]
theorem zer_ok {t : Nat} {i : TypeInfo} {z : Value} (hi : PP.info? t = some i) (hz : i.zero = some z) (σ : Sg) : VR ρ σ (zer t) z := by
  unfold zer; rw [hi]
  show VR ρ σ (cv (i.zero.getD undef)) z
  rw [hz]; exact cv_ok σ z
theorem vt2 {σ : Sg} {x : V} {rx : Value} {q : Bool} (h : VR ρ σ x rx) : VR ρ σ (.t [x, .b q]) (.tuple #[rx, .bool q]) := by
  simp only [VR, VRs]
  exact ⟨_, rfl, rx, [.bool q], rfl, h, .bool q, [], rfl, rfl, rfl⟩
/-- what a lookup answers -/
theorem look_fin {σ : Sg} {ok q : Bool} {x : V} {rx : Value} (h : VR ρ σ x rx) : VR ρ σ (if ok then .t [x, .b q] else x) (if ok then .tuple #[rx, .bool q] else rx) := by
  cases ok
  · exact h
  · exact vt2 h
end
end Go.Ev
namespace Go.Ev
open Go
set_option maxRecDepth 100000
section
variable {ρ : Rho} {o : Oper} {n : Env} {g g' : G} {v : V} {call : Cl}
theorem run_keyStays {d : TypeDesc} {σ : Sg} {x y : V} {rx ry : Value} (h : keyEq d x y = some true) (hx : VR ρ σ x rx) (hy : VR ρ σ y ry) (w : World) : (Instr.keyThatStays ry rx).run PP w = .ok rx w := by
  have key : Instr.sameBits 10000 ry rx = true := by
    cases d <;> cases x <;> cases y <;> simp only [keyEq] at h <;> try (cases h; done)
    case bool.b.b a b =>
      simp only [VR] at hx hy; subst hx hy
      rw [beqB_eq] at h
      have : a = b := by simpa using h
      subst this
      show (a == a) = true; simp
    case int.i.i k k1 a k2 b =>
      simp only [VR] at hx hy; subst hx hy
      split at h
      · rename_i hk
        obtain rfl := ikEq_eq hk
        rw [eqI_eq] at h
        have : a = b := by simpa using h
        subst this
        show (k1 == k1 && a == a) = true; simp
      · cases h
    case string.s.s l m l' m' =>
      simp only [VR] at hx hy
      obtain ⟨bx, rfl, h1, h2⟩ := hx
      obtain ⟨b', rfl, h3, h4⟩ := hy
      rw [eqS_eq h1 h2 h3 h4] at h
      have : bx.toList = b'.toList := by simpa using h
      show (b' == bx) = true
      rw [beq_toListBytes, this]; simp
  simp [Instr.keyThatStays, key]
theorem modify_mid (rs : Array MapEntry) (f : MapEntry → MapEntry) {pre post : List MapEntry} {e : MapEntry} (h : rs.toList = pre ++ e :: post) {j : Nat} (hj : j = pre.length) :
    (rs.modify j f).toList = pre ++ f e :: post := by
  subst hj
  obtain ⟨l⟩ := rs
  simp only at h
  subst h
  apply List.ext_getElem?
  intro i
  rw [Array.getElem?_toList, Array.getElem?_modify]
  by_cases hi : pre.length = i
  · subst hi; simp
  · rw [if_neg hi]
    simp only [List.getElem?_toArray]
    rcases Nat.lt_or_ge i pre.length with h1 | h1
    · rw [List.getElem?_append_left h1, List.getElem?_append_left h1]
    · rw [List.getElem?_append_right h1, List.getElem?_append_right h1]
      obtain ⟨d, hd⟩ : ∃ d, i - pre.length = d + 1 := ⟨i - pre.length - 1, by omega⟩
      rw [hd]; rfl
theorem xLookup_ok {ty : Nat} {x k : Operand} {ok : Bool} (ho : o.op = .lookup ty x k ok) (h : xLookup ty x k ok call n g = .ok v g') : OpSim ρ o n g v g' := by
  unfold xLookup at h
  split at h
  · rename_i kt e hu hx
    have hu := und_eq hu (by simp)
    split at h
    · rename_i q hq
      obtain ⟨hz, h⟩ := cnd_inv h
      obtain ⟨i, z, hi, hzz, _, _⟩ := kz_inv hz
      obtain ⟨rfl, rfl⟩ := lookR_inv h
      refine pure_sim fun σ a w he => ⟨_, look_fin (zer_ok hi hzz σ), ?_⟩
      have vx := ev_ok he x; rw [hx] at vx; simp only [VR] at vx
      have vk := ev_ok he k
      simp only [execOp, ho]
      refine run_v ?_
      rw [vx]
      have hc := run_checkKey hq vk true 9999 w
      have hf : (Instr.findKey kt (a.eval k) []).run PP w = .ok none w := run_findKey (keyEq_und hq) (by rfl) w
      have hc' : (Instr.checkKey true 10000 kt (a.eval k)).run PP w = .ok () w := hc
      simp only [Instr.lookup, Sem.run_bind, run_underlying hu, Result.andThen_ok, Sem.run_pure]
      have hem : (#[] : Array MapEntry).isEmpty = true := rfl
      rw [hem, hc']
      simp only [Result.andThen_ok]
      rw [hf]
      simp only [Result.andThen_ok, run_zero hi hzz, Sem.run_bind, Sem.run_pure]
    · exact (bad_ne h).elim
  · rename_i kt e r hu hx
    have hu := und_eq hu (by simp)
    obtain ⟨es, hes, h⟩ := onMap_inv h
    split at h
    · exact (bad_ne h).elim
    · rename_i q hq
      obtain ⟨hz, h⟩ := cnd_inv h
      obtain ⟨i, z, hi, hzz, _, _⟩ := kz_inv hz
      have key : ∃ r', mFind (und kt) (ev k n) es = some r' ∧ g' = rd r g ∧ v = (if ok then .t [r'.getD (zer e), .b r'.isSome] else r'.getD (zer e)) := by
        split at h
        · rename_i y hm; obtain ⟨rfl, rfl⟩ := lookR_inv h; exact ⟨_, hm, rfl, rfl⟩
        · rename_i hm; obtain ⟨rfl, rfl⟩ := lookR_inv h; exact ⟨_, hm, rfl, rfl⟩
        · exact (bad_ne h).elim
      obtain ⟨r', hm, rfl, rfl⟩ := key
      refine heap_sim (grow_rd _ _) fun σ F a w hp he => ?_
      have vx := ev_ok he x; rw [hx] at vx; simp only [VR] at vx
      obtain ⟨L, hL, vx⟩ := vx
      have vk := ev_ok he k
      obtain ⟨rs, ck, h1, h2, h3, h4⟩ := live_map hp.rep (hp.cov r (.inl (rd_in r g))) hes hL
      have hc := fun b => run_checkKey hq vk b 9999 w
      have hc' : ∀ b, (Instr.checkKey b 10000 kt (a.eval k)).run PP w = .ok () w := hc
      have hud := keyEq_und hq
      have fin : ∃ rr : Option (Nat × Value), Instr.findNow (und kt) (a.eval k) rs.toList 0 = some rr ∧ VR ρ σ (r'.getD (zer e)) ((rr.map (·.2)).getD z) ∧ r'.isSome = rr.isSome := by
        rcases mFind_ok vk es rs.toList 0 r' h2 hm with ⟨rfl, e2, _, _⟩ | ⟨y, j, re, pre, post, rpre, rpost, b, rfl, e2, f⟩
        · exact ⟨_, e2, zer_ok hi hzz σ, rfl⟩
        · exact ⟨_, e2, f.fval, rfl⟩
      obtain ⟨rr, f1, f2, f3⟩ := fin
      refine ⟨σ, (if ok then .tuple #[(rr.map (·.2)).getD z, .bool r'.isSome] else (rr.map (·.2)).getD z), w, step_rd hp, look_fin f2, .inl ?_⟩
      simp only [execOp, ho]
      refine run_v ?_
      rw [vx, f3]
      simp only [Instr.lookup, Sem.run_bind, run_underlying hu, Result.andThen_ok, Sem.run_pure, run_getMap h1, hc', run_findKey hud f1]
      cases rr with
      | none => simp only [Sem.run_bind, run_zero hi hzz, Result.andThen_ok, Sem.run_pure]; rfl
      | some p => first | rfl | (dsimp only; rfl)
  · exact (bad_ne h).elim
theorem xMapSet_ok {ty : Nat} {x k y : Operand} (ho : o.op = .mapUpdate ty x k y ∨ o.op = .insert ty x k y) (h : xMapSet ty x k y call n g = .ok v g') : OpSim ρ o n g v g' := by
  unfold xMapSet at h
  split at h
  · rename_i kt e r hu hx
    have hu := und_eq hu (by simp)
    obtain ⟨es, hes, h⟩ := onMap_inv h
    split at h
    · rename_i q r' hq hm
      obtain ⟨rfl, rfl⟩ := ok_inj h
      refine heap_sim (grow_wr _ _ _ (by rw [hes]; simp)) fun σ F a w hp he => ?_
      have vx := ev_ok he x; rw [hx] at vx; simp only [VR] at vx
      obtain ⟨L, hL, vx⟩ := vx
      have vk := ev_ok he k
      have vy := ev_ok he y
      have hF : F r := hp.cov r (.inl ((wr_in r _ g).imp id .inr))
      obtain ⟨rs, ck, h1, h2, h3, h4⟩ := live_map hp.rep hF hes hL
      have hc' : ∀ b, (Instr.checkKey b 10000 kt (a.eval k)).run PP w = .ok () w := fun b => run_checkKey hq vk b 9999 w
      have hud := keyEq_und hq
      have hr : L.r < w.heap.size := (Array.getElem?_eq_some_iff.1 h1).1
      have step : ∀ rs' ck', ERs ρ σ (mSet (und kt) (ev k n) (ev y n) es) rs'.toList → (rs'.toList.map (·.born)).Nodup → (∀ e ∈ rs'.toList, e.born < ck') →
          Step ρ σ F g (wrO r (.m (mSet (und kt) (ev k n) (ev y n) es)) g) w σ { w with heap := w.heap.setIfInBounds L.r (.map rs' ck') } := by
        intro rs' ck' a1 a2 a3
        refine step_wr hp hL (by rw [hes]; simp) (by simp) (fun q hq' => ?_) ⟨rs', ck', ?_, a1, a2, a3⟩
        · simp [Ne.symm hq']
        · simp [hr]
      have run : ∀ rs' ck', (Instr.mapUpdate ty (a.eval x) (a.eval k) (a.eval y)).run PP w = .ok () { w with heap := w.heap.setIfInBounds L.r (.map rs' ck') } →
          (execOp a.eval o).run PP w = .ok .skip { w with heap := w.heap.setIfInBounds L.r (.map rs' ck') } := by
        intro rs' ck' hh
        rcases ho with ho | ho <;> (simp only [execOp, ho]; exact run_u hh)
      have setRun : ∀ rs' ck', (setObj L.r (.map rs' ck')).run PP w = .ok () { w with heap := w.heap.setIfInBounds L.r (.map rs' ck') } := by
        intro rs' ck'; simp [setObj, Sem.run, h1]
      rcases mFind_ok vk es rs.toList 0 r' h2 hm with ⟨rfl, e2, e3, _⟩ | ⟨z, j, re, pre, post, rpre, rpost, b, rfl, e2, f⟩
      · refine ⟨σ, undef, _, step (rs.push ⟨a.eval k, a.eval y, ck⟩) (ck + 1) ?_ ?_ ?_, vu, .inr ⟨run _ _ ?_, rfl⟩⟩
        · rw [e3, Array.toList_push]
          exact ERs.app h2 ⟨_, [], rfl, vk, vy, rfl⟩
        · rw [Array.toList_push, List.map_append]
          refine List.nodup_append.2 ⟨h3, by simp, fun i hi j hj => ?_⟩
          obtain ⟨e, he1, rfl⟩ := List.mem_map.1 hi
          have : j = ck := by simpa using hj
          have := h4 e he1
          omega
        · intro e he1
          rw [Array.toList_push] at he1
          rcases List.mem_append.1 he1 with h5 | h5
          · have := h4 e h5; omega
          · have : e = ⟨a.eval k, a.eval y, ck⟩ := by simpa using h5
            rw [this]; exact Nat.lt_succ_self _
        · rw [vx]
          simp only [Instr.mapUpdate, Sem.run_bind, run_underlying hu, Result.andThen_ok, run_getMap h1, hc', run_findKey hud e2, setRun]
      · have hjj : j = rpre.length := by rw [f.fj, f.fpre.len]; omega
        have hmod := modify_mid rs (fun e => { e with key := a.eval k, val := a.eval y }) f.frl hjj
        have hgj : (rs[j]?) = some re := by
          rw [← Array.getElem?_toList, f.frl, hjj]; simp
        refine ⟨σ, undef, _, step (rs.modify j fun e => { e with key := a.eval k, val := a.eval y }) ck ?_ ?_ ?_, vu, .inr ⟨run _ _ ?_, rfl⟩⟩
        · rw [f.fset, hmod]
          exact ERs.app f.fpre ⟨_, _, rfl, vk, vy, f.fpost⟩
        · rw [hmod]
          rw [f.frl] at h3
          simpa using h3
        · intro e he1
          rw [hmod] at he1
          rw [f.frl] at h4
          rcases List.mem_append.1 he1 with h5 | h5
          · exact h4 e (List.mem_append_left _ h5)
          · rcases List.mem_cons.1 h5 with rfl | h5
            · exact h4 re (by simp)
            · exact h4 e (by simp [h5])
        · rw [vx]
          have hks := run_keyStays f.feq vk f.fkey w
          simp only [Instr.mapUpdate, Sem.run_bind, run_underlying hu, Result.andThen_ok, run_getMap h1, hc', run_findKey hud e2, hgj, Option.map_some, Option.getD_some, hks, setRun]
    · exact (bad_ne h).elim
  · exact (bad_ne h).elim
end
end Go.Ev
namespace Go.Ev
open Go
set_option maxRecDepth 100000
section
variable {ρ : Rho} {o : Oper} {n : Env} {g g' : G} {v : V} {call : Cl}
/-- a builtin whose answer in E is v, g' -/
def BSim (ρ : Rho) (b : Builtin) (tys : Array TypeId) (vs : List V) (g : G) (v : V) (g' : G) : Prop :=
  Grow g g' ∧ ∀ σ F w A, Pre ρ σ F g g' w → VRs ρ σ vs (A : Array Value).toList → ∃ σ' rv w', Step ρ σ F g g' w σ' w' ∧ VR ρ σ' v rv ∧
    ∀ ty cs, (builtin b tys ty cs A).run PP w = .ok (.value rv) w'
theorem bsim_pure {b : Builtin} {tys : Array TypeId} {vs : List V} (h : ∀ σ w A, VRs ρ σ vs (A : Array Value).toList → ∃ rv, VR ρ σ v rv ∧ ∀ ty cs, (builtin b tys ty cs A).run PP w = .ok (.value rv) w) : BSim ρ b tys vs g v g :=
  ⟨.refl g, fun σ F w A hp hv => by obtain ⟨rv, h1, h2⟩ := h σ w A hv; exact ⟨σ, rv, w, .refl hp, h1, h2⟩⟩
theorem VRs.one_ {σ : Sg} {x : V} {A : Array Value} (h : VRs ρ σ [x] A.toList) : ∃ rx, A = #[rx] ∧ VR ρ σ x rx := by
  simp only [VRs] at h
  obtain ⟨b, t, h1, h2, h3⟩ := h
  subst h3
  exact ⟨b, by rw [← Array.toArray_toList (xs := A), h1], h2⟩
theorem VRs.two_ {σ : Sg} {x y : V} {A : Array Value} (h : VRs ρ σ [x, y] A.toList) : ∃ rx ry, A = #[rx, ry] ∧ VR ρ σ x rx ∧ VR ρ σ y ry := by
  simp only [VRs] at h
  obtain ⟨b, t, h1, h2, c, t2, h3, h4, h5⟩ := h
  subst h5 h3
  exact ⟨b, c, by rw [← Array.toArray_toList (xs := A), h1], h2, h4⟩
theorem tys_head {tys : Array TypeId} {t : TypeId} {r : List TypeId} (h : tys.toList = t :: r) : tys[0]? = some t := by
  rw [← Array.getElem?_toList, h]; rfl
theorem okN_inv {m : Nat} (h : okN m g = .ok v g') : v = .i .i64 (.ofNat m) ∧ g' = g := by
  obtain ⟨rfl, rfl⟩ := ok_inj h; exact ⟨rfl, rfl⟩
theorem xLen_ok {tys : Array TypeId} {vs : List V} (h : xLen tys.toList vs g = .ok v g') : BSim ρ .len tys vs g v g' := by
  unfold xLen at h
  split at h
  · exact (bad_ne h).elim
  rename_i ty r ht
  have ht := tys_head ht
  split at h
  · rename_i l m hu
    have hu := und_eq hu (by simp)
    obtain ⟨rfl, rfl⟩ := okN_inv h
    refine bsim_pure fun σ w A hv => ?_
    obtain ⟨rx, rfl, vx⟩ := hv.one_
    simp only [VR] at vx
    obtain ⟨bs, rfl, h1, _⟩ := vx
    refine ⟨.int .i64 bs.size, ?_, fun ty cs => ?_⟩
    · simp only [VR]; rw [← h1]; rfl
    · simp [builtin, Builtin.len_, ht, run_underlying hu, goInt]
  · rename_i m e x hu
    have hu := und_eq hu (by simp)
    obtain ⟨rfl, rfl⟩ := okN_inv h
    refine bsim_pure fun σ w A hv => ?_
    obtain ⟨rx, rfl, vx⟩ := hv.one_
    exact ⟨_, vi, fun ty cs => by simp [builtin, Builtin.len_, ht, run_underlying hu, goInt]⟩
  · rename_i pa x hu
    have hu := und_eq hu (by simp)
    split at h
    · rename_i m e hu2
      have hu2 := und_eq hu2 (by simp)
      obtain ⟨rfl, rfl⟩ := okN_inv h
      refine bsim_pure fun σ w A hv => ?_
      obtain ⟨rx, rfl, vx⟩ := hv.one_
      exact ⟨_, vi, fun ty cs => by simp [builtin, Builtin.len_, ht, run_underlying hu, run_underlying hu2, goInt]⟩
    · exact (bad_ne h).elim
  · rename_i e b off m q z hu
    have hu := und_eq hu (by simp)
    obtain ⟨rfl, rfl⟩ := okN_inv h
    refine bsim_pure fun σ w A hv => ?_
    obtain ⟨rx, rfl, vx⟩ := hv.one_
    simp only [VR] at vx
    obtain ⟨L, a, rc, _, rfl, _⟩ := vx
    exact ⟨_, vi, fun ty cs => by simp [builtin, Builtin.len_, ht, run_underlying hu, goInt]⟩
  · rename_i e hu
    have hu := und_eq hu (by simp)
    obtain ⟨rfl, rfl⟩ := okN_inv h
    refine bsim_pure fun σ w A hv => ?_
    obtain ⟨rx, rfl, vx⟩ := hv.one_
    simp only [VR] at vx
    subst vx
    exact ⟨_, vi, fun ty cs => by simp [builtin, Builtin.len_, ht, run_underlying hu, goInt]⟩
  · rename_i kt e hu
    have hu := und_eq hu (by simp)
    obtain ⟨rfl, rfl⟩ := okN_inv h
    refine bsim_pure fun σ w A hv => ?_
    obtain ⟨rx, rfl, vx⟩ := hv.one_
    simp only [VR] at vx
    subst vx
    exact ⟨_, vi, fun ty cs => by simp [builtin, Builtin.len_, ht, run_underlying hu, goInt]⟩
  · rename_i kt e r hu
    have hu := und_eq hu (by simp)
    obtain ⟨es, hes, h⟩ := onMap_inv h
    obtain ⟨rfl, rfl⟩ := okN_inv h
    refine ⟨grow_rd _ _, fun σ F w A hp hv => ?_⟩
    obtain ⟨rx, rfl, vx⟩ := hv.one_
    simp only [VR] at vx
    obtain ⟨L, hL, rfl⟩ := vx
    obtain ⟨rs, ck, h1, h2, h3, h4⟩ := live_map hp.rep (hp.cov r (.inl (rd_in r g))) hes hL
    refine ⟨σ, .int .i64 (rs.size : Int), w, step_rd hp, ?_, fun ty cs => ?_⟩
    · simp only [VR]
      have := h2.len
      rw [Array.length_toList] at this
      rw [this]; rfl
    · simp [builtin, Builtin.len_, ht, run_underlying hu, run_getMap h1, goInt]
  · exact (bad_ne h).elim
theorem xCap_ok {tys : Array TypeId} {vs : List V} (h : xCap tys.toList vs g = .ok v g') : BSim ρ .cap tys vs g v g' := by
  unfold xCap at h
  split at h
  · exact (bad_ne h).elim
  rename_i ty r ht
  have ht := tys_head ht
  split at h
  · rename_i e hu
    have hu := und_eq hu (by simp)
    obtain ⟨rfl, rfl⟩ := okN_inv h
    refine bsim_pure fun σ w A hv => ?_
    obtain ⟨rx, rfl, vx⟩ := hv.one_
    simp only [VR] at vx
    subst vx
    exact ⟨_, vi, fun ty cs => by simp [builtin, Builtin.cap_, ht, run_underlying hu, goInt]⟩
  · rename_i e b off m q hu
    have hu := und_eq hu (by simp)
    obtain ⟨rfl, rfl⟩ := okN_inv h
    refine bsim_pure fun σ w A hv => ?_
    obtain ⟨rx, rfl, vx⟩ := hv.one_
    simp only [VR] at vx
    obtain ⟨L, a, rc, _, rfl, _, _, h4, _⟩ := vx
    obtain rfl := h4 trivial
    exact ⟨_, vi, fun ty cs => by simp [builtin, Builtin.cap_, ht, run_underlying hu, goInt]⟩
  · exact (bad_ne h).elim
theorem xMinMax_ok {mx : Bool} {tys : Array TypeId} {vs : List V} (h : xMinMax mx vs g = .ok v g') : BSim ρ (if mx then .max else .min) tys vs g v g' := by
  unfold xMinMax at h
  split at h
  · rename_i k a k' b
    rw [cnd_eq, beqB_eq, ltI_eq] at h
    have key : v = .i k (if mx then max a b else min a b) ∧ g' = g := by
      cases mx
      · simp only [Bool.false_eq_true, if_false]
        by_cases hlt : b < a
        · simp [hlt] at h; obtain ⟨rfl, rfl⟩ := h; exact ⟨by congr 1; omega, rfl⟩
        · simp [hlt] at h; obtain ⟨rfl, rfl⟩ := h; exact ⟨by congr 1; omega, rfl⟩
      · simp only [if_true]
        by_cases hlt : b < a
        · simp [hlt] at h; obtain ⟨rfl, rfl⟩ := h; exact ⟨by congr 1; omega, rfl⟩
        · simp [hlt] at h; obtain ⟨rfl, rfl⟩ := h; exact ⟨by congr 1; omega, rfl⟩
    obtain ⟨rfl, rfl⟩ := key
    refine bsim_pure fun σ w A hv => ?_
    obtain ⟨rx, ry, rfl, vx, vy⟩ := hv.two_
    simp only [VR] at vx vy
    subst vx vy
    refine ⟨_, vi, fun ty cs => ?_⟩
    cases mx
    · simp only [Bool.false_eq_true, if_false, builtin, Builtin.min_, List.foldlM, Builtin.min2]
      simp
      omega
    · simp only [if_true, builtin, Builtin.max_, List.foldlM, Builtin.max2]
      simp
      omega
  · exact (bad_ne h).elim
end
end Go.Ev
namespace Go.Ev
open Go
set_option maxRecDepth 100000
section
variable {ρ : Rho} {o : Oper} {n : Env} {g g' : G} {v : V} {call : Cl}
theorem bytesV_ok {σ : Sg} : ∀ (l : List UInt8), VRs ρ σ (bytesV l.length (packL l)) (l.map fun b => Value.int .u8 (b.toNat : Int)) := by
  intro l
  induction l with
  | nil => show VRs ρ σ [] []; simp [VRs]
  | cons a l ih =>
    have ha := a.toNat_lt
    show VRs ρ σ (.i .u8 (.ofNat (Nat.mod (packL (a :: l)) 256)) :: bytesV l.length (Nat.div (packL (a :: l)) 256)) _
    have h1 : Nat.mod (packL (a :: l)) 256 = a.toNat := by show packL (a :: l) % 256 = _; rw [packL_cons]; omega
    have h2 : Nat.div (packL (a :: l)) 256 = packL l := by show packL (a :: l) / 256 = _; rw [packL_cons]; omega
    rw [h1, h2]
    simp only [VRs, List.map_cons]
    exact ⟨_, _, rfl, by simp only [VR]; rfl, ih⟩
theorem srcC_inv {sz : Nat} {x : V} {k : Nat → List V → G → RO} (h : srcC sz x g k = .ok v g') : ∃ m cs g1, k m cs g1 = .ok v g' ∧
    ((∃ b off q z, x = .l b off m q z ∧ ((m * sz = 0 ∧ cs = [] ∧ g1 = g) ∨ (∃ s t, getH g.h b = .c s t ∧ off + m * sz ≤ s ∧ cs = takeC t (m * sz) off ∧ g1 = rd b g))) ∨
     (x = .ln ∧ m = 0 ∧ cs = [] ∧ g1 = g) ∨ (∃ p, x = .s m p ∧ cs = bytesV m p ∧ g1 = g)) := by
  unfold srcC at h
  split at h
  · rename_i b off m q z
    have h' : @Nat.rec (fun _ => RO) (k m [] g) (fun _ _ => loadC b off (Nat.mul m sz) g (k m)) (m * sz) = .ok v g' := h
    cases hm : m * sz with
    | zero => rw [hm] at h'; exact ⟨m, [], g, h', .inl ⟨b, off, q, z, rfl, .inl ⟨hm, rfl, rfl⟩⟩⟩
    | succ j =>
      rw [hm] at h'
      obtain ⟨s, t, h1, h2, h3⟩ := loadC_inv (show loadC b off (Nat.mul m sz) g (k m) = .ok v g' from h')
      exact ⟨m, _, _, h3, .inl ⟨b, off, q, z, rfl, .inr ⟨s, t, h1, h2, rfl, rfl⟩⟩⟩
  · exact ⟨0, [], g, h, .inr (.inl ⟨rfl, rfl, rfl, rfl⟩)⟩
  · rename_i l m; exact ⟨l, _, g, h, .inr (.inr ⟨m, rfl, rfl, rfl⟩)⟩
  · exact (bad_ne h).elim
theorem srcOk_kind {ty2 sz : Nat} {x : V} (h : srcOk ty2 sz x = true) :
    ((∃ e', PP.underlying ty2 = some (.slice e')) ∧ ∀ l m, x ≠ .s l m) ∨ (PP.underlying ty2 = some .string ∧ sz = 1 ∧ ∃ l m, x = .s l m) := by
  unfold srcOk at h
  split at h
  · rename_i hu; exact .inl ⟨⟨_, und_eq hu (by simp)⟩, by simp⟩
  · rename_i hu; exact .inl ⟨⟨_, und_eq hu (by simp)⟩, by simp⟩
  · rename_i hu; exact .inr ⟨und_eq hu (by simp), Nat.eq_of_beq_eq_true h, _, _, rfl⟩
  · cases h
theorem src_ok (hρ : Opq ρ) {sz m ty2 : Nat} {x : V} {cs : List V} {g1 : G} (hso : srcOk ty2 sz x = true)
    (h : (∃ b off q z, x = .l b off m q z ∧ ((m * sz = 0 ∧ cs = [] ∧ g1 = g) ∨ (∃ s t, getH g.h b = .c s t ∧ off + m * sz ≤ s ∧ cs = takeC t (m * sz) off ∧ g1 = rd b g))) ∨
     (x = .ln ∧ m = 0 ∧ cs = [] ∧ g1 = g) ∨ (∃ p, x = .s m p ∧ cs = bytesV m p ∧ g1 = g)) :
    Grow g g1 ∧ g1.h = g.h ∧ g1.nx = g.nx ∧ ∀ σ F w rx, Pre ρ σ F g g1 w → VR ρ σ x rx → Step ρ σ F g g1 w σ w ∧ ∃ news, VRs ρ σ cs news ∧ (okC cs = true → Src PP sz ty2 rx m news w) := by
  rcases h with ⟨b, off, q, z, rfl, h⟩ | ⟨rfl, rfl, rfl, rfl⟩ | ⟨p, rfl, rfl, rfl⟩
  · have hk : ∃ e', PP.underlying ty2 = some (.slice e') := by
      rcases srcOk_kind hso with ⟨e, _⟩ | ⟨_, _, l, m', e⟩
      · exact e
      · cases e
    obtain ⟨e', hk⟩ := hk
    rcases h with ⟨h0, rfl, rfl⟩ | ⟨s, t, h1, h2, rfl, rfl⟩
    · refine ⟨.refl _, rfl, rfl, fun σ F w rx hp vx => ⟨.refl hp, [], by simp [VRs], fun _ => ?_⟩⟩
      simp only [VR] at vx
      obtain ⟨L, a, rc, hL, rfl, _⟩ := vx
      exact Src.ofSlice w hk a m rc [] (by simpa using h0.symm) (fun j u hu => by simp at hu) (fun u hu => by simp at hu)
    · refine ⟨grow_rd _ _, rd_h _ _, rd_nx _ _, fun σ F w rx hp vx => ⟨step_rd hp, ?_⟩⟩
      simp only [VR] at vx
      obtain ⟨L, a, rc, hL, rfl, v2, v3, v4, v5, v6, v7⟩ := vx
      obtain ⟨rcs, e, fz, k1, k2, k3, k4, k5⟩ := live_row hp.rep (hp.cov b (.inl (rd_in b g))) h1 hL
      obtain ⟨rl, hl, hv, hra⟩ := range_of k1 k5 h2 k2 k3
      refine ⟨rl, hv, fun hok => ?_⟩
      refine Src.ofSlice w hk a m rc rl hl (fun j u hu => ?_) (hv.one hρ hok)
      have hj : j < m * sz := by rw [← hl]; exact (List.getElem?_eq_some_iff.1 hu).1
      have hm : 0 < m := by
        rcases Nat.eq_zero_or_pos m with e0 | e0
        · subst e0; simp at hj
        · exact e0
      obtain rfl := v6 (.inr (by omega))
      rw [Addr.add_mid]
      exact hra j u hu
  · have hk : ∃ e', PP.underlying ty2 = some (.slice e') := by
      rcases srcOk_kind hso with ⟨e, _⟩ | ⟨_, _, l, m', e⟩
      · exact e
      · cases e
    obtain ⟨e', hk⟩ := hk
    refine ⟨.refl _, rfl, rfl, fun σ F w rx hp vx => ⟨.refl hp, [], by simp [VRs], fun _ => ?_⟩⟩
    simp only [VR] at vx
    subst vx
    exact Src.ofNil w hk 0
  · have hk : PP.underlying ty2 = some .string ∧ sz = 1 := by
      rcases srcOk_kind hso with ⟨_, e⟩ | ⟨a, b, _⟩
      · exact absurd rfl (e _ _)
      · exact ⟨a, b⟩
    obtain ⟨hk, rfl⟩ := hk
    refine ⟨.refl _, rfl, rfl, fun σ F w rx hp vx => ⟨.refl hp, ?_⟩⟩
    simp only [VR] at vx
    obtain ⟨bs, rfl, v1, v2⟩ := vx
    refine ⟨byteCells bs, ?_, fun _ => ?_⟩
    · rw [← v1, ← v2]; exact bytesV_ok _
    · have : bs.size = m := v1
      rw [← this]; exact Src.ofString w hk bs
/-- the row behind an append in place, under a new number -/
theorem step_alias {σ : Sg} {F : Nat → Prop} {g g2 : G} {w w' : World} {b : Nat} {oo : O} {L L' : Loc} (h : Pre ρ σ F g g2 w) (_hg : Grow g g2) (hF : F b) (hb : σ b = some L) (hl : getH g.h b ≠ .no)
    (hh : ∀ c, getH g2.h c = if c = g.nx then oo else if c = b then .no else getH g.h c) (hnx : g2.nx = g.nx + 1) (hw : Wt g2 b) (_hbn : b ≠ g.nx)
    (hs : w'.heap.size = w.heap.size) (hk : ∀ r, r ≠ L.r → w'.heap[r]? = w.heap[r]?) (hr : L'.r = L.r) (ho : OR ρ (upd σ g.nx L') w' L' oo) (henv : Env3 w w' := by first | exact ⟨rfl, rfl, rfl⟩ | exact setCells_env _ _ _ _) :
    Step ρ σ F g g2 w (upd σ g.nx L') w' := by
  have hf : σ g.nx = none := h.free g.nx (Nat.le_refl _) (by omega)
  have hle := upd_le (L := L') hf
  have hLr : L.r < w.heap.size := h.bnd b L hb
  have live : ∀ c, F c → c ≠ g.nx → getH g2.h c ≠ .no → c ≠ b ∧ getH g2.h c = getH g.h c ∧ getH g.h c ≠ .no := by
    intro c hc hne hl2
    rw [hh c, if_neg hne] at hl2 ⊢
    by_cases hcb : c = b
    · rw [if_pos hcb] at hl2; exact absurd rfl hl2
    · rw [if_neg hcb] at hl2 ⊢; exact ⟨hcb, rfl, hl2⟩
  refine ⟨⟨fun c hc => upd_ne fun e => hc (by subst e; omega), fun c M h1 h2 h3 => ?_⟩, ⟨fun c hc hl2 => ?_, fun c c' M M' hc hc' hl2 hl2' e e' er => ?_⟩, ⟨by omega, fun r hr2 hW => hk r fun e => hW b L hw hb e.symm, henv⟩, fun c M e => ?_⟩
  · obtain rfl : c = g.nx := by omega
    rw [upd_at] at h3; obtain rfl := Option.some.inj h3
    exact ⟨by omega, .inr ⟨b, L, hw, hb, hr.symm⟩⟩
  · by_cases hne : c = g.nx
    · subst hne
      rw [hh, if_pos rfl]
      exact ⟨L', upd_at _ _ _, ho⟩
    · obtain ⟨hcb, e1, e2⟩ := live c hc hne hl2
      obtain ⟨M, m1, m2⟩ := h.rep.rel c hc e2
      refine ⟨M, by rw [upd_ne hne]; exact m1, ?_⟩
      rw [e1]
      exact OR.mono hle (hk _ fun e => hcb (h.rep.inj c b M L hc hF e2 hl m1 hb e)) _ m2
  · by_cases hne : c = g.nx <;> by_cases hne' : c' = g.nx
    · rw [hne, hne']
    · subst hne
      rw [upd_at] at e; obtain rfl := Option.some.inj e
      obtain ⟨hcb, _, e2⟩ := live c' hc' hne' hl2'
      rw [upd_ne hne'] at e'
      exact absurd (h.rep.inj c' b M' L hc' hF e2 hl e' hb (by omega)) hcb
    · subst hne'
      rw [upd_at] at e'; obtain rfl := Option.some.inj e'
      obtain ⟨hcb, _, e2⟩ := live c hc hne hl2
      rw [upd_ne hne] at e
      exact absurd (h.rep.inj c b M L hc hF e2 hl e hb (by omega)) hcb
    · rw [upd_ne hne] at e; rw [upd_ne hne'] at e'
      exact h.rep.inj c c' M M' hc hc' (live c hc hne hl2).2.2 (live c' hc' hne' hl2').2.2 e e' er
  · by_cases hne : c = g.nx
    · subst hne
      rw [upd_at] at e; obtain rfl := Option.some.inj e
      omega
    · rw [upd_ne hne] at e
      rw [hs]; exact h.bnd c M e
end
end Go.Ev
namespace Go.Ev
open Go
set_option maxRecDepth 100000
theorem growBy_le (m : Nat) : ∀ (k c : Nat), c < m → Builtin.growBy m k c ≤ 2 * m + 192 := by
  intro k
  induction k with
  | zero => intro c h; show c ≤ _; omega
  | succ k ih =>
    intro c h
    show (if c ≥ m then c else Builtin.growBy m k (c + (c + 768) / 4)) ≤ _
    rw [if_neg (by omega)]
    by_cases h2 : c + (c + 768) / 4 < m
    · exact ih _ h2
    · cases k with
      | zero => show c + (c + 768) / 4 ≤ _; omega
      | succ k =>
        show (if c + (c + 768) / 4 ≥ m then c + (c + 768) / 4 else _) ≤ _
        rw [if_pos (by omega)]; omega
theorem next_le {m c : Nat} (h : c < m) : Builtin.nextslicecap m c ≤ 2 * m + 192 := by
  unfold Builtin.nextslicecap
  split
  · omega
  · split
    · omega
    · exact growBy_le m 4 c h
section
variable {ρ : Rho} {o : Oper} {n : Env} {g g' : G} {v : V} {call : Cl}
structure ApE (e : Nat) (i : TypeInfo) (z : Value) : Prop where
  info : PP.info? e = some i
  zero : i.zero = some z
  size : i.size = siz e
  pos : 1 ≤ siz e
  cells : z.cells.size = siz e
  bytes : i.bytes ≤ 65536
theorem apE_inv (hρ : Opq ρ) {e : Nat} (h : apE e = true) : ∃ i z, ApE e i z := by
  unfold apE apZ at h
  split at h
  · rename_i i hi
    split at h
    · rename_i h1 h2 h3 h4
      obtain ⟨i', z, hi', hz, he, hT⟩ := kz_inv h1
      rw [hi] at hi'; obtain rfl := Option.some.inj hi'
      have h2 := Nat.eq_of_beq_eq_true h2
      rw [lenL_eq] at h2
      have := (zcs_ok hρ he hT (fun _ => none)).len
      rw [Array.length_toList] at this
      exact ⟨i, z, hi, hz, by unfold siz; rw [hi]; rfl, Nat.le_of_ble_eq_true h3, by rw [this, h2], Nat.le_of_ble_eq_true h4⟩
    · cases h
  · cases h
theorem okL_inv {z m b : Nat} {g1 : G} (h : okL z m b g1 = .ok v g') : v = .l b 0 m m (z + 1) ∧ g' = g1 := by
  obtain ⟨rfl, rfl⟩ := ok_inj h; exact ⟨rfl, rfl⟩
/-- the row that an append makes -/
theorem grown_row {σ : Sg} {F : Nat → Prop} {w : World} {need cap e : Nat} {z : Value} {all : List Value} {cnt : Nat} {tt : PT V} {i : TypeInfo} (hA : ApE e i z)
    (hp : Pre ρ σ F g (newG (.c cnt tt) g) w) (hl : all.length = need * siz e) (hcap : need ≤ cap) (hc : cnt ≤ all.length) (hv : ∀ j, j < cnt → ∃ x, all[j]? = some x ∧ VR ρ σ (getT tt j) x) :
    ∃ σ', Step ρ σ F g (newG (.c cnt tt) g) w σ' (w.drew.alloc (.cells (all.toArray ++ Builtin.zeroCells z.cells (cap - need)) e)) ∧
      VR ρ σ' (.l g.nx 0 need need (siz e + 1)) (.slice (some ⟨w.heap.size, 0, none⟩) need cap) := by
  have hf : σ g.nx = none := hp.free g.nx (Nat.le_refl _) (Nat.lt_succ_self _)
  have hN : (all.toArray ++ Builtin.zeroCells z.cells (cap - need)).size = cap * siz e := by
    rw [Array.size_append]
    have : (Builtin.zeroCells z.cells (cap - need)).size = (cap - need) * siz e := by simp [Builtin.zeroCells, hA.cells]
    rw [this]
    have : all.toArray.size = need * siz e := by simpa using hl
    rw [this, ← Nat.add_mul]
    congr 1; omega
  refine ⟨upd σ g.nx ⟨w.heap.size, 0, cap * siz e⟩, step_new hp (by show (w.heap.push _).size = _; simp) (fun r hr => ?_) ⟨all.toArray ++ Builtin.zeroCells z.cells (cap - need), e, (0, 0), by show (w.heap.push _)[w.heap.size]? = _; simp, hN, ?_, .inl rfl, fun j hj => ?_⟩, ?_⟩
  · show (w.heap.push _)[r]? = _
    rw [Array.getElem?_push_lt hr]
    simp [hr]
  · show 0 + cnt ≤ cap * siz e
    have : need * siz e ≤ cap * siz e := Nat.mul_le_mul_right _ hcap
    omega
  · obtain ⟨x, hx, vx⟩ := hv j hj
    refine ⟨x, ?_, VR.mono (upd_le hf) _ _ vx⟩
    show (all.toArray ++ Builtin.zeroCells z.cells (cap - need))[0 + j]? = some x
    rw [Nat.zero_add, Array.getElem?_append_left (by simp; omega)]
    simpa using hx
  · simp only [VR]
    exact ⟨_, _, cap, upd_at _ _ _, rfl, Nat.le_refl _, hcap, fun h => by simp at h, rfl, fun _ => rfl, fun zz hz => by
      obtain rfl : zz = siz e := by omega
      show 0 + 0 + cap * siz e ≤ cap * siz e; omega⟩
/-- what appTo answers -/
def ASim (ρ : Rho) (ty ty2 e : Nat) (s : V) (m : Nat) (cs : List V) (g : G) (v : V) (g' : G) : Prop :=
  Grow g g' ∧ ∀ σ F w rs rx news, Pre ρ σ F g g' w → VR ρ σ s rs → VRs ρ σ cs news → Src PP (siz e) ty2 rx m news w →
    ∃ σ' rv w', Step ρ σ F g g' w σ' w' ∧ VR ρ σ' v rv ∧ ∀ t, (Builtin.append_ #[ty, ty2] t #[rs, rx]).run PP w = .ok rv w'
theorem app_nil {ty ty2 e m : Nat} {cs : List V} (hA : ∃ i z, ApE e i z) (hu : PP.underlying ty = some (.slice e)) (h : appTo (siz e) .ln m cs g = .ok v g') : ASim ρ ty ty2 e .ln m cs g v g' := by
  obtain ⟨i, z, hA⟩ := hA
  cases m with
  | zero =>
    obtain ⟨rfl, rfl⟩ := ok_inj (show RO.ok .ln g = .ok v g' from h)
    refine ⟨.refl _, fun σ F w rs rx news hp vs vn hs => ⟨σ, .slice none 0 0, w, .refl hp, by simp only [VR], fun t => ?_⟩⟩
    simp only [VR] at vs
    subst vs
    have hn : news = [] := List.length_eq_zero_iff.1 (by rw [hs.newsLen]; simp)
    subst hn
    rw [← hA.size] at hs
    exact run_append_nothing w ty ty2 t e i hu hA.info none 0 0 (Nat.le_refl _) rx hs
  | succ m =>
    obtain ⟨hb, h⟩ := cnd_inv (show cnd (Nat.ble (m + 1) 1048576) (newC cs g (okL (siz e) (m + 1))) (.bad 127) = .ok v g' from h)
    obtain ⟨rfl, rfl⟩ := okL_inv (newC_inv h)
    have hb := Nat.le_of_ble_eq_true hb
    refine ⟨grow_new _ _, fun σ F w rs rx news hp vs vn hs => ?_⟩
    simp only [VR] at vs
    subst vs
    have hlen := vn.len
    have hge := grownCap_ge w (m + 1) 0 e
    obtain ⟨σ', s1, s2⟩ := grown_row (need := m + 1) (cap := grownCap w (m + 1) 0 e) (all := news) hA hp hs.newsLen hge (by omega) (fun j hj => by
      obtain ⟨x, hx, vx⟩ := vn.get j hj
      exact ⟨x, hx, by rw [ptOf_get, if_pos (by simpa using hj)]; simpa using vx⟩)
    refine ⟨σ', _, _, s1, s2, fun t => ?_⟩
    have hs' := hs
    rw [← hA.size] at hs'
    have hnx := next_le (m := m + 1) (c := 0) (by omega)
    have := run_append_grow_src w ty ty2 t e i z hu hA.info hA.zero none 0 0 [] (by simp [Builtin.firstCells]) rx (m + 1) news hs' (by omega) (by omega) (by
      have h2 : Builtin.nextslicecap (0 + (m + 1)) 0 ≤ 2 * (m + 1) + 192 := by rw [Nat.zero_add]; exact hnx
      have h3 := hA.bytes
      calc Builtin.nextslicecap (0 + (m + 1)) 0 * i.bytes ≤ (2 * (m + 1) + 192) * 65536 := Nat.mul_le_mul h2 h3
        _ ≤ 281474976710656 := by omega)
    rw [Nat.zero_add] at this
    simpa using this
theorem grow_lemma {_need sl m rc : Nat} {i : TypeInfo} (hlt : rc < sl + m) (hn : sl + m ≤ 1048576) (hb : i.bytes ≤ 65536) : Builtin.nextslicecap (sl + m) rc * i.bytes ≤ 281474976710656 := by
  have h2 := next_le hlt
  calc Builtin.nextslicecap (sl + m) rc * i.bytes ≤ (2 * (sl + m) + 192) * 65536 := Nat.mul_le_mul h2 hb
    _ ≤ 281474976710656 := by omega
theorem recN_inv {A B : RO} {k : Nat} (h : @Nat.rec (fun _ => RO) A (fun _ _ => B) k = .ok v g') : (k = 0 ∧ A = .ok v g') ∨ (k ≠ 0 ∧ B = .ok v g') := by
  cases k with
  | zero => exact .inl ⟨rfl, h⟩
  | succ k => exact .inr ⟨by simp, h⟩
theorem grow_get (b : Nat) (oo : O) (g : G) (c : Nat) : getH (newG oo (wrO b .no (rd b g))).h c = if c = g.nx then oo else if c = b then .no else getH g.h c := by
  have hnx2 : (wrO b .no (rd b g)).nx = g.nx := by rw [wrO_nx, rd_nx]
  show getH (setH (wrO b .no (rd b g)).h (wrO b .no (rd b g)).nx oo) c = _
  rw [getH_set, hnx2, wrO_h, getH_set, rd_h]
  by_cases c1 : c = g.nx
  · subst c1; simp
  · by_cases c2 : c = b
    · subst c2; simp [c1, Ne.symm c1]
    · simp [c1, Ne.symm c1, c2, Ne.symm c2]
theorem app_some (_hρ : Opq ρ) {ty ty2 e m b off sl q ex : Nat} {cs : List V} (_hok : okC cs = true) (hA : ∃ i z, ApE e i z) (hu : PP.underlying ty = some (.slice e)) (h : appTo (siz e) (.l b off sl q ex) m cs g = .ok v g') :
    ASim ρ ty ty2 e (.l b off sl q ex) m cs g v g' := by
  obtain ⟨i, z, hA⟩ := hA
  have h1 : fcN (Nat.add sl m) (fun need => cnd (Nat.ble need 1048576)
      (@Bool.rec (fun _ => RO)
        (@Bool.rec (fun _ => RO) (cnd (Nat.beq ex (Nat.succ (siz e))) (grow (siz e) b off sl need cs g) (.bad 125))
          (@Nat.rec (fun _ => RO) (newC cs g (okL (siz e) need)) (fun _ _ => loadC b off (Nat.mul sl (siz e)) g fun old g => newC (appL old cs) g (okL (siz e) need)) (Nat.mul sl (siz e))) (Nat.beq ex 0))
        (@Nat.rec (fun _ => RO) (.ok (.l b off sl q ex) g) (fun _ _ => storeC b (Nat.add off (Nat.mul sl (siz e))) cs g (.ok (.l b off need q ex))) m) (Nat.ble need q)) (.bad 126)) = .ok v g' := h
  rw [fcN_eq] at h1
  obtain ⟨hb, h2⟩ := cnd_inv h1
  have hb : sl + m ≤ 1048576 := Nat.le_of_ble_eq_true hb
  clear h h1
  cases hq : Nat.ble (Nat.add sl m) q with
  | true =>
    rw [hq] at h2
    have hq : sl + m ≤ q := Nat.le_of_ble_eq_true hq
    cases m with
    | zero =>
      obtain ⟨rfl, rfl⟩ := ok_inj (show RO.ok (.l b off sl q ex) g = .ok v g' from h2)
      refine ⟨.refl _, fun σ F w rs rx news hp vs vn hs => ⟨σ, rs, w, .refl hp, vs, fun t => ?_⟩⟩
      simp only [VR] at vs
      obtain ⟨L, a, rc, hL, rfl, v2, v3, _⟩ := vs
      have hn : news = [] := List.length_eq_zero_iff.1 (by rw [hs.newsLen]; simp)
      subst hn
      rw [← hA.size] at hs
      exact run_append_nothing w ty ty2 t e i hu hA.info (some a) sl rc (by omega) rx hs
    | succ m =>
      obtain ⟨sz, t, hbb, hle, _, h3⟩ := storeC_inv (show storeC b (off + sl * siz e) cs g (.ok (.l b off (sl + (m + 1)) q ex)) = .ok v g' from h2)
      obtain ⟨rfl, rfl⟩ := ok_inj h3
      refine ⟨grow_wr _ _ _ (by rw [hbb]; simp), fun σ F w rs rx news hp vs vn hs => ?_⟩
      simp only [VR] at vs
      obtain ⟨L, a, rc, hL, rfl, v2, v3, v4, v5, v6, v7⟩ := vs
      obtain rfl := v6 (.inr (by omega))
      obtain ⟨st, hth⟩ := step_store hp hbb hL hle vn
      refine ⟨σ, .slice (some ⟨L.r, L.d + off, none⟩) (sl + (m + 1)) rc, _, st, ?_, fun t => ?_⟩
      · simp only [VR]
        exact ⟨L, _, rc, hL, rfl, hq, v3, v4, rfl, fun _ => rfl, v7⟩
      · have hs' := hs
        rw [← hA.size] at hs'
        have := run_append_room_src w ty ty2 t e i hu hA.info L.r (L.d + off) sl rc rx (m + 1) news hs' (by omega)
          (fun j hj => by have := (hth j hj).1; rw [hA.size]; rw [← Nat.add_assoc] at this; exact this) (fun j hj => by have := (hth j hj).2; rw [hA.size]; rw [← Nat.add_assoc] at this; exact this)
        rw [this, hA.size]
        have e5 : L.d + off + sl * siz e = L.d + (off + sl * siz e) := by omega
        rw [e5]
  | false =>
    rw [hq] at h2
    have hq : ¬ sl + m ≤ q := fun e0 => by rw [show Nat.ble (Nat.add sl m) q = true from Nat.ble_eq_true_of_le e0] at hq; cases hq
    cases hx : Nat.beq ex 0 with
    | true =>
      rw [hx] at h2
      have hx : ex = 0 := Nat.eq_of_beq_eq_true hx
      subst hx
      have h3 : @Nat.rec (fun _ => RO) (newC cs g (okL (siz e) (sl + m))) (fun _ _ => loadC b off (sl * siz e) g fun old g => newC (appL old cs) g (okL (siz e) (sl + m))) (sl * siz e) = .ok v g' := h2
      rcases recN_inv h3 with ⟨hz, h3⟩ | ⟨hz, h3⟩
      · obtain ⟨rfl, rfl⟩ := okL_inv (newC_inv h3)
        have hsl : sl = 0 := by
          rcases Nat.eq_zero_or_pos sl with e0 | e0
          · exact e0
          · have := hA.pos
            have := Nat.mul_pos e0 this
            omega
        subst hsl
        refine ⟨grow_new _ _, fun σ F w rs rx news hp vs vn hs => ?_⟩
        simp only [VR] at vs
        obtain ⟨L, a, rc, hL, rfl, v2, v3, v4, v5, v6, v7⟩ := vs
        have hrc := v4 trivial
        subst hrc
        have hlen := vn.len
        obtain ⟨σ', s1, s2⟩ := grown_row (need := 0 + m) (cap := grownCap w (0 + m) rc e) (all := news) hA hp (by rw [hs.newsLen]; simp) (grownCap_ge w _ _ e) (by omega) (fun j hj => by
          obtain ⟨x, hx, vx⟩ := vn.get j hj
          exact ⟨x, hx, by rw [ptOf_get, if_pos (by simpa using hj)]; simpa using vx⟩)
        refine ⟨σ', _, _, s1, s2, fun t => ?_⟩
        have hs' := hs
        rw [← hA.size] at hs'
        have := run_append_grow_src w ty ty2 t e i z hu hA.info hA.zero (some a) 0 rc [] (run_firstCells_some w.drew i.size 0 a 0 rc [] (by simp) (fun j u hu2 => by simp at hu2)) rx m news hs' (by omega) (by omega) (grow_lemma (_need := 0) (by omega) hb hA.bytes)
        simpa using this
      · obtain ⟨sz, t, hbb, hle, h4⟩ := loadC_inv h3
        rw [appL_eq] at h4
        obtain ⟨rfl, rfl⟩ := okL_inv (newC_inv h4)
        refine ⟨(grow_rd b g).trans (grow_new _ _), fun σ F w rs rx news hp vs vn hs => ?_⟩
        simp only [VR] at vs
        obtain ⟨L, a, rc, hL, rfl, v2, v3, v4, v5, v6, v7⟩ := vs
        have hrc := v4 trivial
        subst hrc
        obtain rfl := v6 (.inl trivial)
        have hp1 := hp.fst (grow_rd b g) (grow_new _ _)
        have st1 := step_rd hp1
        have hp2 := hp.snd (grow_rd b g) st1
        obtain ⟨rcs, e', fz, k1, k2, k3, k4, k5⟩ := live_row hp1.rep (hp1.cov b (.inl (rd_in b g))) hbb hL
        obtain ⟨rl, hl, hv, hra⟩ := range_of k1 k5 hle k2 k3
        have va := hv.app vn
        have hlen := va.len
        obtain ⟨σ', s1, s2⟩ := grown_row (need := sl + m) (cap := grownCap w (sl + m) rc e) (all := rl ++ news) hA hp2 (by rw [List.length_append, hl, hs.newsLen, Nat.add_mul]) (grownCap_ge w _ _ e) (by omega) (fun j hj => by
          obtain ⟨x, hx, vx⟩ := va.get j hj
          exact ⟨x, hx, by rw [ptOf_get, if_pos (by simpa using hj)]; simpa using vx⟩)
        refine ⟨σ', _, _, st1.trans hp (grow_rd b g) (grow_new _ _) s1, by rw [rd_nx] at s2; rw [rd_nx]; exact s2, fun t => ?_⟩
        have hs' := hs
        rw [← hA.size] at hs'
        have := run_append_grow_src w ty ty2 t e i z hu hA.info hA.zero (some ⟨L.r, L.d + off, none⟩) sl rc rl (run_firstCells_some w.drew i.size sl _ sl rc rl (by rw [hl, hA.size]) (fun j u hu2 => by rw [Addr.add_mid]; exact hra j u hu2)) rx m news hs' (by omega) (by omega) (grow_lemma (_need := 0) (by omega) hb hA.bytes)
        exact this
    | false =>
      rw [hx] at h2
      obtain ⟨hex, h3⟩ := cnd_inv (show cnd (Nat.beq ex (Nat.succ (siz e))) (grow (siz e) b off sl (sl + m) cs g) (.bad 125) = .ok v g' from h2)
      have hex : ex = siz e + 1 := Nat.eq_of_beq_eq_true hex
      subst hex
      obtain ⟨sz, t, hbb, h4⟩ := elO_inv h3
      obtain ⟨hsz, h5⟩ := cnd_inv h4
      have hsz : off + sl * siz e = sz := Nat.eq_of_beq_eq_true hsz
      clear h2 h3 h4
      have hbn : ∀ {σ : Sg} {F : Nat → Prop} {gg : G} {w : World} {L : Loc}, Pre ρ σ F g gg w → g.nx < gg.nx → σ b = some L → b ≠ g.nx := fun hp hlt hL e0 => by
        rw [e0, hp.free g.nx (Nat.le_refl _) hlt] at hL; cases hL
      rcases recN_inv h5 with ⟨hoff, h6⟩ | ⟨hoff, h6⟩
      · subst hoff
        have h7 : newO (.c (sz + cs.length) (ptOf cs sz t)) (wrO b .no (rd b g)) (okL (siz e) (sl + m)) = .ok v g' := h6
        rw [newO_eq] at h7
        obtain ⟨rfl, rfl⟩ := okL_inv h7
        have G1 := grow_rd b g
        have G2 := grow_wr b .no (rd b g) (by rw [rd_h, hbb]; simp)
        have G3 := grow_new (.c (sz + cs.length) (ptOf cs sz t)) (wrO b .no (rd b g))
        refine ⟨(G1.trans G2).trans G3, fun σ F w rs rx news hp vs vn hs => ?_⟩
        simp only [VR] at vs
        obtain ⟨L, a, rc, hL, rfl, v2, v3, v4, v5, v6, v7⟩ := vs
        have hroom := v7 _ rfl
        have hp1 := hp.fst G1 (G2.trans G3)
        have st1 := step_rd hp1
        have hF := hp1.cov b (.inl (rd_in b g))
        obtain ⟨rcs, e', fz, k1, k2, k3, k4, k5⟩ := live_row hp1.rep hF hbb hL
        have hlen := vn.len
        have hnl := hs.newsLen
        have hmul : (sl + m) * siz e = sl * siz e + m * siz e := Nat.add_mul _ _ _
        have hnx2 : (wrO b .no (rd b g)).nx = g.nx := by rw [wrO_nx, rd_nx]
        by_cases hin : sl + m ≤ rc
        · -- there is room
          obtain rfl := v6 (.inr (by omega))
          have hrcm : (sl + m) * siz e ≤ rc * siz e := Nat.mul_le_mul_right _ hin
          have hth : w.there L.r (L.d + 0 + sl * siz e) news.length := there_of k1 (by rw [k2]; exact k4) (by rw [k2]; omega)
          obtain ⟨s1, s2, s3⟩ := setCells_block news w L.r (L.d + 0 + sl * siz e) rcs e' fz k1
          have hlt : g.nx < (newG (.c (sz + cs.length) (ptOf cs sz t)) (wrO b .no (rd b g))).nx := by show g.nx < Nat.succ _; rw [hnx2]; omega
          refine ⟨upd σ g.nx ⟨L.r, L.d, L.n⟩, .slice (some ⟨L.r, L.d + 0, none⟩) (sl + m) rc, _, step_alias (oo := .c (sz + cs.length) (ptOf cs sz t)) hp ((G1.trans G2).trans G3) hF hL (by rw [hbb]; simp) (fun c => ?_) (by show Nat.succ _ = _; rw [hnx2]) (G3.wt (wr_in b .no (rd b g))) (hbn hp hlt hL) s3 s2 rfl ⟨_, e', fz, s1, by rw [over_size]; exact k2, ?_, k4, fun j hj => ?_⟩, ?_, fun t2 => ?_⟩
          · exact grow_get _ _ _ _
          · show L.d + (sz + cs.length) ≤ L.n
            omega
          · show ∃ x, (Ev.over rcs (L.d + 0 + sl * siz e) news)[L.d + j]? = some x ∧ _
            rw [over_get _ _ _ _ (by omega), ptOf_get]
            have hle2 := upd_le (L := ⟨L.r, L.d, L.n⟩) (hp.free g.nx (Nat.le_refl _) hlt)
            by_cases hj2 : sz ≤ j
            · rw [if_pos (by omega), if_pos (by omega)]
              obtain ⟨x, hx, vx⟩ := vn.get (j - sz) (by omega)
              exact ⟨x, by rw [show L.d + j - (L.d + 0 + sl * siz e) = j - sz by omega]; exact hx, VR.mono hle2 _ _ vx⟩
            · rw [if_neg (by omega), if_neg (by omega)]
              obtain ⟨x, hx, vx⟩ := k5 j (by omega)
              exact ⟨x, hx, VR.mono hle2 _ _ vx⟩
          · rw [hnx2]
            simp only [VR]
            exact ⟨_, _, rc, upd_at _ _ _, rfl, Nat.le_refl _, hin, fun h0 => by simp at h0, rfl, fun _ => rfl, fun zz hz => by
              obtain rfl : zz = siz e := by omega
              exact hroom⟩
          · have hs' := hs
            rw [← hA.size] at hs'
            have := run_append_room_src w ty ty2 t2 e i hu hA.info L.r (L.d + 0) sl rc rx m news hs' hin
              (fun j hj => by rw [hA.size]; exact (hth j hj).1) (fun j hj => by rw [hA.size]; exact (hth j hj).2)
            rw [this, hA.size]
        · -- a new row
          have hp2 := hp.snd G1 st1
          have hp2a := hp2.fst G2 G3
          have st2 := step_kill hp2a
          have hp3 := hp2.snd G2 st2
          obtain ⟨rl, hl, hv, hra⟩ := range_of k1 k5 (show 0 + sz ≤ sz by omega) k2 k3
          obtain ⟨σ', s1, s2⟩ := grown_row (need := sl + m) (cap := grownCap w (sl + m) rc e) (all := rl ++ news) hA hp3 (by rw [List.length_append, hl, hnl]; omega) (grownCap_ge w _ _ e) (by rw [List.length_append, hl]; omega) (fun j hj => by
            rw [ptOf_get]
            by_cases hj2 : sz ≤ j
            · rw [if_pos (by omega), List.getElem?_append_right (by omega), hl]
              exact vn.get (j - sz) (by omega)
            · rw [if_neg (by omega), List.getElem?_append_left (by omega)]
              obtain ⟨x, hx, vx⟩ := hv.get j (by rw [takeC_len]; omega)
              rw [takeC_get _ _ _ _ (by omega)] at vx
              exact ⟨x, hx, by simpa using vx⟩)
          refine ⟨σ', _, _, (st1.trans (hp.fst (G1.trans G2) G3) G1 G2 st2).trans hp (G1.trans G2) G3 s1, s2, fun t2 => ?_⟩
          have hs' := hs
          rw [← hA.size] at hs'
          have hfc : (Builtin.firstCells i.size sl (.slice (some a) sl rc)).run PP w.drew = .ok rl.toArray w.drew := by
            refine run_firstCells_some w.drew i.size sl a sl rc rl (by rw [hl, hA.size]; omega) (fun j u hu2 => ?_)
            have hj : j < sz := by rw [← hl]; exact (List.getElem?_eq_some_iff.1 hu2).1
            have hrc0 : 0 < rc := by
              rcases Nat.eq_zero_or_pos rc with e0 | e0
              · have : sl = 0 := by omega
                subst this; simp at hsz; omega
              · exact e0
            obtain rfl := v6 (.inr hrc0)
            rw [Addr.add_mid]
            exact hra j u hu2
          exact run_append_grow_src w ty ty2 t2 e i z hu hA.info hA.zero (some a) sl rc rl hfc rx m news hs' (by omega) (by omega) (grow_lemma (_need := 0) (by omega) hb hA.bytes)
      · obtain ⟨sz', t', hbb', hle', h7⟩ := loadC_inv h6
        rw [hbb] at hbb'
        obtain ⟨rfl, rfl⟩ : sz = sz' ∧ t = t' := by injection hbb' with a1 a2; exact ⟨a1, a2⟩
        have h8 : newC (takeC t (sl * siz e) off ++ cs) (wrO b .no (rd b g)) (okL (siz e) (sl + m)) = .ok v g' := by rw [← appL_eq]; exact h7
        obtain ⟨rfl, rfl⟩ := okL_inv (newC_inv h8)
        have G1 := grow_rd b g
        have G2 := grow_wr b .no (rd b g) (by rw [rd_h, hbb]; simp)
        have G3 := grow_new (.c (takeC t (sl * siz e) off ++ cs).length (ptOf (takeC t (sl * siz e) off ++ cs) 0 .e)) (wrO b .no (rd b g))
        refine ⟨(G1.trans G2).trans G3, fun σ F w rs rx news hp vs vn hs => ?_⟩
        simp only [VR] at vs
        obtain ⟨L, a, rc, hL, rfl, v2, v3, v4, v5, v6, v7⟩ := vs
        have hroom := v7 _ rfl
        have hp1 := hp.fst G1 (G2.trans G3)
        have st1 := step_rd hp1
        have hF := hp1.cov b (.inl (rd_in b g))
        obtain ⟨rcs, e', fz, k1, k2, k3, k4, k5⟩ := live_row hp1.rep hF hbb hL
        have hlen := vn.len
        have hnl := hs.newsLen
        have hmul : (sl + m) * siz e = sl * siz e + m * siz e := Nat.add_mul _ _ _
        have hnx2 : (wrO b .no (rd b g)).nx = g.nx := by rw [wrO_nx, rd_nx]
        obtain ⟨rl, hl, hv, hra⟩ := range_of k1 k5 hle' k2 k3
        have hl : rl.length = sl * siz e := hl
        have va := hv.app vn
        have hvl := va.len
        by_cases hin : sl + m ≤ rc
        · obtain rfl := v6 (.inr (by omega))
          have hrcm : (sl + m) * siz e ≤ rc * siz e := Nat.mul_le_mul_right _ hin
          have hth : w.there L.r (L.d + off + sl * siz e) news.length := there_of k1 (by rw [k2]; exact k4) (by rw [k2]; omega)
          obtain ⟨s1, s2, s3⟩ := setCells_block news w L.r (L.d + off + sl * siz e) rcs e' fz k1
          have hlt : g.nx < (newG (.c (takeC t (sl * siz e) off ++ cs).length (ptOf (takeC t (sl * siz e) off ++ cs) 0 .e)) (wrO b .no (rd b g))).nx := by show g.nx < Nat.succ _; rw [hnx2]; omega
          have hcl : (takeC t (sl * siz e) off ++ cs).length = sl * siz e + m * siz e := by rw [List.length_append, takeC_len]; omega
          refine ⟨upd σ g.nx ⟨L.r, L.d + off, L.n⟩, .slice (some ⟨L.r, L.d + off, none⟩) (sl + m) rc, _, step_alias (oo := .c (takeC t (sl * siz e) off ++ cs).length (ptOf (takeC t (sl * siz e) off ++ cs) 0 .e)) hp ((G1.trans G2).trans G3) hF hL (by rw [hbb]; simp) (fun c => ?_) (by show Nat.succ _ = _; rw [hnx2]) (G3.wt (wr_in b .no (rd b g))) (hbn hp hlt hL) s3 s2 rfl ⟨_, e', fz, s1, by rw [over_size]; exact k2, ?_, k4, fun j hj => ?_⟩, ?_, fun t2 => ?_⟩
          · exact grow_get _ _ _ _
          · show L.d + off + (takeC t (sl * siz e) off ++ cs).length ≤ L.n
            omega
          · show ∃ x, (Ev.over rcs (L.d + off + sl * siz e) news)[L.d + off + j]? = some x ∧ _
            rw [ptOf_get, if_pos (show 0 ≤ j ∧ j < 0 + (takeC t (sl * siz e) off ++ cs).length by omega), over_get _ _ _ _ (by omega)]
            have hle2 := upd_le (L := ⟨L.r, L.d + off, L.n⟩) (hp.free g.nx (Nat.le_refl _) hlt)
            obtain ⟨x, hx, vx⟩ := va.get j hj
            refine ⟨x, ?_, by simpa using VR.mono hle2 _ _ vx⟩
            by_cases hj2 : sl * siz e ≤ j
            · rw [if_pos (by omega)]
              rw [List.getElem?_append_right (show rl.length ≤ j by omega), hl] at hx
              rw [show L.d + off + j - (L.d + off + sl * siz e) = j - sl * siz e by omega]; exact hx
            · rw [if_neg (by omega)]
              rw [List.getElem?_append_left (show j < rl.length by omega)] at hx
              rw [← cell_of k1]; exact hra j x hx
          · rw [hnx2]
            simp only [VR]
            exact ⟨_, _, rc, upd_at _ _ _, rfl, Nat.le_refl _, hin, fun h0 => by simp at h0, rfl, fun _ => rfl, fun zz hz => by
              obtain rfl : zz = siz e := by omega
              exact hroom⟩
          · have hs' := hs
            rw [← hA.size] at hs'
            have := run_append_room_src w ty ty2 t2 e i hu hA.info L.r (L.d + off) sl rc rx m news hs' hin
              (fun j hj => by rw [hA.size]; exact (hth j hj).1) (fun j hj => by rw [hA.size]; exact (hth j hj).2)
            rw [this, hA.size]
        · have hp2 := hp.snd G1 st1
          have hp2a := hp2.fst G2 G3
          have st2 := step_kill hp2a
          have hp3 := hp2.snd G2 st2
          obtain ⟨σ', s1, s2⟩ := grown_row (need := sl + m) (cap := grownCap w (sl + m) rc e) (all := rl ++ news) hA hp3 (by rw [List.length_append, hl, hnl]; omega) (grownCap_ge w _ _ e) (by rw [hvl]; exact Nat.le_refl _) (fun j hj => by
            obtain ⟨x, hx, vx⟩ := va.get j hj
            exact ⟨x, hx, by rw [ptOf_get, if_pos (by simpa using hj)]; simpa using vx⟩)
          refine ⟨σ', _, _, (st1.trans (hp.fst (G1.trans G2) G3) G1 G2 st2).trans hp (G1.trans G2) G3 s1, s2, fun t2 => ?_⟩
          have hs' := hs
          rw [← hA.size] at hs'
          have hfc : (Builtin.firstCells i.size sl (.slice (some a) sl rc)).run PP w.drew = .ok rl.toArray w.drew := by
            refine run_firstCells_some w.drew i.size sl a sl rc rl (by rw [hl, hA.size]) (fun j u hu2 => ?_)
            have hj : j < sl * siz e := by rw [← hl]; exact (List.getElem?_eq_some_iff.1 hu2).1
            have hrc0 : 0 < rc := by
              rcases Nat.eq_zero_or_pos rc with e0 | e0
              · have : sl = 0 := by omega
                subst this; simp at hj
              · exact e0
            obtain rfl := v6 (.inr hrc0)
            rw [Addr.add_mid]
            exact hra j u hu2
          exact run_append_grow_src w ty ty2 t2 e i z hu hA.info hA.zero (some a) sl rc rl hfc rx m news hs' (by omega) (by omega) (grow_lemma (_need := 0) (by omega) hb hA.bytes)
theorem xAppend_ok (hρ : Opq ρ) {tys : Array TypeId} {vs : List V} (h : xAppend tys.toList vs g = .ok v g') : BSim ρ .append tys vs g v g' := by
  unfold xAppend at h
  split at h
  · rename_i ty ty2 s x ht
    have ht : tys = #[ty, ty2] := by rw [← Array.toArray_toList (xs := tys), ht]
    split at h
    · rename_i e hu
      have hu := und_eq hu (by simp)
      obtain ⟨hA, h⟩ := cnd_inv h
      obtain ⟨hso, h⟩ := cnd_inv h
      obtain ⟨m, cs, g1, h, hsrc⟩ := srcC_inv h
      obtain ⟨hok, h⟩ := cnd_inv h
      have hA := apE_inv hρ hA
      obtain ⟨G1, _, _, hsr⟩ := src_ok hρ (ty2 := ty2) hso hsrc
      have fin : ASim ρ ty ty2 e s m cs g1 v g' := by
        cases s with
        | ln => exact app_nil hA hu h
        | l b off sl q ex => exact app_some hρ hok hA hu h
        | _ => exact (bad_ne (show RO.bad 107 = .ok v g' from h)).elim
      obtain ⟨G2, hf⟩ := fin
      refine ⟨G1.trans G2, fun σ F w A hp hv => ?_⟩
      obtain ⟨rs, rx, rfl, vs, vx⟩ := hv.two_
      obtain ⟨st1, news, vn, hs⟩ := hsr σ F w rx (hp.fst G1 G2) vx
      obtain ⟨σ', rv, w', st2, vv, hr⟩ := hf σ F w rs rx news (hp.snd G1 st1) vs vn (hs hok)
      refine ⟨σ', rv, w', st1.trans hp G1 G2 st2, vv, fun t cs => ?_⟩
      subst ht
      simp [builtin, hr t]
    · exact (bad_ne h).elim
  · exact (bad_ne h).elim
end
end Go.Ev
namespace Go.Ev
open Go
set_option maxRecDepth 100000
section
variable {ρ : Rho} {o : Oper} {n : Env} {g g' : G} {v : V} {call : Cl}
theorem erase_mid (rs : Array MapEntry) {pre post : List MapEntry} {e : MapEntry} (h : rs.toList = pre ++ e :: post) {j : Nat} (hj : j = pre.length) :
    (rs.eraseIdxIfInBounds j).toList = pre ++ post := by
  subst hj
  have hs : pre.length < rs.size := by rw [← Array.length_toList, h]; simp
  rw [Array.eraseIdxIfInBounds_eq, dif_pos hs, Array.toList_eraseIdx, h, List.eraseIdx_append_of_length_le (Nat.le_refl _), Nat.sub_self]
  rfl
theorem xDelete_ok {tys : Array TypeId} {vs : List V} (h : xDelete tys.toList vs g = .ok v g') : BSim ρ .delete tys vs g v g' := by
  unfold xDelete at h
  split at h
  · exact (bad_ne h).elim
  rename_i ty rest ht
  have ht := tys_head ht
  split at h
  · rename_i kt e r k hu
    have hu := und_eq hu (by simp)
    obtain ⟨es, hes, h⟩ := onMap_inv h
    split at h
    · rename_i q r' hq hm
      obtain ⟨rfl, rfl⟩ := ok_inj h
      refine ⟨grow_wr _ _ _ (by rw [hes]; simp), fun σ F w A hp hv => ?_⟩
      obtain ⟨rx, rk, rfl, vx, vk⟩ := hv.two_
      simp only [VR] at vx
      obtain ⟨L, hL, rfl⟩ := vx
      have hF : F r := hp.cov r (.inl ((wr_in r _ g).imp id .inr))
      obtain ⟨rs, ck, h1, h2, h3, h4⟩ := live_map hp.rep hF hes hL
      have hc' : ∀ b, (Instr.checkKey b 10000 kt rk).run PP w = .ok () w := fun b => run_checkKey hq vk b 9999 w
      have hud := keyEq_und hq
      have hr : L.r < w.heap.size := (Array.getElem?_eq_some_iff.1 h1).1
      have step : ∀ rs', ERs ρ σ (mDel (und kt) k es) (rs' : Array MapEntry).toList → (rs'.toList.map (·.born)).Nodup → (∀ e ∈ rs'.toList, e.born < ck) →
          Step ρ σ F g (wrO r (.m (mDel (und kt) k es)) g) w σ { w with heap := w.heap.setIfInBounds L.r (.map rs' ck) } := by
        intro rs' a1 a2 a3
        refine step_wr hp hL (by rw [hes]; simp) (by simp) (fun q hq' => ?_) ⟨rs', ck, ?_, a1, a2, a3⟩
        · simp [Ne.symm hq']
        · simp [hr]
      have setRun : ∀ rs', (setObj L.r (.map rs' ck)).run PP w = .ok () { w with heap := w.heap.setIfInBounds L.r (.map rs' ck) } := by
        intro rs'; simp [setObj, Sem.run, h1]
      rcases mFind_ok vk es rs.toList 0 r' h2 hm with ⟨rfl, e2, _, e4⟩ | ⟨z, j, re, pre, post, rpre, rpost, b, rfl, e2, f⟩
      · refine ⟨σ, undef, _, step rs (by rw [e4]; exact h2) h3 h4, vu, fun t cs => ?_⟩
        simp [builtin, Builtin.delete_, ht, run_underlying hu, run_getMap h1, hc', run_findKey hud e2, setRun, undef]
      · have hjj : j = rpre.length := by rw [f.fj, f.fpre.len]; omega
        have hmod := erase_mid rs f.frl hjj
        refine ⟨σ, undef, _, step (rs.eraseIdxIfInBounds j) (by rw [f.fdel, hmod]; exact ERs.app f.fpre f.fpost) ?_ ?_, vu, fun t cs => ?_⟩
        · rw [hmod]; rw [f.frl] at h3
          simp only [List.map_append, List.map_cons] at h3 ⊢
          exact (List.nodup_append.1 h3) |> fun ⟨a1, a2, a3⟩ => List.nodup_append.2 ⟨a1, (List.nodup_cons.1 a2).2, fun x hx y hy => a3 x hx y (List.mem_cons_of_mem _ hy)⟩
        · intro x hx
          rw [hmod] at hx
          refine h4 x ?_
          rw [f.frl]
          rcases List.mem_append.1 hx with h5 | h5
          · exact List.mem_append_left _ h5
          · exact List.mem_append_right _ (List.mem_cons_of_mem _ h5)
        · simp [builtin, Builtin.delete_, ht, run_underlying hu, run_getMap h1, hc', run_findKey hud e2, setRun, undef]
    · exact (bad_ne h).elim
  · exact (bad_ne h).elim
theorem firstC_inv {sz m : Nat} {x : V} {k : List V → G → RO} (h : firstC sz m x g k = .ok v g') : ∃ cs g1, k cs g1 = .ok v g' ∧
    ((∃ b off l q z, x = .l b off l q z ∧ ((m * sz = 0 ∧ cs = [] ∧ g1 = g) ∨ (∃ s t, getH g.h b = .c s t ∧ off + m * sz ≤ s ∧ cs = takeC t (m * sz) off ∧ g1 = rd b g))) ∨
     (x = .ln ∧ cs = [] ∧ g1 = g) ∨ (∃ l p, x = .s l p ∧ cs = bytesV m p ∧ g1 = g)) := by
  unfold firstC at h
  split at h
  · rename_i b off l q z
    rcases recN_inv (show @Nat.rec (fun _ => RO) (k [] g) (fun _ _ => loadC b off (Nat.mul m sz) g k) (m * sz) = .ok v g' from h) with ⟨h0, h1⟩ | ⟨h0, h1⟩
    · exact ⟨[], g, h1, .inl ⟨b, off, l, q, z, rfl, .inl ⟨h0, rfl, rfl⟩⟩⟩
    · obtain ⟨s, t, h2, h3, h4⟩ := loadC_inv h1
      exact ⟨_, _, h4, .inl ⟨b, off, l, q, z, rfl, .inr ⟨s, t, h2, h3, rfl, rfl⟩⟩⟩
  · exact ⟨[], g, h, .inr (.inl ⟨rfl, rfl, rfl⟩)⟩
  · rename_i l p; exact ⟨_, g, h, .inr (.inr ⟨l, p, rfl, rfl, rfl⟩)⟩
  · exact (bad_ne h).elim
theorem packV_ok {σ : Sg} : ∀ (l : List V) (rl : List Value) (m : Nat), packV l = some m → VRs ρ σ l rl → ∃ bs : List UInt8, rl = bs.map (fun b => Value.int .u8 (b.toNat : Int)) ∧ packL bs = m ∧ bs.length = l.length := by
  intro l
  induction l with
  | nil => intro rl m h hv; simp only [packV] at h; obtain rfl := Option.some.inj h; simp only [VRs] at hv; exact ⟨[], by simpa using hv, rfl, rfl⟩
  | cons a l ih =>
    intro rl m h hv
    simp only [VRs] at hv
    obtain ⟨b, t, rfl, h1, h2⟩ := hv
    unfold packV at h
    split at h
    · cases ‹_ :: _ = []›
    · rename_i a' l' heq
      cases heq
      split at h
      · rename_i mm hp hb
        obtain rfl := Option.some.inj h
        obtain ⟨bs, rfl, e1, e2⟩ := ih t mm hp h2
        simp only [VR] at h1
        have hb : a' ≤ 255 := Nat.le_of_ble_eq_true hb
        refine ⟨UInt8.ofNat a' :: bs, ?_, ?_, by simp [e2]⟩
        · rw [List.map_cons, h1]
          congr 2
          show Int.ofNat a' = _
          simp; omega
        · rw [packL_cons, e1]
          show _ = a' + 256 * mm
          simp; omega
      · cases h
    · cases h
theorem okS_inv {l : Nat} {m : Option Nat} (h : okS l m g = .ok v g') : ∃ p, m = some p ∧ v = .s l p ∧ g' = g := by
  unfold okS at h
  split at h
  · rw [fcN_eq] at h; obtain ⟨rfl, rfl⟩ := ok_inj h; exact ⟨_, rfl, rfl, rfl⟩
  · exact (bad_ne h).elim
end
end Go.Ev
namespace Go.Ev
open Go
set_option maxRecDepth 100000
section
variable {ρ : Rho} {o : Oper} {n : Env} {g g' : G} {v : V} {call : Cl}
theorem isB_inv {ty : Nat} (h : isB ty = true) : ∃ e, PP.underlying ty = some (.slice e) ∧ PP.underlying e = some (.int .u8) := by
  unfold isB at h
  split at h
  · rename_i e hu
    split at h
    · rename_i he; exact ⟨e, und_eq hu (by simp), und_eq he (by simp)⟩
    · cases h
  · cases h
/-- a block's frozen end -/
theorem freeze_end {σ : Sg} {F : Nat → Prop} {w : World} {b sz : Nat} {t : PT V} {L : Loc} (hp : Pre ρ σ F g (wrO b (.c sz t) g) w) (hb : getH g.h b = .c sz t) (hL : σ b = some L) :
    ∃ w', Step ρ σ F g (wrO b (.c sz t) g) w σ w' ∧ ∀ a : Addr, a.block = L.r → (markStringish a).run PP w = .ok () w' := by
  have hF : F b := hp.cov b (.inl ((wr_in b _ g).imp id .inr))
  obtain ⟨rc, e, fz, h1, h2, h3, h4, h5⟩ := live_row hp.rep hF hb hL
  have hr : L.r < w.heap.size := (Array.getElem?_eq_some_iff.1 h1).1
  refine ⟨w.freeze ⟨L.r, L.n, none⟩ 1, step_wr hp hL (by rw [hb]; simp) ?_ (fun r hne => ?_) ⟨rc, e, (if fz.1 == fz.2 then (L.n, L.n + 1) else (min fz.1 L.n, max fz.2 (L.n + 1))), ?_, h2, h3, .inr ?_, h5⟩, fun a ha => ?_⟩
  · simp [World.freeze]
  · simp [World.freeze, Array.getElem?_modify, Ne.symm hne]
  · obtain ⟨lo, hi⟩ := fz
    simp [World.freeze, Array.getElem?_modify, h1]
  · split
    · exact Nat.le_refl _
    · rename_i hne
      rcases h4 with h4 | h4
      · simp [h4] at hne
      · show L.n ≤ min fz.1 L.n; omega
  · have hs : w.shape? a.block = some (e, rc.size) := by unfold World.shape?; rw [ha, h1]
    rw [ha] at hs
    simp [markStringish, hs, h2, ha]
theorem conv_int {src dst : Nat} {d : TypeDesc} {k j : IntKind} {m : Int} (hs : PP.underlying src = some d) (hd : PP.underlying dst = some (.int k)) (w : World) :
    (convert src dst (.int j m)).run PP w = .ok (.int k (k.wrap m)) w := by
  unfold convert
  rw [Sem.run_bind, run_underlying hs, Result.andThen_ok, Sem.run_bind, run_underlying hd, Result.andThen_ok]
  cases d <;> rfl
theorem conv_str {src dst : Nat} {d : TypeDesc} {s : ByteArray} (hs : PP.underlying src = some d) (hd : PP.underlying dst = some .string) (w : World) :
    (convert src dst (.string s)).run PP w = .ok (.string s) w := by
  unfold convert
  rw [Sem.run_bind, run_underlying hs, Result.andThen_ok, Sem.run_bind, run_underlying hd, Result.andThen_ok]
  cases d <;> rfl
theorem conv_sl {src e _f : Nat} {a : Addr} {m c : Nat} (hs : PP.underlying src = some (.slice e)) (he : PP.underlying e = some (.int .u8)) {w w' : World} (hm : (markStringish a).run PP w = .ok () w') :
    (convert src src (.slice (some a) m c)).run PP w = .ok (.slice (some a) m c) w' := by
  simp [convert, run_underlying hs, run_underlying he, hm]
theorem bytes_fold (bs : List UInt8) : (bs.map fun b => (b.toNat : Int)).foldl (fun r n => r.push (UInt8.ofNat n.toNat)) ByteArray.empty = ⟨bs.toArray⟩ := by
  rw [foldl_push_byteCells]
  have he0 : ByteArray.empty.data = #[] := rfl
  rw [he0]; simp
theorem isPz_inv {ty : Nat} (h : isPz ty = true) : ∃ e, PP.underlying ty = some (.pointer e) ∧ siz e ≠ 0 ∧ PP.underlying e = some (und e) := by
  unfold isPz at h
  split at h
  · rename_i e hu
    split at h
    · rename_i h1 h2
      have h2 := Nat.le_of_ble_eq_true h2
      exact ⟨e, und_eq hu (by simp), by omega, kn_und h1⟩
    · cases h
  · cases h
theorem conv_un {src dst e r off : Nat} {d : TypeDesc} {cs : Array Value} {e' : TypeId} {fz : Nat × Nat} {w : World} (hs : PP.underlying src = some (.pointer e)) (hd : PP.underlying dst = some .unsafePointer)
    (hke : PP.underlying e = some d) (hz : siz e ≠ 0) (h1 : w.heap[r]? = some (.cells cs e' fz)) (hlt : off < cs.size) :
    (convert src dst (.pointer (some ⟨r, off, none⟩))).run PP w = .ok (.pointer (some ⟨r, off, none⟩)) w := by
  have hsh : w.shape? r = some (e', cs.size) := by unfold World.shape?; rw [h1]
  have hv : (viewAt r).run PP w = .ok none w := by simp [viewAt, hsh]
  have hc : (cellsIn r).run PP w = .ok (some cs.size) w := by simp [cellsIn, hsh]
  have hse : (Conv.seenAt ⟨r, off, none⟩).run PP w = .ok ⟨r, off, none⟩ w := by simp [Conv.seenAt, hv]
  have hsz := run_sizK hke w
  have : ¬ cs.size ≤ off := by omega
  simp [convert, run_underlying hs, run_underlying hd, Conv.unsafePointer, hse, hc, hsz, hz, this]
theorem xConv_ok {src dst : Nat} {x : Operand} (ho : o.op = .convert src dst x) (h : xConv src dst x call n g = .ok v g') : OpSim ρ o n g v g' := by
  obtain ⟨hk, h⟩ := cnd_inv h
  have hs := kn_und hk
  split at h
  · rename_i k j m hd hx
    have hd := und_eq hd (by simp)
    obtain ⟨rfl, rfl⟩ := okI_inv h
    refine pure_sim fun σ a w he => ?_
    have vx := ev_ok he x; rw [hx] at vx; simp only [VR] at vx
    exact ⟨_, vi, by simp only [execOp, ho]; refine run_v ?_; rw [vx]; exact conv_int hs hd w⟩
  · rename_i l m hd hx
    have hd := und_eq hd (by simp)
    obtain ⟨rfl, rfl⟩ := ok_inj h
    refine pure_sim fun σ a w he => ?_
    have vx := ev_ok he x; rw [hx] at vx
    refine ⟨_, vx, ?_⟩
    simp only [VR] at vx
    obtain ⟨bs, vx, _⟩ := vx
    simp only [execOp, ho]; refine run_v ?_; rw [vx]; exact conv_str hs hd w
  · rename_i e l m hd hx
    obtain ⟨hB, h⟩ := cnd_inv h
    obtain ⟨e', hd, he'⟩ := isB_inv hB
    obtain ⟨rfl, rfl⟩ := ok_inj (newC_inv h)
    refine heap_sim (grow_new _ _) fun σ F a w hp he => ?_
    have vx := ev_ok he x; rw [hx] at vx; simp only [VR] at vx
    obtain ⟨bs, vx, v1, v2⟩ := vx
    have hbv := bytesV_ok (ρ := ρ) (σ := upd σ g.nx ⟨w.heap.size, 0, (Lib.bytesCells w e' bs).size⟩) bs.data.toList
    rw [v1, v2] at hbv
    have hsz : bs.size = l := v1
    have hge := grownCap_ge w bs.size 0 e'
    have hcs : (Lib.bytesCells w e' bs).size = grownCap w bs.size 0 e' := by
      have : bs.data.size = bs.size := rfl
      simp [Lib.bytesCells, this]; omega
    have hbl : (bytesV l m).length = l := by rw [← hbv.len]; simp [← v1]
    refine ⟨_, .slice (some ⟨w.heap.size, 0, none⟩) bs.size (grownCap w bs.size 0 e'), Lib.bytesWorld w e' bs, step_new (N := (Lib.bytesCells w e' bs).size) hp (Lib.bytesWorld_size _ _ _) (fun r hr => Lib.bytesWorld_at_old _ _ _ _ hr) ⟨_, e', _, Lib.bytesWorld_at_new w e' bs, rfl, ?_, .inr (Nat.le_refl _), fun i hi => ?_⟩, ?_, .inl ?_⟩
    · show 0 + (bytesV l m).length ≤ (Lib.bytesCells w e' bs).size
      rw [hbl, hcs]; omega
    · obtain ⟨y, hy, vy⟩ := hbv.get i hi
      refine ⟨y, ?_, ?_⟩
      · show (Lib.bytesCells w e' bs)[0 + i]? = some y
        rw [hbl] at hi
        have : i < bs.data.size := by have : bs.data.size = bs.size := rfl; omega
        rw [Nat.zero_add, Lib.bytesCells, Array.getElem?_append_left (by simpa using this)]
        simpa using hy
      · rw [ptOf_get]
        simpa [hi] using vy
    · simp only [VR]
      exact ⟨_, _, grownCap w bs.size 0 e', upd_at _ _ _, by rw [hsz], Nat.le_refl _, by omega, fun h => by simp at h, rfl, fun _ => rfl, fun zz hz => by
        obtain rfl : zz = 1 := by omega
        show 0 + 0 + grownCap w bs.size 0 e' * 1 ≤ (Lib.bytesCells w e' bs).size
        rw [hcs]; omega⟩
    · simp only [execOp, ho]; refine run_v ?_; rw [vx]; exact Lib.run_convert_string_bytes w src dst e' bs hs hd he'
  · rename_i hd hx
    have hd := und_eq hd (by simp)
    obtain ⟨hB, h⟩ := cnd_inv h
    obtain ⟨e', hs', he'⟩ := isB_inv hB
    obtain ⟨rfl, rfl⟩ := ok_inj h
    refine pure_sim fun σ a w he => ?_
    have vx := ev_ok he x; rw [hx] at vx; simp only [VR] at vx
    refine ⟨.string .empty, by simp only [VR]; exact ⟨_, rfl, rfl, rfl⟩, ?_⟩
    simp only [execOp, ho]; refine run_v ?_; rw [vx, run_convert_bytes_string w src dst e' none 0 0 hs' he' hd]
    simp [Conv.bytesToString]
  · rename_i b off m q z hd hx
    have hd := und_eq hd (by simp)
    obtain ⟨hB, h⟩ := cnd_inv h
    obtain ⟨e', hs', he'⟩ := isB_inv hB
    rcases recN_inv (show @Nat.rec (fun _ => RO) (RO.ok (.s 0 0) g) (fun _ _ => loadC b off m g fun cs g => okS m (packV cs) g) m = .ok v g' from h) with ⟨rfl, h⟩ | ⟨h0, h⟩
    · obtain ⟨rfl, rfl⟩ := ok_inj h
      refine pure_sim fun σ a w he => ?_
      have vx := ev_ok he x; rw [hx] at vx; simp only [VR] at vx
      obtain ⟨L, ad, rc, hL, vx, _⟩ := vx
      refine ⟨.string .empty, by simp only [VR]; exact ⟨_, rfl, rfl, rfl⟩, ?_⟩
      have := run_convert_bytes_back (P := PP) w src dst e' ad rc [] hs' he' hd (fun j hj => by simp at hj)
      simp only [execOp, ho]; refine run_v ?_; rw [vx]; exact this
    · obtain ⟨s, t, h1, h2, h3⟩ := loadC_inv h
      obtain ⟨p, h4, rfl, rfl⟩ := okS_inv h3
      refine heap_sim (grow_rd _ _) fun σ F a w hp he => ?_
      have vx := ev_ok he x; rw [hx] at vx; simp only [VR] at vx
      obtain ⟨L, ad, rc, hL, vx, v2, v3, v4, v5, v6, v7⟩ := vx
      obtain ⟨rcs, e, fz, k1, k2, k3, k4, k5⟩ := live_row hp.rep (hp.cov b (.inl (rd_in b g))) h1 hL
      obtain ⟨rl, hl, hv, hra⟩ := range_of k1 k5 h2 k2 k3
      obtain ⟨bs, e1, e2, e3⟩ := packV_ok _ _ _ h4 hv
      have hbl : bs.length = m := by rw [e3, takeC_len]
      obtain rfl := v6 (.inr (by omega))
      have hb := run_convert_bytes_back (P := PP) w src dst e' ⟨L.r, L.d + off, none⟩ rc bs hs' he' hd (fun j hj => by
        rw [Addr.add_mid]
        refine hra j _ ?_
        rw [e1]; simp [hj])
      rw [hbl] at hb
      refine ⟨σ, .string ⟨bs.toArray⟩, w, step_rd hp, ?_, .inl ?_⟩
      · simp only [VR]; exact ⟨_, rfl, by simpa using hbl, by simpa using e2⟩
      · simp only [execOp, ho]; refine run_v ?_; rw [vx]; exact hb
  · rename_i e b off m q z hd hx
    obtain ⟨hB, h⟩ := cnd_inv h
    obtain ⟨hE, h4⟩ := cnd_inv h
    have hE := Nat.eq_of_beq_eq_true hE
    subst hE
    obtain ⟨e', hs', he'⟩ := isB_inv hB
    obtain ⟨sz, t, hb, h5⟩ := elO_inv h4
    obtain ⟨rfl, rfl⟩ := ok_inj h5
    refine heap_sim (grow_wr _ _ _ (by rw [hb]; simp)) fun σ F a w hp he => ?_
    have vx := ev_ok he x; rw [hx] at vx
    have vx' := vx
    simp only [VR] at vx
    obtain ⟨L, ad, rc, hL, vx, v2, v3, v4, v5, v6, v7⟩ := vx
    obtain ⟨w', s1, s2⟩ := freeze_end hp hb hL
    refine ⟨σ, _, w', s1, vx', .inl ?_⟩
    simp only [execOp, ho]; refine run_v ?_; rw [vx]
    exact conv_sl (_f := 0) hs' he' (s2 _ v5)
  · rename_i b off hd hx
    have hd := und_eq hd (by simp)
    obtain ⟨hP, h4⟩ := cnd_inv h
    obtain ⟨e, hs', hz, hke⟩ := isPz_inv hP
    obtain ⟨sz, t, hb, h5⟩ := elO_inv h4
    obtain ⟨hlt, h6⟩ := cnd_inv h5
    have hlt : off + 1 ≤ sz := Nat.le_of_ble_eq_true hlt
    obtain ⟨rfl, rfl⟩ := ok_inj h6
    refine heap_sim (grow_rd _ _) fun σ F a w hp he => ?_
    have vx := ev_ok he x; rw [hx] at vx
    simp only [VR] at vx
    obtain ⟨L, hL, vx⟩ := vx
    obtain ⟨rcs, e', fz, k1, k2, k3, k4, k5⟩ := live_row hp.rep (hp.cov b (.inl (rd_in b g))) hb hL
    refine ⟨σ, .pointer (some ⟨L.r, L.d + off, none⟩), w, step_rd hp, by simp only [VR]; exact ⟨L, hL, rfl⟩, .inl ?_⟩
    · simp only [execOp, ho]; refine run_v ?_; rw [vx]
      exact conv_un hs' hd hke hz k1 (by omega)
  · exact (bad_ne h).elim
end
end Go.Ev
namespace Go.Ev
open Go
set_option maxRecDepth 100000
section
variable {ρ : Rho} {o : Oper} {n : Env} {g g' : G} {v : V} {call : Cl}
theorem xMakeSlice_ok (hρ : Opq ρ) {ty : Nat} {x y : Operand} (ho : o.op = .makeSlice ty x y) (h : xMakeSlice ty x y call n g = .ok v g') : OpSim ρ o n g v g' := by
  unfold xMakeSlice at h
  split at h
  · rename_i e k1 m k2 q hu hx hy
    have hu := und_eq hu (by simp)
    obtain ⟨hA, h⟩ := cnd_inv h
    obtain ⟨h1, h⟩ := cnd_inv h
    obtain ⟨h2, h⟩ := cnd_inv h
    have h1 := Nat.le_of_ble_eq_true h1
    have h2 : q ≤ 1048576 := Nat.le_of_ble_eq_true h2
    obtain ⟨rfl, rfl⟩ := ok_inj (newC_inv h)
    have hA' := hA
    obtain ⟨i, z, hA⟩ := apE_inv hρ (show apE e = true from hA)
    have hz : ∀ σ, VRs ρ σ (zcs e) z.cells.toList := fun σ => by
      unfold apZ at hA'
      split at hA'
      · split at hA'
        · rename_i h1 h2 h3 h4
          obtain ⟨i', z', hi', hz', he, hT⟩ := kz_inv h1
          rw [hA.info] at hi'; obtain rfl := Option.some.inj hi'
          rw [hA.zero] at hz'; obtain rfl := Option.some.inj hz'
          exact zcs_ok hρ he hT σ
        · cases hA'
      · cases hA'
    refine heap_sim (grow_new _ _) fun σ F a w hp he => ?_
    have vx := ev_ok he x; rw [hx] at vx; simp only [VR] at vx
    have vy := ev_ok he y; rw [hy] at vy; simp only [VR] at vy
    have hzz := zeros_ok (hz σ) q
    have hzl : (zcs e).length = siz e := by rw [← (hz σ).len, Array.length_toList, hA.cells]
    have hb : i.bytes * q ≤ 281474976710656 := Nat.le_trans (Nat.mul_le_mul hA.bytes h2) (by decide)
    have hr := run_make (P := PP) w ty e i z hu hA.info hA.zero k1 k2 (Int.ofNat m) (Int.ofNat q) (Int.natCast_nonneg m) (by exact Int.ofNat_le.2 h1) (by
      have : ((i.bytes * q : Nat) : Int) ≤ 281474976710656 := by omega
      rwa [Int.natCast_mul] at this) (by have : ((q : Nat) : Int) ≤ 1048576 := by omega
                                         show ((q : Nat) : Int) ≤ _; omega)
    refine ⟨_, .slice (some ⟨w.heap.size, 0, none⟩) m q, _, step_row (e := e) hp hzz, ?_, .inl ?_⟩
    · simp only [VR]
      exact ⟨_, _, q, upd_at _ _ _, rfl, h1, Nat.le_refl _, fun _ => rfl, rfl, fun _ => rfl, fun z hz => by simp at hz⟩
    · simp only [execOp, ho]
      refine run_v ?_
      rw [vx, vy, hzl, ← hA.size]
      exact hr
  · exact (bad_ne h).elim
theorem lenV_run {σ : Sg} {x : V} {m : Nat} {rx : Value} (h : lenV x = some m) (vx : VR ρ σ x rx) (w : World) : (Builtin.lenOf rx).run PP w = .ok m w := by
  unfold lenV at h
  split at h
  · obtain rfl := Option.some.inj h
    simp only [VR] at vx
    obtain ⟨L, ad, rc, hL, rfl, _⟩ := vx; rfl
  · obtain rfl := Option.some.inj h
    simp only [VR] at vx; subst vx; rfl
  · obtain rfl := Option.some.inj h
    simp only [VR] at vx
    obtain ⟨bs, rfl, e, _⟩ := vx
    have : bs.size = _ := e
    rw [← this]; rfl
  · cases h
theorem bytesV_take {σ : Sg} : ∀ (l : List UInt8) (k : Nat), k ≤ l.length → VRs ρ σ (bytesV k (packL l)) ((l.take k).map fun b => Value.int .u8 (b.toNat : Int)) := by
  intro l
  induction l with
  | nil => intro k hk; obtain rfl : k = 0 := by simpa using hk
           show VRs ρ σ [] []
           simp [VRs]
  | cons a l ih =>
    intro k hk
    cases k with
    | zero => show VRs ρ σ [] []; simp [VRs]
    | succ k =>
      have ha := a.toNat_lt
      show VRs ρ σ (.i .u8 (.ofNat (Nat.mod (packL (a :: l)) 256)) :: bytesV k (Nat.div (packL (a :: l)) 256)) _
      have h1 : Nat.mod (packL (a :: l)) 256 = a.toNat := by show packL (a :: l) % 256 = _; rw [packL_cons]; omega
      have h2 : Nat.div (packL (a :: l)) 256 = packL l := by show packL (a :: l) / 256 = _; rw [packL_cons]; omega
      rw [h1, h2]
      simp only [VRs, List.map_cons, List.take_succ_cons]
      exact ⟨_, _, rfl, by simp only [VR]; rfl, ih k (by simpa using hk)⟩
theorem first_ok {sz k m : Nat} {x : V} {cs : List V} {g1 : G} (hm : lenV x = some m) (hk : k ≤ m)
    (h : (∃ b off l q z, x = .l b off l q z ∧ ((k * sz = 0 ∧ cs = [] ∧ g1 = g) ∨ (∃ s t, getH g.h b = .c s t ∧ off + k * sz ≤ s ∧ cs = takeC t (k * sz) off ∧ g1 = rd b g))) ∨
     (x = .ln ∧ cs = [] ∧ g1 = g) ∨ (∃ l p, x = .s l p ∧ cs = bytesV k p ∧ g1 = g)) :
    Grow g g1 ∧ g1.h = g.h ∧ (k = 0 → cs = []) ∧ ∀ σ F w rx, Pre ρ σ F g g1 w → VR ρ σ x rx → Step ρ σ F g g1 w σ w ∧ ∃ news, VRs ρ σ cs news ∧ (Builtin.firstCells sz k rx).run PP w = .ok news.toArray w := by
  have hnil : ∀ (a : Addr) (w : World), (loadCells a 0).run PP w = .ok #[] w := fun a w => by simpa using run_loadCells_list (P := PP) w a [] (by simp)
  rcases h with ⟨b, off, l, q, z, rfl, h⟩ | ⟨rfl, rfl, rfl⟩ | ⟨l, p, rfl, rfl, rfl⟩
  · obtain rfl : l = m := Option.some.inj hm
    rcases h with ⟨h0, rfl, rfl⟩ | ⟨s, t, h1, h2, rfl, rfl⟩
    · refine ⟨.refl _, rfl, fun _ => rfl, fun σ F w rx hp vx => ⟨.refl hp, [], by simp [VRs], ?_⟩⟩
      simp only [VR] at vx
      obtain ⟨L, ad, rc, hL, rfl, _⟩ := vx
      show (loadCells ad (k * sz)).run PP w = _
      rw [h0]; exact hnil _ _
    · refine ⟨grow_rd _ _, rd_h _ _, fun e => by subst e; rw [Nat.zero_mul]; rfl, fun σ F w rx hp vx => ⟨step_rd hp, ?_⟩⟩
      simp only [VR] at vx
      obtain ⟨L, ad, rc, hL, rfl, v2, v3, v4, v5, v6, v7⟩ := vx
      obtain ⟨rcs, e, fz, k1, k2, k3, k4, k5⟩ := live_row hp.rep (hp.cov b (.inl (rd_in b g))) h1 hL
      obtain ⟨rl, hl, hv, hra⟩ := range_of k1 k5 h2 k2 k3
      refine ⟨rl, hv, ?_⟩
      show (loadCells ad (k * sz)).run PP w = _
      by_cases h0 : k * sz = 0
      · have : rl = [] := List.length_eq_zero_iff.1 (hl.trans h0)
        rw [h0, this]; exact hnil _ _
      · have hm : 0 < k := by
          rcases Nat.eq_zero_or_pos k with e0 | e0
          · subst e0; simp at h0
          · exact e0
        obtain rfl := v6 (.inr (by omega))
        rw [← hl]
        exact run_loadCells_list (P := PP) w _ rl fun j u hu => by rw [Addr.add_mid]; exact hra j u hu
  · obtain rfl : m = 0 := (Option.some.inj hm).symm
    refine ⟨.refl _, rfl, fun _ => rfl, fun σ F w rx hp vx => ⟨.refl hp, [], by simp [VRs], ?_⟩⟩
    simp only [VR] at vx; subst vx; rfl
  · obtain rfl : l = m := Option.some.inj hm
    refine ⟨.refl _, rfl, fun e => by subst e; rfl, fun σ F w rx hp vx => ⟨.refl hp, ?_⟩⟩
    simp only [VR] at vx
    obtain ⟨bs, rfl, v1, v2⟩ := vx
    refine ⟨_, by rw [← v2]; exact bytesV_take bs.data.toList k (by omega), ?_⟩
    show Result.ok ((bs.extract 0 k).data.map fun b => Value.int .u8 b.toNat) w = _
    congr 1
    apply Array.ext'
    simp [ByteArray.data_extract]
theorem xCopy_ok (hρ : Opq ρ) {tys : Array TypeId} {vs : List V} (h : xCopy tys.toList vs g = .ok v g') : BSim ρ .copy tys vs g v g' := by
  unfold xCopy at h
  split at h
  · rename_i ty rest d x ht
    have ht := tys_head ht
    split at h
    · rename_i e m1 m2 hu hd hx
      have hu := und_eq hu (by simp)
      obtain ⟨hA, h⟩ := cnd_inv h
      rw [fcN_eq] at h
      obtain ⟨i, z, hA⟩ := apE_inv hρ hA
      obtain ⟨cs, g1, h7, hf⟩ := firstC_inv h
      clear h
      have hmin : cndN (Nat.ble m2 m1) m2 m1 = Nat.min m2 m1 := by
        cases hb : Nat.ble m2 m1 with
        | true => have := Nat.le_of_ble_eq_true hb; show m2 = min m2 m1; omega
        | false => have : ¬ m2 ≤ m1 := fun hh => by rw [Nat.ble_eq_true_of_le hh] at hb; cases hb
                   show m1 = min m2 m1; omega
      rw [hmin] at h7 hf
      have hle2 : Nat.min m2 m1 ≤ m2 := Nat.min_le_left _ _
      have hle1 : Nat.min m2 m1 ≤ m1 := Nat.min_le_right _ _
      generalize hK : Nat.min m2 m1 = k at h7 hf hle1 hle2
      obtain ⟨G1, hg1, hc0, hst⟩ := first_ok (ρ := ρ) hx hle2 hf
      have hsz : ∀ w, (sizeOf e).run PP w = .ok (siz e) w := fun w => by simp [sizeOf, typeInfo, hA.info, hA.size]
      have body : ∀ {rd rx : Value} {news : List Value} {w w' : World} {base : Option Addr} {c : Nat}, rd = .slice base m1 c → (Builtin.lenOf rx).run PP w = .ok m2 w → (Builtin.firstCells (siz e) k rx).run PP w = .ok news.toArray w →
          (∀ a, base = some a → (storeCells a news).run PP w = .ok () w') → (base = none → w' = w) → ∀ t cc, (builtin .copy tys t cc #[rd, rx]).run PP w = .ok (.value (.int .i64 (Int.ofNat k))) w' := by
        intro rd rx news w w' base c e1 e2 e3 e4 e5 t cc
        subst e1
        cases base with
        | none => obtain rfl := e5 rfl; simp [builtin, Builtin.copy_, ht, run_underlying hu, e2, hsz, hK, e3, goInt]
        | some a => simp [builtin, Builtin.copy_, ht, run_underlying hu, e2, hsz, hK, e3, goInt, e4 a rfl]
      split at h7
      · rename_i b off l q zz
        obtain rfl : l = m1 := Option.some.inj hd
        rcases recN_inv (show @Nat.rec (fun _ => RO) (okN k g1) (fun _ _ => storeC b off cs g1 (okN k)) k = .ok v g' from h7) with ⟨h0, h⟩ | ⟨h0, h⟩
        · obtain ⟨rfl, rfl⟩ := ok_inj h
          refine ⟨G1, fun σ F w A hp hv => ?_⟩
          obtain ⟨rd', rx, rfl, vd, vx⟩ := hv.two_
          obtain ⟨st1, news, vn, hr⟩ := hst σ F w rx hp vx
          have hn : news = [] := by have := vn.len; rw [hc0 h0] at this; exact List.length_eq_zero_iff.1 this
          subst hn
          simp only [VR] at vd
          obtain ⟨L, ad, rc, hL, vd, _⟩ := vd
          exact ⟨σ, _, w, st1, vi, body vd (lenV_run hx vx w) hr (fun a _ => rfl) (fun _ => rfl)⟩
        · obtain ⟨s, t, hb, hle, hok, h⟩ := storeC_inv h
          obtain ⟨rfl, rfl⟩ := ok_inj h
          refine ⟨G1.trans (grow_wr _ _ _ (by rw [hb]; simp)), fun σ F w A hp hv => ?_⟩
          obtain ⟨rd', rx, rfl, vd, vx⟩ := hv.two_
          obtain ⟨st1, news, vn, hr⟩ := hst σ F w rx (hp.fst G1 (grow_wr _ _ _ (by rw [hb]; simp))) vx
          simp only [VR] at vd
          obtain ⟨L, ad, rc, hL, vd, v2, v3, v4, v5, v6, v7⟩ := vd
          obtain rfl := v6 (.inr (by omega))
          obtain ⟨st2, hth⟩ := step_store (hp.snd G1 st1) hb hL hle vn
          exact ⟨σ, _, _, st1.trans hp G1 (grow_wr _ _ _ (by rw [hb]; simp)) st2, vi, body vd (lenV_run hx vx w) hr (fun a ha => by obtain rfl := Option.some.inj ha; exact run_storeCells_at _ _ _ _ hth (vn.one hρ hok)) (fun hh => by cases hh)⟩
      · obtain rfl : 0 = m1 := Option.some.inj hd
        obtain ⟨rfl, rfl⟩ := ok_inj h7
        refine ⟨G1, fun σ F w A hp hv => ?_⟩
        obtain ⟨rd', rx, rfl, vd, vx⟩ := hv.two_
        obtain ⟨st1, news, vn, hr⟩ := hst σ F w rx hp vx
        simp only [VR] at vd
        exact ⟨σ, _, w, st1, vi, body vd (lenV_run hx vx w) hr (fun a ha => by cases ha) (fun _ => rfl)⟩
      · exact (bad_ne h7).elim
    · exact (bad_ne h).elim
  · exact (bad_ne h).elim
end
end Go.Ev
namespace Go.Ev
open Go
set_option maxRecDepth 100000
section
variable {ρ : Rho} {o : Oper} {n : Env} {g g' : G} {v : V} {call : Cl}
theorem apE_zcs (hρ : Opq ρ) {e : Nat} {i : TypeInfo} {z : Value} (h : apE e = true) (hA : ApE e i z) : ∀ σ, VRs ρ σ (zcs e) z.cells.toList := fun σ => by
  have hA' : apZ e = true := h
  unfold apZ at hA'
  split at hA'
  · split at hA'
    · rename_i h1 h2 h3 h4
      obtain ⟨i', z', hi', hz', he, hT⟩ := kz_inv h1
      rw [hA.info] at hi'; obtain rfl := Option.some.inj hi'
      rw [hA.zero] at hz'; obtain rfl := Option.some.inj hz'
      exact zcs_ok hρ he hT σ
    · cases hA'
  · cases hA'
theorem xClear_ok (hρ : Opq ρ) {tys : Array TypeId} {vs : List V} (h : xClear tys.toList vs g = .ok v g') : BSim ρ .clear tys vs g v g' := by
  unfold xClear at h
  split at h
  · rename_i ty x ht
    have ht := tys_head ht
    split at h
    · rename_i e b off m q zz hu
      have hu := und_eq hu (by simp)
      obtain ⟨hA, h⟩ := cnd_inv h
      have hA' := hA
      obtain ⟨i, z, hA⟩ := apE_inv hρ hA
      have hz := apE_zcs hρ hA' hA
      rcases recN_inv (show @Nat.rec (fun _ => RO) (RO.ok unitV g) (fun _ _ => storeC b off (rep (zcs e) m) g okU) m = .ok v g' from h) with ⟨rfl, h7⟩ | ⟨h0, h7⟩
      · obtain ⟨rfl, rfl⟩ := ok_inj h7
        refine bsim_pure fun σ w A hv => ?_
        obtain ⟨rx, rfl, vx⟩ := hv.one_
        simp only [VR] at vx
        obtain ⟨L, ad, rc, hL, rfl, _⟩ := vx
        exact ⟨undef, vu, fun t cs => by simp [builtin, Builtin.clear_, ht, run_underlying hu, undef]⟩
      · obtain ⟨s, t, hb, hle, hok, h8⟩ := storeC_inv h7
        obtain ⟨rfl, rfl⟩ := ok_inj (show RO.ok unitV _ = .ok v g' from h8)
        refine ⟨grow_wr _ _ _ (by rw [hb]; simp), fun σ F w A hp hv => ?_⟩
        obtain ⟨rx, rfl, vx⟩ := hv.one_
        simp only [VR] at vx
        obtain ⟨L, ad, rc, hL, rfl, v2, v3, v4, v5, v6, v7⟩ := vx
        obtain rfl := v6 (.inr (by omega))
        have hzz := zeros_ok (hz σ) m
        have hzl : (zcs e).length = z.cells.size := by rw [← (hz σ).len, Array.length_toList]
        rw [hzl] at hzz
        obtain ⟨st, hth⟩ := step_store hp hb hL hle hzz
        have hr := run_storeCells_at _ _ _ _ hth (hzz.one hρ hok)
        refine ⟨σ, undef, _, st, vu, fun t cs => ?_⟩
        have hzv : (zeroValue e).run PP w = .ok z w := run_zero hA.info hA.zero w
        cases m with
        | zero => exact absurd rfl h0
        | succ m => 
          have hr' : (storeCells ⟨L.r, L.d + off, none⟩ (Builtin.zeroCells z.cells (m + 1)).toList).run PP w = _ := hr
          simp [builtin, Builtin.clear_, ht, run_underlying hu, undef, hzv, hr']
    · rename_i e hu
      have hu := und_eq hu (by simp)
      obtain ⟨rfl, rfl⟩ := ok_inj h
      refine bsim_pure fun σ w A hv => ?_
      obtain ⟨rx, rfl, vx⟩ := hv.one_
      simp only [VR] at vx
      subst vx
      exact ⟨undef, vu, fun t cs => by simp [builtin, Builtin.clear_, ht, run_underlying hu, undef]⟩
    · exact (bad_ne h).elim
  · exact (bad_ne h).elim
end
end Go.Ev
namespace Go.Ev
open Go
set_option maxRecDepth 100000
section
variable {ρ : Rho} {o : Oper} {n : Env} {g g' : G} {v : V} {call : Cl}
/-- how a call ends -/
def Ends (ρ : Rho) (σ : Sg) (F : Nat → Prop) (g g' : G) (w : World) (v : V) (e : Ending) (w' : World) : Prop :=
  ∃ σ' rv, e = .returned rv ∧ Step ρ σ F g g' w σ' w' ∧ VR ρ σ' v rv
/-- a call's answer in E is v, g' -/
def CSim (ρ : Rho) (f : Nat) (vs : List V) (g : G) (v : V) (g' : G) : Prop :=
  Grow g g' ∧ ∀ σ F w A, Pre ρ σ F g g' w → VRs ρ σ vs (A : Array Value).toList →
    (∃ σ' rv w', (callFunc f A).run PP w = .ok (.value rv) w' ∧ Step ρ σ F g g' w σ' w' ∧ VR ρ σ' v rv) ∨
    ((callFunc f A).run PP w = .ok (.enter f A) w ∧ Calls PP f A w (Ends ρ σ F g g' w v))
/-- .. of a deferred call -/
def DSim (ρ : Rho) (f : Nat) (vs : List V) (g : G) (v : V) (g' : G) : Prop :=
  Grow g g' ∧ ∀ σ F w A, Pre ρ σ F g g' w → VRs ρ σ vs (A : Array Value).toList →
    (callFunc f A).run PP w = .ok (.enter f A) w ∧ CallsD PP f A .returning w fun e u w' => u = .returning ∧ Ends ρ σ F g g' w v e w'
def CallOk (ρ : Rho) (call : Cl) : Prop := ∀ f vs g v g', call f vs g = .ok v g' → CSim ρ f vs g v g' ∧ (primsOf f = none → DSim ρ f vs g v g')
theorem xBuiltin_ok (hρ : Opq ρ) {b : Builtin} {tys : Array TypeId} {vs : List V} (h : xBuiltin b tys.toList vs g = .ok v g') : BSim ρ b tys vs g v g' := by
  unfold xBuiltin at h
  split at h
  · exact xLen_ok h
  · exact xAppend_ok hρ h
  · exact xCopy_ok hρ h
  · exact xDelete_ok h
  · exact xMinMax_ok (mx := true) h
  · exact xMinMax_ok (mx := false) h
  · exact xClear_ok hρ h
  · exact xCap_ok h
  · exact (bad_ne h).elim
theorem xCall_ok (hρ : Opq ρ) (hc : CallOk ρ call) {k : Call} (ho : o.op = .call k) (h : xCall k call n g = .ok v g') : OpSim ρ o n g v g' := by
  obtain ⟨cal, ar, ats⟩ := k
  cases cal with
  | value f =>
    obtain ⟨fn, fs, cs, hf, h⟩ := elF_inv (show elF (ev f n) (fun fn fs cs => call fn (appL fs (appL (evs ar.toList n) cs)) g) (.bad 121) = .ok v g' from h)
    obtain ⟨⟨hg, hs⟩, _⟩ := hc _ _ _ _ _ h
    refine ⟨hg, fun σ F a w next Q hp he hn => ?_⟩
    have vf := ev_ok he f; rw [hf] at vf; simp only [VR] at vf
    obtain ⟨xs, ys, vf, v1, v2⟩ := vf
    have hA : VRs ρ σ (appL fs (appL (evs ar.toList n) cs)) ((xs ++ ar.map a.eval) ++ ys).toList := by
      rw [appL_eq, appL_eq, ← List.append_assoc, Array.toList_append, Array.toList_append, Array.toList_map]
      exact (v1.app (evs_ok he _)).app v2
    have hex : execOp a.eval o = callFunc fn ((xs ++ ar.map a.eval) ++ ys) := by
      simp only [execOp, ho, resolve, vf, Deferred.ofValue]
      rfl
    unfold Oper.wp
    rw [hex]
    rcases hs σ F w _ hp hA with ⟨σ', rv, w', h1, h2, h3⟩ | ⟨h1, h2⟩
    · rw [h1]; exact hn σ' rv w' h2 h3
    · rw [h1, Oper.upon_enter]
      refine Calls.mono h2 fun e w' he' => ?_
      obtain ⟨σ', rv, rfl, h3, h4⟩ := he'
      exact hn σ' rv w' h3 h4
  | invoke r m => exact (bad_ne (show RO.bad 122 = .ok v g' from h)).elim
  | builtin b =>
    have h : xBuiltin b ats.toList (evs ar.toList n) g = .ok v g' := h
    obtain ⟨hg, hs⟩ := xBuiltin_ok hρ h
    refine ⟨hg, fun σ F a w next Q hp he hn => ?_⟩
    obtain ⟨σ', rv, w', h1, h2, h3⟩ := hs σ F w (ar.map a.eval) hp (by rw [Array.toList_map]; exact evs_ok he _)
    refine wp_value ?_ (hn σ' rv w' h1 h2)
    simp only [execOp, ho, resolve]
    exact h3 _ _
theorem disp_ok (hρ : Opq ρ) (hc : CallOk ρ call) (h : disp o.op call n g = .ok v g') : OpSim ρ o n g v g' := by
  generalize hop : o.op = p at h
  cases p with
  | move x => exact xMove_ok (call := call) (.inl hop) h
  | assign x => exact xMove_ok (call := call) (.inr hop) h
  | pick c a b => exact xPick_ok (call := call) hop h
  | alloc e => exact xAlloc_ok (call := call) hρ hop h
  | box e x => exact xBox_ok (call := call) hρ hop h
  | build t ps => exact xBuild_ok (call := call) hρ hop h
  | buildSlice t l ps => exact xBuildSlice_ok (call := call) hρ hop h
  | insert t m k x => exact xMapSet_ok (call := call) (.inr hop) h
  | load t x => exact xLoad_ok (call := call) hop h
  | store t x y => exact xStore_ok (call := call) hρ hop h
  | nilCheck x => exact xNil_ok (call := call) hop h
  | binOp op t x y t2 => exact xBin_ok (call := call) hρ hop h
  | unOp op t x => exact xUn_ok (call := call) hop h
  | convert s d x => exact xConv_ok (call := call) hop h
  | makeFunc f fs cs => exact xFunc_ok (call := call) hop h
  | makeMap t r => cases r with
    | none => exact xMap_ok (call := call) hop h
    | some r => exact (bad_ne (show RO.bad 69 = .ok v g' from h)).elim
  | makeSlice t l c => exact xMakeSlice_ok (call := call) hρ hop h
  | slice t x lo hi mx => exact xSlice_ok (call := call) hop h
  | fieldAddr s x f => exact xFieldAddr_ok (call := call) hop h
  | field s x f => exact xField_ok (call := call) hop h
  | indexAddr t x i => exact xIndexAddr_ok (call := call) hop h
  | index t x i => exact xIndex_ok (call := call) hop h
  | lookup t x k ok => exact xLookup_ok (call := call) hop h
  | mapUpdate t m k x => exact xMapSet_ok (call := call) (.inl hop) h
  | extract x i => exact xExtract_ok (call := call) hop h
  | call k => exact xCall_ok (call := call) hρ hc hop h
  | defer k =>
    obtain ⟨cal, ar, ats⟩ := k
    cases cal with
    | value f =>
      obtain ⟨fn, fs, cs, _, h⟩ := elF_inv (show elF (ev f n) (fun fn fs cs => .df (.f fn fs cs) (evs ar.toList n) g) (.bad 123) = .ok v g' from h)
      exact (df_ne h).elim
    | invoke r m => exact (bad_ne (show RO.bad 123 = .ok v g' from h)).elim
    | builtin b => exact (bad_ne (show RO.bad 124 = .ok v g' from h)).elim
  | _ => exact (bad_ne (show RO.bad 130 = .ok v g' from h)).elim
end
end Go.Ev
