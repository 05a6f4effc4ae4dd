/-
  A test of a row of cells, some of which are not looked into.
-/
import Derived.Test.YtdfgmieinbmfkaaGreatEvG
namespace Go.Ev
open Go
set_option maxRecDepth 100000
/-! a test of one row, some cells of which are opaque, as an oracle -/
noncomputable def orL (f0 : Nat) (L : List V) (β : Bool) (base : Cl) : Cl := fun f aa g => @Bool.rec (fun _ => RO) (base f aa g) (match aa with
  | [.l b 0 1 1 0] => ansB β (base f aa g) (.ok (.b β) (rd b g)) (eqO (getH g.h b) (.c L.length (ptOf L 0 .e)))
  | _ => base f aa g) (Nat.beq f f0)
noncomputable def rpV (v : V) : Nat → List V → List V := @Nat.rec (fun _ => List V → List V) (fun l => l) (fun _ ih l => v :: ih l)
noncomputable def cO (n : Nat) (l : List V) : O := .c n (ptOf l 0 .e)
section
variable {ρ : Rho}
theorem orL_ok {f0 : Nat} {L : List V} {β : Bool} (hE : In1 f0)
    (h : ∀ w b o, ρ.w0.heap.size ≤ w.heap.size → (∀ r, r < ρ.w0.heap.size → w.heap[r]? = ρ.w0.heap[r]?) → (∀ i, i < L.length → ∃ x, w.cell? ⟨b, o + i, none⟩ = some x ∧ ∀ k, L[i]? = some (.x k) → x = ρ k) →
      Calls PP f0 #[.slice (some ⟨b, o, none⟩) 1 1] w (Asks w β) ∧ CallsD PP f0 #[.slice (some ⟨b, o, none⟩) 1 1] .returning w (fun e u w' => u = .returning ∧ Asks w β e w')) {base : Cl} (hb : CallOk ρ base) : CallOk ρ (orL f0 L β base) := by
  intro f aa g v g' hr
  unfold orL at hr
  cases hf : Nat.beq f f0 with
  | false => rw [hf] at hr; exact hb f aa g v g' hr
  | true =>
    rw [hf] at hr
    obtain rfl := Nat.eq_of_beq_eq_true hf
    dsimp only at hr
    split at hr
    · rename_i b
      cases he : eqO (getH g.h b) (.c L.length (ptOf L 0 .e)) with
      | false => rw [he] at hr; exact hb f _ g v g' hr
      | true =>
        rw [he] at hr
        have hbl := eqO_ok _ _ he
        obtain ⟨rfl, rfl⟩ := ok_inj (show RO.ok (.b β) (rd b g) = .ok v g' from hr)
        have hcf : ∀ A w, (callFunc f A).run PP w = .ok (.enter f A) w := fun A w => Go.MuLone.run_callFunc_enter hE.f hE.nm hE.b A w
        have G1 := grow_rd b g
        have ends : ∀ σ F w, Pre ρ σ F g (rd b g) w → ∀ e w', Asks w β e w' → Ends ρ σ F g (rd b g) w (.b β) e w' := fun σ F w hp e w' he => by
          obtain ⟨rfl, u1, u2, u3⟩ := he
          exact ⟨σ, _, rfl, step_multi (fun _ => False) hp (rd_nx b g) (fun _ h => h.elim) (fun _ h => h.elim) (fun b _ => by rw [rd_h]) u1 (fun r hr _ => u2 r hr) (fun _ _ h => h.elim) u3, by simp only [VR]⟩
        have args : ∀ σ F w A, Pre ρ σ F g (rd b g) w → VRs ρ σ [V.l b 0 1 1 0] (A : Array Value).toList → ∃ r o, A = #[.slice (some ⟨r, o, none⟩) 1 1] ∧ ∀ i, i < L.length → ∃ x, w.cell? ⟨r, o + i, none⟩ = some x ∧ ∀ k, L[i]? = some (.x k) → x = ρ k := fun σ F w A hp hA => by
          obtain ⟨rx, rfl, v1⟩ := hA.one_
          simp only [VR] at v1
          obtain ⟨M, a, rc, h1, rfl, h2, h3, h4, h5, h6, h7⟩ := v1
          obtain rfl := h6 (.inl trivial)
          obtain rfl := h4 trivial
          refine ⟨M.r, M.d + 0, rfl, fun i hi => ?_⟩
          obtain ⟨x, c1, c2, _⟩ := cell_at hp.rep (hp.cov b (.inl (rd_in b g))) hbl h1 hi
          rw [ptOf_get, if_pos ⟨Nat.zero_le _, by omega⟩, Nat.sub_zero] at c2
          refine ⟨x, by rw [Nat.add_zero]; exact c1, fun k hk => ?_⟩
          rw [hk] at c2
          simpa only [Option.getD_some, VR] using c2
        refine ⟨⟨G1, fun σ F w A hp hA => .inr ?_⟩, fun _ => ⟨G1, fun σ F w A hp hA => ?_⟩⟩
        · obtain ⟨r, o, rfl, hc⟩ := args σ F w A hp hA
          exact ⟨hcf _ w, (h w r o hp.inv.size hp.inv.old hc).1.mono fun e w' he => ends σ F w hp e w' he⟩
        · obtain ⟨r, o, rfl, hc⟩ := args σ F w A hp hA
          exact ⟨hcf _ w, (h w r o hp.inv.size hp.inv.old hc).2.mono fun e u w' he => ⟨he.1, ends σ F w hp e w' he.2⟩⟩
    · exact hb f _ g v g' hr
end
end Go.Ev
