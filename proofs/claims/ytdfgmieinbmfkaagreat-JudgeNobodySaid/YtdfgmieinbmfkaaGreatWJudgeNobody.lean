/-
  The law JudgeNobody: the wakes by runs of the interpreter in the kernel, the rest by runs over cells that are not looked into.
-/
import Derived.Test.YtdfgmieinbmfkaaGreatEvTj
import Derived.Test.YtdfgmieinbmfkaaGreatEvRj9
import Derived.Test.YtdfgmieinbmfkaaGreatAct28
namespace Go.Ev
open Go Go.Proofs.YtdfgmieinbmfkaaGreat
theorem i41 : In1 41 := ⟨by kernel_rfl, by kernel_rfl, by kernel_rfl⟩
theorem i9 : In1 9 := ⟨by kernel_rfl, by kernel_rfl, by kernel_rfl⟩
theorem run9_all (β : Bool) (n : Int) : run9 β n = true := by
  cases β with
  | true => exact n9f n
  | false => cases n with
    | ofNat n => match n with
      | 0 => exact n9a
      | 1 => exact n9b
      | n + 2 => exact n9d n
    | negSucc n => exact n9e n
theorem nobody29 (W : World) (c : _root_.Fin 7 → Value) {v : Value} (h : IsAct28 W v c) (n : Int) : Calls PP 9 #[v, .int .i64 n] W (Truth W) := by
  obtain ⟨e, ⟨k, a, b, m, e0, e1, e2, e3⟩, ⟨s, e4⟩, ⟨t, e5⟩, A, N, K, e6⟩ := h
  have one : ∀ i : _root_.Fin 7, (c i).oneCell' = true ∧ c i ≠ .nilIface := fun i => by
    match i with
    | 0 => rw [e0]; exact ⟨rfl, by simp⟩
    | 1 => rw [e1]; exact ⟨rfl, by simp⟩
    | 2 => rw [e2]; exact ⟨rfl, by simp⟩
    | 3 => rw [e3]; exact ⟨rfl, by simp⟩
    | 4 => rw [e4]; exact ⟨rfl, by simp⟩
    | 5 => rw [e5]; exact ⟨rfl, by simp⟩
    | 6 => rw [e6]; exact ⟨rfl, by simp⟩
  obtain ⟨ρ, hρ⟩ : ∃ ρ : Rho, ρ = ⟨fun i => if h : i < 7 then c ⟨i, h⟩ else .bool true, W⟩ := ⟨_, rfl⟩
  have hO : Opq ρ := ⟨fun i => by rw [hρ]; show (dite _ _ _ : Value).oneCell' = true; split; exact (one _).1; rfl, fun i => by rw [hρ]; show (dite _ _ _ : Value) ≠ _; split; exact (one _).2; simp⟩
  have hc := law_run (ρ := ρ) (aa := [.g (xsV 7 0), .i .i64 n]) (callX_ok hO (fun _ hb => orG_ok (β := great28 s t N) i41 (fun w b o _ _ hcell => by
      have h4 := hcell 4 (by omega)
      have h5 := hcell 5 (by omega)
      have h6 := hcell 6 (by omega)
      rw [hρ] at h4 h5 h6
      have h4 : w.cell? ⟨b, o + 4, none⟩ = some (.string s) := h4.trans (congrArg some e4)
      have h5 : w.cell? ⟨b, o + 5, none⟩ = some (.string t) := h5.trans (congrArg some e5)
      have h6 : w.cell? ⟨b, o + 6, none⟩ = some (.slice A N K) := h6.trans (congrArg some e6)
      refine ⟨(great28_c h4 h5 h6).mono fun e w' he => ?_, (great28_d h4 h5 h6).mono fun e u w' he => ⟨he.1, ?_⟩⟩
      · obtain ⟨rfl, rfl⟩ := he
        exact ⟨rfl, Nat.le_refl _, fun _ _ => rfl, rfl, rfl, rfl⟩
      · obtain ⟨_, rfl, rfl⟩ := he
        exact ⟨rfl, Nat.le_refl _, fun _ _ => rfl, rfl, rfl, rfl⟩) (eD_in hO (eV0_in hO (eV1_in hO (orc_ok i57 law_57 hb))))) 59) i9 (by kernel_rfl) (run9_all _ n) W (by rw [hρ]) #[v, .int .i64 n] (by
      rw [e]
      show VRs ρ _ [.g [.x 0, .x 1, .x 2, .x 3, .x 4, .x 5, .x 6], .i .i64 n] [_, _]
      simp only [VRs, VR, hρ]
      exact ⟨_, _, rfl, ⟨_, rfl, _, _, rfl, rfl, _, _, rfl, rfl, _, _, rfl, rfl, _, _, rfl, rfl, _, _, rfl, rfl, _, _, rfl, rfl, _, _, rfl, rfl, rfl⟩, _, _, rfl, rfl, rfl⟩)
  exact hc.1
end Go.Ev
namespace Go.Proofs.YtdfgmieinbmfkaaGreat
open Go
theorem walk_JudgeNobody (w : World) {v : Value} {c : _root_.Fin 7 → Value} (h : IsAct28 w v c) {n : Int} (_ : (Lit.int .i64 n).wf = true) : Calls Tryz.prog 9 #[v, .int .i64 n] w fun e w' => e = .returned (.bool true) ∧ Upd (fun _ => False) w w' :=
  (Go.Ev.nobody29 w c h n).mono fun _ _ he => ⟨he.1, he.2.2.2.1, he.2.2.2.2.1, he.2.2.2.2.2, he.2.1, fun r hr _ => he.2.2.1 r hr⟩
end Go.Proofs.YtdfgmieinbmfkaaGreat
