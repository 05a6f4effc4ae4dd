/-
  The runs, as oracles.
-/
import Derived.KernelRfl
import Derived.Test.YtdfgmieinbmfkaaGreatEvRw1
import Derived.Test.YtdfgmieinbmfkaaGreatEvRw2
import Derived.Test.YtdfgmieinbmfkaaGreatEvRw3
namespace Go.Ev
open Go
set_option maxRecDepth 100000
section
variable {ρ : Rho} {base : Cl}
theorem eD_in (hρ : Opq ρ) (hb : CallOk ρ base) : CallOk ρ (oneE eD base) := oneE_ok eD_wf (callX_ok hρ (fun _ hb => hb) 59) eD_ok (by kernel_rfl) hb
theorem eV0_in (hρ : Opq ρ) (hb : CallOk ρ base) : CallOk ρ (oneE eV0 base) := oneE_ok eV0_wf (callX_ok hρ (fun _ hb => hb) 59) eV0_ok (by kernel_rfl) hb
theorem eV1_in (hρ : Opq ρ) (hb : CallOk ρ base) : CallOk ρ (oneE eV1 base) := oneE_ok eV1_wf (callX_ok hρ (fun _ hb => hb) 59) eV1_ok (by kernel_rfl) hb
theorem eN_in (hρ : Opq ρ) (hb : CallOk ρ base) : CallOk ρ (oneE eN base) := oneE_ok eN_wf (callX_ok hρ (fun _ hb => (eD_in hρ (eV0_in hρ (eV1_in hρ hb)))) 59) eN_ok (by kernel_rfl) hb
theorem eC1_in (hρ : Opq ρ) (hb : CallOk ρ base) : CallOk ρ (oneE eC1 base) := oneE_ok eC1_wf (callX_ok hρ (fun _ hb => hb) 59) eC1_ok (by kernel_rfl) hb
theorem eC2_in (hρ : Opq ρ) (hb : CallOk ρ base) : CallOk ρ (oneE eC2 base) := oneE_ok eC2_wf (callX_ok hρ (fun _ hb => hb) 59) eC2_ok (by kernel_rfl) hb
theorem eC4_in (hρ : Opq ρ) (hb : CallOk ρ base) : CallOk ρ (oneE eC4 base) := oneE_ok eC4_wf (callX_ok hρ (fun _ hb => hb) 59) eC4_ok (by kernel_rfl) hb
theorem eC5_in (hρ : Opq ρ) (hb : CallOk ρ base) : CallOk ρ (oneE eC5 base) := oneE_ok eC5_wf (callX_ok hρ (fun _ hb => hb) 59) eC5_ok (by kernel_rfl) hb
theorem eT0_in (hρ : Opq ρ) (hb : CallOk ρ base) : CallOk ρ (oneE eT0 base) := oneE_ok eT0_wf (callX_ok hρ (fun _ hb => hb) 59) eT0_ok (by kernel_rfl) hb
theorem eT1_in (hρ : Opq ρ) (hb : CallOk ρ base) : CallOk ρ (oneE eT1 base) := oneE_ok eT1_wf (callX_ok hρ (fun _ hb => hb) 59) eT1_ok (by kernel_rfl) hb
theorem eR_in (hρ : Opq ρ) (hb : CallOk ρ base) : CallOk ρ (oneE eR base) := oneE_ok eR_wf (callX_ok hρ (fun _ hb => (eC1_in hρ (eC2_in hρ (eC4_in hρ (eC5_in hρ (eT0_in hρ (eT1_in hρ hb))))))) 59) eR_ok (by kernel_rfl) hb
end
theorem i42 : In1 42 := ⟨by kernel_rfl, by kernel_rfl, by kernel_rfl⟩
theorem law_42 (w : World) : Calls PP 42 #[] w (Truth w) ∧ CallsD PP 42 #[] .returning w (fun e u w' => u = .returning ∧ Truth w e w') :=
  law_run0 w (callX_ok (opq0 w) (fun _ hb => (eN_in (opq0 w) (eR_in (opq0 w) hb))) 59) i42 (by kernel_rfl) run_42
end Go.Ev
