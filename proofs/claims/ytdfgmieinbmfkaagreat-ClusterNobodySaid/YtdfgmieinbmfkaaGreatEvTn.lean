/-
  The runs, as oracles.
-/
import Derived.KernelRfl
import Derived.Test.YtdfgmieinbmfkaaGreatEvRn1
import Derived.Test.YtdfgmieinbmfkaaGreatEvRn2
import Derived.Test.YtdfgmieinbmfkaaGreatEvRn3
namespace Go.Ev
open Go
set_option maxRecDepth 100000
section
variable {ρ : Rho} {base : Cl}
theorem nD_in (hρ : Opq ρ) (hb : CallOk ρ base) : CallOk ρ (oneE nD base) := oneE_ok nD_wf (callX_ok hρ (fun _ hb => hb) 59) nD_ok (by kernel_rfl) hb
theorem nV0_in (hρ : Opq ρ) (hb : CallOk ρ base) : CallOk ρ (oneE nV0 base) := oneE_ok nV0_wf (callX_ok hρ (fun _ hb => hb) 59) nV0_ok (by kernel_rfl) hb
theorem nV1_in (hρ : Opq ρ) (hb : CallOk ρ base) : CallOk ρ (oneE nV1 base) := oneE_ok nV1_wf (callX_ok hρ (fun _ hb => hb) 59) nV1_ok (by kernel_rfl) hb
theorem nF0_in (hρ : Opq ρ) (hb : CallOk ρ base) : CallOk ρ (oneE nF0 base) := oneE_ok nF0_wf (callX_ok hρ (fun _ hb => (nD_in hρ (nV0_in hρ hb))) 59) nF0_ok (by kernel_rfl) hb
theorem nF1_in (hρ : Opq ρ) (hb : CallOk ρ base) : CallOk ρ (oneE nF1 base) := oneE_ok nF1_wf (callX_ok hρ (fun _ hb => (nD_in hρ (nV1_in hρ hb))) 59) nF1_ok (by kernel_rfl) hb
theorem nN_in (hρ : Opq ρ) (hb : CallOk ρ base) : CallOk ρ (oneE nN base) := oneE_ok nN_wf (callX_ok hρ (fun _ hb => hb) 59) nN_ok (by kernel_rfl) hb
theorem nT_in (hρ : Opq ρ) (hb : CallOk ρ base) : CallOk ρ (oneE nT base) := oneE_ok nT_wf (callX_ok hρ (fun _ hb => hb) 59) nT_ok (by kernel_rfl) hb
theorem nH_in (hρ : Opq ρ) (hb : CallOk ρ base) : CallOk ρ (oneE nH base) := oneE_ok nH_wf (callX_ok hρ (fun _ hb => hb) 59) nH_ok (by kernel_rfl) hb
end
theorem i10 : In1 10 := ⟨by kernel_rfl, by kernel_rfl, by kernel_rfl⟩
theorem law_10 (w : World) : Calls PP 10 #[] w (Truth w) ∧ CallsD PP 10 #[] .returning w (fun e u w' => u = .returning ∧ Truth w e w') :=
  law_run0 w (callX_ok (opq0 w) (fun _ hb => (nF0_in (opq0 w) (nF1_in (opq0 w) (nN_in (opq0 w) (nT_in (opq0 w) (nH_in (opq0 w) hb)))))) 59) i10 (by kernel_rfl) run_10
end Go.Ev
