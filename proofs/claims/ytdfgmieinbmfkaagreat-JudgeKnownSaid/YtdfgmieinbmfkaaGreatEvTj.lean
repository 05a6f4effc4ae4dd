/-
  The runs, as oracles.
-/
import Derived.KernelRfl
import Derived.Test.YtdfgmieinbmfkaaGreatEvRj1
import Derived.Test.YtdfgmieinbmfkaaGreatEvRj2
import Derived.Test.YtdfgmieinbmfkaaGreatEvRj3
import Derived.Test.YtdfgmieinbmfkaaGreatEvRj4
namespace Go.Ev
open Go
set_option maxRecDepth 100000
section
variable {ρ : Rho} {base : Cl}
theorem eD_in (hρ : Opq ρ) (hb : CallOk ρ base) : CallOk ρ (oneE eD base) := oneE_ok eD_wf (callX_ok hρ (fun _ hb => hb) 59) eD_ok (by kernel_rfl) hb
theorem eV0_in (hρ : Opq ρ) (hb : CallOk ρ base) : CallOk ρ (oneE eV0 base) := oneE_ok eV0_wf (callX_ok hρ (fun _ hb => hb) 59) eV0_ok (by kernel_rfl) hb
theorem eV1_in (hρ : Opq ρ) (hb : CallOk ρ base) : CallOk ρ (oneE eV1 base) := oneE_ok eV1_wf (callX_ok hρ (fun _ hb => hb) 59) eV1_ok (by kernel_rfl) hb
theorem eJ_in (hρ : Opq ρ) (hb : CallOk ρ base) : CallOk ρ (oneE eJ base) := oneE_ok eJ_wf (callX_ok hρ (fun _ hb => (eD_in hρ (eV0_in hρ (eV1_in hρ hb)))) 59) eJ_ok (by kernel_rfl) hb
theorem eA0_in (hρ : Opq ρ) (hb : CallOk ρ base) : CallOk ρ (oneE eA0 base) := oneE_ok eA0_wf (callX_ok hρ (fun _ hb => hb) 59) eA0_ok (by kernel_rfl) hb
theorem eA1_in (hρ : Opq ρ) (hb : CallOk ρ base) : CallOk ρ (oneE eA1 base) := oneE_ok eA1_wf (callX_ok hρ (fun _ hb => hb) 59) eA1_ok (by kernel_rfl) hb
theorem eA2_in (hρ : Opq ρ) (hb : CallOk ρ base) : CallOk ρ (oneE eA2 base) := oneE_ok eA2_wf (callX_ok hρ (fun _ hb => hb) 59) eA2_ok (by kernel_rfl) hb
theorem eA3_in (hρ : Opq ρ) (hb : CallOk ρ base) : CallOk ρ (oneE eA3 base) := oneE_ok eA3_wf (callX_ok hρ (fun _ hb => hb) 59) eA3_ok (by kernel_rfl) hb
theorem eA4_in (hρ : Opq ρ) (hb : CallOk ρ base) : CallOk ρ (oneE eA4 base) := oneE_ok eA4_wf (callX_ok hρ (fun _ hb => hb) 59) eA4_ok (by kernel_rfl) hb
theorem eA5_in (hρ : Opq ρ) (hb : CallOk ρ base) : CallOk ρ (oneE eA5 base) := oneE_ok eA5_wf (callX_ok hρ (fun _ hb => hb) 59) eA5_ok (by kernel_rfl) hb
theorem eH_in (hρ : Opq ρ) (hb : CallOk ρ base) : CallOk ρ (oneE eH base) := oneE_ok eH_wf (callX_ok hρ (fun _ hb => hb) 59) eH_ok (by kernel_rfl) hb
theorem eW0_in (hρ : Opq ρ) (hb : CallOk ρ base) : CallOk ρ (oneE eW0 base) := oneE_ok eW0_wf (callX_ok hρ (fun _ hb => hb) 59) eW0_ok (by kernel_rfl) hb
theorem eW1_in (hρ : Opq ρ) (hb : CallOk ρ base) : CallOk ρ (oneE eW1 base) := oneE_ok eW1_wf (callX_ok hρ (fun _ hb => hb) 59) eW1_ok (by kernel_rfl) hb
theorem eS_in (hρ : Opq ρ) (hb : CallOk ρ base) : CallOk ρ (oneE eS base) := oneE_ok eS_wf (callX_ok hρ (fun _ hb => (eW0_in hρ (eW1_in hρ hb))) 59) eS_ok (by kernel_rfl) hb
end
theorem i57 : In1 57 := ⟨by kernel_rfl, by kernel_rfl, by kernel_rfl⟩
theorem law_57 (w : World) : Calls PP 57 #[] w (Truth w) ∧ CallsD PP 57 #[] .returning w (fun e u w' => u = .returning ∧ Truth w e w') :=
  law_run0 w (callX_ok (opq0 w) (fun _ hb => (eJ_in (opq0 w) (eA0_in (opq0 w) (eA1_in (opq0 w) (eA2_in (opq0 w) (eA3_in (opq0 w) (eA4_in (opq0 w) (eA5_in (opq0 w) (eH_in (opq0 w) (eS_in (opq0 w) hb)))))))))) 59) i57 (by kernel_rfl) run_57
end Go.Ev
