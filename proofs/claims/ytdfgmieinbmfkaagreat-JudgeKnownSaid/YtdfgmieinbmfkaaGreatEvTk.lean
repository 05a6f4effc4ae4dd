/-
  The runs, as oracles.
-/
import Derived.KernelRfl
import Derived.Test.YtdfgmieinbmfkaaGreatEvRk1
import Derived.Test.YtdfgmieinbmfkaaGreatEvRk2
import Derived.Test.YtdfgmieinbmfkaaGreatEvRk3
import Derived.Test.YtdfgmieinbmfkaaGreatEvRk4
import Derived.Test.YtdfgmieinbmfkaaGreatEvRk5
import Derived.Test.YtdfgmieinbmfkaaGreatEvRk6
import Derived.Test.YtdfgmieinbmfkaaGreatEvRk7
import Derived.Test.YtdfgmieinbmfkaaGreatEvRk8
namespace Go.Ev
open Go
set_option maxRecDepth 100000
section
variable {ρ : Rho} {base : Cl}
theorem kD_in (hρ : Opq ρ) (hb : CallOk ρ base) : CallOk ρ (oneE kD base) := oneE_ok kD_wf (callX_ok hρ (fun _ hb => hb) 59) kD_ok (by kernel_rfl) hb
theorem kV0_in (hρ : Opq ρ) (hb : CallOk ρ base) : CallOk ρ (oneE kV0 base) := oneE_ok kV0_wf (callX_ok hρ (fun _ hb => hb) 59) kV0_ok (by kernel_rfl) hb
theorem kV1_in (hρ : Opq ρ) (hb : CallOk ρ base) : CallOk ρ (oneE kV1 base) := oneE_ok kV1_wf (callX_ok hρ (fun _ hb => hb) 59) kV1_ok (by kernel_rfl) hb
theorem kJ_in (hρ : Opq ρ) (hb : CallOk ρ base) : CallOk ρ (oneE kJ base) := oneE_ok kJ_wf (callX_ok hρ (fun _ hb => (kD_in hρ (kV0_in hρ (kV1_in hρ hb)))) 59) kJ_ok (by kernel_rfl) hb
theorem kA0_in (hρ : Opq ρ) (hb : CallOk ρ base) : CallOk ρ (oneE kA0 base) := oneE_ok kA0_wf (callX_ok hρ (fun _ hb => hb) 59) kA0_ok (by kernel_rfl) hb
theorem kA1_in (hρ : Opq ρ) (hb : CallOk ρ base) : CallOk ρ (oneE kA1 base) := oneE_ok kA1_wf (callX_ok hρ (fun _ hb => hb) 59) kA1_ok (by kernel_rfl) hb
theorem kA2_in (hρ : Opq ρ) (hb : CallOk ρ base) : CallOk ρ (oneE kA2 base) := oneE_ok kA2_wf (callX_ok hρ (fun _ hb => hb) 59) kA2_ok (by kernel_rfl) hb
theorem kA3_in (hρ : Opq ρ) (hb : CallOk ρ base) : CallOk ρ (oneE kA3 base) := oneE_ok kA3_wf (callX_ok hρ (fun _ hb => hb) 59) kA3_ok (by kernel_rfl) hb
theorem kA4_in (hρ : Opq ρ) (hb : CallOk ρ base) : CallOk ρ (oneE kA4 base) := oneE_ok kA4_wf (callX_ok hρ (fun _ hb => hb) 59) kA4_ok (by kernel_rfl) hb
theorem kA5_in (hρ : Opq ρ) (hb : CallOk ρ base) : CallOk ρ (oneE kA5 base) := oneE_ok kA5_wf (callX_ok hρ (fun _ hb => hb) 59) kA5_ok (by kernel_rfl) hb
theorem kA6_in (hρ : Opq ρ) (hb : CallOk ρ base) : CallOk ρ (oneE kA6 base) := oneE_ok kA6_wf (callX_ok hρ (fun _ hb => hb) 59) kA6_ok (by kernel_rfl) hb
theorem kA7_in (hρ : Opq ρ) (hb : CallOk ρ base) : CallOk ρ (oneE kA7 base) := oneE_ok kA7_wf (callX_ok hρ (fun _ hb => hb) 59) kA7_ok (by kernel_rfl) hb
theorem kA8_in (hρ : Opq ρ) (hb : CallOk ρ base) : CallOk ρ (oneE kA8 base) := oneE_ok kA8_wf (callX_ok hρ (fun _ hb => hb) 59) kA8_ok (by kernel_rfl) hb
theorem kA9_in (hρ : Opq ρ) (hb : CallOk ρ base) : CallOk ρ (oneE kA9 base) := oneE_ok kA9_wf (callX_ok hρ (fun _ hb => hb) 59) kA9_ok (by kernel_rfl) hb
theorem kA10_in (hρ : Opq ρ) (hb : CallOk ρ base) : CallOk ρ (oneE kA10 base) := oneE_ok kA10_wf (callX_ok hρ (fun _ hb => hb) 59) kA10_ok (by kernel_rfl) hb
theorem kA11_in (hρ : Opq ρ) (hb : CallOk ρ base) : CallOk ρ (oneE kA11 base) := oneE_ok kA11_wf (callX_ok hρ (fun _ hb => hb) 59) kA11_ok (by kernel_rfl) hb
theorem kA12_in (hρ : Opq ρ) (hb : CallOk ρ base) : CallOk ρ (oneE kA12 base) := oneE_ok kA12_wf (callX_ok hρ (fun _ hb => hb) 59) kA12_ok (by kernel_rfl) hb
theorem kA13_in (hρ : Opq ρ) (hb : CallOk ρ base) : CallOk ρ (oneE kA13 base) := oneE_ok kA13_wf (callX_ok hρ (fun _ hb => hb) 59) kA13_ok (by kernel_rfl) hb
theorem kA14_in (hρ : Opq ρ) (hb : CallOk ρ base) : CallOk ρ (oneE kA14 base) := oneE_ok kA14_wf (callX_ok hρ (fun _ hb => hb) 59) kA14_ok (by kernel_rfl) hb
theorem kA15_in (hρ : Opq ρ) (hb : CallOk ρ base) : CallOk ρ (oneE kA15 base) := oneE_ok kA15_wf (callX_ok hρ (fun _ hb => hb) 59) kA15_ok (by kernel_rfl) hb
theorem kA16_in (hρ : Opq ρ) (hb : CallOk ρ base) : CallOk ρ (oneE kA16 base) := oneE_ok kA16_wf (callX_ok hρ (fun _ hb => hb) 59) kA16_ok (by kernel_rfl) hb
theorem kA17_in (hρ : Opq ρ) (hb : CallOk ρ base) : CallOk ρ (oneE kA17 base) := oneE_ok kA17_wf (callX_ok hρ (fun _ hb => hb) 59) kA17_ok (by kernel_rfl) hb
theorem kA18_in (hρ : Opq ρ) (hb : CallOk ρ base) : CallOk ρ (oneE kA18 base) := oneE_ok kA18_wf (callX_ok hρ (fun _ hb => hb) 59) kA18_ok (by kernel_rfl) hb
theorem kA19_in (hρ : Opq ρ) (hb : CallOk ρ base) : CallOk ρ (oneE kA19 base) := oneE_ok kA19_wf (callX_ok hρ (fun _ hb => hb) 59) kA19_ok (by kernel_rfl) hb
theorem kA20_in (hρ : Opq ρ) (hb : CallOk ρ base) : CallOk ρ (oneE kA20 base) := oneE_ok kA20_wf (callX_ok hρ (fun _ hb => hb) 59) kA20_ok (by kernel_rfl) hb
theorem kB13_in (hρ : Opq ρ) (hb : CallOk ρ base) : CallOk ρ (oneE kB13 base) := oneE_ok kB13_wf (callX_ok hρ (fun _ hb => hb) 59) kB13_ok (by kernel_rfl) hb
theorem kH_in (hρ : Opq ρ) (hb : CallOk ρ base) : CallOk ρ (oneE kH base) := oneE_ok kH_wf (callX_ok hρ (fun _ hb => hb) 59) kH_ok (by kernel_rfl) hb
theorem kW0_in (hρ : Opq ρ) (hb : CallOk ρ base) : CallOk ρ (oneE kW0 base) := oneE_ok kW0_wf (callX_ok hρ (fun _ hb => hb) 59) kW0_ok (by kernel_rfl) hb
theorem kW1_in (hρ : Opq ρ) (hb : CallOk ρ base) : CallOk ρ (oneE kW1 base) := oneE_ok kW1_wf (callX_ok hρ (fun _ hb => hb) 59) kW1_ok (by kernel_rfl) hb
theorem kX0_in (hρ : Opq ρ) (hb : CallOk ρ base) : CallOk ρ (oneE kX0 base) := oneE_ok kX0_wf (callX_ok hρ (fun _ hb => hb) 59) kX0_ok (by kernel_rfl) hb
theorem kX1_in (hρ : Opq ρ) (hb : CallOk ρ base) : CallOk ρ (oneE kX1 base) := oneE_ok kX1_wf (callX_ok hρ (fun _ hb => hb) 59) kX1_ok (by kernel_rfl) hb
theorem kX2_in (hρ : Opq ρ) (hb : CallOk ρ base) : CallOk ρ (oneE kX2 base) := oneE_ok kX2_wf (callX_ok hρ (fun _ hb => hb) 59) kX2_ok (by kernel_rfl) hb
theorem kW2_in (hρ : Opq ρ) (hb : CallOk ρ base) : CallOk ρ (oneE kW2 base) := oneE_ok kW2_wf (callX_ok hρ (fun _ hb => (kX0_in hρ (kX1_in hρ (kX2_in hρ hb)))) 59) kW2_ok (by kernel_rfl) hb
theorem kS_in (hρ : Opq ρ) (hb : CallOk ρ base) : CallOk ρ (oneE kS base) := oneE_ok kS_wf (callX_ok hρ (fun _ hb => (kW0_in hρ (kW1_in hρ (kW2_in hρ hb)))) 59) kS_ok (by kernel_rfl) hb
theorem kRun_in (hρ : Opq ρ) (hb : CallOk ρ base) : CallOk ρ (oneE kRun base) := oneE_ok kRun_wf (callX_ok hρ (fun _ hb => (kJ_in hρ (kA0_in hρ (kA1_in hρ (kA2_in hρ (kA3_in hρ (kA4_in hρ (kA5_in hρ (kA6_in hρ (kA7_in hρ (kA8_in hρ (kA9_in hρ (kA10_in hρ (kA11_in hρ (kA12_in hρ (kA13_in hρ (kA14_in hρ (kA15_in hρ (kA16_in hρ (kA17_in hρ (kA18_in hρ (kA19_in hρ (kA20_in hρ hb))))))))))))))))))))))) 59) kRun_ok (by kernel_rfl) hb
theorem kEnds_in (hρ : Opq ρ) (hb : CallOk ρ base) : CallOk ρ (oneE kEnds base) := oneE_ok kEnds_wf (callX_ok hρ (fun _ hb => (kJ_in hρ (kA0_in hρ (kA1_in hρ (kA2_in hρ (kA3_in hρ (kA4_in hρ (kA5_in hρ (kA6_in hρ (kA7_in hρ (kA8_in hρ (kA9_in hρ (kA10_in hρ (kA11_in hρ (kA12_in hρ (kA13_in hρ (kA14_in hρ (kA15_in hρ (kA16_in hρ (kA17_in hρ (kA18_in hρ (kA19_in hρ (kA20_in hρ (kB13_in hρ (kH_in hρ (kS_in hρ hb)))))))))))))))))))))))))) 59) kEnds_ok (by kernel_rfl) hb
end
end Go.Ev
