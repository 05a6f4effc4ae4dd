/-
  DiskSums: the walk.
-/
import Derived.Test.YtafgohnpnaiomaaDone7
import Derived.Test.YtafgohnpnaiomaaRef7
namespace Go.Proofs.Ytafgohnpnaiomaa
open Go Go.RowKit

theorem Upd.also {w0 w1 w2 : World} (h1 : Upd (fun _ => False) w0 w1) (h2 : Upd (fun _ => False) w1 w2) : Upd (fun _ => False) w0 w2 := Upd.trans (H := fun _ => False) h1 h2 (fun _ h => h.elim) (fun _ h => h.elim)
theorem Upd.drewS {w0 w1 : World} (h : Upd (fun _ => False) w0 w1) : Upd (fun _ => False) w0 w1.drew := ⟨h.os, h.tape, h.output, h.size, h.block⟩
theorem sum_u {w0 w : World} (hu : Upd (fun _ => False) w0 w) (s : ByteArray) (hs : s.size ≤ 9223372036854775807) :
    Calls Try.prog 71 #[.string s] w fun e w' => e = .returned (.int .u32 (sumN s.data.toList : Int)) ∧ Upd (fun _ => False) w0 w' :=
  (Sum_c s w hs).mono fun _ _ ⟨he, hb⟩ => ⟨he, hu.also (Upd.of_below hb _)⟩
theorem sum_known : (sumN [49, 50, 51, 52, 53, 54, 55, 56, 57] : Int) = 3421780262 := by decide +kernel
set_option maxRecDepth 100000 in
set_option maxHeartbeats 1600000 in
theorem walk_DiskSums {a b : ByteArray} (w : World) (ha : a.size ≤ maxLen) (hb : b.size ≤ maxLen) :
    Calls Try.prog 19 #[.string a, .string b] w fun e w' => e = .returned (.bool true) ∧ Upd (fun _ => False) w w' := by
  unfold maxLen at ha hb
  go_enter Try.func19, Try.ntmps19
  go_wp2_with fail
  refine (awake_07 _).mono ?_
  rintro e w1 ⟨rfl, hu1⟩
  by_cases h1 : 3000 < a.size
  · have h1' : (3000 : Int) < (a.size : Int) := by omega
    go_wp2_with fail
    go_ret
    exact ⟨rfl, hu1⟩
  · have h1' : ¬ (3000 : Int) < (a.size : Int) := by omega
    by_cases h2 : 3000 < b.size
    · have h2' : (3000 : Int) < (b.size : Int) := by omega
      go_wp2_with fail
      go_ret
      exact ⟨rfl, hu1⟩
    · have h2' : ¬ (3000 : Int) < (b.size : Int) := by omega
      by_cases h60 : a.size = 60
      · have hb60 : ((a.size : Int) == 60) = true := by rw [h60]; rfl
        go_wp2_with fail
        refine (Close_c a _ h60).mono ?_
        rintro e w2 ⟨rfl, hb2⟩
        have hu2 := hu1.also (Upd.of_below hb2 _)
        go_wp2_with fail
        refine (refClose_c a _ (by omega)).mono ?_
        rintro e w2b ⟨rfl, hu2b⟩
        have hu2c := hu2.also hu2b
        have hce : ((str (closeL a.data.toList)).toList == (str (closeL a.data.toList)).toList) = true := beq_self_eq_true _
        generalize str (closeL a.data.toList) = CL at *
        go_wp2_with fail
        refine (Look_c b _ (by omega)).mono ?_
        rintro e w3 ⟨rfl, hb3⟩
        have hu3 := hu2c.also (Upd.of_below hb3 _)
        go_wp2_with fail
        refine (refLook_c b _ (by omega)).mono ?_
        rintro e w4 ⟨rfl, hu4⟩
        have hu5 := hu3.also hu4
        clear hu3 hu4 hb3
        generalize lookL b.data.toList = LK at *
        go_wp2_with fail
        refine (sum_u hu5 a (by omega)).mono ?_
        rintro e w5 ⟨rfl, hu6⟩
        go_wp2_with fail
        refine (refSum_c a _ (by omega)).mono ?_
        rintro e w6 ⟨rfl, rfl⟩
        have hse : ((sumN a.data.toList : Int) == (sumN a.data.toList : Int)) = true := beq_self_eq_true _
        have hle : ((str LK.1).toList == (str LK.1).toList) = true := beq_self_eq_true _
        have hie : (LK.2 == LK.2) = true := beq_self_eq_true _
        go_wp2_with fail
        refine (sum_u hu6 _ (by decide)).mono ?_
        rintro e w7 ⟨rfl, hu7⟩
        have hk := sum_known
        have hke : ((sumN [49, 50, 51, 52, 53, 54, 55, 56, 57] : Int) == 3421780262) = true := by rw [sum_known]; rfl
        go_wp2_with fail
        go_ret
        exact ⟨rfl, hu7⟩
      · have hb60 : ((a.size : Int) == 60) = false := by rw [beq_eq_false_iff_ne]; omega
        go_wp2_with fail
        refine (Close_bad a _ h60).mono ?_
        rintro e w2 ⟨rfl, rfl⟩
        go_wp2_with fail
        refine (Look_c b _ (by omega)).mono ?_
        rintro e w3 ⟨rfl, hb3⟩
        have hu3 := hu1.also (Upd.of_below hb3 _)
        go_wp2_with fail
        refine (refLook_c b _ (by omega)).mono ?_
        rintro e w4 ⟨rfl, hu4⟩
        have hu5 := hu3.also hu4
        clear hu3 hu4 hb3
        generalize lookL b.data.toList = LK at *
        go_wp2_with fail
        refine (sum_u hu5 a (by omega)).mono ?_
        rintro e w5 ⟨rfl, hu6⟩
        go_wp2_with fail
        refine (refSum_c a _ (by omega)).mono ?_
        rintro e w6 ⟨rfl, rfl⟩
        have hse : ((sumN a.data.toList : Int) == (sumN a.data.toList : Int)) = true := beq_self_eq_true _
        have hle : ((str LK.1).toList == (str LK.1).toList) = true := beq_self_eq_true _
        have hie : (LK.2 == LK.2) = true := beq_self_eq_true _
        go_wp2_with fail
        refine (sum_u hu6 _ (by decide)).mono ?_
        rintro e w7 ⟨rfl, hu7⟩
        have hk := sum_known
        have hke : ((sumN [49, 50, 51, 52, 53, 54, 55, 56, 57] : Int) == 3421780262) = true := by rw [sum_known]; rfl
        go_wp2_with fail
        go_ret
        exact ⟨rfl, hu7⟩
end Go.Proofs.Ytafgohnpnaiomaa
