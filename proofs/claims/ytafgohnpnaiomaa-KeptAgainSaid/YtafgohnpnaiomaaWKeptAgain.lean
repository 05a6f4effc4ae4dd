/-
  KeptAgain: the walk.
-/
import Derived.Test.YtafgohnpnaiomaaLawV
import Derived.Test.YtafgohnpnaiomaaDiskE
import Derived.Outline
namespace Go.Proofs.Ytafgohnpnaiomaa
open Go Go.RowKit

theorem waits_s {w0 w : World} {p : Nat} {d : Dk} (hD : DkS w0 w p d) :
    Calls Try.prog 32 #[.pointer (some ⟨p, 0, none⟩)] w fun e w' => e = .returned (.int .i64 d.pend) ∧ Upd (fun _ => False) w w' := by
  obtain ⟨F, h1, h2⟩ := hD.ex
  exact waits_c h1
/-- What the law has behind some of its texts. -/
structure Again (w0 wr : World) (p i : Nat) (d : Dk) (k : Kp) : Prop where
  disk : DkS w0 wr p d
  kept : ∃ l0 l1, KeptIs d k l0 l1
  from_ : k.from_ = 0
  seen : k.seen = i
  gen : k.gen = i
  pend : d.pend = 0

set_option maxRecDepth 100000 in
set_option maxHeartbeats 1600000 in
theorem walk_KeptAgain {v : Value} {l : List ByteArray} (w : World) (hA : IsStrs w v l) :
    Calls Try.prog 4 #[v] w fun e w' => e = .returned (.bool true) ∧ Upd (fun _ => False) w w' := by
  obtain ⟨A, cap, gA, off, rfl, hm, hA0, hcells, hsz⟩ := hA.open_
  have HC := Lib.hid hcells
  have HS := Lib.hid hsz
  clear hcells hsz hA
  have HW := Lib.hid (awake_09 w)
  by_cases h60 : 60 < l.length
  · have h60' : (60 : Int) < (l.length : Int) := by omega
    go_enter Try.func4, Try.ntmps4
    go_wp2_with (go_at_call 24; refine HW.out.mono ?_; rintro e w1 ⟨rfl, hU1⟩)
    go_ret
    exact ⟨rfl, hU1⟩
  · have h60' : ¬ (60 : Int) < (l.length : Int) := by omega
    go_enter Try.func4, Try.ntmps4
    go_wp2_with fail
    refine HW.out.mono ?_
    rintro e w1 ⟨rfl, hU1⟩
    have HU1 := Lib.hid hU1
    clear hU1 HW
    go_wp2_with fail
    refine (new_s 20 _ (by omega) (by omega)).mono ?_
    rintro e w2 ⟨p, rfl, hD⟩
    have H2 : Hid (Again w1 w2 p 0 (Dk.fresh 20) ⟨0, [], 0, 1, 0, false⟩) := ⟨hD, ⟨_, _, fresh_is 20 0 (by omega)⟩, rfl, rfl, rfl, by decide⟩
    clear hD
    go_wp2_with fail
    go_loopw [5] (fun i wr => ∃ (k : Nat) (d : Dk) (kp : Kp), k ≤ l.length ∧ i = .int .i64 k ∧ Again w1 wr p k d kp ∧ (∀ j, k = j + 1 → ∀ (h : j < l.length), str kp.text = l[j])) (fun i _ => l.length - (intOf i).toNat)
    case atStart => exact ⟨0, _, _, by omega, rfl, H2.out, fun j hj => by omega⟩
    case round =>
      obtain ⟨k, d, kp, hk, rfl, hAg, hlast⟩ := hrel
      clear H2
      by_cases hlt : k < l.length
      · obtain rfl := hA0 (by omega)
        have hk60 : k < 100 := by omega
        have hlk := HS.out l[k] (List.getElem_mem _)
        obtain ⟨x, hx⟩ : ∃ x, l[k] = x := ⟨_, rfl⟩
        have hcw : ∀ w', Upd (fun _ => False) w1 w' → w'.cell? ⟨gA, off + k, none⟩ = some (.string x) := fun w' hu => by rw [← hx]; exact HC.out w' (HU1.out.then hu (fun _ e => e.elim)) k hlt
        rw [hx] at hlk
        have hc := hcw wr hAg.disk.upd
        have HCx := Lib.hid hcw
        have HAg := Lib.hid hAg
        have HX := Lib.hid (And.intro hx hlast)
        clear hAg hcw hx hlast
        by_cases h400 : 400 < x.size
        · have h400' : (400 : Int) < (x.size : Int) := by omega
          go_wp2_with fail
          go_ret
          exact ⟨rfl, HU1.out.then HAg.out.disk.upd (fun _ e => e.elim)⟩
        · have h400' : ¬ (400 : Int) < (x.size : Int) := by omega
          obtain ⟨l0, l1, hkept⟩ := HAg.out.kept
          obtain ⟨-, hnext, hlen, hpend⟩ := put_is' hkept x.data.toList (by simp; omega) (by have := HAg.out.seen; omega)
          have HK := Lib.hid (And.intro hkept (And.intro hnext hpend))
          clear hkept hnext hlen hpend
          go_wp2_with fail
          refine (open_at HAg.out.disk HK.out.1 0 (by rw [HAg.out.from_]; rfl)).mono ?_
          rintro e w3 ⟨b, rfl, hKp, hU, -⟩
          have H3 := Lib.hid (And.intro (HAg.out.disk.still hU) hKp)
          clear hKp hU hc
          by_cases h0 : k = 0
          · subst h0
            have hc3 : w3.cell? ⟨gA, off, none⟩ = some (.string x) := HCx.out w3 H3.out.1.upd
            go_wp2_with fail
            refine (get_at H3.out.2 kp.text false rfl (by rw [HAg.out.gen]; rfl)).mono ?_
            rintro e w4 ⟨rfl, hU⟩
            have H4 := Lib.hid (And.intro (H3.out.1.still hU) (H3.out.2.still hU))
            have hc4 : w4.cell? ⟨gA, off, none⟩ = some (.string x) := HCx.out w4 H4.out.1.upd
            clear hU H3 hc3
            go_wp2_with fail
            refine (put_s H4.out.1 H4.out.2 HK.out.1 x (by omega) (by have := HAg.out.seen; omega) (by have := HAg.out.pend; omega)).mono ?_
            rintro e w5 ⟨rfl, hD, hKp, -⟩
            have H5 := Lib.hid (And.intro hD hKp)
            have hc5 : w5.cell? ⟨gA, off, none⟩ = some (.string x) := HCx.out w5 hD.upd
            clear hD hKp H4 hc4
            go_wp2_with fail
            refine (get_at H5.out.2 x.data.toList true rfl rfl).mono ?_
            rintro e w6 ⟨rfl, hU⟩
            have H6 := Lib.hid (H5.out.1.still hU)
            have hc6 : w6.cell? ⟨gA, off, none⟩ = some (.string x) := HCx.out w6 H6.out.upd
            clear hU H5 hc5
            rw [str_eta]
            go_wp2_with fail
            refine (waits_s H6.out).mono ?_
            rw [HK.out.2.2]
            rintro e w7 ⟨rfl, hU⟩
            have H7 := Lib.hid (H6.out.still hU)
            clear hU H6 hc6
            go_wp2_with fail
            go_roundw
            case rel => exact ⟨1, _, _, by omega, by go_num, ⟨H7.out, HK.out.2.1, HAg.out.from_, by show kp.seen + 1 = _; rw [HAg.out.seen], by show kp.seen + 1 = _; rw [HAg.out.seen], HK.out.2.2⟩, fun j hj h => by
              obtain rfl : j = 0 := by omega
              rw [HX.out.1]; exact str_eta x⟩
            case measure => simp [intOf]; omega
          · have h1k : (1 : Int) ≤ (k : Int) := by omega
            have hk0 : decide ((0 : Int) < (k : Int)) = true := by rw [decide_eq_true_eq]; omega
            have htn : ((k : Int) - 1).toNat = k - 1 := by omega
            have hw1 : IntKind.i64.wrap ((k : Int) - 1) = (k : Int) - 1 := IntWalk.i64_in _ (by omega)
            have hcy : ∀ w', Upd (fun _ => False) w1 w' → w'.cell? ⟨gA, off + (k - 1), none⟩ = some (.string (str kp.text)) := fun w' hu => by
              rw [HX.out.2 (k - 1) (by omega) (by omega)]; exact HC.out w' (HU1.out.then hu (fun _ e => e.elim)) (k - 1) (by omega)
            have HCy := Lib.hid hcy
            clear hcy
            have hc3 := HCx.out w3 H3.out.1.upd
            go_wp2_with fail
            refine (get_at H3.out.2 kp.text true rfl (by rw [HAg.out.gen, decide_eq_true_eq]; omega)).mono ?_
            rintro e w4 ⟨rfl, hU⟩
            have H4 := Lib.hid (And.intro (H3.out.1.still hU) (H3.out.2.still hU))
            have hc4 := HCx.out w4 H4.out.1.upd
            have hd4 := HCy.out w4 H4.out.1.upd
            clear hU H3 hc3
            go_wp2_with fail
            refine (put_s H4.out.1 H4.out.2 HK.out.1 x (by omega) (by have := HAg.out.seen; omega) (by have := HAg.out.pend; omega)).mono ?_
            rintro e w5 ⟨rfl, hD, hKp, -⟩
            have H5 := Lib.hid (And.intro hD hKp)
            have hc5 := HCx.out w5 hD.upd
            clear hD hKp H4 hc4 hd4
            go_wp2_with fail
            refine (get_at H5.out.2 x.data.toList true rfl rfl).mono ?_
            rintro e w6 ⟨rfl, hU⟩
            have H6 := Lib.hid (H5.out.1.still hU)
            have hc6 := HCx.out w6 H6.out.upd
            clear hU H5 hc5
            rw [str_eta]
            go_wp2_with fail
            refine (waits_s H6.out).mono ?_
            rw [HK.out.2.2]
            rintro e w7 ⟨rfl, hU⟩
            have H7 := Lib.hid (H6.out.still hU)
            clear hU H6 hc6
            go_wp2_with fail
            go_roundw
            case rel => exact ⟨k + 1, _, _, by omega, by go_num, ⟨H7.out, HK.out.2.1, HAg.out.from_, by show kp.seen + 1 = _; rw [HAg.out.seen], by show kp.seen + 1 = _; rw [HAg.out.seen], HK.out.2.2⟩, fun j hj h => by
              obtain rfl : j = k := by omega
              rw [HX.out.1]; exact str_eta x⟩
            case measure => simp [intOf]; omega
      · have HAg := Lib.hid hAg
        clear hAg hlast
        go_wp2_with fail
        go_ret
        exact ⟨rfl, HU1.out.then HAg.out.disk.upd (fun _ e => e.elim)⟩
end Go.Proofs.Ytafgohnpnaiomaa
