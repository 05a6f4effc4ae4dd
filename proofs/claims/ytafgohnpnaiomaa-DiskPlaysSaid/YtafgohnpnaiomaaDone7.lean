/-
  Acts that are done to a disk: run; Great of chapter 07; its wake.
-/
import Derived.Test.YtafgohnpnaiomaaRun7
import Derived.Outline
namespace Go.Proofs.Ytafgohnpnaiomaa
open Go Go.RowKit

/-- An act within the bounds. -/
def Act7.small (a : Act7) : Prop := a.b.size ≤ 200 ∧ a.x.size ≤ 200 ∧ a.keeps.length ≤ 100
structure Great7End (l : List Act7) (b : Bool) : Prop where
  ok : b = false → l.length ≤ 200 ∧ ∀ a ∈ l, a.small
def Great7Post (l : List Act7) (w : World) (e : Ending) (w' : World) : Prop := ∃ b, e = .returned (.bool b) ∧ w = w' ∧ Great7End l b
set_option maxRecDepth 100000 in
set_option maxHeartbeats 800000 in
theorem great_07 {v : Value} {l : List Act7} (w w1 : World) (hA : IsActs07 w v l) (hu : Upd (fun _ => False) w w1) :
    Calls Try.prog 46 #[v] w1 (Great7Post l w1) := by
  obtain ⟨A, cap, bA, off, rfl, hm, hA0, hcells, hok⟩ := hA.open_
  have HC := Lib.hid (hcells w1 hu)
  have HK := Lib.hid hok
  clear hcells hok hA hu
  go_enter Try.func46, Try.ntmps46
  go_wp2_with fail
  go_loopw [3] (fun i wr => ∃ k : Nat, k ≤ l.length ∧ k ≤ 201 ∧ i = .int .i64 k ∧ wr = w1 ∧ ∀ j (h : j < l.length), j < k → l[j].small) (fun i _ => l.length - (intOf i).toNat)
  case atStart => exact ⟨0, by omega, by omega, rfl, rfl, fun j h hj => by omega⟩
  case round =>
    obtain ⟨k, hk, hk61, rfl, rfl, hall⟩ := hrel
    by_cases hlt : k < l.length
    · by_cases h60 : k ≤ 200
      · obtain rfl := hA0 (by omega)
        obtain ⟨-, -, -, c3, c4, -, c6⟩ := HC.out k hlt
        have ho := HK.out _ (List.getElem_mem hlt)
        have HS : Hid (∀ r, l[k] = r → r.small → ∀ j (h : j < l.length), j < k + 1 → l[j].small) := by
          intro r hr hs j h hj
          by_cases e : j = k
          · subst e; rw [hr]; exact hs
          · exact hall j h (by omega)
        clear hall
        obtain ⟨r, hr⟩ : ∃ r, l[k] = r := ⟨_, rfl⟩
        rw [hr] at c3 c4 c6 ho
        have HS := Lib.hid (HS.out r hr)
        clear hr
        obtain ⟨d, i, n, t, x, y, kp, ks⟩ := r
        obtain ⟨A5, cap5, b5, off5, e5, m5, -, -⟩ := ho.keep.open_
        have ht := ho.b
        have hx := ho.x
        simp only at c3 c4 c6 e5 ht hx m5
        subst e5
        clear ho
        have h60' : (k : Int) ≤ 200 := by omega
        by_cases g1 : 200 < t.size
        · have g1' : (200 : Int) < (t.size : Int) := by omega
          go_wp2_with fail
          go_ret
          exact ⟨true, rfl, rfl, ⟨by simp⟩⟩
        · have g1' : ¬ (200 : Int) < (t.size : Int) := by omega
          by_cases g2 : 200 < x.size
          · have g2' : (200 : Int) < (x.size : Int) := by omega
            go_wp2_with fail
            go_ret
            exact ⟨true, rfl, rfl, ⟨by simp⟩⟩
          · have g2' : ¬ (200 : Int) < (x.size : Int) := by omega
            by_cases g3 : 100 < ks.length
            · have g3' : (100 : Int) < (ks.length : Int) := by omega
              go_wp2_with fail
              go_ret
              exact ⟨true, rfl, rfl, ⟨by simp⟩⟩
            · have g3' : ¬ (100 : Int) < (ks.length : Int) := by omega
              go_wp2_with fail
              go_roundw
              case rel => exact ⟨k + 1, by omega, by omega, by go_num, trivial, HS.out ⟨by show t.size ≤ 200; omega, by show x.size ≤ 200; omega, by show ks.length ≤ 100; omega⟩⟩
              case measure => simp [intOf] <;> omega
      · have h60' : ¬ (k : Int) ≤ 200 := by omega
        have hl : (200 : Int) < (l.length : Int) := by omega
        clear hall
        go_wp2_with fail
        go_ret
        exact ⟨true, rfl, rfl, ⟨by simp⟩⟩
    · have Hall := Lib.hid hall
      clear hall
      by_cases h60 : 200 < l.length
      · have hl : (200 : Int) < (l.length : Int) := by omega
        go_wp2_with fail
        go_ret
        exact ⟨true, rfl, rfl, ⟨by simp⟩⟩
      · have hl : ¬ (200 : Int) < (l.length : Int) := by omega
        go_wp2_with fail
        go_ret
        refine ⟨false, rfl, rfl, ⟨fun _ => ⟨by omega, fun a ha => ?_⟩⟩⟩
        obtain ⟨j, hj, rfl⟩ := List.mem_iff_getElem.1 ha
        exact Hall.out j hj (by omega)

theorem Dk.read_up {d : Dk} (ho : d.off = false) {i : Nat} (hi : i < d.lasts.length) : d.read (i : Int) = (d.now i, 0) := Dk.read_there ho hi
theorem fresh_pend7 (n : Nat) : (Dk.fresh n).pend = 0 := by
  unfold Dk.pend Dk.fresh
  simp
theorem fresh_free (n : Nat) : (Dk.fresh n).fuse = -1 ∧ (Dk.fresh n).off = false ∧ (Dk.fresh n).waits.length = n ∧ (Dk.fresh n).lasts.length = n := ⟨rfl, rfl, by simp [Dk.fresh], by simp [Dk.fresh]⟩
theorem rep64_size (c : UInt8) : (repB c 64).size = 64 := by
  show (Lib.repeatL [c] 64).toArray.size = 64
  simp [Lib.repeatL]
/-- The wake's disk behind its write. -/
def dW : Dk := (Dk.fresh 2).push 0 (repB 1 64)
set_option maxRecDepth 100000 in
set_option maxHeartbeats 1600000 in
theorem awake_07 (w : World) : Calls Try.prog 45 #[] w fun e w' => e = .returned (.bool true) ∧ Upd (fun _ => False) w w' := by
  have h1 : (Dk.fresh 2).write 0 (repB 1 64) = (dW, 0) := Dk.write_free (d := Dk.fresh 2) (i := 0) rfl rfl (by decide) (rep64_size 1)
  have h2 : (dW.crash []).read 0 = (zeros64, 0) := by rfl
  have h3 : dW.sync = (dW.flush, 0) := Dk.sync_free rfl rfl
  have h4 : (dW.flush.crash []).read 0 = (repB 1 64, 0) := by rfl
  have h5 : zeros64 = repB 0 64 := repeat_zeros.symm
  have HH := Lib.hid (And.intro h1 (And.intro h2 (And.intro h3 (And.intro h4 h5))))
  clear h1 h2 h3 h4 h5
  go_enter Try.func45, Try.ntmps45
  go_wp2_with fail
  refine (new_x (Dks.none_ w) 2 2 rfl (by omega) (by omega)).mono ?_
  rintro e w1 ⟨p, rfl, hD⟩
  have H1 := Lib.hid hD
  clear hD
  go_wp2_with fail
  refine (full_c 1 _ (by omega)).mono ?_
  rintro e w2 ⟨rfl, hU⟩
  have H2 := Lib.hid (H1.out.still hU)
  clear hU H1
  go_wp2_with fail
  refine (write_x (i := 0) H2.out rfl 0 (repB 1 64) (by decide)).mono ?_
  rw [HH.out.1]
  rintro e w3 ⟨rfl, hD⟩
  have H3 := Lib.hid hD
  clear hD H2
  go_wp2_with fail
  refine (twin_x (i := 0) H3.out rfl).mono ?_
  rintro e w4 ⟨t, rfl, hD⟩
  have H4 := Lib.hid hD
  clear hD H3
  go_wp2_with fail
  refine (crash_x (i := 1) H4.out rfl (ints_nil w)).mono ?_
  rintro e w5 ⟨rfl, hD⟩
  have H5 := Lib.hid hD
  clear hD H4
  go_wp2_with fail
  refine (sync_x (i := 0) H5.out rfl).mono ?_
  rw [HH.out.2.2.1]
  rintro e w6 ⟨rfl, hD⟩
  have H6 := Lib.hid hD
  clear hD H5
  go_wp2_with fail
  refine (crash_x (i := 0) H6.out rfl (ints_nil w)).mono ?_
  rintro e w7 ⟨rfl, hD⟩
  have H7 := Lib.hid hD
  clear hD H6
  go_wp2_with fail
  refine (read_x (i := 0) H7.out rfl 0).mono ?_
  rw [HH.out.2.2.2.1]
  rintro e w8 ⟨rfl, rfl⟩
  go_wp2_with fail
  refine (read_x (i := 1) H7.out rfl 0).mono ?_
  rw [HH.out.2.1, HH.out.2.2.2.2]
  rintro e w8 ⟨rfl, rfl⟩
  go_wp2_with fail
  refine (full_c 1 _ (by omega)).mono ?_
  rintro e w9 ⟨rfl, hU⟩
  have H9 := Lib.hid (H7.out.still hU)
  clear hU H7
  go_wp2_with fail
  refine (full_c 0 _ (by omega)).mono ?_
  rintro e w10 ⟨rfl, hU⟩
  have H10 := Lib.hid (H9.out.still hU)
  clear hU H9
  go_wp2
  go_ret
  exact ⟨rfl, H10.out.upd⟩
end Go.Proofs.Ytafgohnpnaiomaa
