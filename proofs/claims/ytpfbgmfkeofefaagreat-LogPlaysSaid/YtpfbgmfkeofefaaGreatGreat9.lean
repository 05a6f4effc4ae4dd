/-
  Great, of the chapters 09 and 10.
-/
import Derived.Test.YtpfbgmfkeofefaaGreatActs
import Derived.Test.YtpfbgmfkeofefaaGreatOps
import Derived.Outline
namespace Go.Proofs.YtpfbgmfkeofefaaGreat
open Go Go.RowKit

/-- An act within the bounds: t bytes of text, 1000 of x, 60 keeps. -/
def Act9.small (t : Nat) (a : Act9) : Prop := a.text.size ≤ t ∧ a.x.size ≤ 1000 ∧ a.keeps.length ≤ 60
structure GreatEnd (t : Nat) (l : List Act9) (b : Bool) : Prop where
  ok : b = false → l.length ≤ 60 ∧ ∀ a ∈ l, a.small t
def GreatPost (t : Nat) (l : List Act9) (w : World) (e : Ending) (w' : World) : Prop := ∃ b, e = .returned (.bool b) ∧ w = w' ∧ GreatEnd t l b
end Go.Proofs.YtpfbgmfkeofefaaGreat

/-
  Great, of chapter 10.
-/
namespace Go.Proofs.YtpfbgmfkeofefaaGreat
open Go Go.RowKit Go.ChangeShapes Go.WideShapes Go.ChangeAt Go.Deep

section
variable {H : Type} {enc : TypeId × Value → H} {w : World} {base : Nat} {spare : Nat → Bool} {held : Bool}
theorem acts10_of {fuel : Nat} {v : Value} {x : DataW H × List MemPlace} (h : DataW.trod enc Tryz.prog w base spare held fuel 23 [v] = some x) : ∃ l, IsActs10 w v l :=
  acts9_of Tryz.underlying23 Tryz.underlying46 (by kernel_rfl) (by kernel_rfl) rfl Tryz.underlying44 h
end
set_option maxRecDepth 100000 in
set_option maxHeartbeats 800000 in
theorem great_10 {v : Value} {l : List Act9} (w w1 : World) (hA : IsActs10 w v l) (hu : Upd (fun _ => False) w w1) :
    Calls Tryz.prog 8 #[v] w1 (GreatPost 2000 l w1) := by
  obtain ⟨A, cap, bA, off, rfl, hm, hA0, hcells, hok⟩ := hA.open_
  have HC := Lib.hid (hcells w1 hu)
  have HK := Lib.hid hok
  clear hcells hok hA hu
  go_enter Tryz.func8, Tryz.ntmps8
  go_wp2_with fail
  go_loopw [3] (fun i wr => ∃ k : Nat, k ≤ l.length ∧ k ≤ 61 ∧ i = .int .i64 k ∧ wr = w1 ∧ ∀ j (h : j < l.length), j < k → l[j].small 2000) (fun i _ => l.length - (intOf i).toNat)
  case atStart => exact ⟨0, by omega, by omega, rfl, rfl, fun j h hj => by omega⟩
  case round =>
    obtain ⟨k, hk, hk61, rfl, rfl, hall⟩ := hrel
    by_cases hlt : k < l.length
    · by_cases h60 : k ≤ 60
      · obtain rfl := hA0 (by omega)
        obtain ⟨-, c1, -, -, c4, c5⟩ := HC.out k hlt
        have ho := HK.out _ (List.getElem_mem hlt)
        have HS : Hid (∀ r, l[k] = r → r.small 2000 → ∀ j (h : j < l.length), j < k + 1 → l[j].small 2000) := by
          intro r hr hs j h hj
          by_cases e : j = k
          · subst e; rw [hr]; exact hs
          · exact hall j h (by omega)
        clear hall
        obtain ⟨r, hr⟩ : ∃ r, l[k] = r := ⟨_, rfl⟩
        rw [hr] at c1 c4 c5 ho
        have HS := Lib.hid (HS.out r hr)
        clear hr
        obtain ⟨d, t, n, a, x, kp, ks⟩ := r
        obtain ⟨A5, cap5, b5, off5, e5, m5, -, -⟩ := ho.keep.open_
        have ht := ho.text
        have hx := ho.x
        simp only at c1 c4 c5 e5 ht hx m5
        subst e5
        clear ho
        have h60' : (k : Int) ≤ 60 := by omega
        by_cases g1 : 2000 < t.size
        · have g1' : (2000 : Int) < (t.size : Int) := by omega
          go_wp2_with fail
          go_ret
          exact ⟨true, rfl, rfl, ⟨by simp⟩⟩
        · have g1' : ¬ (2000 : Int) < (t.size : Int) := by omega
          by_cases g2 : 1000 < x.size
          · have g2' : (1000 : Int) < (x.size : Int) := by omega
            go_wp2_with fail
            go_ret
            exact ⟨true, rfl, rfl, ⟨by simp⟩⟩
          · have g2' : ¬ (1000 : Int) < (x.size : Int) := by omega
            by_cases g3 : 60 < ks.length
            · have g3' : (60 : Int) < (ks.length : Int) := by omega
              go_wp2_with fail
              go_ret
              exact ⟨true, rfl, rfl, ⟨by simp⟩⟩
            · have g3' : ¬ (60 : Int) < (ks.length : Int) := by omega
              go_wp2_with fail
              go_roundw
              case rel => exact ⟨k + 1, by omega, by omega, by go_num, trivial, HS.out ⟨by show t.size ≤ 2000; omega, by show x.size ≤ 1000; omega, by show ks.length ≤ 60; omega⟩⟩
              case measure => simp [intOf]; omega
      · have h60' : ¬ (k : Int) ≤ 60 := by omega
        have hl : (60 : Int) < (l.length : Int) := by omega
        clear hall
        go_wp2_with fail
        go_ret
        exact ⟨true, rfl, rfl, ⟨by simp⟩⟩
    · have Hall := Lib.hid hall
      clear hall
      by_cases h60 : 60 < l.length
      · have hl : (60 : Int) < (l.length : Int) := by omega
        go_wp2_with fail
        go_ret
        exact ⟨true, rfl, rfl, ⟨by simp⟩⟩
      · have hl : ¬ (60 : Int) < (l.length : Int) := by omega
        go_wp2_with fail
        go_ret
        refine ⟨false, rfl, rfl, ⟨fun _ => ⟨by omega, fun a ha => ?_⟩⟩⟩
        obtain ⟨j, hj, rfl⟩ := List.mem_iff_getElem.1 ha
        exact Hall.out j hj (by omega)
end Go.Proofs.YtpfbgmfkeofefaaGreat
