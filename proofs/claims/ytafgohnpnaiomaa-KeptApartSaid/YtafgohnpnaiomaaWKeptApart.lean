/-
  KeptApart: the walk.
-/
import Derived.Test.YtafgohnpnaiomaaLawV
import Derived.Outline
namespace Go.Proofs.Ytafgohnpnaiomaa
open Go Go.RowKit

def markA : ByteArray := str (closeL (List.replicate 60 0))
theorem markA_size : markA.size = 64 := by rw [markA, str_size, closeL, List.length_append, leB_len]; simp

/-- What the law has behind some of its texts. -/
structure Apart (w0 wr : World) (p a b : Nat) (i : Nat) (s t : List UInt8) : Prop where
  ex : ∃ d ka kb a0 a1 b0 b1, DkS w0 wr p d ∧ KpS w0 wr p a ka ∧ KpS w0 wr p b kb ∧ KeptIs d ka a0 a1 ∧ KeptIs d kb b0 b1 ∧ (ka.from_ = 2 ∧ kb.from_ = 29 ∧ ka.seen ≤ i ∧ kb.seen ≤ i ∧ d.pend ≤ 2 ∧ d.lasts.length = 50 ∧ ka.text = s ∧ kb.text = t) ∧
    (∀ j, j < 50 → (j < 2 ∨ 22 < j ∧ j < 29) → d.now j = zeros64) ∧ d.now 22 = markA ∧ d.now 49 = markA
theorem Apart.still {w0 w w' : World} {p a b i : Nat} {s t : List UInt8} (h : Apart w0 w p a b i s t) (hu : Upd (fun _ => False) w w') : Apart w0 w' p a b i s t := by
  obtain ⟨d, ka, kb, a0, a1, b0, b1, h1, h2, h3, h4⟩ := h.ex
  exact ⟨d, ka, kb, a0, a1, b0, b1, h1.still hu, h2.still hu, h3.still hu, h4⟩
theorem Apart.upd {w0 w : World} {p a b i : Nat} {s t : List UInt8} (h : Apart w0 w p a b i s t) : Upd (fun _ => False) w0 w := by
  obtain ⟨d, ka, kb, a0, a1, b0, b1, h1, h2, h3, h4⟩ := h.ex
  exact h1.upd
theorem apart_one {w0 wr : World} {p a b i : Nat} {s t : List UInt8} (h : Apart w0 wr p a b i s t) (hab : a ≠ b) (hi : i < 100) (x : ByteArray) (hx : x.size ≤ 400) :
    Calls Try.prog 29 #[.pointer (some ⟨a, 0, none⟩), .string x] wr fun e w' => e = .returned (.int .i64 0) ∧ Apart w0 w' p a b (i + 1) x.data.toList t := by
  obtain ⟨d, ka, kb, a0, a1, b0, b1, hD, hA, hB, hKa, hKb, ⟨g1, g2, g3, g4, g5, g6, g7, g8⟩, n1, n2, n3⟩ := h.ex
  refine (put_s hD hA hKa x hx (by omega) (by omega)).mono ?_
  rintro e w' ⟨rfl, hD', hA', hO⟩
  have hxl : x.data.toList.length ≤ 400 := by simpa using hx
  obtain ⟨-, ⟨c0, c1, hKa'⟩, hl, hp⟩ := put_is' hKa x.data.toList hxl (by omega)
  obtain ⟨p1, p2, p3, p4, p5⟩ := putD_free hKa x.data.toList hxl (by omega)
  refine ⟨rfl, _, _, kb, c0, c1, b0, b1, hD', hA', hO b kb (Ne.symm hab) hB, hKa', kept_other hKa hKb (by omega) _ hxl (by omega), ⟨g1, g2, ?_, by omega, by omega, by omega, rfl, g8⟩, fun j hj hj2 => ?_, ?_, ?_⟩
  · show ka.seen + 1 ≤ i + 1
    omega
  · rw [p5 j (by omega) (by omega)]; exact n1 j hj hj2
  · rw [p5 22 (by omega) (by omega)]; exact n2
  · rw [p5 49 (by omega) (by omega)]; exact n3
theorem apart_two {w0 wr : World} {p a b i : Nat} {s t : List UInt8} (h : Apart w0 wr p a b i s t) (hab : a ≠ b) (hi : i < 100) (x : ByteArray) (hx : x.size ≤ 400) :
    Calls Try.prog 29 #[.pointer (some ⟨b, 0, none⟩), .string x] wr fun e w' => e = .returned (.int .i64 0) ∧ Apart w0 w' p a b (i + 1) s x.data.toList := by
  obtain ⟨d, ka, kb, a0, a1, b0, b1, hD, hA, hB, hKa, hKb, ⟨g1, g2, g3, g4, g5, g6, g7, g8⟩, n1, n2, n3⟩ := h.ex
  refine (put_s hD hB hKb x hx (by omega) (by omega)).mono ?_
  rintro e w' ⟨rfl, hD', hB', hO⟩
  have hxl : x.data.toList.length ≤ 400 := by simpa using hx
  obtain ⟨-, ⟨c0, c1, hKb'⟩, hl, hp⟩ := put_is' hKb x.data.toList hxl (by omega)
  obtain ⟨p1, p2, p3, p4, p5⟩ := putD_free hKb x.data.toList hxl (by omega)
  refine ⟨rfl, _, ka, _, a0, a1, c0, c1, hD', hO a ka hab hA, hB', kept_other hKb hKa (by omega) _ hxl (by omega), hKb', ⟨g1, g2, by omega, ?_, by omega, by omega, g7, rfl⟩, fun j hj hj2 => ?_, ?_, ?_⟩
  · show kb.seen + 1 ≤ i + 1
    omega
  · rw [p5 j (by omega) (by omega)]; exact n1 j hj hj2
  · rw [p5 22 (by omega) (by omega)]; exact n2
  · rw [p5 49 (by omega) (by omega)]; exact n3
/-- The disk with its two marks. -/
def dA : Dk := ((Dk.fresh 50).push 22 markA).push 49 markA
theorem dA_now (j : Nat) (hj : j < 50) : dA.now j = if j = 22 ∨ j = 49 then markA else zeros64 := by
  have e : (Dk.fresh 50).now j = zeros64 := by
    unfold Dk.now Dk.at_ Dk.last Dk.fresh
    simp only [List.getD_eq_getElem?_getD, List.getElem?_replicate]
    rw [if_pos hj, if_pos hj]
    rfl
  rw [dA, Dk.push_now _ _ _ _ (by decide), Dk.push_now _ _ _ _ (by decide), e]
  by_cases h1 : j = 49
  · subst h1; rfl
  · by_cases h2 : j = 22
    · subst h2; rfl
    · rw [if_neg (Ne.symm h1), if_neg (Ne.symm h2), if_neg (by omega)]
theorem dA_is (f : Nat) (h : f = 2 ∨ f = 29) : KeptIs dA ⟨f, [], 0, 1, 0, false⟩ [] [] := by
  refine blank_is rfl rfl rfl f (by show _ ≤ 50; omega) fun j hj => ?_
  rw [dA_now _ (by omega), if_neg (by omega)]

set_option maxRecDepth 100000 in
set_option maxHeartbeats 1600000 in
theorem walk_KeptApart {v : Value} {l : List ByteArray} (w : World) (hA : IsStrs w v l) :
    Calls Try.prog 3 #[v] w fun e w' => e = .returned (.bool true) ∧ Upd (fun _ => False) w w' := by
  obtain ⟨A, cap, gA, off, rfl, hm, hA0, hcells, hsz⟩ := hA.open_
  have HC := Lib.hid hcells
  have HS := Lib.hid hsz
  clear hcells hsz hA
  have HW := Lib.hid (awake_09 w)
  by_cases h60 : 60 < l.length
  · have h60' : (60 : Int) < (l.length : Int) := by omega
    go_enter Try.func3, Try.ntmps3
    go_wp2_with (go_at_call 24; refine HW.out.mono ?_; rintro e w1 ⟨rfl, hU1⟩)
    go_ret
    exact ⟨rfl, hU1⟩
  · have h60' : ¬ (60 : Int) < (l.length : Int) := by omega
    go_enter Try.func3, Try.ntmps3
    go_wp2_with fail
    refine HW.out.mono ?_
    rintro e w1 ⟨rfl, hU1⟩
    have HU1 := Lib.hid hU1
    clear hU1 HW
    go_wp2_with fail
    refine (new_s 50 _ (by omega) (by omega)).mono ?_
    rintro e w2 ⟨p, rfl, hD⟩
    have H2 := Lib.hid hD
    clear hD
    go_wp2_with fail
    refine (Close_bad _ _ (by decide)).mono ?_
    rintro e w3 ⟨rfl, rfl⟩
    have hmk := make60
    have hcv := fun W => conv_z W 60 (by omega)
    go_wp2_with fail
    refine (show Calls Try.prog 26 _ _ (fun e w' => e = .returned (.tuple #[.string markA, .int .i64 0]) ∧ Below _ _ w') from Close_c (str (List.replicate 60 0)) _ (by decide)).mono ?_
    rintro e w4 ⟨rfl, hb⟩
    have H4 := Lib.hid ((H2.out.still ((Upd.refl _ _).alloc _)).below hb)
    clear hmk hcv hb H2
    go_wp2_with fail
    refine (show Calls Try.prog 27 _ _ (fun e w' => e = .returned (.int .i64 0) ∧ DkS w1 w' p ((Dk.fresh 50).push 22 markA)) from (write_s H4.out 22 markA (by decide)).mono fun e w' h => ?_).mono ?_
    · have hw := Dk.write_free (d := Dk.fresh 50) (i := 22) rfl rfl (by decide) markA_size
      rw [show ((22 : Nat) : Int) = 22 from rfl] at hw
      rw [hw] at h
      exact ⟨h.1, h.2.1⟩
    rintro e w5 ⟨rfl, hD⟩
    have H5 := Lib.hid hD
    clear hD H4
    go_wp2_with fail
    refine (show Calls Try.prog 27 _ _ (fun e w' => e = .returned (.int .i64 0) ∧ DkS w1 w' p dA) from (write_s H5.out 49 markA (by decide)).mono fun e w' h => ?_).mono ?_
    · have hw := Dk.write_free (d := (Dk.fresh 50).push 22 markA) (i := 49) rfl rfl (by decide) markA_size
      rw [show ((49 : Nat) : Int) = 49 from rfl] at hw
      rw [hw] at h
      exact ⟨h.1, h.2.1⟩
    rintro e w6 ⟨rfl, hD⟩
    have H6 := Lib.hid hD
    clear hD H5
    go_wp2_with fail
    refine (open_at H6.out (dA_is 2 (.inl rfl)) 2 rfl).mono ?_
    rintro e w7 ⟨a, rfl, hK, hU, -⟩
    have H7 := Lib.hid (And.intro (H6.out.still hU) hK)
    clear hK hU H6
    go_wp2_with fail
    refine (open_at H7.out.1 (dA_is 29 (.inr rfl)) 29 rfl).mono ?_
    rintro e w8 ⟨b, rfl, hK, hU, hne⟩
    have hab : a ≠ b := fun e => by have := H7.out.2.blk.lt; omega
    have H8 : Hid (Apart w1 w8 p a b 0 [] []) := ⟨_, _, _, _, _, _, _, H7.out.1.still hU, H7.out.2.still hU, hK, dA_is 2 (.inl rfl), dA_is 29 (.inr rfl), ⟨rfl, rfl, Nat.zero_le _, Nat.zero_le _, by decide, rfl, rfl, rfl⟩, fun j h1 h2 => by rw [dA_now j h1, if_neg (by omega)], by rw [dA_now _ (by omega), if_pos (by omega)], by rw [dA_now _ (by omega), if_pos (by omega)]⟩
    have HAB := Lib.hid hab
    clear hK hU H7 hne hab
    go_wp2_with fail
    go_loopw [11, 12, 13] (fun x y i wr => ∃ (k : Nat) (s t : List UInt8), k ≤ l.length ∧ i = .int .i64 k ∧ x = .string (str s) ∧ y = .string (str t) ∧ Apart w1 wr p a b k s t) (fun _ _ i _ => l.length - (intOf i).toNat)
    case atStart => exact ⟨0, [], [], by omega, rfl, rfl, rfl, H8.out⟩
    case round =>
      obtain ⟨k, s, t, hk, rfl, rfl, rfl, hAp⟩ := hrel
      by_cases hlt : k < l.length
      · obtain rfl := hA0 (by omega)
        have hk60 : k < 100 := by omega
        have hlk := HS.out l[k] (List.getElem_mem _)
        obtain ⟨x, hx⟩ : ∃ x, l[k] = x := ⟨_, rfl⟩
        have hcw : ∀ w', Upd (fun _ => False) w1 w' → w'.cell? ⟨gA, off + k, none⟩ = some (.string x) := fun w' hu => by rw [← hx]; exact HC.out w' (HU1.out.then hu (fun _ e => e.elim)) k hlt
        rw [hx] at hlk
        have hc := hcw wr hAp.upd
        have HCx := Lib.hid hcw
        have HAp := Lib.hid hAp
        clear hAp hcw hx
        by_cases h400 : 400 < x.size
        · have h400' : (400 : Int) < (x.size : Int) := by omega
          go_wp2_with fail
          go_ret
          exact ⟨rfl, HU1.out.then HAp.out.upd (fun _ e => e.elim)⟩
        · have h400' : ¬ (400 : Int) < (x.size : Int) := by omega
          by_cases hpar : k % 2 = 0
          · have hp' : ((k : Int) % 2 == 0) = true := by rw [beq_iff_eq]; omega
            go_wp2_with fail
            refine (apart_one HAp.out HAB.out hk60 x (by omega)).mono ?_
            rintro e w9 ⟨rfl, hA9⟩
            have hc9 := HCx.out w9 hA9.upd
            have HA9 := Lib.hid hA9
            clear hA9 hc
            go_wp2_with fail
            go_roundw
            case rel => exact ⟨k + 1, x.data.toList, t, by omega, by go_num, by rw [str_eta], rfl, HA9.out⟩
            case measure => simp [intOf]; omega
          · have hp' : ((k : Int) % 2 == 0) = false := by rw [beq_eq_false_iff_ne]; omega
            go_wp2_with fail
            refine (apart_two HAp.out HAB.out hk60 x (by omega)).mono ?_
            rintro e w9 ⟨rfl, hA9⟩
            have hc9 := HCx.out w9 hA9.upd
            have HA9 := Lib.hid hA9
            clear hA9 hc
            go_wp2_with fail
            go_roundw
            case rel => exact ⟨k + 1, s, x.data.toList, by omega, by go_num, rfl, by rw [str_eta], HA9.out⟩
            case measure => simp [intOf]; omega
      · obtain ⟨d, ka, kb, a0, a1, b0, b1, hD, hA, hB, hKa, hKb, ⟨g1, g2, g3, g4, g5, g6, g7, g8⟩, n1, n2, n3⟩ := hAp.ex
        have H9 := Lib.hid (And.intro hD (And.intro hKa hKb))
        have HN := Lib.hid (And.intro n1 (And.intro n2 (And.intro n3 (And.intro g6 hKa.off))))
        have HG := Lib.hid (And.intro g1 (And.intro g2 (And.intro g7 g8)))
        clear hAp hD hA hB hKa hKb n1 n2 n3 g1 g2 g3 g4 g5 g6 g7 g8
        go_wp2_with fail
        refine (open_at H9.out.1 H9.out.2.1 2 (by rw [HG.out.1]; rfl)).mono ?_
        rintro e v1 ⟨a', rfl, hK, hU, -⟩
        have G1 := Lib.hid (And.intro (H9.out.1.still hU) hK)
        clear hK hU
        go_wp2_with fail
        refine (open_at G1.out.1 H9.out.2.2 29 (by rw [HG.out.2.1]; rfl)).mono ?_
        rintro e v2 ⟨b', rfl, hK, hU, -⟩
        have G2 := Lib.hid (And.intro (G1.out.1.still hU) (And.intro (G1.out.2.still hU) hK))
        clear hK hU G1
        go_wp2_with fail
        refine (get_at G2.out.2.1 s _ HG.out.2.2.1 rfl).mono ?_
        rintro e v3 ⟨rfl, hU⟩
        have G3 := Lib.hid (And.intro (G2.out.1.still hU) (G2.out.2.2.still hU))
        clear hU G2
        go_wp2_with fail
        refine (get_at G3.out.2 t _ HG.out.2.2.2 rfl).mono ?_
        rintro e v4 ⟨rfl, hU⟩
        have G4 := Lib.hid (G3.out.1.still hU)
        clear hU G3 H9 HG
        go_wp2_with fail
        go_loopw [22] (fun i wr => ∃ j : Nat, j ≤ 50 ∧ i = .int .i64 j ∧ DkS w1 wr p d) (fun i _ => 50 - (intOf i).toNat)
        case atStart => exact ⟨0, by omega, rfl, G4.out⟩
        case round =>
          obtain ⟨j, hj, rfl, hD⟩ := hrel
          clear G4
          by_cases hlt2 : j < 50
          · have hread : ∀ z : ByteArray, d.now j = z → Calls Try.prog 31 #[.pointer (some ⟨p, 0, none⟩), .int .i64 (j : Int)] wr fun e w' => e = .returned (.tuple #[.string z, .int .i64 0]) ∧ wr = w' := by
              intro z hz
              have h := read_s hD (j : Int)
              rw [Dk.read_there HN.out.2.2.2.2 (by rw [HN.out.2.2.2.1]; exact hlt2), hz] at h
              exact h
            have HR := Lib.hid hread
            have HD := Lib.hid hD
            have hmk := make64
            have hcv : ∀ W : World, (convert 30 9 (.slice (some ⟨W.heap.size, 0, none⟩) 64 64)).run Try.prog (W.alloc (.cells (zcells 64) 5)) = .ok (.string zeros64) (W.alloc (.cells (zcells 64) 5)) := fun W => conv_z W 64 (by omega)
            clear hread hD
            by_cases c1 : j < 2
            · have d1 : ((j : Int) == 22) = false := by rw [beq_eq_false_iff_ne]; omega
              have d2 : ((j : Int) == 49) = false := by rw [beq_eq_false_iff_ne]; omega
              go_wp2_with fail
              refine (HR.out _ (HN.out.1 j hlt2 (.inl c1))).mono ?_
              rintro e w' ⟨rfl, rfl⟩
              go_wp2_with fail
              go_roundw
              case rel => exact ⟨j + 1, by omega, by go_num, HD.out.still ((Upd.refl _ _).alloc _)⟩
              case measure => simp [intOf]; omega
            · by_cases c2 : 22 < j
              · have d1 : ((j : Int) == 22) = false := by rw [beq_eq_false_iff_ne]; omega
                by_cases c3 : j < 29
                · have d2 : ((j : Int) == 49) = false := by rw [beq_eq_false_iff_ne]; omega
                  go_wp2_with fail
                  refine (HR.out _ (HN.out.1 j hlt2 (.inr ⟨c2, c3⟩))).mono ?_
                  rintro e w' ⟨rfl, rfl⟩
                  go_wp2_with fail
                  go_roundw
                  case rel => exact ⟨j + 1, by omega, by go_num, HD.out.still ((Upd.refl _ _).alloc _)⟩
                  case measure => simp [intOf]; omega
                · by_cases c4 : j = 49
                  · subst c4
                    go_wp2_with fail
                    refine (HR.out _ HN.out.2.2.1).mono ?_
                    rintro e w' ⟨rfl, rfl⟩
                    go_wp2_with fail
                    go_roundw
                    case rel => exact ⟨50, by omega, by go_num, HD.out⟩
                    case measure => simp [intOf]
                  · have d2 : ((j : Int) == 49) = false := by rw [beq_eq_false_iff_ne]; omega
                    go_wp2_with fail
                    refine (HR.out _ rfl).mono ?_
                    rintro e w' ⟨rfl, rfl⟩
                    go_wp2_with fail
                    go_roundw
                    case rel => exact ⟨j + 1, by omega, by go_num, HD.out⟩
                    case measure => simp [intOf]; omega
              · by_cases c4 : j = 22
                · subst c4
                  go_wp2_with fail
                  refine (HR.out _ HN.out.2.1).mono ?_
                  rintro e w' ⟨rfl, rfl⟩
                  go_wp2_with fail
                  go_roundw
                  case rel => exact ⟨23, by omega, by go_num, HD.out⟩
                  case measure => simp [intOf]
                · have d1 : ((j : Int) == 22) = false := by rw [beq_eq_false_iff_ne]; omega
                  have d2 : ((j : Int) == 49) = false := by rw [beq_eq_false_iff_ne]; omega
                  go_wp2_with fail
                  refine (HR.out _ rfl).mono ?_
                  rintro e w' ⟨rfl, rfl⟩
                  go_wp2_with fail
                  go_roundw
                  case rel => exact ⟨j + 1, by omega, by go_num, HD.out⟩
                  case measure => simp [intOf]; omega
          · have HD := Lib.hid hD
            clear hD
            go_wp2_with fail
            go_ret
            exact ⟨rfl, HU1.out.then HD.out.upd (fun _ e => e.elim)⟩
end Go.Proofs.Ytafgohnpnaiomaa
