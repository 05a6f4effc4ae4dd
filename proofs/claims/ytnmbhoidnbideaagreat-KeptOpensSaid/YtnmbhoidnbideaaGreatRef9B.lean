/-
  The document's records of chapter 09: what ten sectors hold.
-/
import Derived.Test.YtnmbhoidnbideaaGreatRef9A
import Derived.Test.YtnmbhoidnbideaaGreatOpen9
import Derived.Test.YtnmbhoidnbideaaGreatArgs
import Derived.BigQuiet
namespace Go.Proofs.YtnmbhoidnbideaaGreat
open Go Go.RowKit

theorem textR_succ (L : List (List UInt8)) (n : Nat) : holdsR.textR L (n + 1) = holdsR.textR L n ++ ((lookL (L.getD n [])).1.drop 12).take ((lookL (L.getD n [])).1.getD 10 0).toNat := by
  unfold holdsR.textR
  rw [List.range_succ, List.flatMap_append]
  simp
theorem look_60 {s : List UInt8} (h : (lookL s).2 = 1) : (lookL s).1.length = 60 := (look_one h).2.2
theorem textR_len (L : List (List UInt8)) (n : Nat) (h : ∀ j, j < n → ((lookL (L.getD j [])).1.getD 10 0).toNat ≤ 48) : (holdsR.textR L n).length ≤ 48 * n := by
  induction n with
  | zero => simp [holdsR.textR]
  | succ n ih =>
    rw [textR_succ, List.length_append, List.length_take]
    have := ih (fun j hj => h j (by omega))
    have := h n (by omega)
    omega
/-- The sectors ahead of one are sound parts. -/
def GoodTo (M : List (List UInt8)) (k : Nat) : Prop := ∀ j, j < k → (lookL (M.getD j [])).2 = 1 ∧ ((lookL (M.getD j [])).1.getD 10 0).toNat ≤ 48
/-- The sectors ahead of one are the record's own. -/
def SameTo (M : List (List UInt8)) (t : List UInt8) (g k : Nat) : Prop := ∀ i, i < k → ((cutL t g).map fun p => closeL p.body).getD i [] = M.getD i []
set_option maxRecDepth 100000 in
set_option maxHeartbeats 3200000 in
theorem refHolds_c {w : World} {v : Value} {L : List ByteArray} (hR : Row w v (L.map Value.string)) (hL : L.length = 10) (hs : ∀ s ∈ L, s.size ≤ 64) :
    Calls Tryz.prog 71 #[v] w fun e w' => e = .returned (.tuple #[.string (str (holdsR (L.map fun s => s.data.toList)).1), .int .u64 ((holdsR (L.map fun s => s.data.toList)).2 : Int)]) ∧ Upd (fun _ => False) w w' := by
  obtain ⟨A, cap, b, off, rfl, -, hA, hcell⟩ := hR.open_
  simp only [List.length_map, hL] at hA hcell ⊢
  obtain rfl := hA (by omega)
  obtain ⟨M, hM⟩ : ∃ M, (L.map fun s => s.data.toList) = M := ⟨_, rfl⟩
  have hMi : ∀ i (h : i < 10), M.getD i [] = (L[i]'(by omega)).data.toList := by
    intro i h
    rw [← hM, List.getD_eq_getElem?_getD, List.getElem?_map, List.getElem?_eq_getElem (by omega)]
    rfl
  have HCell : Hid (∀ w', Upd (fun _ => False) w w' → ∀ i (h : i < 10), w'.cell? ⟨b, off + i, none⟩ = some (.string (L[i]'(by omega)))) := by
    show ∀ w', _
    intro w' hu i h
    have := hcell w' hu i h
    rw [List.getElem_map] at this
    exact this
  have hLook0 : ∀ W i (h : i < 10), Calls Tryz.prog 69 #[.string (L[i]'(by omega))] W fun e w' => e = .returned (.tuple #[.string (str (lookL (M.getD i [])).1), .int .i64 (lookL (M.getD i [])).2]) ∧ Upd (fun _ => False) W w' := by
    intro W i h
    rw [hMi i h]
    have := hs (L[i]'(by omega)) (List.getElem_mem _)
    exact refLook_c _ W (by omega)
  have HLook := Lib.hid hLook0
  have HMi := Lib.hid hMi
  rw [hM]
  clear hcell hLook0 hM hs hMi hR
  obtain ⟨R, hR⟩ : ∃ R, holdsR M = R := ⟨_, rfl⟩
  rw [hR]
  have HR := Lib.hid hR
  clear hR
  obtain ⟨s0, hs0⟩ : ∃ s0, L[0]'(show 0 < L.length by omega) = s0 := ⟨_, rfl⟩
  have HC0 : Hid (∀ w', Upd (fun _ => False) w w' → w'.cell? ⟨b, off, none⟩ = some (.string s0)) := by
    show ∀ w', _
    intro w' hu
    have := HCell.out w' hu 0 (by omega)
    rw [hs0] at this
    simpa using this
  have hc0 := HC0.out w (Upd.refl _ _)
  have hl0 : ∀ W, _ := fun W => HLook.out W 0 (by omega)
  rw [hs0] at hl0
  obtain ⟨⟨B0, z0⟩, hF⟩ : ∃ F, lookL (M.getD 0 []) = F := ⟨_, rfl⟩
  rw [hF] at hl0
  simp only at hl0
  have HL0 := Lib.hid hl0
  clear hl0 hs0
  by_cases hz : z0 = 1
  case neg =>
    have hz1 : (z0 != 1) = true := bne_iff_ne.2 hz
    obtain rfl : R = ([], 0) := by
      rw [← HR.out]
      unfold holdsR
      rw [if_pos (.inl (by rw [hF]; exact hz))]
    clear hz hF
    go_enter Tryz.func71, Tryz.ntmps71
    go_wp2_with fail
    refine (HL0.out _).mono ?_
    rintro e w1 ⟨rfl, hU⟩
    have H1 := Lib.hid hU
    clear hU hc0
    go_wp2_with fail
    go_ret2
    exact ⟨rfl, H1.out⟩
  case pos =>
    subst hz
    have hB60 : B0.length = 60 := by have := look_60 (s := M.getD 0 []) (by rw [hF]); rw [hF] at this; exact this
    obtain ⟨S0, hS0⟩ : ∃ S0, str B0 = S0 := ⟨_, rfl⟩
    have hsz0 : S0.size = 60 := by rw [← hS0, str_size, hB60]
    have hb0 : S0.data.toList = B0 := by rw [← hS0, str_list]
    have hgen : ∀ W, _ := fun W => refGen_c S0 W (by omega) (by omega)
    rw [hb0] at hgen
    rw [hS0] at HL0
    obtain ⟨g, hg⟩ : ∃ g, leN (B0.take 8) = g := ⟨_, rfl⟩
    rw [hg] at hgen
    have HG := Lib.hid hgen
    have h960 : 9 < S0.size := by omega
    obtain ⟨n, hn⟩ : ∃ n, (S0[9]'h960).toNat = n := ⟨_, rfl⟩
    have hn9 : (B0.getD 9 0).toNat = n := by
      rw [← hb0, ← hn, List.getD_eq_getElem?_getD, List.getElem?_eq_getElem (by simpa using h960)]
      rfl
    have hn256 : n < 256 := by rw [← hn]; exact (S0[9]'h960).toNat_lt
    have HF := Lib.hid (And.intro hF (And.intro hg hn9))
    clear hF hS0 hb0 hgen hn9 hB60
    by_cases hg0 : g = 0
    case pos =>
      subst hg0
      obtain rfl : R = ([], 0) := by
        rw [← HR.out]
        unfold holdsR
        rw [if_pos (.inr (by rw [HF.out.1]; exact HF.out.2.1))]
      clear hn hsz0 hg
      go_enter Tryz.func71, Tryz.ntmps71
      go_wp2_with fail
      refine (HL0.out _).mono ?_
      rintro e w1 ⟨rfl, hU⟩
      have H1 := Lib.hid hU
      clear hU hc0
      go_wp2_with fail
      refine (HG.out _).mono ?_
      rintro e w2 ⟨rfl, rfl⟩
      go_wp2_with fail
      go_ret2
      exact ⟨rfl, H1.out⟩
    case neg =>
      clear hg
      have hgt : ((g : Int) == 0) = false := by rw [beq_eq_false_iff_ne]; omega
      have hglt : g < 18446744073709551616 := by
        rw [← HF.out.2.1]
        refine Nat.lt_of_lt_of_le (leN_lt _) (Nat.pow_le_pow_right (by omega) (show 8 * _ ≤ 64 from ?_))
        rw [List.length_take]; omega
      by_cases hnn : n < 1 ∨ 9 < n
      case pos =>
        obtain rfl : R = ([], 0) := by
          rw [← HR.out]
          unfold holdsR
          rw [HF.out.1]
          simp only
          rw [HF.out.2.1, HF.out.2.2, if_neg (by simp; omega), if_pos hnn]
        rcases hnn with h | h
        all_goals
          go_enter Tryz.func71, Tryz.ntmps71
          go_wp2_with fail
          refine (HL0.out _).mono ?_
          rintro e w1 ⟨rfl, hU⟩
          have H1 := Lib.hid hU
          clear hU hc0
          go_wp2_with fail
          refine (HG.out _).mono ?_
          rintro e w2 ⟨rfl, rfl⟩
          go_wp2_with fail
          go_ret2
          exact ⟨rfl, H1.out⟩
      case neg =>
        have hn1 : 1 ≤ n := by omega
        have hn2 : n ≤ 9 := by omega
        have HN : Hid (¬ (n < 1 ∨ 9 < n)) := hnn
        clear hnn
        go_enter Tryz.func71, Tryz.ntmps71
        go_wp2_with fail
        refine (HL0.out _).mono ?_
        rintro e w1 ⟨rfl, hU⟩
        have H1 := Lib.hid hU
        clear hU hc0
        go_wp2_with fail
        refine (HG.out _).mono ?_
        rintro e w2 ⟨rfl, rfl⟩
        go_wp2_with fail
        clear hsz0 hn
        go_loopw [7, 8, 9, 10] (fun t i _ _ wr => ∃ k : Nat, k ≤ n ∧ i = .int .i64 (k : Int) ∧ t = .string (str (holdsR.textR M k)) ∧ GoodTo M k ∧ Upd (fun _ => False) w wr) (fun _ i _ _ _ => n - (intOf i).toNat)
        case atStart => exact ⟨0, by omega, rfl, rfl, fun j hj => absurd hj (by omega), H1.out⟩
        case round =>
          rename World => wa
          obtain ⟨k, hk, rfl, rfl, hgood, hU⟩ := hrel
          have HU := Lib.hid (And.intro hgood hU)
          clear hgood hU
          by_cases hlt : k < n
          · have hk10 : k < 10 := by omega
            have hck := HCell.out wa HU.out.2 k hk10
            have hlk : ∀ W, _ := fun W => HLook.out W k hk10
            obtain ⟨sk, hsk⟩ : ∃ sk, L[k]'(by omega) = sk := ⟨_, rfl⟩
            rw [hsk] at hck hlk
            obtain ⟨⟨Bk, zk⟩, hFk⟩ : ∃ F, lookL (M.getD k []) = F := ⟨_, rfl⟩
            rw [hFk] at hlk
            simp only at hlk
            have HLk := Lib.hid hlk
            clear hlk hsk
            by_cases hzk : zk = 1
            case neg =>
              have hz1 : (zk != 1) = true := bne_iff_ne.2 hzk
              obtain rfl : R = ([], 0) := by
                rw [← HR.out]
                unfold holdsR
                rw [HF.out.1]
                simp only
                rw [HF.out.2.1, HF.out.2.2, if_neg (by simp; omega), if_neg HN.out, if_pos ⟨k, hlt, .inl (by rw [hFk]; exact hzk)⟩]
              clear hzk hFk
              go_wp2_with fail
              refine (HLk.out _).mono ?_
              rintro e w3 ⟨rfl, hU⟩
              have H3 := Lib.hid (HU.out.2.then hU (fun _ e => e.elim))
              clear hU hck
              go_wp2_with fail
              go_ret2
              exact ⟨rfl, H3.out⟩
            case pos =>
              subst hzk
              have hB60 : Bk.length = 60 := by have := look_60 (s := M.getD k []) (by rw [hFk]); rw [hFk] at this; exact this
              obtain ⟨Sk, hSk⟩ : ∃ S, str Bk = S := ⟨_, rfl⟩
              have hszk : Sk.size = 60 := by rw [← hSk, str_size, hB60]
              have hbk : Sk.data.toList = Bk := by rw [← hSk, str_list]
              rw [hSk] at HLk
              have h10 : 10 < Sk.size := by omega
              obtain ⟨m, hm⟩ : ∃ m, (Sk[10]'h10).toNat = m := ⟨_, rfl⟩
              have hm10 : (Bk.getD 10 0).toNat = m := by
                rw [← hbk, ← hm, List.getD_eq_getElem?_getD, List.getElem?_eq_getElem (by simpa using h10)]
                rfl
              have hm256 : m < 256 := by rw [← hm]; exact (Sk[10]'h10).toNat_lt
              have HFk := Lib.hid (And.intro hFk hm10)
              clear hFk hSk hm10 hB60
              by_cases hm48 : 48 < m
              case pos =>
                obtain rfl : R = ([], 0) := by
                  rw [← HR.out]
                  unfold holdsR
                  rw [HF.out.1]
                  simp only
                  rw [HF.out.2.1, HF.out.2.2, if_neg (by simp; omega), if_neg HN.out, if_pos ⟨k, hlt, .inr (by rw [HFk.out.1]; simp only; rw [HFk.out.2]; exact hm48)⟩]
                clear hbk
                go_wp2_with fail
                refine (HLk.out _).mono ?_
                rintro e w3 ⟨rfl, hU⟩
                have H3 := Lib.hid (HU.out.2.then hU (fun _ e => e.elim))
                clear hU hck
                go_wp2_with fail
                go_ret2
                exact ⟨rfl, H3.out⟩
              case neg =>
                have hex : Sk.extract 12 (12 + m) = str ((Bk.drop 12).take m) := by
                  rw [extract_str_from, hbk, show 12 + m - 12 = m by omega]
                have hXs : ((Bk.drop 12).take m).length ≤ 48 := by rw [List.length_take]; omega
                have hcat : Hid (str (holdsR.textR M k) ++ str ((Bk.drop 12).take m) = str (holdsR.textR M (k + 1))) := by
                  show _ = _
                  rw [str_add, textR_succ, HFk.out.1]
                  simp only
                  rw [HFk.out.2]
                have htl := textR_len M k (fun j hj => (HU.out.1 j hj).2)
                obtain ⟨T, hT⟩ : ∃ T, str (holdsR.textR M k) = T := ⟨_, rfl⟩
                obtain ⟨X, hX⟩ : ∃ X, str ((Bk.drop 12).take m) = X := ⟨_, rfl⟩
                have hadd : (9223372036854775807 < T.size + X.size) = False := by
                  rw [← hT, ← hX, str_size, str_size]
                  simp
                  simp at hXs
                  omega
                rw [hT, hX] at hcat
                rw [hX] at hex
                rw [hT]
                have h12 : 12 + m ≤ Sk.size := by omega
                clear hbk htl hXs hT hX hszk
                go_wp2_with fail
                refine (HLk.out _).mono ?_
                rintro e w3 ⟨rfl, hU⟩
                have H3 := Lib.hid (HU.out.2.then hU (fun _ e => e.elim))
                clear hU hck
                go_wp2_with fail
                rw [hcat.out]
                go_roundw
                case rel =>
                  refine ⟨k + 1, by omega, by go_num, rfl, fun j hj => ?_, H3.out⟩
                  by_cases e : j = k
                  · subst e
                    rw [HFk.out.1]
                    simp only
                    rw [HFk.out.2]
                    exact ⟨trivial, by omega⟩
                  · exact HU.out.1 j (by omega)
                case measure => simp [intOf]; omega
          · obtain rfl : k = n := by omega
            have htl := textR_len M k (fun j hj => (HU.out.1 j hj).2)
            have hno : Hid (¬ ∃ i, i < k ∧ ((lookL (M.getD i [])).2 ≠ 1 ∨ 48 < ((lookL (M.getD i [])).1.getD 10 0).toNat)) := by
              show ¬ _
              rintro ⟨i, hi, hc⟩
              have := HU.out.1 i hi
              omega
            obtain ⟨t, ht⟩ : ∃ t, holdsR.textR M k = t := ⟨_, rfl⟩
            rw [ht] at htl ⊢
            have hRt : R = if 400 < t.length then ([], 0) else if allOf t.length ≠ k then ([], 0) else
                if ∀ i, i < k → ((cutL t g).map fun p => closeL p.body).getD i [] = M.getD i [] then (t, g) else ([], 0) := by
              rw [← HR.out, ← ht]
              unfold holdsR
              rw [HF.out.1]
              simp only
              rw [HF.out.2.1, HF.out.2.2, if_neg (by simp; omega), if_neg HN.out, if_neg hno.out]
            have HRt := Lib.hid hRt
            clear hRt ht
            obtain ⟨S, hS⟩ : ∃ S, str t = S := ⟨_, rfl⟩
            have hsz : S.size = t.length := by rw [← hS, str_size]
            have hst : S.data.toList = t := by rw [← hS, str_list]
            rw [hS]
            by_cases h400 : 400 < t.length
            case pos =>
              obtain rfl : R = ([], 0) := by rw [HRt.out, if_pos h400]
              have h400' : 400 < S.size := by omega
              clear hsz hst hS h400 htl
              go_wp2_with fail
              go_ret2
              exact ⟨rfl, HU.out.2⟩
            case neg =>
              have h400' : ¬ 400 < S.size := by omega
              have hsec := fun W => refSectors_c S g W (by omega)
              rw [hst, hsz] at hsec
              have HS := Lib.hid hsec
              have HT := Lib.hid (And.intro h400 (And.intro hsz (And.intro hst hS)))
              clear hsec hsz hst hS h400 htl
              obtain ⟨A, hA⟩ : ∃ A, allOf t.length = A := ⟨_, rfl⟩
              rw [hA] at HS HRt
              have hA30 : A ≤ 30 := by rw [← hA]; unfold allOf; have := HT.out.1; omega
              have HA := Lib.hid hA
              clear hA
              by_cases hAk : A = k
              case neg =>
                obtain rfl : R = ([], 0) := by rw [HRt.out, if_neg HT.out.1, if_pos hAk]
                have hne : ((A : Int) != (k : Int)) = true := by rw [bne_iff_ne]; omega
                go_wp2_with fail
                refine (HG.out _).mono ?_
                rintro e w2 ⟨rfl, rfl⟩
                go_wp2_with fail
                refine (HS.out _).mono ?_
                rintro e w3 ⟨v3, rfl, hG⟩
                obtain ⟨A3, cap3, rfl, -, -⟩ := hG.own.shape
                have H3 := Lib.hid (HU.out.2.then hG.upd (fun _ e => e.elim))
                clear hG
                go_wp2_with fail
                go_ret2
                exact ⟨rfl, H3.out⟩
              case pos =>
                subst hAk
                have h1A : 1 ≤ A := hn1
                go_wp2_with fail
                refine (HG.out _).mono ?_
                rintro e w2 ⟨rfl, rfl⟩
                go_wp2_with fail
                refine (HS.out _).mono ?_
                rintro e w3 ⟨v3, rfl, hGr⟩
                obtain ⟨g3, cap3, rfl, -, -⟩ := hGr.own.head (by omega)
                have HGr := Lib.hid hGr
                clear hGr
                go_wp2_with fail
                go_loopw [12] (fun i wr => ∃ j : Nat, j ≤ A ∧ i = .int .i64 (j : Int) ∧ SameTo M t g j ∧ Upd (fun _ => False) w3 wr) (fun i _ => A - (intOf i).toNat)
                case atStart => exact ⟨0, by omega, rfl, fun j hj => absurd hj (by omega), Upd.refl _ _⟩
                case round =>
                  rename World => wb
                  obtain ⟨j, hj, rfl, hsame, hU⟩ := hrel
                  have HJ := Lib.hid (And.intro hsame hU)
                  clear hsame hU
                  by_cases hjA : j < A
                  · have hj10 : j < 10 := by omega
                    have hcl := HCell.out wb ((HU.out.2.then HGr.out.upd (fun _ e => e.elim)).then HJ.out.2 (fun _ e => e.elim)) j hj10
                    have hlen : ((cutL t g).map Pt.secR).length = A := by rw [List.length_map, cutL_len, HA.out]
                    have hco : wb.cell? ⟨g3, j, none⟩ = some (.string (((cutL t g).map Pt.secR)[j]'(by omega))) := by
                      rw [(HGr.out.own.upd HJ.out.2 (fun _ _ e => e)).cellAt j (by omega), strs_get, List.getElem?_eq_getElem (by omega)]
                      rfl
                    have hMj : M.getD j [] = (L[j]'(by omega)).data.toList := HMi.out j hj10
                    have hOj : ((cutL t g).map fun p => closeL p.body).getD j [] = (((cutL t g).map Pt.secR)[j]'(by omega)).data.toList := by
                      rw [List.getD_eq_getElem?_getD, List.getElem?_map, List.getElem_map, List.getElem?_eq_getElem (by simpa using (by omega : j < ((cutL t g).map Pt.secR).length))]
                      rfl
                    obtain ⟨so, hso⟩ : ∃ so, ((cutL t g).map Pt.secR)[j]'(by omega) = so := ⟨_, rfl⟩
                    obtain ⟨sl, hsl⟩ : ∃ sl, L[j]'(by omega) = sl := ⟨_, rfl⟩
                    rw [hso] at hco hOj
                    rw [hsl] at hcl hMj
                    have HM := Lib.hid (And.intro hMj hOj)
                    clear hMj hOj hso hsl hlen
                    by_cases heq : so.data.toList = sl.data.toList
                    · have hne : (so.toList == sl.toList) = true := by
                        rw [ByteArray.toList_eq, ByteArray.toList_eq, heq]
                        simp
                      have HE := Lib.hid heq
                      clear heq
                      go_wp2_with fail
                      go_quiet (fail)
                      go_wp2_with fail
                      go_roundw
                      case rel =>
                        refine ⟨j + 1, by omega, by go_num, fun i hi => ?_, HJ.out.2.drewN _⟩
                        by_cases e : i = j
                        · subst e
                          rw [HM.out.1, HM.out.2, HE.out]
                        · exact HJ.out.1 i (by omega)
                      case measure => simp [intOf]; omega
                    · have hne : (so.toList == sl.toList) = false := by
                        rw [ByteArray.toList_eq, ByteArray.toList_eq, beq_eq_false_iff_ne]
                        exact heq
                      obtain rfl : R = ([], 0) := by
                        rw [HRt.out, if_neg HT.out.1, if_neg (by simp), if_neg]
                        intro hall
                        have := hall j hjA
                        rw [HM.out.1, HM.out.2] at this
                        exact heq this
                      clear heq
                      go_wp2_with fail
                      go_quiet (fail)
                      go_wp2_with fail
                      go_ret2
                      exact ⟨rfl, (HU.out.2.then HGr.out.upd (fun _ e => e.elim)).then (HJ.out.2.drewN _) (fun _ e => e.elim)⟩
                  · obtain rfl : j = A := by omega
                    obtain rfl : R = (t, g) := by
                      rw [HRt.out, if_neg HT.out.1, if_neg (by simp), if_pos (show ∀ i, _ from HJ.out.1)]
                    go_wp2_with fail
                    refine (HG.out _).mono ?_
                    rintro e w4 ⟨rfl, rfl⟩
                    go_wp2_with fail
                    go_ret2
                    exact ⟨by rw [← HT.out.2.2.2]; rfl, (HU.out.2.then HGr.out.upd (fun _ e => e.elim)).then HJ.out.2 (fun _ e => e.elim)⟩
end Go.Proofs.YtnmbhoidnbideaaGreat
