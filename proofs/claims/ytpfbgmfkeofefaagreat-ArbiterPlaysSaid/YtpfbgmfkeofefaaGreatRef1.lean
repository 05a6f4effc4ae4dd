/-
  The document's numbers (ref01) and registers' bytes (ref23).
-/
import Derived.Test.YtpfbgmfkeofefaaGreatArbA
import Derived.Test.YtpfbgmfkeofefaaGreatClose
import Derived.BigQuiet
import Derived.Deep.RegionHeld3
namespace Go.Proofs.YtpfbgmfkeofefaaGreat
open Go Go.RowKit

set_option maxRecDepth 100000 in
set_option maxHeartbeats 400000 in
theorem refNum_c (n : Nat) (w : World) (hn : n < 18446744073709551616) : Calls Tryz.prog 120 #[.int .u64 (n : Int)] w fun e w' => e = .returned (.string (str (putN n))) ∧ Upd (fun _ => False) w w' := by
  have h10 := size_u64 hn
  go_enter Tryz.func120, Tryz.ntmps120
  go_wp2_with fail
  go_loopw [0, 3] (fun x s wr => ∃ (k : Nat) (r : List UInt8), x = .int .u64 (k : Int) ∧ s = .string (str r) ∧ Upd (fun _ => False) w wr ∧ r ++ putN k = putN n ∧ k < 18446744073709551616 ∧ r.length ≤ 10) (fun x _ _ => (intOf x).toNat)
  case atStart => exact ⟨n, [], rfl, rfl, Upd.refl _ _, by simp, hn, by simp⟩
  case round =>
    obtain ⟨k, r, rfl, rfl, hU, hr, hk, hl⟩ := hrel
    have HU := Lib.hid hU
    clear hU
    have hszr : (str r).size = r.length := str_size _
    obtain ⟨S, hS⟩ : ∃ S, str r = S := ⟨_, rfl⟩
    rw [hS] at hszr ⊢
    by_cases hlt : k < 128
    · have hcv : ∀ W : World, _ := fun W => conv_one W (k : Int) (UInt8.ofNat k) (by rw [byte_low (by omega)])
      have hadd : (9223372036854775807 < S.size + (str [UInt8.ofNat k]).size) = False := by
        rw [str_size]; simp; omega
      clear hszr
      have hd : decide ((127 : Int) < (k : Int)) = false := decide_eq_false (by omega)
      go_wp2_with fail
      go_ret
      refine ⟨?_, HU.out.alloc _⟩
      rw [← hr, putN_lt hlt, ← str_add, hS]
      rfl
    · obtain ⟨y, hy⟩ : ∃ y, UInt8.ofNat (k % 128 + 128) = y := ⟨_, rfl⟩
      have hcv : ∀ W : World, _ := fun W => conv_one W (128 + (k : Int) % 128) y (by rw [← hy, byte_low (by omega)]; omega)
      have hadd : (9223372036854775807 < S.size + (str [y]).size) = False := by
        rw [str_size]; simp; omega
      clear hszr
      have HY := Lib.hid hy
      clear hy
      have hd : decide ((127 : Int) < (k : Int)) = true := decide_eq_true (by omega)
      go_wp2_with fail
      go_roundw
      case rel =>
        refine ⟨k / 128, r ++ [y], by go_num, by rw [← str_add, hS], HU.out.alloc _, ?_, by omega, ?_⟩
        · rw [← hr, putN_ge (n := k) (by omega), HY.out, List.append_assoc]; rfl
        · have h1 := congrArg List.length hr
          have h2 := sizeN_ge (n := k) (by omega)
          have h3 := sizeN_pos (k / 128)
          rw [List.length_append, putN_len, putN_len] at h1
          rw [List.length_append]; simp; omega
      case measure => simp [intOf]; omega
theorem beq_str (a : List UInt8) (s : ByteArray) : ((str a).toList == s.toList) = decide (a = s.data.toList) := by
  rw [ByteArray.toList_eq, ByteArray.toList_eq]
  show (a == s.data.toList) = _
  by_cases h : a = s.data.toList
  · rw [decide_eq_true h, beq_iff_eq]; exact h
  · rw [decide_eq_false h, beq_eq_false_iff_ne]; exact h
theorem wrap_u64 (z : Int) : IntKind.u64.wrap z = z % 18446744073709551616 := by
  simp only [IntKind.wrap, IntKind.bits, IntKind.signed]
  simp
theorem value_step (N b : Nat) : (128 * (N % 18446744073709551616) % 18446744073709551616 + b % 128) % 18446744073709551616 = (b % 128 + 128 * N) % 18446744073709551616 := by omega
set_option maxRecDepth 100000 in
set_option maxHeartbeats 400000 in
theorem refValue_c (s : ByteArray) (w : World) (hs : s.size ≤ 1000) : Calls Tryz.prog 160 #[.string s] w fun e w' => e = .returned (.tuple #[.int .u64 ((valN s.data.toList % 18446744073709551616 : Nat) : Int), .bool (decide (putN (valN s.data.toList % 18446744073709551616) = s.data.toList))]) ∧ Upd (fun _ => False) w w' := by
  have hlen : s.data.toList.length = s.size := by simp
  obtain ⟨V, hV⟩ : ∃ V, valN s.data.toList % 18446744073709551616 = V := ⟨_, rfl⟩
  rw [hV]
  have hVl : V < 18446744073709551616 := by omega
  have HV := Lib.hid hV
  clear hV
  go_enter Tryz.func160, Tryz.ntmps160
  go_wp2_with fail
  go_loop [4, 5] (fun n i => ∃ m : Nat, m ≤ s.size ∧ i = .int .i64 ((m : Int) - 1) ∧ n = .int .u64 ((valN (s.data.toList.drop m) % 18446744073709551616 : Nat) : Int)) (fun _ i => ((intOf i) + 1).toNat)
  case atStart =>
    refine ⟨s.size, by omega, by go_num, ?_⟩
    rw [List.drop_of_length_le (by omega)]
    rfl
  case round =>
    obtain ⟨m, hm, rfl, rfl⟩ := hrel
    cases m with
    | zero =>
      have hV2 : valN (s.data.toList.drop 0) % 18446744073709551616 = V := by rw [← HV.out]; rfl
      rw [hV2]
      clear hV2
      go_wp2_with fail
      refine (refNum_c V _ hVl).mono ?_
      rintro e w1 ⟨rfl, hU⟩
      have HU := Lib.hid hU
      clear hU
      go_wp2_with fail
      go_ret2
      refine ⟨?_, HU.out⟩
      rw [← beq_str]
      rfl
    | succ k =>
      have hk : k < s.size := by omega
      have hst := valN_cons_drop s.data.toList k (by omega)
      rw [sget s k hk] at hst
      obtain ⟨N, hN⟩ : ∃ N, valN (s.data.toList.drop (k + 1)) = N := ⟨_, rfl⟩
      rw [hN] at hst ⊢
      have hb := (s[k]).toNat_lt
      have HK := Lib.hid hst
      clear hst hN
      go_wp2_with fail
      go_round
      case rel =>
        refine ⟨k, by omega, by go_num, ?_⟩
        rw [HK.out, wrap_u64, wrap_u64]
        congr 1
        have := value_step N (s[k]).toNat
        omega
      case measure => simp [intOf]
/-- The document's reader. -/
structure InR (w0 w : World) (x : Nat) (S : ByteArray) (i : InS) : Prop where
  blk : Blk w x 202 #[.string S, .int .i64 (i.read : Int), .int .i64 i.fail]
  rest : i.rest = S.data.toList.drop i.read
  room : i.read ≤ S.size
  new : w0.heap.size ≤ x
  upd : Upd (fun _ => False) w0 w
theorem InR.still {w0 w w' : World} {x : Nat} {S : ByteArray} {i : InS} (h : InR w0 w x S i) (hu : Upd (fun _ => False) w w') : InR w0 w' x S i :=
  ⟨h.blk.upd hu (fun e => e), h.rest, h.room, h.new, h.upd.then hu (fun _ e => e.elim)⟩
theorem leadN_drop (s : ByteArray) (a c : Nat) (h : a + c < s.size) : (s.data.toList.drop a).getD c 0 = s[a + c] := by
  rw [← sget s (a + c) h, List.getD_eq_getElem?_getD, List.getD_eq_getElem?_getD, List.getElem?_drop]
set_option maxRecDepth 100000 in
set_option maxHeartbeats 800000 in
theorem next_c {w0 w : World} {x : Nat} {S : ByteArray} {i : InS} (h : InR w0 w x S i) (hS : S.size ≤ 1000000000) :
    Calls Tryz.prog 149 #[.pointer (some ⟨x, 0, none⟩)] w fun e w' => e = .returned (.tuple #[.int .u64 ((nextL i.rest).1 : Int), .int .i64 ((nextL i.rest).2.1 : Int), .int .i64 (nextL i.rest).2.2]) ∧ InR w0 w' x S i := by
  obtain ⟨R, hR⟩ : ∃ R, nextL i.rest = R := ⟨_, rfl⟩
  rw [hR]
  obtain ⟨L, a, f⟩ := i
  have hr := h.rest
  have hro := h.room
  simp only at hr hro hR
  have hlen : L.length = S.size - a := by rw [hr]; simp
  have HR := Lib.hid (And.intro hR hr)
  have H := Lib.hid h
  clear h hR hr
  go_enter Tryz.func149, Tryz.ntmps149
  go_wp2_with fail
  go_loopw [5] (fun n wr => ∃ c : Nat, n = .int .i64 ((c : Int) + 1) ∧ c ≤ 10 ∧ c ≤ L.length ∧ (∀ j, j < c → 128 ≤ (L.getD j 0).toNat) ∧ InR w0 wr x S ⟨L, a, f⟩) (fun n _ => (11 - intOf n).toNat)
  case atStart => exact ⟨0, rfl, by omega, by omega, fun j hj => by omega, H.out⟩
  case round =>
    obtain ⟨c, rfl, hc1, hc2, hg, hI⟩ := hrel
    have hc := hI.blk.cells3
    simp only at hc
    have HI := Lib.hid hI
    clear hI H
    by_cases c10 : c = 10
    · have hlead : leadN L 10 = c := leadN_is _ _ _ hc1 hc2 hg (.inl c10)
      have hRv : R = (0, 0, 8) := by rw [← HR.out.1, nextL, if_pos (by omega)]
      subst hRv
      subst c10
      clear hg hlead
      go_wp2_with fail
      go_ret3
      exact ⟨rfl, HI.out⟩
    · by_cases cl : c = L.length
      · have hlead : leadN L 10 = c := leadN_is _ _ _ hc1 hc2 hg (.inr (.inl cl))
        have hRv : R = (0, 0, 7) := by rw [← HR.out.1, nextL, if_neg (by omega), if_pos (by omega)]
        subst hRv
        have hgt : (S.size : Int) < (a : Int) + ((c : Int) + 1) := by omega
        clear hg hlead
        go_wp2_with fail
        go_quiet (fail)
        go_wp2_with fail
        go_ret3
        exact ⟨rfl, HI.out.still ((Upd.refl _ _).drewN _)⟩
      · have hac : a + c < S.size := by omega
        have hge : ((S.size : Int) < (a : Int) + ((c : Int) + 1)) = False := by
          rw [eq_iff_iff]; constructor
          · intro; omega
          · intro e; exact e.elim
        have hy : L.getD c 0 = S[a + c] := by rw [HR.out.2]; exact leadN_drop S a c hac
        have hac2 : a + (c + 1) - 1 < S.size := by omega
        have hsame : (S[a + (c + 1) - 1]).toNat = (S[a + c]).toNat := by simp
        have hp1 : 1 ≤ (a : Int) + ((c : Int) + 1) := by omega
        have hp2 : (a : Int) + ((c : Int) + 1) - 1 < (S.size : Int) := by omega
        have hb1 : (0 : Int) ≤ (a : Int) := by omega
        have hb2 : (a : Int) ≤ (a : Int) + ((c : Int) + 1) := by omega
        have hb3 : (a : Int) + ((c : Int) + 1) ≤ (S.size : Int) := by omega
        have hw1 : IntKind.i64.wrap ((a : Int) + ((c : Int) + 1)) = (a : Int) + ((c : Int) + 1) := IntWalk.i64_in _ (by omega)
        have hw2 : IntKind.i64.wrap ((a : Int) + ((c : Int) + 1) - 1) = (a : Int) + ((c : Int) + 1) - 1 := IntWalk.i64_in _ (by omega)
        by_cases hgo : 128 ≤ (S[a + c]).toNat
        · have HG := Lib.hid (And.intro hg (And.intro hy hgo))
          clear hg hy hsame
          go_wp2_with fail
          go_quiet (fail)
          go_wp2_with fail
          go_quiet (fail)
          go_wp2_with fail
          go_roundw
          case rel =>
            refine ⟨c + 1, by go_num, by omega, by omega, fun j hj => ?_, HI.out.still ((Upd.refl _ _).drewN _)⟩
            by_cases e : j = c
            · subst e; rw [HG.out.2.1]; exact HG.out.2.2
            · exact HG.out.1 j (by omega)
          case measure => simp [intOf]; omega
        · have hlead : leadN L 10 = c := leadN_is _ _ _ hc1 hc2 hg (.inr (.inr (by rw [hy]; omega)))
          have hRv := HR.out.1
          rw [nextL, if_neg (by omega), if_neg (by omega), hlead] at hRv
          have hex : (S.extract a (a + (c + 1))).data.toList = L.take (c + 1) := by
            rw [HR.out.2]
            simp [List.take_drop]
          have hesz : (S.extract a (a + (c + 1))).size ≤ 1000 := by
            have := congrArg List.length hex
            rw [List.length_take] at this
            simp at this
            simp
            omega
          have hV := fun W => refValue_c (S.extract a (a + (c + 1))) W hesz
          rw [hex] at hV
          obtain ⟨V, hVe⟩ : ∃ V, valN (L.take (c + 1)) % 18446744073709551616 = V := ⟨_, rfl⟩
          rw [hVe] at hV hRv
          obtain ⟨B, hB⟩ : ∃ B, decide (putN V = L.take (c + 1)) = B := ⟨_, rfl⟩
          rw [hB] at hV
          have HV := Lib.hid hV
          have HRv := Lib.hid (And.intro hRv hB)
          clear hVe hB
          clear hg hlead hRv hV hex hesz hy hsame
          go_wp2_with fail
          go_quiet (fail)
          go_wp2_with fail
          go_quiet (fail)
          go_wp2_with fail
          go_region_held3 (fun w' => w'.cell? ⟨x, 0, none⟩ = some (.string S) ∧ w'.cell? ⟨x, 1, none⟩ = some (.int .i64 (a : Int)))
            (first | go_keep | (refine ⟨?_, ?_⟩ <;> simp [*]))
            (first
              | (go_at_call 160
                 refine (HV.out _).mono ?_
                 rintro e w2 ⟨rfl, hU2⟩
                 have hI2 : InR w0 w2 x S ⟨L, a, f⟩ := by
                   first
                     | exact (HI.out.still ((Upd.refl _ _).drewN _)).still hU2
                     | exact ((HI.out.still ((Upd.refl _ _).drewN _)).still (Upd.refl _ _).drew).still hU2
                 have hc2 := hI2.blk.cells3
                 simp only at hc2
                 have HI2 := Lib.hid hI2
                 clear hU2 hI2))
          obtain ⟨hRv, hB⟩ := HRv.out
          clear HV HRv
          cases B
          · rw [if_neg (of_decide_eq_false hB)] at hRv
            subst hRv
            clear hB
            go_wp2_with fail
            go_ret3
            exact ⟨rfl, HI2.out⟩
          · rw [if_pos (of_decide_eq_true hB)] at hRv
            subst hRv
            clear hB
            go_wp2_with fail
            go_ret3
            exact ⟨rfl, HI2.out⟩
end Go.Proofs.YtpfbgmfkeofefaaGreat
