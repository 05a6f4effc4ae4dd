/-
  A log's parts: their sectors.
-/
import Derived.Test.YtafgohnpnaiomaaLogD
import Derived.Deep.RegionHeld3
namespace Go.Proofs.Ytafgohnpnaiomaa
open Go Go.RowKit

set_option maxRecDepth 100000 in
set_option maxHeartbeats 1600000 in
theorem sector_g (p : Lp) (w : World) (hg : p.epoch < 18446744073709551616 ∧ p.salt < 18446744073709551616 ∧ p.ahead < 18446744073709551616) (ht : p.text.length ≤ 32) (hn : p.number < 256) (ha : p.all < 256) :
    Calls Try.prog 89 #[p.val] w fun e w' => e = .returned (.string (str (closeL p.body))) ∧ Below w.heap.size w w' := by
  obtain ⟨i0, hi0, hz0, hz1, hz2⟩ := info_parts infoU8
  have HB : Hid (p.body = leB p.epoch 8 ++ leB p.salt 8 ++ leB p.ahead 8 ++ [UInt8.ofNat p.number, UInt8.ofNat p.all, UInt8.ofNat p.text.length, 0] ++ p.text ++ List.replicate (32 - p.text.length) 0) := rfl
  obtain ⟨ep, sa, ah, nu, al, tx⟩ := p
  generalize (⟨ep, sa, ah, nu, al, tx⟩ : Lp).body = bd at *
  simp only [Lp.val] at *
  have hsz : (str tx).size = tx.length := str_size tx
  go_enter Try.func89, Try.ntmps89
  go_wp2_with fail
  have hB0 : Blk ((w.alloc (.cells #[.int .u64 (ep : Int), .int .u64 (sa : Int), .int .u64 (ah : Int), .int .i64 (nu : Int), .int .i64 (al : Int), .string (str tx)] 135)).alloc (.cells #[.int .u64 (ep : Int), .int .u64 (sa : Int), .int .u64 (ah : Int)] 53)) w.heap.size 135 #[.int .u64 (ep : Int), .int .u64 (sa : Int), .int .u64 (ah : Int), .int .i64 (nu : Int), .int .i64 (al : Int), .string (str tx)] := (Blk.new w _ _).alloc _
  have hB1 : Blk ((w.alloc (.cells #[.int .u64 (ep : Int), .int .u64 (sa : Int), .int .u64 (ah : Int), .int .i64 (nu : Int), .int .i64 (al : Int), .string (str tx)] 135)).alloc (.cells #[.int .u64 (ep : Int), .int .u64 (sa : Int), .int .u64 (ah : Int)] 53)) (w.heap.size + 1) 53 #[.int .u64 (ep : Int), .int .u64 (sa : Int), .int .u64 (ah : Int)] := by
    have h := Blk.new (w.alloc (.cells #[.int .u64 (ep : Int), .int .u64 (sa : Int), .int .u64 (ah : Int), .int .i64 (nu : Int), .int .i64 (al : Int), .string (str tx)] 135)) 53 #[.int .u64 (ep : Int), .int .u64 (sa : Int), .int .u64 (ah : Int)]
    simpa using h
  have hU0 : Upd (fun _ => False) w ((w.alloc (.cells #[.int .u64 (ep : Int), .int .u64 (sa : Int), .int .u64 (ah : Int), .int .i64 (nu : Int), .int .i64 (al : Int), .string (str tx)] 135)).alloc (.cells #[.int .u64 (ep : Int), .int .u64 (sa : Int), .int .u64 (ah : Int)] 53)) := ((Upd.refl _ w).alloc _).alloc _
  have hsW : ((w.alloc (.cells #[.int .u64 (ep : Int), .int .u64 (sa : Int), .int .u64 (ah : Int), .int .i64 (nu : Int), .int .i64 (al : Int), .string (str tx)] 135)).alloc (.cells #[.int .u64 (ep : Int), .int .u64 (sa : Int), .int .u64 (ah : Int)] 53)).heap.size = w.heap.size + 2 := by simp
  have HW := Lib.hid (And.intro hB0 (And.intro hB1 (And.intro hU0 hsW)))
  clear hB0 hB1 hU0 hsW
  generalize ((w.alloc (.cells #[.int .u64 (ep : Int), .int .u64 (sa : Int), .int .u64 (ah : Int), .int .i64 (nu : Int), .int .i64 (al : Int), .string (str tx)] 135)).alloc (.cells #[.int .u64 (ep : Int), .int .u64 (sa : Int), .int .u64 (ah : Int)] 53)) = W at *
  go_loopw [3, 16] (fun v i wr => ∃ k : Nat, k ≤ 3 ∧ i = .int .i64 k ∧ Own wr 5 1 v (8 * k) (bytesV (([ep, sa, ah].take k).flatMap fun n => leB n 8)) ∧ Upd (fun _ => False) W wr ∧ (∀ q, v.ownBlock = some q → W.heap.size ≤ q)) (fun _ i _ => 3 - (intOf i).toNat)
  case atStart => exact ⟨0, by omega, rfl, Own.nil _ _ _, Upd.refl _ _, by simp [Value.ownBlock]⟩
  case round =>
    obtain ⟨k, hk, rfl, hO, hU, hl⟩ := hrel
    by_cases hlt : k < 3
    · have hc : wr.cell? ⟨w.heap.size + 1, k, none⟩ = some (.int .u64 (([ep, sa, ah][k]'(by simpa using hlt) : Nat) : Int)) := by
        rw [(HW.out.2.1.upd hU (fun e => e)).cell k]
        match k, hlt with
        | 0, _ => rfl
        | 1, _ => rfl
        | 2, _ => rfl
      have hstep : ([ep, sa, ah].take (k + 1)).flatMap (fun n => leB n 8) = ([ep, sa, ah].take k).flatMap (fun n => leB n 8) ++ leB ([ep, sa, ah][k]'(by simpa using hlt)) 8 := by
        rw [List.take_succ_eq_append_getElem (by simpa using hlt), List.flatMap_append]
        simp
      have HX := Lib.hid (And.intro hstep (And.intro hU hl))
      clear hstep hU hl
      generalize [ep, sa, ah][k]'(by simpa using hlt) = y at *
      go_wp2_with fail
      refine (putLittle_log u3 (8 * k) _ y 8 wr hO (by omega) (by omega)).mono ?_
      rintro e w1 ⟨v1, rfl, hO1, hU1, hl1⟩
      have H1 := Lib.hid (And.intro hO1 (And.intro hU1 hl1))
      clear hO1 hU1 hl1 hc hO
      go_wp2_with fail
      go_roundw
      case rel =>
        obtain ⟨hO1, hU1, hl1⟩ := H1.out
        obtain ⟨hstep, hU, hl⟩ := HX.out
        refine ⟨k + 1, by omega, by go_num, ?_, hU.then hU1 (fun b e => .inr (hl b e)), fun q hq => ?_⟩
        · rw [hstep, bytesV_app, show 8 * (k + 1) = 8 * k + 8 by omega]
          exact hO1
        · rcases hl1 with h | ⟨q', h, hq'⟩
          · exact hl q (by rw [← h]; exact hq)
          · rw [h] at hq
            have h5 := Option.some.inj hq
            have := hU.size
            omega
      case measure => simp [intOf]; omega
    · obtain rfl : k = 3 := by omega
      have hB1 := HW.out.1.upd hU (fun e => e)
      have hc1 := hB1.cells6
      have H1 := Lib.hid (And.intro ((HW.out.2.2.1).then hU (fun _ e => e.elim)) (And.intro hl (And.intro hB1 hU.size)))
      have h4 := Lib.hid (head4 nu al tx.length hn ha (by omega))
      have h24 : (([ep, sa, ah].take 3).flatMap fun n => leB n 8) = leB ep 8 ++ leB sa 8 ++ leB ah 8 := by simp
      rw [h24] at hO
      have HR : Hid (∀ W, Calls Try.prog 38 #[.string ⟨#[0]⟩, .int .i64 (32 - (tx.length : Int))] W fun e w' => e = .returned (.string (str (List.replicate (32 - tx.length) 0))) ∧ Below W.heap.size W w') := by
        intro W
        have h := Try.strings_Repeat ⟨#[0]⟩ (32 - tx.length) W (by omega) (by show 1 * _ ≤ _; omega)
        rw [repeat_zero] at h
        rw [show (32 - (tx.length : Int)) = ((32 - tx.length : Nat) : Int) from by omega]
        exact h
      clear hU hl h24 hB1
      go_wp2_with (first
        | (at_builtin
           refine wpList_append_src rfl _ _ _ _ rfl 5 i0 _ 1 1 Try.underlying30 hi0 hz0 hz1 hz2 rfl u3 24 _ rfl (hO.alloc _) _ 4 [.int .u8 (nu : Int), .int .u8 (al : Int), .int .u8 (tx.length : Int), .int .u8 0] rfl (Src.of_news Try.underlying30 _ rfl) (by simp [Value.oneCell']) (by unfold maxLen; omega) (by omega) ?_
           intro v2 w2 hO2 hU2 hl2 hs2
           obtain ⟨hU1, hl1, hB1, hS1⟩ := H1.out
           have hnb := hB1.lt
           have hB2 := (hB1.alloc _).upd hU2 (fun e => by have := hl1 _ e; have := HW.out.2.2.2; omega)
           have hc2 := hB2.cells6
           have hU2' : Upd (fun _ => False) w w2 := (hU1.alloc _).then hU2 (fun b h => .inr (by have := hl1 b h; have := HW.out.2.2.2; omega))
           rw [← h4.out, ← bytesV_app] at hO2
           have H2 := Lib.hid (And.intro hU2' hB2)
           clear hU1 hl1 hB1 hU2 hl2 hs2 hB2 hU2' hO hc1 hnb hS1))
      generalize hL : leB ep 8 ++ leB sa 8 ++ leB ah 8 ++ [UInt8.ofNat nu, UInt8.ofNat al, UInt8.ofNat tx.length, 0] = L at hO2 HB
      have hLl : L.length = 28 := by rw [← hL]; simp [leB_len]
      have hrun1 : (convert 30 9 v2).run Try.prog w2.drew = .ok (.string (str L)) w2.drew := run_to_string hO2.drew
      have hls : (str L).size = 28 := by rw [str_size, hLl]
      have hcat := Lib.hid (str_app L tx)
      have hcat2 := Lib.hid (str_app (L ++ tx) (List.replicate (32 - tx.length) 0))
      have hsz2 : (str (List.replicate (32 - tx.length) 0)).size = 32 - tx.length := by rw [str_size]; simp
      have HO := Lib.hid hO2
      have hHL := Lib.hid hL
      have hw48 : IntKind.i64.wrap (32 - (tx.length : Int)) = 32 - (tx.length : Int) := IntWalk.i64_in _ (by omega)
      have hle1 : (9223372036854775807 < 28 + tx.length) = False := by simp; omega
      have hle2 : (9223372036854775807 < 28 + tx.length + (32 - tx.length)) = False := by simp; omega
      have hle3 : (9223372036854775807 < (str L).size + (str tx).size) = False := by rw [hls, hsz]; exact hle1
      have hle4 : (9223372036854775807 < (str L ++ str tx).size + (str (List.replicate (32 - tx.length) 0)).size) = False := by rw [ByteArray.size_append, hls, hsz, hsz2]; exact hle2
      clear hL hO2
      go_region_held3 (fun w' => w'.cell? ⟨w.heap.size, 5, none⟩ = some (.string (str tx)) ∧ (convert 30 9 v2).run Try.prog w' = .ok (.string (str L)) w') (first | go_keep | (exact ⟨hc2.2.2.2.2.2, hrun1⟩))
        (first
        | (go_at_call 38
           refine (HR.out _).mono ?_
           rintro e w4 ⟨rfl, hb4⟩
           have hrun4 : (convert 30 9 v2).run Try.prog w4 = .ok (.string (str L)) w4 := run_to_string (HO.out.eqb fun q hq => hb4.block q (HO.out.lt hq))
           have hc4 : w4.cell? ⟨w.heap.size, 5, none⟩ = some (.string (str tx)) := (hb4.cell (p := ⟨w.heap.size, 5, none⟩) H2.out.2.lt).trans hc2.2.2.2.2.2)
        | (go_at_call 26
           refine (Close_c _ _ (by rw [ByteArray.size_append, ByteArray.size_append, hls, hsz, hsz2]; omega)).mono ?_
           rintro e w5 ⟨rfl, hb5⟩
           have hb45 : Below w2.heap.size w2 w5 := (below_of_drew hb4).trans (hb5.mono (below_of_drew hb4).size)
           have hrun5 : (convert 30 9 v2).run Try.prog w5 = .ok (.string (str L)) w5 := run_to_string (HO.out.eqb fun q hq => hb45.block q (HO.out.lt hq))
           have hc5 : w5.cell? ⟨w.heap.size, 5, none⟩ = some (.string (str tx)) := (hb45.cell (p := ⟨w.heap.size, 5, none⟩) H2.out.2.lt).trans hc2.2.2.2.2.2))
      all_goals go_wp2
      all_goals
        go_ret
        refine ⟨?_, ?_⟩
        · rw [HB.out, List.append_assoc]
          rfl
        · have hb3 : Below w.heap.size w w2 := H2.out.1.below (fun _ h => h.elim)
          have hb4' : Below w2.heap.size w2 w4 := below_of_drew hb4
          exact hb3.trans ((hb4'.mono hb3.size).trans (hb5.mono (Nat.le_trans hb3.size hb4'.size)))
end Go.Proofs.Ytafgohnpnaiomaa
