/-
  Parts of the proof of VaultMetas: AesB, AesC, AesD.
-/
import Derived.Test.YtbhjgfibhegddaaGreatQVaultMetas06
set_option maxRecDepth 100000
set_option maxHeartbeats 16000000
namespace Go.Proofs.YtbhjgfibhegddaaGreat
section
open Go Go.RowKit
theorem fold_set (off : Nat) : ∀ (vs : List Value) (n : Nat) (cells : Array Value), off + n + vs.length ≤ cells.size →
 (vs.zipIdx n).foldl (fun (cs : Array Value) p => cs.setIfInBounds (off + p.2) p.1) cells = (cells.toList.take (off + n) ++ vs ++ cells.toList.drop (off + n + vs.length)).toArray
 | [], n, cells, h => by simp
 | v :: r, n, cells, h => by
   rw [List.length_cons] at h;rw [List.zipIdx_cons, List.foldl_cons, fold_set off r (n + 1) _ (by rw [Array.size_setIfInBounds]; omega)];have e := list_seg_step cells.toList (off + n) v r (by rw [Array.length_toList]; omega);rw [Array.toList_setIfInBounds];rw [show off + (n + 1) = off + n + 1 by omega];rw [show off + n + (v :: r).length = off + n + (r.length + 1) by rw [List.length_cons]];rw [← e]
theorem built_cipher (l : List UInt8) (hl : l.length = 256) : Tryz.prog.built 361 [(1, .agg (arrB l))] = some (arrB (List.replicate 240 0 ++ l)) := by
 obtain ⟨it, hit⟩ : ∃ it, Tryz.prog.info? 361 = some it := Option.isSome_iff_exists.1 (by kernel_rfl);have hz : it.zero = some (.agg (arrB (List.replicate 496 0))) := by
  have h : (Tryz.prog.info? 361).bind (·.zero) = some (.agg (arrB (List.replicate 496 0))) := by kernel_rfl
  rw [hit] at h;exact h
 unfold Program.built;rw [hit, Tryz.underlying361];simp only [hz];rw [show List.mapM (m := Option) _ _ = some [(0, 240), (240, 256)] from by kernel_rfl];simp only [Instr.fill];show (if (decide ((arrB l).size ≠ 256) || decide (240 + (arrB l).size > (arrB (List.replicate 496 0)).size)) = true then none else some (Array.foldl (fun cs x => cs.setIfInBounds (240 + x.snd) x.fst) (arrB (List.replicate 496 0)) (arrB l).zipIdx)) = _;rw [if_neg (by rw [arrB_size, arrB_size, hl, List.length_replicate]; decide)]
 congr 1
 rw [← Array.foldl_toList, Array.toList_zipIdx];have h := fold_set 240 (bytesV l) 0 (arrB (List.replicate 496 0)) (by rw [bytesV_len, hl, arrB_size, List.length_replicate]; omega);refine Eq.trans h ?_;unfold arrB;congr 1
 rw [bytesV_len, hl, bytesV_app];show List.take 240 (bytesV (List.replicate 496 0)) ++ bytesV l ++ List.drop 496 (bytesV (List.replicate 496 0)) = _;rw [List.drop_of_length_le (by rw [bytesV_len, List.length_replicate]; omega), List.append_nil];unfold bytesV;rw [← List.map_take, List.take_replicate];rfl
theorem copy_first {w : World} {g off n cap b o m c : Nat} {T : TypeId} {l0 l : List UInt8} (hB : Blk w g T (arrB l0)) (hn : n ≤ m) (hl : l.length = n) (hc : ∀ i, i < n → w.cell? ⟨b, o + i, none⟩ = some (.int .u8 ((l.getD i 0).toNat : Int))) (hf : off + n ≤ l0.length) :
 ∃ W r, (Builtin.copy_ #[89, 89] 3 #[.slice (some ⟨g, off, none⟩) n cap, .slice (some ⟨b, o, none⟩) m c]).run Tryz.prog w = .ok r W ∧ Blk W g T (arrB (l0.take off ++ l ++ l0.drop (off + n))) ∧ Upd (· = g) w W ∧ W.heap.size = w.heap.size := by
 have hrun := run_copy_row (P := Tryz.prog) w 89 89 3 5 g off n cap ⟨b, o, none⟩ m c (arrB l0) T (bytesV l) Tryz.underlying89 (by kernel_rfl) hB (by rw [bytesV_len, hl]; exact (Nat.min_eq_right hn).symm) (fun j u e => by
  have hj : j < l.length := by have := (List.getElem?_eq_some_iff.1 e).1; simpa [bytesV] using this
  rw [Addr.add_mid, hc j (by omega), ← e];simp [bytesV, hj]) (by rw [bytesV_len, arrB_size]; omega) (bytesV_one _)
 refine ⟨_, _, hrun, ?_, Upd.setRow_ _ _ _, by simp [World.setRow]⟩;have e : ((arrB l0).toList.take off ++ bytesV l ++ (arrB l0).toList.drop (off + (bytesV l).length)).toArray = arrB (l0.take off ++ l ++ l0.drop (off + n)) := by
  rw [bytesV_len, hl];simp [arrB, bytesV, List.map_take, List.map_drop]
 rw [e];exact hB.setRow _
def layB (V B : List UInt8) : List UInt8 := V ++ List.replicate (240 - V.length) 0 ++ B
theorem layB_len (V B : List UInt8) (h : V.length ≤ 240) : (layB V B).length = 240 + B.length := by
 unfold layB;rw [List.length_append, List.length_append, List.length_replicate];omega
theorem layB_put (V x B : List UInt8) (n : Nat) (hn : V.length = n) (h : n + x.length ≤ 240) : (layB V B).take n ++ x ++ (layB V B).drop (n + x.length) = layB (V ++ x) B := by
 subst hn;unfold layB;simp only [List.append_assoc];rw [List.take_left, List.drop_append, List.drop_of_length_le (by omega), List.nil_append, Nat.add_sub_cancel_left, List.drop_append_of_le_length (by rw [List.length_replicate]; omega), List.drop_replicate, List.length_append, show 240 - V.length - x.length = 240 - (V.length + x.length) by omega]
theorem layB_set (V B : List UInt8) (b : UInt8) (n : Nat) (hn : V.length = n) (h : n < 240) : (layB V B).set n b = layB (V ++ [b]) B := by
 subst hn;unfold layB;obtain ⟨m, hm⟩ : ∃ m, 240 - V.length = m + 1 := ⟨240 - V.length - 1, by omega⟩;rw [List.append_assoc, List.set_append_right _ _ (Nat.le_refl _), Nat.sub_self, hm, List.replicate_succ, List.cons_append, List.set_cons_zero, List.length_append, List.length_singleton, show 240 - (V.length + 1) = m by omega];simp
theorem layB_get (V B : List UInt8) (i : Nat) (h : i < V.length) : (layB V B).getD i 0 = V.getD i 0 := by
 unfold layB;rw [List.append_assoc, List.getD_eq_getElem?_getD, List.getElem?_append_left h, List.getD_eq_getElem?_getD]
theorem layB_box (V B : List UInt8) (hV : V.length ≤ 240) (i : Nat) : (layB V B).getD (240 + i) 0 = B.getD i 0 := by
 unfold layB;have h1 : (V ++ List.replicate (240 - V.length) (0 : UInt8)).length = 240 := by rw [List.length_append, List.length_replicate]; omega
 rw [List.getD_eq_getElem?_getD, List.getElem?_append_right (by omega), h1, Nat.add_sub_cancel_left, List.getD_eq_getElem?_getD]
theorem schedule_c (key : List UInt8) (hk : key.length = 32) (w : World) :
 Calls Tryz.prog 245 #[.agg (arrB key)] w fun e w' => ∃ c, e = .returned (.pointer (some ⟨c, 0, none⟩)) ∧ Blk w' c 361 (arrB (schedL key ++ boxL)) ∧ w.heap.size ≤ c ∧ Upd (fun _ => False) w w' := by
 obtain ⟨S, hS⟩ : ∃ S, schedL key = S := ⟨_, rfl⟩;obtain ⟨B, hB⟩ : ∃ B, boxL = B := ⟨_, rfl⟩;have hbc := fun W => box_c W
 rw [hB] at hbc;rw [hS, hB];have hBl : B.length = 256 := by rw [← hB]; exact boxL_len
 have hbu := built_cipher B hBl;have HBC := Lib.hid hbc;have HBU := Lib.hid hbu;have HK := Lib.hid (And.intro hk (And.intro hS (And.intro hB hBl)));obtain ⟨g, hg⟩ : ∃ g, w.heap.size = g := ⟨_, rfl⟩;have HG := Lib.hid hg;clear hbc hbu hk hS hB hBl;go_enter Tryz.func245, Tryz.ntmps245
 go_wp2_with fail
 generalize hw1 : World.alloc _ _ = w1;have hB1 : Blk w1 g 194 (arrB key) := by rw [← hw1, ← hg]; exact Blk.new w _ _
 have hU1 : Upd (fun _ => False) w w1 := by rw [← hw1]; exact (Upd.refl _ w).alloc _
 have HW1 := Lib.hid (And.intro hB1 hU1);clear hB1 hU1 hw1 hg;refine (HBC.out w1).mono ?_;rintro e w2 ⟨rfl, hU2⟩;have HU2 := Lib.hid hU2;clear hU2;go_wp2_with (first
  | (show wpList _ _ _ (⟨_, Op.build _ _, _, _, _, _⟩ :: _) _ _
     refine wpList_build_is rfl _ _ rfl [(1, .agg (arrB B))] _ (by kernel_rfl) HBU.out ?_))
 obtain ⟨c, hc⟩ : ∃ c, w2.heap.size = c := ⟨_, rfl⟩;have HC := Lib.hid hc;rw [hc];generalize hw3 : World.alloc _ _ = w3;have hB3 : Blk w3 c 361 (arrB (List.replicate 240 0 ++ B)) := by rw [← hw3, ← hc]; exact Blk.new w2 _ _
 have hU3 : Upd (fun _ => False) w2 w3 := by rw [← hw3]; exact (Upd.refl _ w2).alloc _
 have hkb : Blk w3 g 194 (arrB key) := HW1.out.1.upd (HU2.out.then hU3 (fun _ e => e.elim)) (fun e => e);have hgc : g < c := by rw [← hc]; exact Nat.lt_of_lt_of_le HW1.out.1.lt HU2.out.size
 have HW3 := Lib.hid (And.intro hB3 (And.intro ((HW1.out.2.then HU2.out (fun _ e => e.elim)).then hU3 (fun _ e => e.elim)) hkb));clear hB3 hU3 hkb hw3 hc;go_loopw [4, 13] (fun _ u wr => ∃ k : Nat, k ≤ 8 ∧ u = .int .i64 (k : Int) ∧ Upd (· = c) w3 wr ∧ Blk wr c 361 (arrB (layB (key.take (4 * k)) B))) (fun _ u _ => 8 - (intOf u).toNat)
 case atStart => exact ⟨0, by omega, rfl, Upd.refl _ _, HW3.out.1⟩
 case round =>
  obtain ⟨k, hk, rfl, hu, hB⟩ := hrel;by_cases hlt : k < 8
  ·have HB := Lib.hid (And.intro hu hB)
   have hkb := HW3.out.2.2.upd hu (fun e => by omega);have HKB := Lib.hid hkb;obtain ⟨q, hq⟩ : ∃ q, 4 * k = q := ⟨_, rfl⟩;have HQ := Lib.hid hq;have i1 : (q : Int) ≤ 32 := by omega
   have i0 : (0 : Int) ≤ (q : Int) := by omega
   have i2 : q < 32 := by omega
   have i3 : ¬ 32 = q := by omega
   have i5 : (k : Int) < 60 := by omega
   have i4 : IntKind.i64.wrap (4 * (k : Int)) = (q : Int) := by rw [IntWalk.i64_in _ (by omega)]; omega
   clear hu hB hkb hq;go_wp2_with fail
   go_still_tail 9, (by kernel_rfl)
   change wpList _ _ _ _ _ wr.drew;go_wp2_with fail
   clear i4;have hkl := HK.out.1;have hq := HQ.out;have hl4 : ((key.drop q).take 4).length = 4 := by rw [List.length_take, List.length_drop]; omega
   have htl : (key.take (4 * k)).length = 4 * k := by rw [List.length_take]; omega
   obtain ⟨W, r, hcp, hB4, hU4, hz4⟩ := copy_first (off := k * 4) (n := 4) (cap := 4) (b := g) (o := q) (m := 32 - q) (c := 32 - q) (l := (key.drop q).take 4) HB.out.2.drew (by omega) hl4 (fun i hi => by
    rw [World.cell?_drew, HKB.out.cellB (q + i) (by omega)];simp [List.getD_eq_getElem?_getD, hi]) (by rw [layB_len _ _ (by omega)]; omega)
   have hput := layB_put (key.take (4 * k)) ((key.drop q).take 4) B (k * 4) (by omega) (by omega);rw [hl4] at hput;rw [hput] at hB4;have htk : key.take (4 * k) ++ (key.drop q).take 4 = key.take (4 * (k + 1)) := by
    rw [← hq, show 4 * (k + 1) = 4 * k + 4 by omega, List.take_add]
   rw [htk] at hB4;have HB4 := Lib.hid (And.intro hB4 (HB.out.1.drew.then hU4 (fun q hq => .inl hq)));rw [hcp];clear hkl hq hl4 htl hcp hB4 hU4 hz4 hput htk;go_wp2_with fail
   go_roundw
   case rel => exact ⟨k + 1, by omega, by go_num, HB4.out.2, HB4.out.1⟩
   case measure => simp [intOf] <;> omega
  ·obtain rfl : k = 8 := by omega
   have e8 : ((8 : Nat) : Int) = 8 := rfl;rw [e8];have hkl := HK.out.1;rw [List.take_of_length_le (by omega)] at hB;have hsl : ∀ n, (schedAt key n).1.length = 32 + 4 * n := schedAt_len hkl;have HSL := Lib.hid hsl;have HB := Lib.hid (And.intro hu hB);clear hu hB hkl hlt hk e8 hsl;go_wp2_with fail
   go_loopw [5, 6] (fun p u wr => ∃ n : Nat, n ≤ 52 ∧ u = .int .i64 ((n + 8 : Nat) : Int) ∧ p = .int .u8 ((schedAt key n).2.toNat : Int) ∧ Upd (· = c) w3 wr ∧ Blk wr c 361 (arrB (layB (schedAt key n).1 B))) (fun _ u _ => 60 - (intOf u).toNat)
   case atStart => exact ⟨0, by omega, rfl, rfl, HB.out.1, HB.out.2⟩
   case round =>
    clear HB;obtain ⟨n, hn, rfl, rfl, hu, hB⟩ := hrel;by_cases hlt : n < 52
    ·have hWl := HSL.out n
     have hnx : schedAt key (n + 1) = ((schedAt key n).1 ++ (List.range 4).map (fun k => (schedAt key n).1.getD (4 * n + k) 0 ^^^ (wordK (n + 8) (schedAt key n).2 ((schedAt key n).1.drop (4 * (n + 7)))).getD k 0), if (n + 8) % 8 = 0 then twU (schedAt key n).2 else (schedAt key n).2) := rfl;obtain ⟨⟨V, pw⟩, hVp⟩ : ∃ V, schedAt key n = V := ⟨_, rfl⟩;rw [hVp] at hWl hnx hB ⊢;simp only at hWl hnx hB ⊢
     have hl4 : (V.drop (4 * (n + 7))).length = 4 := by rw [List.length_drop]; omega
     obtain ⟨t0, t1, t2, t3, hT⟩ : ∃ a b c d, V.drop (4 * (n + 7)) = [a, b, c, d] := by
      match V.drop (4 * (n + 7)), hl4 with
      | [a, b, c, d], _ => exact ⟨a, b, c, d, rfl⟩
     rw [hT] at hnx;have hgt : ∀ j, j < 4 → V.getD (4 * (n + 7) + j) 0 = [t0, t1, t2, t3].getD j 0 := fun j hj => by
      rw [← hT, List.getD_eq_getElem?_getD, List.getD_eq_getElem?_getD, List.getElem?_drop]
     have HB := Lib.hid (And.intro hu (And.intro hB (And.intro hWl (And.intro hgt hnx))));obtain ⟨i, hi⟩ : ∃ i, n + 8 = i := ⟨_, rfl⟩;obtain ⟨m, hm⟩ : ∃ m, n + 7 = m := ⟨_, rfl⟩;have HI := Lib.hid (And.intro hi hm);rw [hi];have j1 : IntKind.i64.wrap ((i : Int) - 1) = (m : Int) := by rw [IntWalk.i64_in _ (by omega)]; omega
     have j2 : (m : Int) < 60 := by omega
     have j3 : (i : Int) < 60 := by omega
     have j5 : ((i : Int) - 1) = (m : Int) := by omega
     clear hu hB hWl hgt hnx hVp hT hl4 hi hm;by_cases h8 : i % 8 = 0
     ·
      --#a {
      have k1 : ((i : Int) % 8 == 0) = true := by simp; omega
      have k2 : ((i : Int) % 4 == 0) = true := by simp; omega
      go_wp2_with (first
       | (refine wpList_load_part rfl _ _ rfl c (m * 4) rfl _ _ [.int .u8 (t0.toNat : Int), .int .u8 (t1.toNat : Int), .int .u8 (t2.toNat : Int), .int .u8 (t3.toNat : Int)] _ HB.out.2.1 (fun j v e => by
           obtain ⟨hi, hm⟩ := HI.out;have hWl := HB.out.2.2.1;have hj : j < 4 := by have := (List.getElem?_eq_some_iff.1 e).1; simpa using this
           rw [arrB_get _ _ (by rw [layB_len _ _ (by omega)]; omega), layB_get _ _ _ (by omega), show m * 4 + j = 4 * (n + 7) + j by omega, HB.out.2.2.2.1 j hj, ← e];match j, hj with
           | 0, _ => rfl
           | 1, _ => rfl
           | 2, _ => rfl
           | 3, _ => rfl) Tryz.underlying82 rfl (by kernel_rfl) ?_))
      obtain ⟨gt, hgt⟩ : ∃ gt, wr.heap.size = gt := ⟨_, rfl⟩;rw [hgt];generalize hwq : World.alloc _ _ = wq;have hBq : Blk wq gt 82 (arrB [t1, t2, t3, t0]) := by rw [← hwq, ← hgt]; exact Blk.new wr _ _
      have hCq : Blk wq c 361 (arrB (layB V B)) := by rw [← hwq]; exact HB.out.2.1.alloc _
      have hUq : Upd (· = c) w3 wq := by rw [← hwq]; exact HB.out.1.alloc _
      have hgl : w3.heap.size ≤ gt := by rw [← hgt]; exact HB.out.1.size
      have hne : gt ≠ c := fun e => by have h1 := HB.out.2.1.lt; omega
      have HQ := Lib.hid (And.intro hBq (And.intro hCq (And.intro hUq (And.intro hgl hne))));clear hwq hBq hCq hUq hgl hne hgt;go_loopw [8, 53] (fun _ u w' => ∃ k : Nat, k ≤ 4 ∧ u = .int .i64 (k : Int) ∧ Blk w' gt 82 (arrB (mapAt (fun b => B.getD b.toNat 0) [t1, t2, t3, t0] k)) ∧ Blk w' c 361 (arrB (layB V B)) ∧ Upd (· = c) w3 w') (fun _ u _ => 4 - (intOf u).toNat)
      case atStart => exact ⟨0, by omega, rfl, HQ.out.1, HQ.out.2.1, HQ.out.2.2.1⟩
      case round =>
       obtain ⟨k, hk, rfl, hBk, hCk, hUk⟩ := hrel;by_cases hlt : k < 4
       ·have hc1 := hBk.cellB k (by rw [mapAt_len]; exact hlt)
        rw [mapAt_get _ _ _ (by exact hlt)] at hc1;have hst := mapAt_step (fun b => B.getD b.toNat 0) [t1, t2, t3, t0] k (by exact hlt);obtain ⟨x, hx⟩ : ∃ x, [t1, t2, t3, t0].getD k 0 = x := ⟨_, rfl⟩;rw [hx] at hc1 hst;have hxl := x.toNat_lt;have hVl := HB.out.2.2.1;have hc2 := hCk.cellB (240 + x.toNat) (by rw [layB_len _ _ (by omega), HK.out.2.2.2]; omega);rw [layB_box _ _ (by omega)] at hc2;obtain ⟨y, hy⟩ : ∃ y, B.getD x.toNat 0 = y := ⟨_, rfl⟩;rw [hy] at hc2;simp only [hy] at hst;have hf := hBk.frozen k;have j7 : (k : Int) < 4 := by omega
        have j8 : (x.toNat : Int) < 256 := by omega
        have HBk := Lib.hid (And.intro hBk (And.intro hCk (And.intro hUk hst)));clear hBk hCk hUk hst hx hy hVl hxl j1 j5;go_wp2_with fail
        go_still_tail 10, (by kernel_rfl)
        change wpList _ _ _ _ _ (World.drew _);go_wp2_with fail
        go_roundw
        case rel =>
         refine ⟨k + 1, by omega, by go_num, ?_, ?_, ?_⟩
         ·rw [← HBk.out.2.2.2]; exact (HBk.out.1.setB k y).drew
         ·exact (HBk.out.2.1.far (p := ⟨gt, k, none⟩) (fun e => HQ.out.2.2.2.2 e.symm) _).drew
         ·exact (HBk.out.2.2.1.setCell (p := ⟨gt, k, none⟩) (.inr HQ.out.2.2.2.1) _).drew
        case measure => simp [intOf] <;> omega
       ·obtain rfl : k = 4 := by omega
        have e4 : ((4 : Nat) : Int) = 4 := rfl;rw [e4];rw [show mapAt (fun b => B.getD b.toNat 0) [t1, t2, t3, t0] 4 = [t1, t2, t3, t0].map (fun b => B.getD b.toNat 0) from mapAt_all _ [t1, t2, t3, t0]] at hBk;clear e4 hlt hk;have hc0 := hBk.cellB 0 (by show 0 < 4; omega);have hf0 := hBk.frozen 0;have hx0 := xorB (B.getD t1.toNat 0) pw;have HTW := Lib.hid (fun W => twice_c pw W);obtain ⟨a0, ha0⟩ : ∃ a, B.getD t1.toNat 0 = a := ⟨_, rfl⟩;rw [show ([t1, t2, t3, t0].map (fun b => B.getD b.toNat 0)).getD 0 0 = a0 from ha0] at hc0;rw [ha0] at hx0;obtain ⟨z0, hz0⟩ : ∃ z, a0 ^^^ pw = z := ⟨_, rfl⟩;rw [hz0] at hx0;have HS := Lib.hid (And.intro hBk (And.intro hCk (And.intro hUk (And.intro ha0 hz0))));clear hBk hCk hUk ha0 hz0;go_wp2_with fail
        refine (HTW.out _).mono ?_;rintro e w9 ⟨rfl, rfl⟩;have hBT := HS.out.1.setB 0 z0;have hCT := HS.out.2.1.far (p := ⟨gt, 0, none⟩) (fun e => HQ.out.2.2.2.2 e.symm) (.int .u8 (z0.toNat : Int));have hUT := HS.out.2.2.1.setCell (p := ⟨gt, 0, none⟩) (.inr HQ.out.2.2.2.1) (.int .u8 (z0.toNat : Int));rw [show ([t1, t2, t3, t0].map fun b => B.getD b.toNat 0).set 0 z0 = [z0, B.getD t2.toNat 0, B.getD t3.toNat 0, B.getD t0.toNat 0] from rfl] at hBT;obtain ⟨hax, hzx⟩ := HS.out.2.2.2;clear HS hc0 hf0 hx0;have hWl := HB.out.2.2.1;obtain ⟨T, hT⟩ : ∃ T, [z0, B.getD t2.toNat 0, B.getD t3.toNat 0, B.getD t0.toNat 0] = T := ⟨_, rfl⟩;rw [hT] at hBT;have hTl : T.length = 4 := by rw [← hT]; rfl
        have hnx : schedAt key (n + 1) = (V ++ (List.range 4).map (fun k => V.getD (4 * n + k) 0 ^^^ T.getD k 0), twU pw) := by
         obtain ⟨hi, hm⟩ := HI.out;rw [HB.out.2.2.2.2, ← hT];have hBx := HK.out.2.2.1;subst hi;unfold wordK;simp only [hBx];rw [if_pos h8, if_pos h8, if_pos (by omega : (n + 8) % 4 = 0), if_pos h8, ← hzx, ← hax];rfl
        have HT := Lib.hid (And.intro hBT (And.intro hCT (And.intro hUT (And.intro hTl hnx))));clear hBT hCT hUT hTl hnx hT hWl j1 j5;go_wp2_with fail
        go_loopw [9, 77] (fun _ u w' => ∃ k : Nat, k ≤ 4 ∧ u = .int .i64 (k : Int) ∧ Blk w' gt 82 (arrB T) ∧ Blk w' c 361 (arrB (layB (V ++ (List.range k).map (fun k => V.getD (4 * n + k) 0 ^^^ T.getD k 0)) B)) ∧ Upd (· = c) w3 w') (fun _ u _ => 4 - (intOf u).toNat)
        case atStart => exact ⟨0, by omega, rfl, HT.out.1, by simpa using HT.out.2.1, HT.out.2.2.1⟩
        case round =>
         obtain ⟨k, hk, rfl, hBk, hCk, hUk⟩ := hrel;by_cases hlt : k < 4
         ·obtain ⟨hi, hm⟩ := HI.out
          have hVl := HB.out.2.2.1;have hTl := HT.out.2.2.2.1;have hUl : (V ++ (List.range k).map (fun k => V.getD (4 * n + k) 0 ^^^ T.getD k 0)).length = i * 4 + k := by rw [List.length_append, List.length_map, List.length_range]; omega
          have hc1 := hBk.cellB k (by omega);have hc2 := hCk.cellB (n * 4 + k) (by rw [layB_len _ _ (by omega)]; omega);rw [layB_get _ _ _ (by omega), show n * 4 + k = 4 * n + k by omega, List.getD_eq_getElem?_getD, List.getElem?_append_left (by omega), ← List.getD_eq_getElem?_getD] at hc2;rw [show 4 * n + k = n * 4 + k by omega] at hc2;have hc3 := hCk.cellB (i * 4 + k) (by rw [layB_len _ _ (by omega), HK.out.2.2.2]; omega);have hst := layB_set (V ++ (List.range k).map (fun k => V.getD (4 * n + k) 0 ^^^ T.getD k 0)) B (V.getD (4 * n + k) 0 ^^^ T.getD k 0) (i * 4 + k) hUl (by omega);rw [List.append_assoc, show (List.range k).map (fun k => V.getD (4 * n + k) 0 ^^^ T.getD k 0) ++ [V.getD (4 * n + k) 0 ^^^ T.getD k 0] = (List.range (k + 1)).map (fun k => V.getD (4 * n + k) 0 ^^^ T.getD k 0) by rw [List.range_succ, List.map_append]; rfl, show 4 * n + k = n * 4 + k by omega] at hst
          obtain ⟨x, hx⟩ : ∃ x, V.getD (n * 4 + k) 0 = x := ⟨_, rfl⟩;obtain ⟨y, hy⟩ : ∃ y, T.getD k 0 = y := ⟨_, rfl⟩;rw [hx] at hc2 hst;rw [hy] at hc1 hst;obtain ⟨z, hz⟩ : ∃ z, x ^^^ y = z := ⟨_, rfl⟩;have hxy := xorB x y;rw [hz] at hxy hst;obtain ⟨old, hold⟩ : ∃ old, (layB (V ++ (List.range k).map (fun k => V.getD (4 * n + k) 0 ^^^ T.getD k 0)) B).getD (i * 4 + k) 0 = old := ⟨_, rfl⟩;rw [hold] at hc3;have hf := hCk.frozen (i * 4 + k);have j7 : (k : Int) < 4 := by omega
          have j9 : (n : Int) < 60 := by omega
          have HBk := Lib.hid (And.intro hBk (And.intro hCk (And.intro hUk hst)));have j6 : IntKind.i64.wrap ((i : Int) - 8) = (n : Int) := by rw [IntWalk.i64_in _ (by omega)]; omega
          clear hBk hCk hUk hst hx hy hz hold hVl hTl hUl hi hm;go_wp2_with fail
          go_still_tail 20, (by kernel_rfl)
          change wpList _ _ _ _ _ (World.drew _);go_wp2_with fail
          clear j6;go_roundw
          case rel =>
           refine ⟨k + 1, by omega, by go_num, ?_, ?_, ?_⟩
           ·exact (HBk.out.1.far (p := ⟨c, i * 4 + k, none⟩) HQ.out.2.2.2.2 _).drew
           ·rw [← HBk.out.2.2.2]; exact (HBk.out.2.1.setB (i * 4 + k) z).drew
           ·exact (HBk.out.2.2.1.setCell (p := ⟨c, i * 4 + k, none⟩) (.inl rfl) _).drew
          case measure => simp [intOf] <;> omega
         ·obtain rfl : k = 4 := by omega
          have e4 : ((4 : Nat) : Int) = 4 := rfl;rw [e4];have hnx := HT.out.2.2.2.2;have hfin : (schedAt key (n + 1)).1 = V ++ (List.range 4).map (fun k => V.getD (4 * n + k) 0 ^^^ T.getD k 0) := by rw [hnx]
          rw [← hfin] at hCk;have hpw : (schedAt key (n + 1)).2 = twU pw := by rw [hnx]
          have HF := Lib.hid (And.intro hCk (And.intro hUk hpw));have HJ := Lib.hid (show (i : Int) + 1 = ((n + 1 + 8 : Nat) : Int) by have := HI.out.1; omega);clear hBk hCk hUk hnx hfin hpw e4 hlt hk;go_wp2_with fail
          go_roundw
          case rel => exact ⟨n + 1, by omega, by rw [← HJ.out], by rw [HF.out.2.2], HF.out.2.1, HF.out.1⟩
          case measure => simp [intOf] <;> omega
      --#a }
     ·have k1 : ((i : Int) % 8 == 0) = false := by simp; omega
      by_cases h4 : i % 4 = 0
      ·
       --#b {
       have k2 : ((i : Int) % 4 == 0) = true := by simp; omega
       go_wp2_with (first
        | (refine wpList_load_part rfl _ _ rfl c (m * 4) rfl _ _ [.int .u8 (t0.toNat : Int), .int .u8 (t1.toNat : Int), .int .u8 (t2.toNat : Int), .int .u8 (t3.toNat : Int)] _ HB.out.2.1 (fun j v e => by
            obtain ⟨hi, hm⟩ := HI.out;have hWl := HB.out.2.2.1;have hj : j < 4 := by have := (List.getElem?_eq_some_iff.1 e).1; simpa using this
            rw [arrB_get _ _ (by rw [layB_len _ _ (by omega)]; omega), layB_get _ _ _ (by omega), show m * 4 + j = 4 * (n + 7) + j by omega, HB.out.2.2.2.1 j hj, ← e];match j, hj with
            | 0, _ => rfl
            | 1, _ => rfl
            | 2, _ => rfl
            | 3, _ => rfl) Tryz.underlying82 rfl (by kernel_rfl) ?_))
       obtain ⟨gt, hgt⟩ : ∃ gt, wr.heap.size = gt := ⟨_, rfl⟩;rw [hgt];generalize hwq : World.alloc _ _ = wq;have hBq : Blk wq gt 82 (arrB [t0, t1, t2, t3]) := by rw [← hwq, ← hgt]; exact Blk.new wr _ _
       have hCq : Blk wq c 361 (arrB (layB V B)) := by rw [← hwq]; exact HB.out.2.1.alloc _
       have hUq : Upd (· = c) w3 wq := by rw [← hwq]; exact HB.out.1.alloc _
       have hgl : w3.heap.size ≤ gt := by rw [← hgt]; exact HB.out.1.size
       have hne : gt ≠ c := fun e => by have h1 := HB.out.2.1.lt; omega
       have HQ := Lib.hid (And.intro hBq (And.intro hCq (And.intro hUq (And.intro hgl hne))));clear hwq hBq hCq hUq hgl hne hgt;go_loopw [8, 53] (fun _ u w' => ∃ k : Nat, k ≤ 4 ∧ u = .int .i64 (k : Int) ∧ Blk w' gt 82 (arrB (mapAt (fun b => B.getD b.toNat 0) [t0, t1, t2, t3] k)) ∧ Blk w' c 361 (arrB (layB V B)) ∧ Upd (· = c) w3 w') (fun _ u _ => 4 - (intOf u).toNat)
       case atStart => exact ⟨0, by omega, rfl, HQ.out.1, HQ.out.2.1, HQ.out.2.2.1⟩
       case round =>
        obtain ⟨k, hk, rfl, hBk, hCk, hUk⟩ := hrel;by_cases hlt : k < 4
        ·have hc1 := hBk.cellB k (by rw [mapAt_len]; exact hlt)
         rw [mapAt_get _ _ _ (by exact hlt)] at hc1;have hst := mapAt_step (fun b => B.getD b.toNat 0) [t0, t1, t2, t3] k (by exact hlt);obtain ⟨x, hx⟩ : ∃ x, [t0, t1, t2, t3].getD k 0 = x := ⟨_, rfl⟩;rw [hx] at hc1 hst;have hxl := x.toNat_lt;have hVl := HB.out.2.2.1;have hc2 := hCk.cellB (240 + x.toNat) (by rw [layB_len _ _ (by omega), HK.out.2.2.2]; omega);rw [layB_box _ _ (by omega)] at hc2;obtain ⟨y, hy⟩ : ∃ y, B.getD x.toNat 0 = y := ⟨_, rfl⟩;rw [hy] at hc2;simp only [hy] at hst;have hf := hBk.frozen k;have j7 : (k : Int) < 4 := by omega
         have j8 : (x.toNat : Int) < 256 := by omega
         have HBk := Lib.hid (And.intro hBk (And.intro hCk (And.intro hUk hst)));clear hBk hCk hUk hst hx hy hVl hxl j1 j5;go_wp2_with fail
         go_still_tail 10, (by kernel_rfl)
         change wpList _ _ _ _ _ (World.drew _);go_wp2_with fail
         go_roundw
         case rel =>
          refine ⟨k + 1, by omega, by go_num, ?_, ?_, ?_⟩
          ·rw [← HBk.out.2.2.2]; exact (HBk.out.1.setB k y).drew
          ·exact (HBk.out.2.1.far (p := ⟨gt, k, none⟩) (fun e => HQ.out.2.2.2.2 e.symm) _).drew
          ·exact (HBk.out.2.2.1.setCell (p := ⟨gt, k, none⟩) (.inr HQ.out.2.2.2.1) _).drew
         case measure => simp [intOf] <;> omega
        ·obtain rfl : k = 4 := by omega
         have e4 : ((4 : Nat) : Int) = 4 := rfl;rw [e4];rw [show mapAt (fun b => B.getD b.toNat 0) [t0, t1, t2, t3] 4 = [t0, t1, t2, t3].map (fun b => B.getD b.toNat 0) from mapAt_all _ [t0, t1, t2, t3]] at hBk;clear e4 hlt hk;have hBT := hBk;have hCT := hCk;have hUT := hUk;clear hBk hCk hUk;have hWl := HB.out.2.2.1;obtain ⟨T, hT⟩ : ∃ T, ([t0, t1, t2, t3].map fun b => B.getD b.toNat 0) = T := ⟨_, rfl⟩;rw [hT] at hBT;have hTl : T.length = 4 := by rw [← hT]; rfl
         have hnx : schedAt key (n + 1) = (V ++ (List.range 4).map (fun k => V.getD (4 * n + k) 0 ^^^ T.getD k 0), pw) := by
          obtain ⟨hi, hm⟩ := HI.out;rw [HB.out.2.2.2.2, ← hT];have hBx := HK.out.2.2.1;subst hi;unfold wordK;simp only [hBx];rw [if_neg h8, if_neg h8, if_pos (by omega : (n + 8) % 4 = 0), if_neg h8]
         have HT := Lib.hid (And.intro hBT (And.intro hCT (And.intro hUT (And.intro hTl hnx))));clear hBT hCT hUT hTl hnx hT hWl j1 j5;go_wp2_with fail
         go_loopw [9, 77] (fun _ u w' => ∃ k : Nat, k ≤ 4 ∧ u = .int .i64 (k : Int) ∧ Blk w' gt 82 (arrB T) ∧ Blk w' c 361 (arrB (layB (V ++ (List.range k).map (fun k => V.getD (4 * n + k) 0 ^^^ T.getD k 0)) B)) ∧ Upd (· = c) w3 w') (fun _ u _ => 4 - (intOf u).toNat)
         case atStart => exact ⟨0, by omega, rfl, HT.out.1, by simpa using HT.out.2.1, HT.out.2.2.1⟩
         case round =>
          obtain ⟨k, hk, rfl, hBk, hCk, hUk⟩ := hrel;by_cases hlt : k < 4
          ·obtain ⟨hi, hm⟩ := HI.out
           have hVl := HB.out.2.2.1;have hTl := HT.out.2.2.2.1;have hUl : (V ++ (List.range k).map (fun k => V.getD (4 * n + k) 0 ^^^ T.getD k 0)).length = i * 4 + k := by rw [List.length_append, List.length_map, List.length_range]; omega
           have hc1 := hBk.cellB k (by omega);have hc2 := hCk.cellB (n * 4 + k) (by rw [layB_len _ _ (by omega)]; omega);rw [layB_get _ _ _ (by omega), show n * 4 + k = 4 * n + k by omega, List.getD_eq_getElem?_getD, List.getElem?_append_left (by omega), ← List.getD_eq_getElem?_getD] at hc2;rw [show 4 * n + k = n * 4 + k by omega] at hc2;have hc3 := hCk.cellB (i * 4 + k) (by rw [layB_len _ _ (by omega), HK.out.2.2.2]; omega);have hst := layB_set (V ++ (List.range k).map (fun k => V.getD (4 * n + k) 0 ^^^ T.getD k 0)) B (V.getD (4 * n + k) 0 ^^^ T.getD k 0) (i * 4 + k) hUl (by omega);rw [List.append_assoc, show (List.range k).map (fun k => V.getD (4 * n + k) 0 ^^^ T.getD k 0) ++ [V.getD (4 * n + k) 0 ^^^ T.getD k 0] = (List.range (k + 1)).map (fun k => V.getD (4 * n + k) 0 ^^^ T.getD k 0) by rw [List.range_succ, List.map_append]; rfl, show 4 * n + k = n * 4 + k by omega] at hst
           obtain ⟨x, hx⟩ : ∃ x, V.getD (n * 4 + k) 0 = x := ⟨_, rfl⟩;obtain ⟨y, hy⟩ : ∃ y, T.getD k 0 = y := ⟨_, rfl⟩;rw [hx] at hc2 hst;rw [hy] at hc1 hst;obtain ⟨z, hz⟩ : ∃ z, x ^^^ y = z := ⟨_, rfl⟩;have hxy := xorB x y;rw [hz] at hxy hst;obtain ⟨old, hold⟩ : ∃ old, (layB (V ++ (List.range k).map (fun k => V.getD (4 * n + k) 0 ^^^ T.getD k 0)) B).getD (i * 4 + k) 0 = old := ⟨_, rfl⟩;rw [hold] at hc3;have hf := hCk.frozen (i * 4 + k);have j7 : (k : Int) < 4 := by omega
           have j9 : (n : Int) < 60 := by omega
           have HBk := Lib.hid (And.intro hBk (And.intro hCk (And.intro hUk hst)));have j6 : IntKind.i64.wrap ((i : Int) - 8) = (n : Int) := by rw [IntWalk.i64_in _ (by omega)]; omega
           clear hBk hCk hUk hst hx hy hz hold hVl hTl hUl hi hm;go_wp2_with fail
           go_still_tail 20, (by kernel_rfl)
           change wpList _ _ _ _ _ (World.drew _);go_wp2_with fail
           clear j6;go_roundw
           case rel =>
            refine ⟨k + 1, by omega, by go_num, ?_, ?_, ?_⟩
            ·exact (HBk.out.1.far (p := ⟨c, i * 4 + k, none⟩) HQ.out.2.2.2.2 _).drew
            ·rw [← HBk.out.2.2.2]; exact (HBk.out.2.1.setB (i * 4 + k) z).drew
            ·exact (HBk.out.2.2.1.setCell (p := ⟨c, i * 4 + k, none⟩) (.inl rfl) _).drew
           case measure => simp [intOf] <;> omega
          ·obtain rfl : k = 4 := by omega
           have e4 : ((4 : Nat) : Int) = 4 := rfl;rw [e4];have hnx := HT.out.2.2.2.2;have hfin : (schedAt key (n + 1)).1 = V ++ (List.range 4).map (fun k => V.getD (4 * n + k) 0 ^^^ T.getD k 0) := by rw [hnx]
           rw [← hfin] at hCk;have hpw : (schedAt key (n + 1)).2 = pw := by rw [hnx]
           have HF := Lib.hid (And.intro hCk (And.intro hUk hpw));have HJ := Lib.hid (show (i : Int) + 1 = ((n + 1 + 8 : Nat) : Int) by have := HI.out.1; omega);clear hBk hCk hUk hnx hfin hpw e4 hlt hk;go_wp2_with fail
           go_roundw
           case rel => exact ⟨n + 1, by omega, by rw [← HJ.out], by rw [HF.out.2.2], HF.out.2.1, HF.out.1⟩
           case measure => simp [intOf] <;> omega
       --#b }
      ·
       --#c {
       have k2 : ((i : Int) % 4 == 0) = false := by simp; omega
       go_wp2_with (first
        | (refine wpList_load_part rfl _ _ rfl c (m * 4) rfl _ _ [.int .u8 (t0.toNat : Int), .int .u8 (t1.toNat : Int), .int .u8 (t2.toNat : Int), .int .u8 (t3.toNat : Int)] _ HB.out.2.1 (fun j v e => by
            obtain ⟨hi, hm⟩ := HI.out;have hWl := HB.out.2.2.1;have hj : j < 4 := by have := (List.getElem?_eq_some_iff.1 e).1; simpa using this
            rw [arrB_get _ _ (by rw [layB_len _ _ (by omega)]; omega), layB_get _ _ _ (by omega), show m * 4 + j = 4 * (n + 7) + j by omega, HB.out.2.2.2.1 j hj, ← e];match j, hj with
            | 0, _ => rfl
            | 1, _ => rfl
            | 2, _ => rfl
            | 3, _ => rfl) Tryz.underlying82 rfl (by kernel_rfl) ?_))
       obtain ⟨gt, hgt⟩ : ∃ gt, wr.heap.size = gt := ⟨_, rfl⟩;rw [hgt];generalize hwq : World.alloc _ _ = wq;have hBq : Blk wq gt 82 (arrB [t0, t1, t2, t3]) := by rw [← hwq, ← hgt]; exact Blk.new wr _ _
       have hCq : Blk wq c 361 (arrB (layB V B)) := by rw [← hwq]; exact HB.out.2.1.alloc _
       have hUq : Upd (· = c) w3 wq := by rw [← hwq]; exact HB.out.1.alloc _
       have hgl : w3.heap.size ≤ gt := by rw [← hgt]; exact HB.out.1.size
       have hne : gt ≠ c := fun e => by have h1 := HB.out.2.1.lt; omega
       have HQ := Lib.hid (And.intro hBq (And.intro hCq (And.intro hUq (And.intro hgl hne))));clear hwq hBq hCq hUq hgl hne hgt;have hBT := HQ.out.1;have hCT := HQ.out.2.1;have hUT := HQ.out.2.2.1;have hWl := HB.out.2.2.1;obtain ⟨T, hT⟩ : ∃ T, [t0, t1, t2, t3] = T := ⟨_, rfl⟩;rw [hT] at hBT;have hTl : T.length = 4 := by rw [← hT]; rfl
       have hnx : schedAt key (n + 1) = (V ++ (List.range 4).map (fun k => V.getD (4 * n + k) 0 ^^^ T.getD k 0), pw) := by
        obtain ⟨hi, hm⟩ := HI.out;rw [HB.out.2.2.2.2, ← hT];have hBx := HK.out.2.2.1;subst hi;unfold wordK;simp only [hBx];rw [if_neg h8, if_neg h8, if_neg (by omega : ¬ (n + 8) % 4 = 0), if_neg h8]
       have HT := Lib.hid (And.intro hBT (And.intro hCT (And.intro hUT (And.intro hTl hnx))));clear hBT hCT hUT hTl hnx hT hWl j1 j5;go_wp2_with fail
       go_loopw [9, 77] (fun _ u w' => ∃ k : Nat, k ≤ 4 ∧ u = .int .i64 (k : Int) ∧ Blk w' gt 82 (arrB T) ∧ Blk w' c 361 (arrB (layB (V ++ (List.range k).map (fun k => V.getD (4 * n + k) 0 ^^^ T.getD k 0)) B)) ∧ Upd (· = c) w3 w') (fun _ u _ => 4 - (intOf u).toNat)
       case atStart => exact ⟨0, by omega, rfl, HT.out.1, by simpa using HT.out.2.1, HT.out.2.2.1⟩
       case round =>
        obtain ⟨k, hk, rfl, hBk, hCk, hUk⟩ := hrel;by_cases hlt : k < 4
        ·obtain ⟨hi, hm⟩ := HI.out
         have hVl := HB.out.2.2.1;have hTl := HT.out.2.2.2.1;have hUl : (V ++ (List.range k).map (fun k => V.getD (4 * n + k) 0 ^^^ T.getD k 0)).length = i * 4 + k := by rw [List.length_append, List.length_map, List.length_range]; omega
         have hc1 := hBk.cellB k (by omega);have hc2 := hCk.cellB (n * 4 + k) (by rw [layB_len _ _ (by omega)]; omega);rw [layB_get _ _ _ (by omega), show n * 4 + k = 4 * n + k by omega, List.getD_eq_getElem?_getD, List.getElem?_append_left (by omega), ← List.getD_eq_getElem?_getD] at hc2;rw [show 4 * n + k = n * 4 + k by omega] at hc2;have hc3 := hCk.cellB (i * 4 + k) (by rw [layB_len _ _ (by omega), HK.out.2.2.2]; omega);have hst := layB_set (V ++ (List.range k).map (fun k => V.getD (4 * n + k) 0 ^^^ T.getD k 0)) B (V.getD (4 * n + k) 0 ^^^ T.getD k 0) (i * 4 + k) hUl (by omega);rw [List.append_assoc, show (List.range k).map (fun k => V.getD (4 * n + k) 0 ^^^ T.getD k 0) ++ [V.getD (4 * n + k) 0 ^^^ T.getD k 0] = (List.range (k + 1)).map (fun k => V.getD (4 * n + k) 0 ^^^ T.getD k 0) by rw [List.range_succ, List.map_append]; rfl, show 4 * n + k = n * 4 + k by omega] at hst
         obtain ⟨x, hx⟩ : ∃ x, V.getD (n * 4 + k) 0 = x := ⟨_, rfl⟩;obtain ⟨y, hy⟩ : ∃ y, T.getD k 0 = y := ⟨_, rfl⟩;rw [hx] at hc2 hst;rw [hy] at hc1 hst;obtain ⟨z, hz⟩ : ∃ z, x ^^^ y = z := ⟨_, rfl⟩;have hxy := xorB x y;rw [hz] at hxy hst;obtain ⟨old, hold⟩ : ∃ old, (layB (V ++ (List.range k).map (fun k => V.getD (4 * n + k) 0 ^^^ T.getD k 0)) B).getD (i * 4 + k) 0 = old := ⟨_, rfl⟩;rw [hold] at hc3;have hf := hCk.frozen (i * 4 + k);have j7 : (k : Int) < 4 := by omega
         have j9 : (n : Int) < 60 := by omega
         have HBk := Lib.hid (And.intro hBk (And.intro hCk (And.intro hUk hst)));have j6 : IntKind.i64.wrap ((i : Int) - 8) = (n : Int) := by rw [IntWalk.i64_in _ (by omega)]; omega
         clear hBk hCk hUk hst hx hy hz hold hVl hTl hUl hi hm;go_wp2_with fail
         go_still_tail 20, (by kernel_rfl)
         change wpList _ _ _ _ _ (World.drew _);go_wp2_with fail
         clear j6;go_roundw
         case rel =>
          refine ⟨k + 1, by omega, by go_num, ?_, ?_, ?_⟩
          ·exact (HBk.out.1.far (p := ⟨c, i * 4 + k, none⟩) HQ.out.2.2.2.2 _).drew
          ·rw [← HBk.out.2.2.2]; exact (HBk.out.2.1.setB (i * 4 + k) z).drew
          ·exact (HBk.out.2.2.1.setCell (p := ⟨c, i * 4 + k, none⟩) (.inl rfl) _).drew
         case measure => simp [intOf] <;> omega
        ·obtain rfl : k = 4 := by omega
         have e4 : ((4 : Nat) : Int) = 4 := rfl;rw [e4];have hnx := HT.out.2.2.2.2;have hfin : (schedAt key (n + 1)).1 = V ++ (List.range 4).map (fun k => V.getD (4 * n + k) 0 ^^^ T.getD k 0) := by rw [hnx]
         rw [← hfin] at hCk;have hpw : (schedAt key (n + 1)).2 = pw := by rw [hnx]
         have HF := Lib.hid (And.intro hCk (And.intro hUk hpw));have HJ := Lib.hid (show (i : Int) + 1 = ((n + 1 + 8 : Nat) : Int) by have := HI.out.1; omega);clear hBk hCk hUk hnx hfin hpw e4 hlt hk;go_wp2_with fail
         go_roundw
         case rel => exact ⟨n + 1, by omega, by rw [← HJ.out], by rw [HF.out.2.2], HF.out.2.1, HF.out.1⟩
         case measure => simp [intOf] <;> omega
       --#c }
    ·obtain rfl : n = 52 := by omega
     have e60 : ((52 + 8 : Nat) : Int) = 60 := rfl;have hWl := HSL.out 52;have hfin : layB (schedAt key 52).1 B = S ++ B := by
      unfold layB;rw [hWl, ← HK.out.2.1, show 240 - (32 + 4 * 52) = 0 from rfl, List.replicate_zero, List.append_nil];rfl
     rw [hfin] at hB;rw [e60];clear hfin hWl e60 hlt hn;go_wp2_with fail
     go_ret
     exact ⟨c, rfl, hB, by have := HG.out; omega, HW3.out.2.1.then hu (fun q hq => .inr (by have := HG.out; omega))⟩
end
section
open Go Go.RowKit
theorem addk_c {w : World} {c : Nat} {W B : List UInt8} (hC : Blk w c 361 (arrB (W ++ B))) (hW : W.length = 240) (b : List UInt8) (hb : b.length = 16) (r : Nat) (hr : r ≤ 14) :
 Calls Tryz.prog 273 #[.pointer (some ⟨c, 0, none⟩), .agg (arrB b), .int .i64 (r : Int)] w fun e w' => e = .returned (.agg (arrB (addK W b r))) ∧ Upd (fun _ => False) w w' := by
 obtain ⟨g, hg⟩ : ∃ g, w.heap.size = g := ⟨_, rfl⟩;have HG := Lib.hid hg;have HL := Lib.hid (And.intro hb (And.intro hW (And.intro hC (show addK W b r = (List.range 16).map fun i => b.getD i 0 ^^^ W.getD (16 * r + i) 0 from rfl))));obtain ⟨O, hO⟩ : ∃ O, addK W b r = O := ⟨_, rfl⟩;have hOl : O.length = 16 := by rw [← hO, addK_len]
 have HO := Lib.hid (And.intro hO hOl);rw [hO];clear hb hW hC hO hOl;go_enter Tryz.func273, Tryz.ntmps273
 go_wp2_with fail
 generalize hw2 : World.alloc _ _ = w2;have hB2 : Blk w2 g 339 (arrB b) := by rw [← hw2, ← hg]; exact (Blk.new w _ _).alloc _
 have hC2 : Blk w2 (g + 1) 339 (arrB (List.replicate 16 0)) := by
  have h := Blk.new (w.alloc (.cells (arrB b) 339)) 339 (arrB (List.replicate 16 0));rw [World.size_alloc, hg] at h;rw [← hw2];exact h
 have hU2 : Upd (fun _ => False) w w2 := by rw [← hw2]; exact ((Upd.refl _ w).alloc _).alloc _
 have hcg : c ≠ g := fun e => by have := HL.out.2.2.1.lt; omega
 have HW2 := Lib.hid (And.intro hB2 (And.intro hC2 (And.intro hU2 hcg)));clear hB2 hC2 hU2 hw2 hg hcg;go_loopw [7, 8] (fun _ u wr => ∃ k : Nat, k ≤ 16 ∧ u = .int .i64 (k : Int) ∧ Blk wr g 339 (arrB (fillAt (fun i => b.getD i 0 ^^^ W.getD (16 * r + i) 0) b k)) ∧ Upd (· = g) w2 wr) (fun _ u _ => 16 - (intOf u).toNat)
 case atStart => exact ⟨0, by omega, rfl, HW2.out.1, Upd.refl _ _⟩
 case round =>
  obtain ⟨k, hk, rfl, hB, hu⟩ := hrel;by_cases hlt : k < 16
  ·have hbl := HL.out.1
   have hWl := HL.out.2.1;have hc1 := hB.cellB k (by rw [fillAt_len _ _ _ (by omega)]; omega);rw [fillAt_get] at hc1;have hCr : Blk wr c 361 (arrB (W ++ B)) := (HL.out.2.2.1.upd HW2.out.2.2.1 (fun e => e)).upd hu HW2.out.2.2.2;obtain ⟨i1, hi1⟩ : ∃ i1, 4 * r + k / 4 = i1 := ⟨_, rfl⟩;obtain ⟨i2, hi2⟩ : ∃ i2, k % 4 = i2 := ⟨_, rfl⟩;have hidx : 16 * r + k = i1 * 4 + i2 := by omega
   have hc2 := hCr.cellB (i1 * 4 + i2) (by rw [List.length_append]; omega);have hst := fillAt_step (fun i => b.getD i 0 ^^^ W.getD (16 * r + i) 0) b k (by omega);rw [List.getD_eq_getElem?_getD, List.getElem?_append_left (by omega), ← List.getD_eq_getElem?_getD] at hc2;simp only [hidx] at hst;obtain ⟨x, hx⟩ : ∃ x, b.getD k 0 = x := ⟨_, rfl⟩;obtain ⟨y, hy⟩ : ∃ y, W.getD (i1 * 4 + i2) 0 = y := ⟨_, rfl⟩;rw [hx] at hc1 hst;rw [hy] at hc2 hst;obtain ⟨z, hz⟩ : ∃ z, x ^^^ y = z := ⟨_, rfl⟩;have hxy := xorB x y;rw [hz] at hxy hst;have hf := hB.frozen k;have HB := Lib.hid (And.intro hB (And.intro hu hst));have j1 : (k : Int) < 16 := by omega
   have j2 : (i1 : Int) < 60 := by omega
   have j3 : (i2 : Int) < 4 := by omega
   have j0 : (0 : Int) ≤ (i1 : Int) := by omega
   have e1 : IntKind.i64.wrap (4 * (r : Int)) = 4 * (r : Int) := IntWalk.i64_in _ (by omega);obtain ⟨d, hd⟩ : ∃ d, k / 4 = d := ⟨_, rfl⟩;have e4 : IntKind.i64.wrap ((k : Int) / 4) = (d : Int) := by rw [IntWalk.i64_in _ (by omega)]; omega
   have e2 : IntKind.i64.wrap (4 * (r : Int) + (d : Int)) = (i1 : Int) := by rw [IntWalk.i64_in _ (by omega)]; omega
   have e3 : (k : Int).tmod 4 = (i2 : Int) := by rw [Int.tmod_eq_emod_of_nonneg (by omega)]; omega
   have j4 : (0 : Int) ≤ 4 * (r : Int) := by omega
   clear hB hu hst hx hy hz hbl hWl hCr hi1 hi2 hidx hd;go_wp2_with fail
   go_still_tail 18, (by kernel_rfl)
   change wpList _ _ _ _ _ (World.drew _);go_wp2_with fail
   clear e1 e2 e3 e4;go_roundw
   case rel =>
    refine ⟨k + 1, by omega, by go_num, ?_, ?_⟩
    ·have h := (HB.out.1.setB k z).drew
     have hs := HB.out.2.2;rw [hs] at h;exact h
    ·exact (HB.out.2.1.setCell (p := ⟨g, k, none⟩) (.inl rfl) _).drew
   case measure => simp [intOf] <;> omega
  ·obtain rfl : k = 16 := by omega
   have e16 : ((16 : Nat) : Int) = 16 := rfl;rw [e16];rw [fillAt_all _ _ _ HL.out.1, ← HL.out.2.2.2, HO.out.1] at hB;have HB := Lib.hid (And.intro hB (HW2.out.2.1.upd hu (by omega)));have HU := Lib.hid (HW2.out.2.2.1.then hu (fun q hq => .inr (by have := HG.out; omega)));clear hB hu e16 hlt hk;go_wp2_with (first
    | (show wpList _ _ _ (⟨none, _, _, _, _, _⟩ :: _) _ _
       refine wpList_store_all rfl 339 _ _ rfl (g + 1) (arrB O) rfl rfl 339 _ HB.out.2 (by rw [arrB_size, arrB_size, HO.out.2]; rfl) (arrB_one _) (by rw [arrB_size, HO.out.2]; kernel_rfl) ?_
       intro w4 hB4 hU4 hz4)
    | (refine wpList_load_all rfl _ _ rfl g rfl _ _ _ HB.out.1 Tryz.underlying339 rfl (by rw [arrB_size, HO.out.2]; kernel_rfl) ?_))
   refine bodyPost_ret (results_cell_row rfl _ _ (g + 1) _ _ _ _ rfl hB4 Tryz.underlying339 rfl (by rw [arrB_size, HO.out.2]; kernel_rfl)) rfl ⟨rfl, HU.out.then hU4 (fun q hq => .inr (by have := HG.out; omega))⟩
theorem mixn_c {w : World} {g ga gi : Nat} {b : List UInt8} {t : TypeId} {at_ i : Nat} (hB : Blk w g 339 (arrB b)) (hb : b.length = 16) (ha : Blk w ga t #[.int .i64 (at_ : Int)]) (hi : Blk w gi t #[.int .i64 (i : Int)]) (h1 : at_ ≤ 12) (h2 : i < 16) (k : Nat) (hk : k < 4) :
 Calls Tryz.prog 288 #[.int .i64 (k : Int), .pointer (some ⟨g, 0, none⟩), .pointer (some ⟨ga, 0, none⟩), .pointer (some ⟨gi, 0, none⟩)] w fun e w' => e = .returned (.int .u8 ((b.getD (at_ + (i + k) % 4) 0).toNat : Int)) ∧ w' = w := by
 obtain ⟨j, hj⟩ : ∃ j, at_ + (i + k) % 4 = j := ⟨_, rfl⟩;have hc := hB.cellB j (by omega);have hca := ha.cells1;have hci := hi.cells1;have hjl : (j : Int) < 16 := by omega
 have hj0 : (0 : Int) ≤ (j : Int) := by omega
 have e1 : IntKind.i64.wrap ((i : Int) + (k : Int)) = (i : Int) + (k : Int) := IntWalk.i64_in _ (by omega);have e2 : (at_ : Int) + ((i : Int) + (k : Int)) % 4 = (j : Int) := by omega
 have e0 : (0 : Int) ≤ (i : Int) + (k : Int) := by omega
 rw [hj];clear hB hb ha hi hj h1;go_enter Tryz.func288, Tryz.ntmps288
 go_wp2_with fail
 go_ret
 exact ⟨rfl, rfl⟩
theorem mix_c (b : List UInt8) (hb : b.length = 16) (w : World) : Calls Tryz.prog 274 #[.agg (arrB b)] w fun e w' => e = .returned (.agg (arrB (mixK b))) ∧ Upd (fun _ => False) w w' := by
 obtain ⟨g, hg⟩ : ∃ g, w.heap.size = g := ⟨_, rfl⟩;have HG := Lib.hid hg;obtain ⟨O, hO⟩ : ∃ O, mixK b = O := ⟨_, rfl⟩;have hOl : O.length = 16 := by rw [← hO]; simp [mixK]
 have HO := Lib.hid (And.intro hO (And.intro hOl hb));rw [hO];clear hb hO hOl;go_enter Tryz.func274, Tryz.ntmps274
 have hmf : ∀ (fn : Fn) (first cap : Array Value) (w : World), (Instr.makeFunc fn first cap).run Tryz.prog w = .ok (.func fn first cap) w := fun _ _ _ _ => rfl
 go_wp2_with fail
 generalize hw2 : World.alloc _ _ = w2;have hB2 : Blk w2 g 339 (arrB b) := by rw [← hw2, ← hg]; exact (Blk.new w _ _).alloc _
 have hC2 : Blk w2 (g + 1) 339 (arrB (List.replicate 16 0)) := by
  have h := Blk.new (w.alloc (.cells (arrB b) 339)) 339 (arrB (List.replicate 16 0));rw [World.size_alloc, hg] at h;rw [← hw2];exact h
 have hU2 : Upd (fun _ => False) w w2 := by rw [← hw2]; exact ((Upd.refl _ w).alloc _).alloc _
 have HW2 := Lib.hid (And.intro hB2 (And.intro hC2 hU2));clear hB2 hC2 hU2 hw2 hg;go_loopw [6] (fun u wr => ∃ k : Nat, k ≤ 16 ∧ u = .int .i64 (k : Int) ∧ Blk wr (g + 1) 339 (arrB (fillAt (fun i => (mixK b).getD i 0) (List.replicate 16 0) k)) ∧ Upd (· = g + 1) w2 wr) (fun u _ => 16 - (intOf u).toNat)
 case atStart => exact ⟨0, by omega, rfl, HW2.out.2.1, Upd.refl _ _⟩
 case round =>
  obtain ⟨k, hk, rfl, hB, hu⟩ := hrel;by_cases hlt : k < 16
  ·have hbl := HO.out.2.2
   have hbb := HW2.out.1.upd hu (by omega);have HB := Lib.hid (And.intro hB (And.intro hu hbb));have j1 : (k : Int) < 16 := by omega
   obtain ⟨n, hn⟩ : ∃ n, wr.heap.size = n := ⟨_, rfl⟩;have hgn : g + 1 < n := by have := hB.lt; omega
   have hgn0 : g < n := by omega
   have HN := Lib.hid hn;obtain ⟨a, ha⟩ : ∃ a, k / 4 * 4 = a := ⟨_, rfl⟩;have HA := Lib.hid ha;have e1 : (k : Int) / 4 * 4 = (a : Int) := by omega
   have e2 : IntKind.i64.wrap ((k : Int) / 4 * 4) = (a : Int) := by rw [IntWalk.i64_in _ (by omega)]; omega
   clear hB hu hbb hn ha hbl;go_wp2_with fail
   clear e1 e2;rw [HN.out];generalize hwq : World.alloc _ _ = wq;have hi : Blk wq n 3 #[.int .i64 (k : Int)] := by rw [← hwq, ← HN.out]; exact (Blk.new wr _ _).alloc _
   have ha : Blk wq (n + 1) 3 #[.int .i64 (a : Int)] := by
    have h := Blk.new (wr.alloc (.cells #[.int .i64 (k : Int)] 3)) 3 #[.int .i64 (a : Int)];rw [World.size_alloc, HN.out] at h;rw [← hwq];exact h
   have hb2 : Blk wq g 339 (arrB b) := by rw [← hwq]; exact (HB.out.2.2.alloc _).alloc _
   have ho2 : Blk wq (g + 1) 339 (arrB (fillAt (fun i => (mixK b).getD i 0) (List.replicate 16 0) k)) := by rw [← hwq]; exact (HB.out.1.alloc _).alloc _
   have hu2 : Upd (· = g + 1) w2 wq := by rw [← hwq]; exact (HB.out.2.1.alloc _).alloc _
   have HWQ := Lib.hid (And.intro hu2 ho2);obtain ⟨x0, hx0⟩ : ∃ x, b.getD (a + (k + 0) % 4) 0 = x := ⟨_, rfl⟩;obtain ⟨x1, hx1⟩ : ∃ x, b.getD (a + (k + 1) % 4) 0 = x := ⟨_, rfl⟩;obtain ⟨x2, hx2⟩ : ∃ x, b.getD (a + (k + 2) % 4) 0 = x := ⟨_, rfl⟩;obtain ⟨x3, hx3⟩ : ∃ x, b.getD (a + (k + 3) % 4) 0 = x := ⟨_, rfl⟩;have hm := fun (q : Nat) (hq : q < 4) => mixn_c hb2.drew HO.out.2.2 ha.drew hi.drew (by have := HA.out; omega) hlt q hq
   have m0 := hm 0 (by omega);have m1 := hm 1 (by omega);have m2 := hm 2 (by omega);have m3 := hm 3 (by omega);rw [hx0] at m0;rw [hx1] at m1;rw [hx2] at m2;rw [hx3] at m3;have M0 := Lib.hid m0;have M1 := Lib.hid m1;have M2 := Lib.hid m2;have M3 := Lib.hid m3;obtain ⟨y0, hy0⟩ : ∃ y, twU x0 = y := ⟨_, rfl⟩;obtain ⟨y1, hy1⟩ : ∃ y, twU x1 = y := ⟨_, rfl⟩;have T0 := Lib.hid ((twice_c x0 wq.drew).mono fun _ _ ⟨p, q⟩ => And.intro p q.symm);have T1 := Lib.hid ((twice_c x1 wq.drew).mono fun _ _ ⟨p, q⟩ => And.intro p q.symm);rw [hy0] at T0;rw [hy1] at T1;obtain ⟨z1, hz1⟩ : ∃ z, y0 ^^^ y1 = z := ⟨_, rfl⟩;obtain ⟨z2, hz2⟩ : ∃ z, z1 ^^^ x1 = z := ⟨_, rfl⟩;obtain ⟨z3, hz3⟩ : ∃ z, z2 ^^^ x2 = z := ⟨_, rfl⟩;obtain ⟨z4, hz4⟩ : ∃ z, z3 ^^^ x3 = z := ⟨_, rfl⟩;have q1 := xorB y0 y1;have q2 := xorB z1 x1;have q3 := xorB z2 x2;have q4 := xorB z3 x3;rw [hz1] at q1;rw [hz2] at q2;rw [hz3] at q3;rw [hz4] at q4;have hst := fillAt_step (fun i => (mixK b).getD i 0) (List.replicate 16 0) k (by rw [List.length_replicate]; exact hlt);have hz : (mixK b).getD k 0 = z4 := by
    have hA := HA.out;unfold mixK;rw [List.getD_eq_getElem?_getD, List.getElem?_map, List.getElem?_range hlt];show twU (b.getD (k / 4 * 4 + (k + 0) % 4) 0) ^^^ twU (b.getD (k / 4 * 4 + (k + 1) % 4) 0) ^^^ b.getD (k / 4 * 4 + (k + 1) % 4) 0 ^^^ b.getD (k / 4 * 4 + (k + 2) % 4) 0 ^^^ b.getD (k / 4 * 4 + (k + 3) % 4) 0 = z4;rw [hA, hx0, hx1, hx2, hx3, hy0, hy1, hz1, hz2, hz3, hz4]
   simp only [hz] at hst;have HST := Lib.hid hst;have hcI := hi.cells1;have hcO := ho2.cellB k (by rw [fillAt_len _ _ _ (by rw [List.length_replicate]; omega), List.length_replicate]; exact hlt);have hfO := ho2.frozen k;clear hi ha hb2 ho2 hu2 hx0 hx1 hx2 hx3 hm m0 m1 m2 m3 hy0 hy1 hz1 hz2 hz3 hz4 hst hz hwq;go_still_tail 18, (by kernel_rfl)
   still_call M0.out
   still_call T0.out
   still_step
   still_call M1.out
   still_call T1.out
   still_step
   still_step
   still_call M1.out
   still_step
   still_step
   still_call M2.out
   still_step
   still_step
   still_call M3.out
   still_step
   still_step
   refine wpStill_nil ?_;change wpList _ _ _ _ _ wq.drew;go_wp2_with fail
   go_roundw
   case rel =>
    refine ⟨k + 1, by omega, by go_num, ?_, ?_⟩
    ·have h := (HWQ.out.2.setB k z4).drew
     rw [HST.out] at h;exact h
    ·exact (HWQ.out.1.setCell (p := ⟨g + 1, k, none⟩) (.inl rfl) _).drew
   case measure => simp [intOf] <;> omega
  ·obtain rfl : k = 16 := by omega
   have e16 : ((16 : Nat) : Int) = 16 := rfl;rw [e16];have hfin : (List.range 16).map (fun i => (mixK b).getD i 0) = O := by
    rw [HO.out.1];refine List.ext_getElem (by rw [List.length_map, List.length_range, HO.out.2.1]) fun i h1 h2 => ?_
    rw [List.getElem_map, List.getElem_range, List.getD_eq_getElem?_getD, List.getElem?_eq_getElem h2];rfl
   rw [fillAt_all _ _ _ (by rw [List.length_replicate]), hfin] at hB;have HB := Lib.hid hB;have HU := Lib.hid (HW2.out.2.2.then hu (fun q hq => .inr (by have := HG.out; omega)));clear hB hu e16 hlt hk hfin;go_wp2_with (first
    | (show wpList _ _ _ (⟨none, _, _, _, _, _⟩ :: _) _ _
       refine wpList_store_all rfl 339 _ _ rfl (g + 1) (arrB O) rfl rfl 339 _ HB.out rfl (arrB_one _) (by rw [arrB_size, HO.out.2.1]; kernel_rfl) ?_
       intro w4 hB4 hU4 hz4)
    | (refine wpList_load_all rfl _ _ rfl (g + 1) rfl _ _ _ HB.out Tryz.underlying339 rfl (by rw [arrB_size, HO.out.2.1]; kernel_rfl) ?_))
   refine bodyPost_ret (results_cell_row rfl _ _ (g + 1) _ _ _ _ rfl hB4 Tryz.underlying339 rfl (by rw [arrB_size, HO.out.2.1]; kernel_rfl)) rfl ⟨rfl, HU.out.then hU4 (fun q hq => .inr (by have := HG.out; omega))⟩
end
section
open Go Go.RowKit
theorem block_c {w : World} {c : Nat} {W : List UInt8} (hC : Blk w c 361 (arrB (W ++ boxL))) (hW : W.length = 240) (b : List UInt8) (hb : b.length = 16) :
 Calls Tryz.prog 247 #[.pointer (some ⟨c, 0, none⟩), .agg (arrB b)] w fun e w' => e = .returned (.agg (arrB (roundK W 14 b))) ∧ Upd (fun _ => False) w w' := by
 obtain ⟨g, hg⟩ : ∃ g, w.heap.size = g := ⟨_, rfl⟩;have HG := Lib.hid hg;obtain ⟨B, hBx⟩ : ∃ B, boxL = B := ⟨_, rfl⟩;have hBl : B.length = 256 := by rw [← hBx]; exact boxL_len
 rw [hBx] at hC;have hcg : c ≠ g := fun e => by have := hC.lt; omega
 have HC := Lib.hid (And.intro hC (And.intro hW (And.intro hBx (And.intro hBl hcg))));have HA := Lib.hid (fun (W1 : World) (hu : Upd (fun q => g ≤ q) w W1) (x : List UInt8) (hx : x.length = 16) (r : Nat) (hr : r ≤ 14) =>
  addk_c (hC.upd hu (by have := hC.lt; omega)) hW x hx r hr)
 obtain ⟨b1, hb1⟩ : ∃ b1, addK W b 0 = b1 := ⟨_, rfl⟩;have hb1l : b1.length = 16 := by rw [← hb1, addK_len]
 have HB := Lib.hid (And.intro hb (And.intro hb1 hb1l));obtain ⟨O, hO⟩ : ∃ O, roundK W 14 b = O := ⟨_, rfl⟩;have hOl : O.length = 16 := by rw [← hO]; exact roundK_len _ _ _
 rw [hO];have HO := Lib.hid (And.intro hO hOl);clear hBx hBl hC hW hcg hb1 hb1l hb hO hOl;go_enter Tryz.func247, Tryz.ntmps247
 go_upto_region 1 with (fail)
 generalize hw2 : World.alloc _ _ = w2;have hB2 : Blk w2 g 339 (arrB b) := by rw [← hw2, ← hg]; exact (Blk.new w _ _).alloc _
 have hC2 : Blk w2 (g + 1) 339 (arrB (List.replicate 16 0)) := by
  have h := Blk.new (w.alloc (.cells (arrB b) 339)) 339 (arrB (List.replicate 16 0));rw [World.size_alloc, hg] at h;rw [← hw2];exact h
 have hU2 : Upd (fun _ => False) w w2 := by rw [← hw2]; exact ((Upd.refl _ w).alloc _).alloc _
 have hz2 : g + 1 < w2.heap.size := hC2.lt;have HW2 := Lib.hid (And.intro hB2 (And.intro hC2 (And.intro hU2 hz2)));clear hB2 hC2 hU2 hw2 hg hz2;go_wp2_with (first
  | (go_at_call 273
     refine (HA.out w2 (HW2.out.2.2.1.mono (fun _ e => e.elim)) b HB.out.1 0 (by omega)).mono ?_;rintro e w3 ⟨rfl, hU3⟩;rw [HB.out.2.1];have HU3 := Lib.hid hU3;clear hU3)
  | (show wpList _ _ _ (⟨none, _, _, _, _, _⟩ :: _) _ _
     refine wpList_store_all rfl 339 _ _ rfl g (arrB b1) rfl rfl 339 _ (HW2.out.1.upd HU3.out (fun e => e)) (by rw [arrB_size, arrB_size, HB.out.1, HB.out.2.2]) (arrB_one _) (by rw [arrB_size, HB.out.2.2]; kernel_rfl) ?_
     intro w4 hB4 hU4 hz4;have HB4 := Lib.hid (And.intro hB4 (HU3.out.trans hU4 (H := (· = g)) (fun _ e => e.elim) (fun _ e => .inl e)));clear hB4 hU4 hz4)
  | (refine wpList_load_all rfl _ _ rfl g rfl _ _ _ HW2.out.1 Tryz.underlying339 rfl (by rw [arrB_size, HB.out.1]; kernel_rfl) ?_))
 go_loopw [5] (fun u wr => ∃ r : Nat, r ≤ 14 ∧ u = .int .i64 ((r : Int) + 1) ∧ Blk wr g 339 (arrB (roundK W r b)) ∧ Upd (· = g) w2 wr) (fun u _ => 16 - (intOf u).toNat)
 case atStart => exact ⟨0, by omega, rfl, by show Blk w4 g _ (arrB (addK W b 0)); rw [HB.out.2.1]; exact HB4.out.1, HB4.out.2⟩
 case round =>
  clear HB4 HU3;obtain ⟨r, hr, rfl, hBr, hUr⟩ := hrel;by_cases hlt : r < 14
  ·obtain ⟨n, hn⟩ : ∃ n, wr.heap.size = n := ⟨_, rfl⟩
   have hgn : g ≠ n := by have := hBr.lt; omega
   have hn2 : w2.heap.size ≤ n := by rw [← hn]; exact hUr.size
   have HN := Lib.hid (And.intro hgn (And.intro hn2 (fun {W1 : World} (hu : Upd (· = g) w2 W1) => ((HW2.out.2.2.1.trans hu (H := fun q => g ≤ q) (fun _ e => e.elim) (fun q e => .inl (by omega))) : Upd (fun q => g ≤ q) w W1))));have hRl := roundK_len W b r;obtain ⟨Rb, hRb⟩ : ∃ Rb, roundK W r b = Rb := ⟨_, rfl⟩;rw [hRb] at hBr hRl;have HR := Lib.hid (And.intro hRb (by rw [hRb]; exact hRl : (roundK W r b).length = 16));have HBR := Lib.hid (And.intro hBr (And.intro hUr hRl));have HNN := Lib.hid hn;have j5 : (r : Int) + 1 ≤ 14 := by omega
   clear hBr hUr hRl hRb hgn hn2 hn;go_wp2_with fail
   rw [HNN.out];generalize hwq : World.alloc _ _ = wq;have hBq : Blk wq n 339 (arrB (List.replicate 16 0)) := by rw [← hwq, ← HNN.out]; exact Blk.new wr _ _
   have hGq : Blk wq g 339 (arrB Rb) := by rw [← hwq]; exact HBR.out.1.alloc _
   have hUq : Upd (· = g) w2 wq := by rw [← hwq]; exact HBR.out.2.1.alloc _
   have HQ := Lib.hid (And.intro hBq (And.intro hGq hUq));clear hBq hGq hUq hwq;go_loopw [7, 15] (fun _ u w' => ∃ k : Nat, k ≤ 16 ∧ u = .int .i64 (k : Int) ∧ Blk w' n 339 (arrB (fillAt (fun i => B.getD (Rb.getD ((i + 4 * (i % 4)) % 16) 0).toNat 0) (List.replicate 16 0) k)) ∧ Upd (· = n) wq w') (fun _ u _ => 16 - (intOf u).toNat)
   case atStart => exact ⟨0, by omega, rfl, HQ.out.1, Upd.refl _ _⟩
   case round =>
    obtain ⟨k, hk, rfl, hBk, hUk⟩ := hrel;by_cases hlt2 : k < 16
    ·have hgk : Blk wr g 339 (arrB Rb) := HQ.out.2.1.upd hUk HN.out.1
     have hck : Blk wr c 361 (arrB (W ++ B)) := HC.out.1.upd ((HN.out.2.2 HQ.out.2.2).trans hUk (H := fun q => g ≤ q) (fun _ e => e) (fun q e => .inl (by have := HN.out.2.1; have := HW2.out.2.2.2; omega))) (by have := HC.out.1.lt; have := HG.out; omega);obtain ⟨m4, hm4⟩ : ∃ m, k % 4 = m := ⟨_, rfl⟩;obtain ⟨m16, hm16⟩ : ∃ m, 4 * m4 = m := ⟨_, rfl⟩;obtain ⟨sm, hsm⟩ : ∃ m, k + m16 = m := ⟨_, rfl⟩;obtain ⟨j, hj⟩ : ∃ m, sm % 16 = m := ⟨_, rfl⟩;have hjk : (k + 4 * (k % 4)) % 16 = j := by rw [hm4, hm16, hsm, hj]
     have hc1 := hgk.cellB j (by rw [HBR.out.2.2]; omega);have hst := fillAt_step (fun i => B.getD (Rb.getD ((i + 4 * (i % 4)) % 16) 0).toNat 0) (List.replicate 16 0) k (by rw [List.length_replicate]; exact hlt2);simp only [hjk] at hst;obtain ⟨x, hx⟩ : ∃ x, Rb.getD j 0 = x := ⟨_, rfl⟩;rw [hx] at hc1 hst;have hxl := x.toNat_lt;have hc2 := hck.cellB (240 + x.toNat) (by rw [List.length_append, HC.out.2.1, HC.out.2.2.2.1]; omega);rw [List.getD_eq_getElem?_getD, List.getElem?_append_right (by rw [HC.out.2.1]; omega), HC.out.2.1, Nat.add_sub_cancel_left, ← List.getD_eq_getElem?_getD] at hc2;obtain ⟨y, hy⟩ : ∃ y, B.getD x.toNat 0 = y := ⟨_, rfl⟩;rw [hy] at hc2;simp only [hy] at hst;have hc3 := hBk.cellB k (by rw [fillAt_len _ _ _ (by rw [List.length_replicate]; omega), List.length_replicate]; exact hlt2);have hf := hBk.frozen k;have j7 : (k : Int) < 16 := by omega
     have j8 : (x.toNat : Int) < 256 := by omega
     have j9 : (j : Int) < 16 := by omega
     have HBk := Lib.hid (And.intro hBk (And.intro hUk hst));have e1 : (k : Int).tmod 4 = (m4 : Int) := by rw [Int.tmod_eq_emod_of_nonneg (by omega)]; omega
     have e2 : IntKind.i64.wrap (4 * (m4 : Int)) = (m16 : Int) := by rw [IntWalk.i64_in _ (by omega)]; omega
     have e3 : IntKind.i64.wrap ((k : Int) + (m16 : Int)) = (sm : Int) := by rw [IntWalk.i64_in _ (by omega)]; omega
     have e4 : (sm : Int).tmod 16 = (j : Int) := by rw [Int.tmod_eq_emod_of_nonneg (by omega)]; omega
     clear hBk hUk hst hx hy hxl hgk hck hm4 hm16 hsm hj hjk;go_wp2_with fail
     go_still_tail 15, (by kernel_rfl)
     change wpList _ _ _ _ _ (World.drew _);go_wp2_with fail
     clear e1 e2 e3 e4;go_roundw
     case rel =>
      refine ⟨k + 1, by omega, by go_num, ?_, ?_⟩
      ·have h := (HBk.out.1.setB k y).drew
       have hs := HBk.out.2.2;rw [hs] at h;exact h
      ·exact (HBk.out.2.1.setCell (p := ⟨n, k, none⟩) (.inl rfl) _).drew
     case measure => simp [intOf] <;> omega
    ·obtain rfl : k = 16 := by omega
     have e16 : ((16 : Nat) : Int) = 16 := rfl;rw [e16];obtain ⟨T, hT⟩ : ∃ T, subK (roundK W r b) = T := ⟨_, rfl⟩;have hTl : T.length = 16 := by rw [← hT]; simp [subK]
     have hsub : (List.range 16).map (fun i => B.getD (Rb.getD ((i + 4 * (i % 4)) % 16) 0).toNat 0) = T := by
      rw [← hT, HR.out.1, ← HC.out.2.2.1];rfl
     rw [fillAt_all _ _ _ (by rw [List.length_replicate]), hsub] at hBk;have HT := Lib.hid (And.intro hT hTl);have HTB := Lib.hid (And.intro hBk (HQ.out.2.2.then hUk (fun q hq => .inr (by have := HN.out.2.1; omega))));have HTG : Hid (Blk wr g 339 (arrB (roundK W r b))) := Lib.hid (by rw [HR.out.1]; exact HQ.out.2.1.upd hUk HN.out.1);clear hT hTl hsub hBk hUk hk hlt2 e16;by_cases h14 : r + 1 < 14
     ·
      --#a {
      have k1 : (r : Int) + 1 < 14 := by omega
      obtain ⟨M, hM⟩ : ∃ M, mixK T = M := ⟨_, rfl⟩;have hMl : M.length = 16 := by rw [← hM]; simp [mixK]
      have HMX := Lib.hid (fun W1 => mix_c T HT.out.2 W1);rw [hM] at HMX;go_upto_region 13 with (first
       | (go_at_call 274
          refine (HMX.out _).mono ?_;rintro e w13 ⟨rfl, hU13⟩;have HU13 := Lib.hid hU13;clear hU13)
       | (show wpList _ _ _ (⟨none, _, _, _, _, _⟩ :: _) _ _
          refine wpList_store_all rfl 339 _ _ rfl n (arrB M) rfl rfl 339 _ (HTB.out.1.upd HU13.out (fun e => e)) (by rw [arrB_size, arrB_size, hMl, HT.out.2]) (arrB_one _) (by rw [arrB_size, hMl]; kernel_rfl) ?_
          intro w14 hB14 hU14 hz14)
       | (refine wpList_load_all rfl _ _ rfl n rfl _ _ _ HTB.out.1 Tryz.underlying339 rfl (by rw [arrB_size, HT.out.2]; kernel_rfl) ?_))
      have hBM := hB14;have hUM : Upd (· = g) w2 w14 := (HTB.out.2.then HU13.out (fun _ e => e.elim)).then hU14 (fun q hq => .inr (by have := HN.out.2.1; omega));have hrM : Blk w14 g 339 (arrB (roundK W r b)) := (HTG.out.upd HU13.out (fun e => e)).upd hU14 (by have := HN.out.1; omega);clear hB14 hU14 hz14 k1;obtain ⟨R2, hR2⟩ : ∃ R2, roundK W (r + 1) b = R2 := ⟨_, rfl⟩;have hR2l : R2.length = 16 := by rw [← hR2]; exact roundK_len _ _ _
      have hadd : addK W M (r + 1) = R2 := by
       rw [← hR2];show _ = addK W (if r + 1 < 14 then mixK (subK (roundK W r b)) else subK (roundK W r b)) (r + 1);rw [if_pos (by omega : r + 1 < 14), ← hM, ← HT.out.1]
      have HM := Lib.hid (And.intro hM (And.intro hMl (And.intro hR2 (And.intro hR2l hadd))));have HBM := Lib.hid (And.intro hBM (And.intro hUM hrM));clear hM hMl hR2 hR2l hadd hBM hUM hrM;go_wp2_with (first
       | (go_at_call 273
          refine (HA.out _ (HN.out.2.2 HBM.out.2.1) M HM.out.2.1 (r + 1) (by omega)).mono ?_;rintro e w3 ⟨rfl, hU3⟩;rw [HM.out.2.2.2.2];have HU3 := Lib.hid hU3;clear hU3)
       | (show wpList _ _ _ (⟨none, _, _, _, _, _⟩ :: _) _ _
          refine wpList_store_all rfl 339 _ _ rfl g (arrB R2) rfl rfl 339 _ (HBM.out.2.2.upd HU3.out (fun e => e)) (by rw [arrB_size, arrB_size, HM.out.2.2.2.1, HR.out.2]) (arrB_one _) (by rw [arrB_size, HM.out.2.2.2.1]; kernel_rfl) ?_
          intro w4 hB4 hU4 hz4;have HB4 := Lib.hid (And.intro hB4 ((HBM.out.2.1.then HU3.out (fun _ e => e.elim)).then hU4 (fun _ e => .inl e)));clear hB4 hU4 hz4)
       | (refine wpList_load_all rfl _ _ rfl n rfl _ _ _ HBM.out.1 Tryz.underlying339 rfl (by rw [arrB_size, HM.out.2.1]; kernel_rfl) ?_))
      go_roundw
      case rel => exact ⟨r + 1, by omega, by go_num, by rw [HM.out.2.2.1]; exact HB4.out.1, HB4.out.2⟩
      case measure => simp [intOf] <;> omega
      --#a }
     ·
      --#c {
      have k1 : ¬ (r : Int) + 1 < 14 := by omega
      have k2 : decide ((r : Int) + 1 < 14) = false := decide_eq_false k1;obtain ⟨M, hM⟩ : ∃ M, T = M := ⟨_, rfl⟩;have hMl : M.length = 16 := by rw [← hM]; exact HT.out.2
      have hBM := HTB.out.1;rw [hM] at hBM;have hUM := HTB.out.2;have hrM := HTG.out;obtain ⟨R2, hR2⟩ : ∃ R2, roundK W (r + 1) b = R2 := ⟨_, rfl⟩;have hR2l : R2.length = 16 := by rw [← hR2]; exact roundK_len _ _ _
      have hadd : addK W M (r + 1) = R2 := by
       rw [← hR2];show _ = addK W (if r + 1 < 14 then mixK (subK (roundK W r b)) else subK (roundK W r b)) (r + 1);rw [if_neg (by omega : ¬ r + 1 < 14), ← hM, ← HT.out.1]
      have HM := Lib.hid (And.intro hM (And.intro hMl (And.intro hR2 (And.intro hR2l hadd))));have HBM := Lib.hid (And.intro hBM (And.intro hUM hrM));clear hM hMl hR2 hR2l hadd hBM hUM hrM;go_wp2_with (first
       | (go_at_call 273
          refine (HA.out _ (HN.out.2.2 HBM.out.2.1) M HM.out.2.1 (r + 1) (by omega)).mono ?_;rintro e w3 ⟨rfl, hU3⟩;rw [HM.out.2.2.2.2];have HU3 := Lib.hid hU3;clear hU3)
       | (show wpList _ _ _ (⟨none, _, _, _, _, _⟩ :: _) _ _
          refine wpList_store_all rfl 339 _ _ rfl g (arrB R2) rfl rfl 339 _ (HBM.out.2.2.upd HU3.out (fun e => e)) (by rw [arrB_size, arrB_size, HM.out.2.2.2.1, HR.out.2]) (arrB_one _) (by rw [arrB_size, HM.out.2.2.2.1]; kernel_rfl) ?_
          intro w4 hB4 hU4 hz4;have HB4 := Lib.hid (And.intro hB4 ((HBM.out.2.1.then HU3.out (fun _ e => e.elim)).then hU4 (fun _ e => .inl e)));clear hB4 hU4 hz4)
       | (refine wpList_load_all rfl _ _ rfl n rfl _ _ _ HBM.out.1 Tryz.underlying339 rfl (by rw [arrB_size, HM.out.2.1]; kernel_rfl) ?_))
      go_roundw
      case rel => exact ⟨r + 1, by omega, by go_num, by rw [HM.out.2.2.1]; exact HB4.out.1, HB4.out.2⟩
      case measure => simp [intOf] <;> omega
      --#c }
  ·obtain rfl : r = 14 := by omega
   have e15 : ((14 : Nat) : Int) + 1 = 15 := rfl;rw [e15];rw [HO.out.1] at hBr;have HBr := Lib.hid (And.intro hBr (And.intro (HW2.out.2.1.upd hUr (by omega)) (HW2.out.2.2.1.then hUr (fun q hq => .inr (by have := HG.out; omega)))));clear hBr hUr e15 hlt hr;go_wp2_with (first
    | (show wpList _ _ _ (⟨none, _, _, _, _, _⟩ :: _) _ _
       refine wpList_store_all rfl 339 _ _ rfl (g + 1) (arrB O) rfl rfl 339 _ HBr.out.2.1 (by rw [arrB_size, arrB_size, HO.out.2]; rfl) (arrB_one _) (by rw [arrB_size, HO.out.2]; kernel_rfl) ?_
       intro w4 hB4 hU4 hz4)
    | (refine wpList_load_all rfl _ _ rfl g rfl _ _ _ HBr.out.1 Tryz.underlying339 rfl (by rw [arrB_size, HO.out.2]; kernel_rfl) ?_))
   refine bodyPost_ret (results_cell_row rfl _ _ (g + 1) _ _ _ _ rfl hB4 Tryz.underlying339 rfl (by rw [arrB_size, HO.out.2]; kernel_rfl)) rfl ⟨rfl, HBr.out.2.2.then hU4 (fun q hq => .inr (by have := HG.out; omega))⟩
end
end Go.Proofs.YtbhjgfibhegddaaGreat
