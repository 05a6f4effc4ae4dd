/-
  Parts of the proof of VaultMetas: VatC, VatD.
-/
import Derived.Test.YtbhjgfibhegddaaGreatQVaultMetas17
set_option maxRecDepth 100000
set_option maxHeartbeats 16000000
namespace Go.Proofs.YtbhjgfibhegddaaGreat
section
open Go Go.RowKit
def stRow (s : StM) (mv : Value) : Array Value := #[.int .i64 s.m.role, .int .i64 s.m.seen, .int .i64 s.m.grant, mv, .string (str s.m.secret), .int .i64 s.at_, .int .i64 s.epoch, .int .i64 (s.slot : Int), .int .u64 (s.log : Int), .int .i64 (s.key : Int), .int .u32 (s.boot : Int)]
structure StOk (s : StM) : Prop where
 right : rightM s.m = true
 place : PlaceIs s.at_ s.epoch
 slot : s.slot ≤ 2
 log : s.log ≤ 1000000
 key : s.key ≤ 1000000
 boot : s.boot ≤ 1000000
 mn : s.m.seen ≤ 9223372036854775807 ∧ s.m.grant ≤ 9223372036854775807
structure MetaOk (m : MetaM) : Prop where
 role0 : 0 ≤ m.role
 role3 : m.role ≤ 3
 seen : 0 ≤ m.seen
 grant : 0 ≤ m.grant
 mts : m.mounts.length ≤ 4
 each : ∀ x ∈ m.mounts, 1 ≤ x.name.length ∧ x.name.length ≤ 8
 sec : m.secret.length ≤ 64
theorem mtsR_each {l a : List MtM} (h : mtsR a l = true) : ∀ m ∈ l, okName m.name = true := by
 induction l generalizing a with
 | nil => simp
 | cons x r ih =>
   unfold mtsR at h;simp only [Bool.and_eq_true] at h;intro m hm;rcases List.mem_cons.1 hm with rfl | hm
   ·exact h.1.1
   ·exact ih h.2 m hm
theorem rightM_ok {m : MetaM} (h : rightM m = true) : MetaOk m := by
 unfold rightM at h;simp only [Bool.and_eq_true, Bool.or_eq_true, decide_eq_true_eq] at h;obtain ⟨hm, h5, h6, h7, h8, h9⟩ := h;refine ⟨h5, h6, h7, h8, ?_, ?_, h9⟩
 ·rcases hm with e | e
  ·rw [e]; simp
  ·unfold okMounts at e
   simp only [Bool.and_eq_true, decide_eq_true_eq] at e;exact e.2.2
 ·rcases hm with e | e
  ·rw [e]; simp
  ·unfold okMounts at e
   simp only [Bool.and_eq_true, decide_eq_true_eq] at e;intro x hx;have := mtsR_each e.1 x hx;unfold okName at this;simp only [Bool.and_eq_true, decide_eq_true_eq] at this;exact this.1
theorem mtB_take {l : List MtM} {k : Nat} (hk : k < l.length) : (l.take (k + 1)).flatMap mtB = (l.take k).flatMap mtB ++ mtB l[k] := by
 rw [List.take_succ_eq_append_getElem hk, List.flatMap_append];simp
theorem mtB_len {x : MtM} (h : x.name.length ≤ 8) : (mtB x).length ≤ 11 := by
 have := sizeN_small (n := x.name.length) (by omega);unfold mtB;rw [List.length_append, textN_len];simp only [List.length_cons, List.length_nil];omega
theorem mtsB_len {l : List MtM} (h : ∀ x ∈ l, x.name.length ≤ 8) : (l.flatMap mtB).length ≤ 11 * l.length := by
 induction l with
 | nil => simp
 | cons x r ih =>
   have h1 := ih fun m hm => h m (by simp [hm])
   have h2 := mtB_len (h x (by simp));rw [List.flatMap_cons, List.length_append, List.length_cons];omega
def stNums (s : StM) : List Nat := [s.m.role.toNat, s.m.seen.toNat, s.m.grant.toNat, s.at_.toNat, s.epoch.toNat, s.slot, s.key]
theorem stB_split (s : StM) (t : List UInt8) : stB s t = putN 1 ++ (stNums s).flatMap putN ++ putN s.log ++ putN s.boot ++ putN s.m.mounts.length ++ s.m.mounts.flatMap mtB ++ textN t := by
 unfold stB stNums;simp [List.append_assoc]
theorem built7 (a b c d e f g : Int) : Tryz.prog.built 295 [(0, .int .i64 a), (1, .int .i64 b), (2, .int .i64 c), (3, .int .i64 d), (4, .int .i64 e), (5, .int .i64 f), (6, .int .i64 g)] = some #[.int .i64 a, .int .i64 b, .int .i64 c, .int .i64 d, .int .i64 e, .int .i64 f, .int .i64 g] := by kernel_rfl
theorem stext_c {w : World} {A : Option Addr} {cap b off : Nat} (s : StM) (hs : StOk s) (hA : 0 < s.m.mounts.length → A = some ⟨b, off, none⟩) (hb : ∀ w', Upd (fun _ => False) w w' → MtsAt w' b off s.m.mounts) (t : ByteArray) (ht : t.size ≤ 200) :
 Calls Tryz.prog 128 #[.agg (stRow s (.slice A s.m.mounts.length cap)), .string t] w fun e w' => e = .returned (.string (str (stB s t.data.toList))) ∧ Upd (fun _ => False) w w' := by
 have hm := rightM_ok hs.right;have hp := hs.place;obtain ⟨n0, hn0⟩ : ∃ n : Nat, s.m.role = n := ⟨s.m.role.toNat, by have := hm.role0; omega⟩;obtain ⟨n1, hn1⟩ : ∃ n : Nat, s.m.seen = n := ⟨s.m.seen.toNat, by have := hm.seen; omega⟩;obtain ⟨n2, hn2⟩ : ∃ n : Nat, s.m.grant = n := ⟨s.m.grant.toNat, by have := hm.grant; omega⟩;obtain ⟨n3, hn3⟩ : ∃ n : Nat, s.at_ = n := ⟨s.at_.toNat, by have := hp.at0; omega⟩;obtain ⟨n4, hn4⟩ : ∃ n : Nat, s.epoch = n := ⟨s.epoch.toNat, by have := hp.ep0; omega⟩;have b0 : n0 ≤ 3 := by have := hm.role3; omega
 have b1 : n1 ≤ 9223372036854775807 := by have := hs.mn.1; omega
 have b2 : n2 ≤ 9223372036854775807 := by have := hs.mn.2; omega
 have b3 : n3 ≤ 9223372036854775807 := by have := hp.at1; omega
 have b4 : n4 ≤ 9223372036854775807 := by have := hp.ep1; omega
 have b5 := hs.slot;have b6 := hs.key;have b7 := hs.log;have b8 := hs.boot;have hsplit := stB_split s t.data.toList;have hnums : stNums s = [n0, n1, n2, n3, n4, s.slot, s.key] := by unfold stNums; rw [hn0, hn1, hn2, hn3, hn4]; rfl
 rw [hnums] at hsplit;obtain ⟨T, hT⟩ : ∃ T, stB s t.data.toList = T := ⟨_, rfl⟩;rw [hT] at hsplit ⊢;obtain ⟨SE, hSE⟩ : ∃ S, str s.m.secret = S := ⟨_, rfl⟩;have hrow : stRow s (.slice A s.m.mounts.length cap) = #[.int .i64 (n0 : Int), .int .i64 (n1 : Int), .int .i64 (n2 : Int), .slice A s.m.mounts.length cap, .string SE, .int .i64 (n3 : Int), .int .i64 (n4 : Int), .int .i64 (s.slot : Int), .int .u64 (s.log : Int), .int .i64 (s.key : Int), .int .u32 (s.boot : Int)] := by unfold stRow; rw [hn0, hn1, hn2, hn3, hn4, hSE]
 rw [hrow];have hmt := hm.mts;have hme := hm.each;obtain ⟨n5, hn5⟩ : ∃ n, s.slot = n := ⟨_, rfl⟩;obtain ⟨n6, hn6⟩ : ∃ n, s.key = n := ⟨_, rfl⟩;obtain ⟨n7, hn7⟩ : ∃ n, s.log = n := ⟨_, rfl⟩;obtain ⟨n8, hn8⟩ : ∃ n, s.boot = n := ⟨_, rfl⟩;obtain ⟨L, hL⟩ : ∃ L, s.m.mounts = L := ⟨_, rfl⟩;rw [hn5] at b5 hsplit;rw [hn6] at b6 hsplit;rw [hn7] at b7 hsplit;rw [hn8] at b8 hsplit;rw [hL] at hmt hme hA hb hsplit;rw [hn5, hn6, hn7, hn8, hL];have HS := Lib.hid hsplit;have HB := Lib.hid hb;have HM := Lib.hid hme;have HT := Lib.hid ht;clear hm hp hs hn0 hn1 hn2 hn3 hn4 hnums hT hSE hrow hn5 hn6 hn7 hn8 hL hsplit hb hme ht;obtain ⟨q, hq⟩ : ∃ q, w.heap.size = q := ⟨_, rfl⟩;go_enter Tryz.func128, Tryz.ntmps128
 go_upto_region 1 with fail
 generalize hw5 : World.alloc _ _ = w5;have hB5 : Blk w5 q 115 #[.int .i64 (n0 : Int), .int .i64 (n1 : Int), .int .i64 (n2 : Int), .slice A L.length cap, .string SE, .int .i64 (n3 : Int), .int .i64 (n4 : Int), .int .i64 (n5 : Int), .int .u64 (n7 : Int), .int .i64 (n6 : Int), .int .u32 (n8 : Int)] := by rw [← hw5, ← hq]; exact Blk.new w _ _
 have hU5 : Upd (fun _ => False) w w5 := by rw [← hw5]; exact (Upd.refl _ w).alloc _
 have H5 := Lib.hid (And.intro hB5 hU5);clear hB5 hU5 hw5 hq;obtain ⟨o, ho⟩ : ∃ o, w5.heap.size = o := ⟨_, rfl⟩;go_upto_region 2 with fail
 generalize hw7 : World.alloc _ _ = w7;have hO7 : OutQ (fun _ => False) w5 w7 o [] := by rw [← hw7, ← ho]; exact OutQ.start w5
 have HO7 := Lib.hid hO7;clear hO7 hw7 ho;have HC : ∀ W, Upd (fun _ => False) w5 W → W.cell? ⟨q, 0, none⟩ = some (.int .i64 (n0 : Int)) ∧ W.cell? ⟨q, 1, none⟩ = some (.int .i64 (n1 : Int)) ∧ W.cell? ⟨q, 2, none⟩ = some (.int .i64 (n2 : Int)) ∧ W.cell? ⟨q, 3, none⟩ = some (.slice A L.length cap) ∧ W.cell? ⟨q, 5, none⟩ = some (.int .i64 (n3 : Int)) ∧ W.cell? ⟨q, 6, none⟩ = some (.int .i64 (n4 : Int)) ∧ W.cell? ⟨q, 7, none⟩ = some (.int .i64 (n5 : Int)) ∧ W.cell? ⟨q, 8, none⟩ = some (.int .u64 (n7 : Int)) ∧ W.cell? ⟨q, 9, none⟩ = some (.int .i64 (n6 : Int)) ∧ W.cell? ⟨q, 10, none⟩ = some (.int .u32 (n8 : Int)) := fun W hW => by
  have h := H5.out.1.upd hW (fun e => e);exact ⟨h.cell 0, h.cell 1, h.cell 2, h.cell 3, h.cell 5, h.cell 6, h.cell 7, h.cell 8, h.cell 9, h.cell 10⟩
 have HC := Lib.hid HC;go_wp2_with fail
 refine (num_step 1 (by omega) (by simp) HO7.out).mono ?_;rintro e w8 ⟨rfl, h8⟩;rw [List.nil_append] at h8;obtain ⟨c0, c1, c2, c3, c5, c6, c7, c8, c9, c10⟩ := HC.out _ h8.upd;have H8 := Lib.hid h8;clear h8;go_wp2_with (first
  | (refine wpList_build_is rfl _ _ rfl [(0, .int .i64 (n0 : Int)), (1, .int .i64 (n1 : Int)), (2, .int .i64 (n2 : Int)), (3, .int .i64 (n3 : Int)), (4, .int .i64 (n4 : Int)), (5, .int .i64 (n5 : Int)), (6, .int .i64 (n6 : Int))] _ (by first | rfl | kernel_rfl) (built7 _ _ _ _ _ _ _) ?_))
 obtain ⟨acc0, hacc0⟩ : ∃ a, putN 1 = a := ⟨_, rfl⟩;have hl0 : acc0.length ≤ 10 := by rw [← hacc0, putN_len]; exact size_u64 (n := 1) (by omega)
 rw [hacc0] at H8;have HA0 := Lib.hid (And.intro hacc0 hl0);clear hacc0 hl0;go_loopw [7, 33] (fun _ u wr => ∃ k : Nat, k ≤ 7 ∧ u = .int .i64 (k : Int) ∧ (acc0 ++ ([n0, n1, n2, n3, n4, n5, n6].take k).flatMap putN).length ≤ 10 + 10 * k ∧ OutQ (fun _ => False) w5 wr o (acc0 ++ ([n0, n1, n2, n3, n4, n5, n6].take k).flatMap putN)) (fun _ u _ => 7 - (intOf u).toNat)
 case atStart => exact ⟨0, by omega, rfl, by simpa using HA0.out.2, by simpa using H8.out⟩
 case round =>
  obtain ⟨k, hk, rfl, hal, hO⟩ := hrel;have hcs : k = 0 ∨ k = 1 ∨ k = 2 ∨ k = 3 ∨ k = 4 ∨ k = 5 ∨ k = 6 ∨ k = 7 := by omega
  rcases hcs with rfl | rfl | rfl | rfl | rfl | rfl | rfl | rfl
  ·have hnx : acc0 ++ ([n0, n1, n2, n3, n4, n5, n6].take (0 + 1)).flatMap putN = (acc0 ++ ([n0, n1, n2, n3, n4, n5, n6].take 0).flatMap putN) ++ putN n0 := by
    simp
   obtain ⟨acc, hacc⟩ : ∃ a, acc0 ++ ([n0, n1, n2, n3, n4, n5, n6].take 0).flatMap putN = a := ⟨_, rfl⟩;rw [hacc] at hal hO hnx;have hz := size_u64 (n := n0) (by omega);have HN := Lib.hid (And.intro hnx (And.intro hal hz));have HO := Lib.hid hO;clear hnx hacc hal hO hz hk;rw [show ((0 : Nat) : Int) = 0 from rfl];have hix : (Instr.index 295 (.agg #[.int .i64 (n0 : Int), .int .i64 (n1 : Int), .int .i64 (n2 : Int), .int .i64 (n3 : Int), .int .i64 (n4 : Int), .int .i64 (n5 : Int), .int .i64 (n6 : Int)]) (.int .i64 0)).run Tryz.prog wr = .ok (.int .i64 (n0 : Int)) wr := by first | rfl | kernel_rfl
   go_wp2_with fail
   refine (num_step n0 (by omega) (by have := HN.out.2.1; omega) HO.out).mono ?_;rintro e w9 ⟨rfl, h9⟩;rw [← HN.out.1] at h9;have H9 := Lib.hid h9;clear h9;go_wp2_with fail
   go_roundw
   case rel =>
    refine ⟨0 + 1, by omega, by go_num, ?_, H9.out⟩;rw [HN.out.1, List.length_append, putN_len];have := HN.out.2;omega
   case measure => simp [intOf] <;> omega
  ·have hnx : acc0 ++ ([n0, n1, n2, n3, n4, n5, n6].take (1 + 1)).flatMap putN = (acc0 ++ ([n0, n1, n2, n3, n4, n5, n6].take 1).flatMap putN) ++ putN n1 := by
    simp [List.append_assoc]
   obtain ⟨acc, hacc⟩ : ∃ a, acc0 ++ ([n0, n1, n2, n3, n4, n5, n6].take 1).flatMap putN = a := ⟨_, rfl⟩;rw [hacc] at hal hO hnx;have hz := size_u64 (n := n1) (by omega);have HN := Lib.hid (And.intro hnx (And.intro hal hz));have HO := Lib.hid hO;clear hnx hacc hal hO hz hk;rw [show ((1 : Nat) : Int) = 1 from rfl];have hix : (Instr.index 295 (.agg #[.int .i64 (n0 : Int), .int .i64 (n1 : Int), .int .i64 (n2 : Int), .int .i64 (n3 : Int), .int .i64 (n4 : Int), .int .i64 (n5 : Int), .int .i64 (n6 : Int)]) (.int .i64 1)).run Tryz.prog wr = .ok (.int .i64 (n1 : Int)) wr := by first | rfl | kernel_rfl
   go_wp2_with fail
   refine (num_step n1 (by omega) (by have := HN.out.2.1; omega) HO.out).mono ?_;rintro e w9 ⟨rfl, h9⟩;rw [← HN.out.1] at h9;have H9 := Lib.hid h9;clear h9;go_wp2_with fail
   go_roundw
   case rel =>
    refine ⟨1 + 1, by omega, by go_num, ?_, H9.out⟩;rw [HN.out.1, List.length_append, putN_len];have := HN.out.2;omega
   case measure => simp [intOf] <;> omega
  ·have hnx : acc0 ++ ([n0, n1, n2, n3, n4, n5, n6].take (2 + 1)).flatMap putN = (acc0 ++ ([n0, n1, n2, n3, n4, n5, n6].take 2).flatMap putN) ++ putN n2 := by
    simp [List.append_assoc]
   obtain ⟨acc, hacc⟩ : ∃ a, acc0 ++ ([n0, n1, n2, n3, n4, n5, n6].take 2).flatMap putN = a := ⟨_, rfl⟩;rw [hacc] at hal hO hnx;have hz := size_u64 (n := n2) (by omega);have HN := Lib.hid (And.intro hnx (And.intro hal hz));have HO := Lib.hid hO;clear hnx hacc hal hO hz hk;rw [show ((2 : Nat) : Int) = 2 from rfl];have hix : (Instr.index 295 (.agg #[.int .i64 (n0 : Int), .int .i64 (n1 : Int), .int .i64 (n2 : Int), .int .i64 (n3 : Int), .int .i64 (n4 : Int), .int .i64 (n5 : Int), .int .i64 (n6 : Int)]) (.int .i64 2)).run Tryz.prog wr = .ok (.int .i64 (n2 : Int)) wr := by first | rfl | kernel_rfl
   go_wp2_with fail
   refine (num_step n2 (by omega) (by have := HN.out.2.1; omega) HO.out).mono ?_;rintro e w9 ⟨rfl, h9⟩;rw [← HN.out.1] at h9;have H9 := Lib.hid h9;clear h9;go_wp2_with fail
   go_roundw
   case rel =>
    refine ⟨2 + 1, by omega, by go_num, ?_, H9.out⟩;rw [HN.out.1, List.length_append, putN_len];have := HN.out.2;omega
   case measure => simp [intOf] <;> omega
  ·have hnx : acc0 ++ ([n0, n1, n2, n3, n4, n5, n6].take (3 + 1)).flatMap putN = (acc0 ++ ([n0, n1, n2, n3, n4, n5, n6].take 3).flatMap putN) ++ putN n3 := by
    simp [List.append_assoc]
   obtain ⟨acc, hacc⟩ : ∃ a, acc0 ++ ([n0, n1, n2, n3, n4, n5, n6].take 3).flatMap putN = a := ⟨_, rfl⟩;rw [hacc] at hal hO hnx;have hz := size_u64 (n := n3) (by omega);have HN := Lib.hid (And.intro hnx (And.intro hal hz));have HO := Lib.hid hO;clear hnx hacc hal hO hz hk;rw [show ((3 : Nat) : Int) = 3 from rfl];have hix : (Instr.index 295 (.agg #[.int .i64 (n0 : Int), .int .i64 (n1 : Int), .int .i64 (n2 : Int), .int .i64 (n3 : Int), .int .i64 (n4 : Int), .int .i64 (n5 : Int), .int .i64 (n6 : Int)]) (.int .i64 3)).run Tryz.prog wr = .ok (.int .i64 (n3 : Int)) wr := by first | rfl | kernel_rfl
   go_wp2_with fail
   refine (num_step n3 (by omega) (by have := HN.out.2.1; omega) HO.out).mono ?_;rintro e w9 ⟨rfl, h9⟩;rw [← HN.out.1] at h9;have H9 := Lib.hid h9;clear h9;go_wp2_with fail
   go_roundw
   case rel =>
    refine ⟨3 + 1, by omega, by go_num, ?_, H9.out⟩;rw [HN.out.1, List.length_append, putN_len];have := HN.out.2;omega
   case measure => simp [intOf] <;> omega
  ·have hnx : acc0 ++ ([n0, n1, n2, n3, n4, n5, n6].take (4 + 1)).flatMap putN = (acc0 ++ ([n0, n1, n2, n3, n4, n5, n6].take 4).flatMap putN) ++ putN n4 := by
    simp [List.append_assoc]
   obtain ⟨acc, hacc⟩ : ∃ a, acc0 ++ ([n0, n1, n2, n3, n4, n5, n6].take 4).flatMap putN = a := ⟨_, rfl⟩;rw [hacc] at hal hO hnx;have hz := size_u64 (n := n4) (by omega);have HN := Lib.hid (And.intro hnx (And.intro hal hz));have HO := Lib.hid hO;clear hnx hacc hal hO hz hk;rw [show ((4 : Nat) : Int) = 4 from rfl];have hix : (Instr.index 295 (.agg #[.int .i64 (n0 : Int), .int .i64 (n1 : Int), .int .i64 (n2 : Int), .int .i64 (n3 : Int), .int .i64 (n4 : Int), .int .i64 (n5 : Int), .int .i64 (n6 : Int)]) (.int .i64 4)).run Tryz.prog wr = .ok (.int .i64 (n4 : Int)) wr := by first | rfl | kernel_rfl
   go_wp2_with fail
   refine (num_step n4 (by omega) (by have := HN.out.2.1; omega) HO.out).mono ?_;rintro e w9 ⟨rfl, h9⟩;rw [← HN.out.1] at h9;have H9 := Lib.hid h9;clear h9;go_wp2_with fail
   go_roundw
   case rel =>
    refine ⟨4 + 1, by omega, by go_num, ?_, H9.out⟩;rw [HN.out.1, List.length_append, putN_len];have := HN.out.2;omega
   case measure => simp [intOf] <;> omega
  ·have hnx : acc0 ++ ([n0, n1, n2, n3, n4, n5, n6].take (5 + 1)).flatMap putN = (acc0 ++ ([n0, n1, n2, n3, n4, n5, n6].take 5).flatMap putN) ++ putN n5 := by
    simp [List.append_assoc]
   obtain ⟨acc, hacc⟩ : ∃ a, acc0 ++ ([n0, n1, n2, n3, n4, n5, n6].take 5).flatMap putN = a := ⟨_, rfl⟩;rw [hacc] at hal hO hnx;have hz := size_u64 (n := n5) (by omega);have HN := Lib.hid (And.intro hnx (And.intro hal hz));have HO := Lib.hid hO;clear hnx hacc hal hO hz hk;rw [show ((5 : Nat) : Int) = 5 from rfl];have hix : (Instr.index 295 (.agg #[.int .i64 (n0 : Int), .int .i64 (n1 : Int), .int .i64 (n2 : Int), .int .i64 (n3 : Int), .int .i64 (n4 : Int), .int .i64 (n5 : Int), .int .i64 (n6 : Int)]) (.int .i64 5)).run Tryz.prog wr = .ok (.int .i64 (n5 : Int)) wr := by first | rfl | kernel_rfl
   go_wp2_with fail
   refine (num_step n5 (by omega) (by have := HN.out.2.1; omega) HO.out).mono ?_;rintro e w9 ⟨rfl, h9⟩;rw [← HN.out.1] at h9;have H9 := Lib.hid h9;clear h9;go_wp2_with fail
   go_roundw
   case rel =>
    refine ⟨5 + 1, by omega, by go_num, ?_, H9.out⟩;rw [HN.out.1, List.length_append, putN_len];have := HN.out.2;omega
   case measure => simp [intOf] <;> omega
  ·have hnx : acc0 ++ ([n0, n1, n2, n3, n4, n5, n6].take (6 + 1)).flatMap putN = (acc0 ++ ([n0, n1, n2, n3, n4, n5, n6].take 6).flatMap putN) ++ putN n6 := by
    simp [List.append_assoc]
   obtain ⟨acc, hacc⟩ : ∃ a, acc0 ++ ([n0, n1, n2, n3, n4, n5, n6].take 6).flatMap putN = a := ⟨_, rfl⟩;rw [hacc] at hal hO hnx;have hz := size_u64 (n := n6) (by omega);have HN := Lib.hid (And.intro hnx (And.intro hal hz));have HO := Lib.hid hO;clear hnx hacc hal hO hz hk;rw [show ((6 : Nat) : Int) = 6 from rfl];have hix : (Instr.index 295 (.agg #[.int .i64 (n0 : Int), .int .i64 (n1 : Int), .int .i64 (n2 : Int), .int .i64 (n3 : Int), .int .i64 (n4 : Int), .int .i64 (n5 : Int), .int .i64 (n6 : Int)]) (.int .i64 6)).run Tryz.prog wr = .ok (.int .i64 (n6 : Int)) wr := by first | rfl | kernel_rfl
   go_wp2_with fail
   refine (num_step n6 (by omega) (by have := HN.out.2.1; omega) HO.out).mono ?_;rintro e w9 ⟨rfl, h9⟩;rw [← HN.out.1] at h9;have H9 := Lib.hid h9;clear h9;go_wp2_with fail
   go_roundw
   case rel =>
    refine ⟨6 + 1, by omega, by go_num, ?_, H9.out⟩;rw [HN.out.1, List.length_append, putN_len];have := HN.out.2;omega
   case measure => simp [intOf] <;> omega
  ·have hfull : ([n0, n1, n2, n3, n4, n5, n6] : List Nat).take 7 = [n0, n1, n2, n3, n4, n5, n6] := rfl
   rw [hfull] at hal hO;obtain ⟨acc, hacc⟩ : ∃ a, acc0 ++ ([n0, n1, n2, n3, n4, n5, n6] : List Nat).flatMap putN = a := ⟨_, rfl⟩;rw [hacc] at hal hO;have hT2 := HS.out;rw [HA0.out.1, hacc] at hT2;have HAC := Lib.hid (And.intro hT2 hal);obtain ⟨c0, c1, c2, c3, c5, c6, c7, c8, c9, c10⟩ := HC.out _ hO.upd;have HO := Lib.hid hO;clear hT2 hal hO hacc hfull hk;go_wp2_with fail
   refine (num_step n7 (by omega) (by have := HAC.out.2; omega) HO.out).mono ?_;rintro e w9 ⟨rfl, h9⟩;obtain ⟨c0, c1, c2, c3, c5, c6, c7, c8, c9, c10⟩ := HC.out _ h9.upd;have H9 := Lib.hid h9;clear h9;go_wp2_with fail
   refine (num_step n8 (by omega) (by have := HAC.out.2; rw [List.length_append, putN_len]; have := size_u64 (n := n7) (by omega); omega) H9.out).mono ?_;rintro e w10 ⟨rfl, h10⟩;obtain ⟨c0, c1, c2, c3, c5, c6, c7, c8, c9, c10⟩ := HC.out _ h10.upd;have H10 := Lib.hid h10;clear h10;go_wp2_with fail
   refine (num_step L.length (by omega) (by have := HAC.out.2; rw [List.length_append, List.length_append, putN_len, putN_len]; have := size_u64 (n := n7) (by omega); have := size_u64 (n := n8) (by omega); omega) H10.out).mono ?_;rintro e w11 ⟨rfl, h11⟩;obtain ⟨c0, c1, c2, c3, c5, c6, c7, c8, c9, c10⟩ := HC.out _ h11.upd;obtain ⟨N, hN⟩ : ∃ a, acc ++ putN n7 ++ putN n8 ++ putN L.length = a := ⟨_, rfl⟩;rw [hN] at h11;have hNl : N.length ≤ 200 := by
    rw [← hN];simp only [List.length_append, putN_len];have := HAC.out.2;have := size_u64 (n := n7) (by omega);have := size_u64 (n := n8) (by omega);have := size_u64 (n := L.length) (by omega);omega
   have hT3 := HAC.out.1;rw [hN] at hT3;have H11 := Lib.hid h11;have HN := Lib.hid (And.intro hT3 hNl);clear h11 hN hNl hT3;go_wp2_with fail
   have l4 : (L.length : Int) ≤ 4 := by omega
   have hml : ∀ k, ((L.take k).flatMap mtB).length ≤ 44 := fun k => by
    have := mtsB_len (l := L.take k) (fun x hx => (HM.out x (List.mem_of_mem_take hx)).2);rw [List.length_take] at this;have h2 : 11 * min k L.length ≤ 11 * 4 := Nat.mul_le_mul_left _ (by omega);omega
   have HML := Lib.hid hml;clear hml c0 c1 c2 c3 c5 c6 c7 c8 c9 c10;go_loopw [9, 10, 61] (fun _ _ u wr => ∃ k : Nat, k ≤ L.length ∧ u = .int .i64 (k : Int) ∧ OutQ (fun _ => False) w5 wr o (N ++ (L.take k).flatMap mtB)) (fun _ _ u _ => L.length - (intOf u).toNat)
   case atStart => exact ⟨0, by omega, rfl, by simpa using H11.out⟩
   case round =>
    obtain ⟨k, hk, rfl, hO⟩ := hrel;have hMl : (N ++ (L.take k).flatMap mtB).length ≤ 300 := by
     rw [List.length_append];have := HML.out k;have := HN.out.2;omega
    obtain ⟨M, hM⟩ : ∃ M, N ++ (L.take k).flatMap mtB = M := ⟨_, rfl⟩;rw [hM] at hO hMl;by_cases hlt : k < L.length
    ·obtain rfl := hA (by omega)
     have hrow := HB.out wr (H5.out.2.then hO.upd (fun _ e => e.elim)) k hlt;have hsm := HM.out _ (List.getElem_mem hlt);have hnx : N ++ (L.take (k + 1)).flatMap mtB = M ++ mtB L[k] := by rw [mtB_take hlt, ← List.append_assoc, hM]
     obtain ⟨p, hp⟩ : ∃ p, L[k] = p := ⟨_, rfl⟩;rw [hp] at hrow hsm hnx;obtain ⟨nm, sh⟩ := p;obtain ⟨P, hP⟩ : ∃ P, str nm = P := ⟨_, rfl⟩;have hPl : P.data.toList = nm := by rw [← hP, str_list]
     have hPs : P.size ≤ 8 := by rw [← hP, str_size]; exact hsm.2
     have hrw : mtRow ⟨nm, sh⟩ = [.string P, .bool sh] := by unfold mtRow; rw [hP]
     rw [hrw] at hrow;have hpb : mtB ⟨nm, sh⟩ = textN P.data.toList ++ [if sh then 1 else 0] := by unfold mtB; rw [hPl]
     rw [hpb, ← List.append_assoc] at hnx;have tP : (textN P.data.toList).length ≤ 11 := by
      rw [textN_len, hPl];have := sizeN_small (n := nm.length) (by have := hsm.2; simp only at this; omega);have := hsm.2;simp only at this
      omega
     have HX := Lib.hid (And.intro hnx (And.intro hMl (And.intro hPs tP)));have HR := Lib.hid hrow;have HO2 := Lib.hid hO;have j1 : (k : Int) < (L.length : Int) := by omega
     obtain ⟨g, hg⟩ : ∃ q, wr.heap.size = q := ⟨_, rfl⟩;have HQ := Lib.hid hg;clear hrow hsm hnx hp hP hPl hPs hrw hpb hO hM hMl tP;go_upto_region 14 with (first
      | (refine wpList_load_mid rfl _ _ rfl b (off + k * 2) rfl [.string P, .bool sh] _ HR.out Tryz.underlying46 rfl (by kernel_rfl) ?_))
     generalize hw11 : World.alloc _ _ = w12;have hB11 : Blk w12 g 46 #[.string P, .bool sh] := by rw [← hw11, ← HQ.out]; exact Blk.new wr _ _
     have h12 : OutQ (fun _ => False) w5 w12 o M := by rw [← hw11]; exact HO2.out.still ((Upd.refl _ wr).alloc _)
     obtain ⟨c0, c1⟩ := hB11.cells2;have H12 := Lib.hid (And.intro h12 hB11);clear h12 hB11 hw11 hg;obtain ⟨G, g1, g2, g3⟩ := H12.out.1.here;have HG := Lib.hid (And.intro g1 (And.intro g2 (g3 g _ _ H12.out.2 (by decide) (by decide))));clear g1 g2 g3;go_wp2_with fail
     refine (otext_q HG.out.1 P (by have := HX.out.2.2.1; omega) (by have := HX.out.2.1; omega)).mono ?_;rintro e w13 ⟨rfl, h13⟩;obtain ⟨c0, c1⟩ := (H12.out.2.upd h13.upd HG.out.2.2).cells2;have H13 := Lib.hid h13;have hbl : (M ++ textN P.data.toList).length ≤ 800000 := by rw [List.length_append]; have := HX.out.2.1; have := HX.out.2.2.2; omega
     have HBL := Lib.hid hbl;clear h13 hbl;cases sh
     ·go_wp2_with fail
      refine (obyte_q H13.out 0 HBL.out).mono ?_;rintro e w14 ⟨rfl, h14⟩;have H14 := Lib.hid (H12.out.1.back HG.out.2.1 h14);clear h14 c0 c1;go_wp2_with fail
      go_roundw
      case rel => exact ⟨k + 1, by omega, by go_num, by rw [HX.out.1]; exact H14.out⟩
      case measure => simp [intOf] <;> omega
     ·go_wp2_with fail
      refine (obyte_q H13.out 1 HBL.out).mono ?_;rintro e w14 ⟨rfl, h14⟩;have H14 := Lib.hid (H12.out.1.back HG.out.2.1 h14);clear h14 c0 c1;go_wp2_with fail
      go_roundw
      case rel => exact ⟨k + 1, by omega, by go_num, by rw [HX.out.1]; exact H14.out⟩
      case measure => simp [intOf] <;> omega
    ·obtain rfl : k = L.length := by omega
     rw [List.take_length] at hM;have hT4 := HN.out.1;rw [hM] at hT4;have HX := Lib.hid (And.intro hT4 hMl);have HO := Lib.hid hO;clear hO hM hMl hT4 hlt hk;go_wp2_with fail
     refine (otext_q HO.out t (by have := HT.out; omega) (by have := HX.out.2; omega)).mono ?_;rintro e w13 ⟨rfl, h13⟩;rw [← HX.out.1] at h13;have hst := ostring_q h13;have HST := Lib.hid hst;have HU := Lib.hid (H5.out.2.then h13.upd (fun _ e => e.elim));clear h13 hst;go_wp2_with fail
     refine HST.out.mono ?_;rintro e wz ⟨rfl, rfl⟩;go_wp2_with fail
     go_ret
     exact ⟨rfl, HU.out⟩
end
section
open Go Go.RowKit
def mtsV (l : List MtM) : List Value := l.flatMap mtRow
theorem mtsV_snoc (l : List MtM) (p : MtM) : mtsV (l ++ [p]) = mtsV l ++ mtRow p := by unfold mtsV; rw [List.flatMap_append]; simp
theorem infoMount : (Tryz.prog.info? 46).map (fun i => (i.zero, i.size, i.bytes)) = some (some (.agg #[.string ByteArray.empty, .bool false]), 2, 24) := by kernel_rfl
def rowAt (n0 n1 n2 n3 n4 n5 n6 : Nat) (k : Nat) : Array Value := #[.int .i64 (if 0 < k then (n0 : Int) else 0), .int .i64 (if 1 < k then (n1 : Int) else 0), .int .i64 (if 2 < k then (n2 : Int) else 0), .slice none 0 0, .string ⟨#[]⟩, .int .i64 (if 3 < k then (n3 : Int) else 0), .int .i64 (if 4 < k then (n4 : Int) else 0), .int .i64 (if 5 < k then (n5 : Int) else 0), .int .u64 0, .int .i64 (if 6 < k then (n6 : Int) else 0), .int .u32 0]
theorem mosts {F : Nat → Prop} {w0 W : World} {y : Nat} (m : Nat) {z : Int} (hz : z = (m : Int)) (n : Nat) (r : List UInt8) (k : Nat) (hn : n ≤ m) (hm : m ≤ 9223372036854775807) (hk : k ≤ 10000) (h : InQ F w0 W y ⟨putN n ++ r, k, 0⟩) : Calls Tryz.prog 176 #[.pointer (some ⟨y, 0, none⟩), .int .i64 z] W fun e w' => e = .returned (.int .i64 (n : Int)) ∧ InQ F w0 w' y ⟨r, k + sizeN n, 0⟩ := by
 subst hz;have := most_q h m hm (by show k ≤ _; omega);rw [most_put n m k (by omega) hn r] at this;exact this
theorem nums {F : Nat → Prop} {w0 W : World} {y : Nat} (n : Nat) (r : List UInt8) (k : Nat) (hn : n < 18446744073709551616) (hk : k ≤ 10000) (h : InQ F w0 W y ⟨putN n ++ r, k, 0⟩) : Calls Tryz.prog 175 #[.pointer (some ⟨y, 0, none⟩)] W fun e w' => e = .returned (.int .u64 (n : Int)) ∧ InQ F w0 w' y ⟨r, k + sizeN n, 0⟩ := by
 have := inum_q h (by show k ≤ _; omega);rw [numI_put n k hn r] at this;exact this
theorem texts {F : Nat → Prop} {w0 W : World} {y : Nat} (m : Nat) {z : Int} (hz : z = (m : Int)) (t r : List UInt8) (k : Nat) (ht : t.length ≤ m) (hm : m ≤ 9223372036854775807) (hk : k ≤ 10000) (hl : t.length + r.length ≤ 90000) (h : InQ F w0 W y ⟨textN t ++ r, k, 0⟩) : Calls Tryz.prog 177 #[.pointer (some ⟨y, 0, none⟩), .int .i64 z] W fun e w' => e = .returned (.string (str t)) ∧ InQ F w0 w' y ⟨r, k + (textN t).length, 0⟩ := by
 subst hz;have hsz := size_u64 (n := t.length) (by omega);have := itext_q h m hm (by show k ≤ _; omega) (by show (textN t ++ r).length ≤ _; rw [List.length_append, textN_len]; omega);rw [text_put t m k ht (by omega) r] at this;exact this
theorem byts {F : Nat → Prop} {w0 W : World} {y : Nat} (b : UInt8) (r : List UInt8) (k : Nat) (hk : k ≤ 10000) (h : InQ F w0 W y ⟨b :: r, k, 0⟩) : Calls Tryz.prog 178 #[.pointer (some ⟨y, 0, none⟩)] W fun e w' => e = .returned (.int .u8 (b.toNat : Int)) ∧ InQ F w0 w' y ⟨r, k + 1, 0⟩ := by
 have := ibyte_q h (by show k ≤ _; omega);rw [byte_cons] at this;exact this
theorem built_ptrs (c : Nat) : Tryz.prog.built 284 [(0, .pointer (some ⟨c, 0, none⟩)), (1, .pointer (some ⟨c, 1, none⟩)), (2, .pointer (some ⟨c, 2, none⟩)), (3, .pointer (some ⟨c, 5, none⟩)), (4, .pointer (some ⟨c, 6, none⟩)), (5, .pointer (some ⟨c, 7, none⟩)), (6, .pointer (some ⟨c, 9, none⟩))] = some #[.pointer (some ⟨c, 0, none⟩), .pointer (some ⟨c, 1, none⟩), .pointer (some ⟨c, 2, none⟩), .pointer (some ⟨c, 5, none⟩), .pointer (some ⟨c, 6, none⟩), .pointer (some ⟨c, 7, none⟩), .pointer (some ⟨c, 9, none⟩)] := by kernel_rfl
theorem results_cell_slots2 {P : Program} {fn : Func} {p q q2 : Tmp} {ty : TypeId} (h : fn.results = #[.cell p ty, .tmp q, .tmp q2]) (tmps : Array Value) (w : World) (g : Nat) (t : TypeId) (cs : Array Value) (fr : Nat × Nat) (d : TypeDesc)
 (hp : tmps.getD p undef = .pointer (some ⟨g, 0, none⟩)) (hg : w.heap[g]? = some (.cells cs t fr))
 (hu : P.underlying ty = some d) (hd : (match d with | .struct _ | .array _ _ => true | _ => false) = true) (hi : (P.info? ty).map (·.size) = some cs.size) (v v2 : Value) (hv : tmps.getD q undef = v) (hv2 : tmps.getD q2 undef = v2) :
 (results fn tmps).run P w = .ok (.tuple #[.agg cs, v, v2]) w := by
 subst hv hv2;have hp' : tmps[p]?.getD undef = .pointer (some ⟨g, 0, none⟩) := by simpa using hp
 simp [results, h, hp', asAddr, run_loadVar_row w g t ty cs fr d hg hu hd hi]
theorem vread_c {w : World} (s : StM) (hs : StOk s) (t : List UInt8) (ht : t.length ≤ 200) (txt : ByteArray) (htx : txt.data.toList = stB s t) :
 Calls Tryz.prog 121 #[.string txt] w fun e w' => ∃ mv, e = .returned (.tuple #[.agg (stRow { s with m := { s.m with secret := [] } } mv), .string (str t), .bool true]) ∧ Own w' 46 2 mv s.m.mounts.length (mtsV s.m.mounts) ∧ (∀ q, mv.ownBlock = some q → w.heap.size ≤ q) ∧ Upd (fun _ => False) w w' := by
 have hm := rightM_ok hs.right;have hp := hs.place;obtain ⟨n0, hn0⟩ : ∃ n : Nat, s.m.role = n := ⟨s.m.role.toNat, by have := hm.role0; omega⟩;obtain ⟨n1, hn1⟩ : ∃ n : Nat, s.m.seen = n := ⟨s.m.seen.toNat, by have := hm.seen; omega⟩;obtain ⟨n2, hn2⟩ : ∃ n : Nat, s.m.grant = n := ⟨s.m.grant.toNat, by have := hm.grant; omega⟩;obtain ⟨n3, hn3⟩ : ∃ n : Nat, s.at_ = n := ⟨s.at_.toNat, by have := hp.at0; omega⟩;obtain ⟨n4, hn4⟩ : ∃ n : Nat, s.epoch = n := ⟨s.epoch.toNat, by have := hp.ep0; omega⟩;have b0 : n0 ≤ 3 := by have := hm.role3; omega
 have b1 : n1 ≤ 9223372036854775807 := by have := hs.mn.1; omega
 have b2 : n2 ≤ 9223372036854775807 := by have := hs.mn.2; omega
 have b3 : n3 ≤ 9223372036854775807 := by have := hp.at1; omega
 have b4 : n4 ≤ 9223372036854775807 := by have := hp.ep1; omega
 have b5 := hs.slot;have b6 := hs.key;have b7 := hs.log;have b8 := hs.boot;have hsplit := stB_split s t;have hnums : stNums s = [n0, n1, n2, n3, n4, s.slot, s.key] := by unfold stNums; rw [hn0, hn1, hn2, hn3, hn4]; rfl
 rw [hnums] at hsplit;have hmt := hm.mts;have hme := hm.each;have hrow : ∀ A n cap, stRow { s with m := { s.m with secret := [] } } (.slice A n cap) = #[.int .i64 (n0 : Int), .int .i64 (n1 : Int), .int .i64 (n2 : Int), .slice A n cap, .string ⟨#[]⟩, .int .i64 (n3 : Int), .int .i64 (n4 : Int), .int .i64 (s.slot : Int), .int .u64 (s.log : Int), .int .i64 (s.key : Int), .int .u32 (s.boot : Int)] := by
  intro A n cap;unfold stRow;simp only [hn0, hn1, hn2, hn3, hn4];rfl
 obtain ⟨n5, hn5⟩ : ∃ n, s.slot = n := ⟨_, rfl⟩;obtain ⟨n6, hn6⟩ : ∃ n, s.key = n := ⟨_, rfl⟩;obtain ⟨n7, hn7⟩ : ∃ n, s.log = n := ⟨_, rfl⟩;obtain ⟨n8, hn8⟩ : ∃ n, s.boot = n := ⟨_, rfl⟩;obtain ⟨L, hL⟩ : ∃ L, s.m.mounts = L := ⟨_, rfl⟩;rw [hn5] at b5 hsplit;rw [hn6] at b6 hsplit;rw [hn7] at b7 hsplit;rw [hn8] at b8 hsplit;rw [hL] at hmt hme hsplit ⊢;have hrow2 : ∀ A n cap, stRow { s with m := { s.m with secret := [] } } (.slice A n cap) = #[.int .i64 (n0 : Int), .int .i64 (n1 : Int), .int .i64 (n2 : Int), .slice A n cap, .string ⟨#[]⟩, .int .i64 (n3 : Int), .int .i64 (n4 : Int), .int .i64 (n5 : Int), .int .u64 (n7 : Int), .int .i64 (n6 : Int), .int .u32 (n8 : Int)] := fun A n cap => by rw [hrow A n cap, hn5, hn6, hn7, hn8]
 obtain ⟨TL, hTL⟩ : ∃ TL, putN n7 ++ (putN n8 ++ (putN L.length ++ (L.flatMap mtB ++ textN t))) = TL := ⟨_, rfl⟩;have hsp : txt.data.toList = putN 1 ++ (([n0, n1, n2, n3, n4, n5, n6] : List Nat).flatMap putN ++ TL) := by
  rw [htx, hsplit, ← hTL];simp only [List.append_assoc]
 have hbl : Hid (∀ k, ((L.drop k).flatMap mtB).length ≤ 44) := Lib.hid fun k => by
  have := mtsB_len (l := L.drop k) (fun x hx => (hme x (List.mem_of_mem_drop hx)).2);rw [List.length_drop] at this;have h2 : 11 * (L.length - k) ≤ 11 * 4 := Nat.mul_le_mul_left _ (by omega);omega
 have HROW := Lib.hid hrow2;have HTL := Lib.hid hTL;have HM := Lib.hid hme;have hof := fun W => of_q txt W
 rw [hsp] at hof;have HOF := Lib.hid hof;clear hm hp hs hn0 hn1 hn2 hn3 hn4 hnums hrow hrow2 hn5 hn6 hn7 hn8 hL hsplit hme htx hTL hsp hof;obtain ⟨g, hg⟩ : ∃ g, w.heap.size = g := ⟨_, rfl⟩;have HG := Lib.hid hg;go_enter Tryz.func121, Tryz.ntmps121
 go_upto_region 1 with fail
 generalize hw2 : World.alloc _ _ = w2;have hr2 : Blk w2 g 115 (rowAt n0 n1 n2 n3 n4 n5 n6 0) := by rw [← hw2, ← hg]; exact Blk.new w _ _
 have hU2 : Upd (fun _ => False) w w2 := by rw [← hw2]; exact (Upd.refl _ w).alloc _
 have HW2 := Lib.hid (And.intro hr2 hU2);clear hr2 hU2 hw2 hg;go_wp2_with fail
 refine (HOF.out _).mono ?_;rintro e w3 ⟨y, rfl, h3⟩;have H3 := Lib.hid h3;clear h3;go_wp2_with fail
 refine (nums 1 _ 0 (by omega) (by omega) H3.out).mono ?_;rintro e w4 ⟨rfl, h4⟩;have hz1 : (0 : Nat) + sizeN 1 ≤ 10 := by have := size_u64 (n := 1) (by omega); omega
 obtain ⟨r0, hr0⟩ : ∃ r, 0 + sizeN 1 = r := ⟨_, rfl⟩;rw [hr0] at h4 hz1;have H4 := Lib.hid h4;clear h4 hr0;obtain ⟨c, hc⟩ : ∃ c, w4.heap.size = c := ⟨_, rfl⟩;go_upto_region 4 with fail
 generalize hw5 : World.alloc _ _ = w5;have hB5 : Blk w5 c 115 (rowAt n0 n1 n2 n3 n4 n5 n6 0) := by rw [← hw5, ← hc]; exact Blk.new w4 _ _
 have h5 : InQ (fun _ => False) w2 w5 y ⟨([n0, n1, n2, n3, n4, n5, n6] : List Nat).flatMap putN ++ TL, r0, 0⟩ := by rw [← hw5]; exact H4.out.still ((Upd.refl _ w4).alloc _)
 have hcy : w2.heap.size ≤ c ∧ c ≠ y := ⟨by rw [← hc]; exact H4.out.upd.size, by have := H4.out.blk.lt; omega⟩;have H5 := Lib.hid (And.intro hB5 (And.intro h5 (And.intro hcy (And.intro h5.blk.lt hB5.lt))));clear hB5 h5 hcy hw5 hc;go_wp2_with (first
  | (refine wpList_build_is rfl _ _ rfl [(0, .pointer (some ⟨c, 0, none⟩)), (1, .pointer (some ⟨c, 1, none⟩)), (2, .pointer (some ⟨c, 2, none⟩)), (3, .pointer (some ⟨c, 5, none⟩)), (4, .pointer (some ⟨c, 6, none⟩)), (5, .pointer (some ⟨c, 7, none⟩)), (6, .pointer (some ⟨c, 9, none⟩))] _ (by first | rfl | kernel_rfl) (built_ptrs c) ?_))
 go_loopw [9, 28] (fun _ u wr => ∃ k r : Nat, k ≤ 7 ∧ u = .int .i64 (k : Int) ∧ r ≤ 10 + 10 * k ∧ InQ (fun q => q = y ∨ q = c) w5 wr y ⟨(([n0, n1, n2, n3, n4, n5, n6] : List Nat).drop k).flatMap putN ++ TL, r, 0⟩ ∧ Blk wr c 115 (rowAt n0 n1 n2 n3 n4 n5 n6 k)) (fun _ u _ => 7 - (intOf u).toNat)
 case atStart => exact ⟨0, r0, by omega, rfl, by omega, ⟨H5.out.2.1.blk, .inl (.inl rfl), Upd.refl _ _⟩, H5.out.1⟩
 case round =>
  obtain ⟨k, r, hk, rfl, hr, hI, hB⟩ := hrel;have hcs : k = 0 ∨ k = 1 ∨ k = 2 ∨ k = 3 ∨ k = 4 ∨ k = 5 ∨ k = 6 ∨ k = 7 := by omega
  rcases hcs with rfl | rfl | rfl | rfl | rfl | rfl | rfl | rfl
  ·have hI2 : InQ (fun q => q = y ∨ q = c) w5 wr y ⟨putN n0 ++ ((([n0, n1, n2, n3, n4, n5, n6] : List Nat).drop (0 + 1)).flatMap putN ++ TL), r, 0⟩ := by
    have e : (([n0, n1, n2, n3, n4, n5, n6] : List Nat).drop 0).flatMap putN ++ TL = putN n0 ++ ((([n0, n1, n2, n3, n4, n5, n6] : List Nat).drop (0 + 1)).flatMap putN ++ TL) := by simp [List.append_assoc]
    rw [e] at hI;exact hI
   have hz := size_u64 (n := n0) (by omega);have HI := Lib.hid (And.intro hI2 (And.intro hB (And.intro hr hz)));clear hI hI2 hB hr hz hk;rw [show ((0 : Nat) : Int) = 0 from rfl];have hix : (Instr.index 284 (.agg #[.pointer (some ⟨c, 0, none⟩), .pointer (some ⟨c, 1, none⟩), .pointer (some ⟨c, 2, none⟩), .pointer (some ⟨c, 5, none⟩), .pointer (some ⟨c, 6, none⟩), .pointer (some ⟨c, 7, none⟩), .pointer (some ⟨c, 9, none⟩)]) (.int .i64 0)).run Tryz.prog wr = .ok (.pointer (some ⟨c, 0, none⟩)) wr := by first | rfl | kernel_rfl
   go_wp2_with fail
   refine (mosts 9223372036854775807 rfl n0 _ r (by omega) (by omega) (by have := HI.out.2.2.1; omega) HI.out.1.here).mono ?_;rintro e w9 ⟨rfl, h9⟩;have hB9 := HI.out.2.1.upd h9.upd H5.out.2.2.1.2;have H9 := Lib.hid (And.intro (HI.out.1.back h9) hB9);have cw : w9.cell? ⟨c, 0, none⟩ = some (.int .i64 0) := hB9.cell 0;have fw := hB9.frozen 0;clear h9 hB9;go_wp2_with fail
   have hB10 := H9.out.2.set_ 0 (.int .i64 (n0 : Int));have hI10 := H9.out.1.far ((Upd.refl (· = c) w9).setCell (p := ⟨c, 0, none⟩) (.inl rfl) (.int .i64 (n0 : Int))) (fun e => H5.out.2.2.1.2 e.symm) (fun q e => .inl (.inr e));have H10 := Lib.hid (And.intro hB10 hI10);clear hB10 hI10 cw fw;go_roundw
   case rel =>
    refine ⟨0 + 1, _, by omega, by go_num, ?_, H10.out.2, H10.out.1⟩;have := HI.out.2.2;omega
   case measure => simp [intOf] <;> omega
  ·have hI2 : InQ (fun q => q = y ∨ q = c) w5 wr y ⟨putN n1 ++ ((([n0, n1, n2, n3, n4, n5, n6] : List Nat).drop (1 + 1)).flatMap putN ++ TL), r, 0⟩ := by
    have e : (([n0, n1, n2, n3, n4, n5, n6] : List Nat).drop 1).flatMap putN ++ TL = putN n1 ++ ((([n0, n1, n2, n3, n4, n5, n6] : List Nat).drop (1 + 1)).flatMap putN ++ TL) := by simp [List.append_assoc]
    rw [e] at hI;exact hI
   have hz := size_u64 (n := n1) (by omega);have HI := Lib.hid (And.intro hI2 (And.intro hB (And.intro hr hz)));clear hI hI2 hB hr hz hk;rw [show ((1 : Nat) : Int) = 1 from rfl];have hix : (Instr.index 284 (.agg #[.pointer (some ⟨c, 0, none⟩), .pointer (some ⟨c, 1, none⟩), .pointer (some ⟨c, 2, none⟩), .pointer (some ⟨c, 5, none⟩), .pointer (some ⟨c, 6, none⟩), .pointer (some ⟨c, 7, none⟩), .pointer (some ⟨c, 9, none⟩)]) (.int .i64 1)).run Tryz.prog wr = .ok (.pointer (some ⟨c, 1, none⟩)) wr := by first | rfl | kernel_rfl
   go_wp2_with fail
   refine (mosts 9223372036854775807 rfl n1 _ r (by omega) (by omega) (by have := HI.out.2.2.1; omega) HI.out.1.here).mono ?_;rintro e w9 ⟨rfl, h9⟩;have hB9 := HI.out.2.1.upd h9.upd H5.out.2.2.1.2;have H9 := Lib.hid (And.intro (HI.out.1.back h9) hB9);have cw : w9.cell? ⟨c, 1, none⟩ = some (.int .i64 0) := hB9.cell 1;have fw := hB9.frozen 1;clear h9 hB9;go_wp2_with fail
   have hB10 := H9.out.2.set_ 1 (.int .i64 (n1 : Int));have hI10 := H9.out.1.far ((Upd.refl (· = c) w9).setCell (p := ⟨c, 1, none⟩) (.inl rfl) (.int .i64 (n1 : Int))) (fun e => H5.out.2.2.1.2 e.symm) (fun q e => .inl (.inr e));have H10 := Lib.hid (And.intro hB10 hI10);clear hB10 hI10 cw fw;go_roundw
   case rel =>
    refine ⟨1 + 1, _, by omega, by go_num, ?_, H10.out.2, H10.out.1⟩;have := HI.out.2.2;omega
   case measure => simp [intOf] <;> omega
  ·have hI2 : InQ (fun q => q = y ∨ q = c) w5 wr y ⟨putN n2 ++ ((([n0, n1, n2, n3, n4, n5, n6] : List Nat).drop (2 + 1)).flatMap putN ++ TL), r, 0⟩ := by
    have e : (([n0, n1, n2, n3, n4, n5, n6] : List Nat).drop 2).flatMap putN ++ TL = putN n2 ++ ((([n0, n1, n2, n3, n4, n5, n6] : List Nat).drop (2 + 1)).flatMap putN ++ TL) := by simp [List.append_assoc]
    rw [e] at hI;exact hI
   have hz := size_u64 (n := n2) (by omega);have HI := Lib.hid (And.intro hI2 (And.intro hB (And.intro hr hz)));clear hI hI2 hB hr hz hk;rw [show ((2 : Nat) : Int) = 2 from rfl];have hix : (Instr.index 284 (.agg #[.pointer (some ⟨c, 0, none⟩), .pointer (some ⟨c, 1, none⟩), .pointer (some ⟨c, 2, none⟩), .pointer (some ⟨c, 5, none⟩), .pointer (some ⟨c, 6, none⟩), .pointer (some ⟨c, 7, none⟩), .pointer (some ⟨c, 9, none⟩)]) (.int .i64 2)).run Tryz.prog wr = .ok (.pointer (some ⟨c, 2, none⟩)) wr := by first | rfl | kernel_rfl
   go_wp2_with fail
   refine (mosts 9223372036854775807 rfl n2 _ r (by omega) (by omega) (by have := HI.out.2.2.1; omega) HI.out.1.here).mono ?_;rintro e w9 ⟨rfl, h9⟩;have hB9 := HI.out.2.1.upd h9.upd H5.out.2.2.1.2;have H9 := Lib.hid (And.intro (HI.out.1.back h9) hB9);have cw : w9.cell? ⟨c, 2, none⟩ = some (.int .i64 0) := hB9.cell 2;have fw := hB9.frozen 2;clear h9 hB9;go_wp2_with fail
   have hB10 := H9.out.2.set_ 2 (.int .i64 (n2 : Int));have hI10 := H9.out.1.far ((Upd.refl (· = c) w9).setCell (p := ⟨c, 2, none⟩) (.inl rfl) (.int .i64 (n2 : Int))) (fun e => H5.out.2.2.1.2 e.symm) (fun q e => .inl (.inr e));have H10 := Lib.hid (And.intro hB10 hI10);clear hB10 hI10 cw fw;go_roundw
   case rel =>
    refine ⟨2 + 1, _, by omega, by go_num, ?_, H10.out.2, H10.out.1⟩;have := HI.out.2.2;omega
   case measure => simp [intOf] <;> omega
  ·have hI2 : InQ (fun q => q = y ∨ q = c) w5 wr y ⟨putN n3 ++ ((([n0, n1, n2, n3, n4, n5, n6] : List Nat).drop (3 + 1)).flatMap putN ++ TL), r, 0⟩ := by
    have e : (([n0, n1, n2, n3, n4, n5, n6] : List Nat).drop 3).flatMap putN ++ TL = putN n3 ++ ((([n0, n1, n2, n3, n4, n5, n6] : List Nat).drop (3 + 1)).flatMap putN ++ TL) := by simp [List.append_assoc]
    rw [e] at hI;exact hI
   have hz := size_u64 (n := n3) (by omega);have HI := Lib.hid (And.intro hI2 (And.intro hB (And.intro hr hz)));clear hI hI2 hB hr hz hk;rw [show ((3 : Nat) : Int) = 3 from rfl];have hix : (Instr.index 284 (.agg #[.pointer (some ⟨c, 0, none⟩), .pointer (some ⟨c, 1, none⟩), .pointer (some ⟨c, 2, none⟩), .pointer (some ⟨c, 5, none⟩), .pointer (some ⟨c, 6, none⟩), .pointer (some ⟨c, 7, none⟩), .pointer (some ⟨c, 9, none⟩)]) (.int .i64 3)).run Tryz.prog wr = .ok (.pointer (some ⟨c, 5, none⟩)) wr := by first | rfl | kernel_rfl
   go_wp2_with fail
   refine (mosts 9223372036854775807 rfl n3 _ r (by omega) (by omega) (by have := HI.out.2.2.1; omega) HI.out.1.here).mono ?_;rintro e w9 ⟨rfl, h9⟩;have hB9 := HI.out.2.1.upd h9.upd H5.out.2.2.1.2;have H9 := Lib.hid (And.intro (HI.out.1.back h9) hB9);have cw : w9.cell? ⟨c, 5, none⟩ = some (.int .i64 0) := hB9.cell 5;have fw := hB9.frozen 5;clear h9 hB9;go_wp2_with fail
   have hB10 := H9.out.2.set_ 5 (.int .i64 (n3 : Int));have hI10 := H9.out.1.far ((Upd.refl (· = c) w9).setCell (p := ⟨c, 5, none⟩) (.inl rfl) (.int .i64 (n3 : Int))) (fun e => H5.out.2.2.1.2 e.symm) (fun q e => .inl (.inr e));have H10 := Lib.hid (And.intro hB10 hI10);clear hB10 hI10 cw fw;go_roundw
   case rel =>
    refine ⟨3 + 1, _, by omega, by go_num, ?_, H10.out.2, H10.out.1⟩;have := HI.out.2.2;omega
   case measure => simp [intOf] <;> omega
  ·have hI2 : InQ (fun q => q = y ∨ q = c) w5 wr y ⟨putN n4 ++ ((([n0, n1, n2, n3, n4, n5, n6] : List Nat).drop (4 + 1)).flatMap putN ++ TL), r, 0⟩ := by
    have e : (([n0, n1, n2, n3, n4, n5, n6] : List Nat).drop 4).flatMap putN ++ TL = putN n4 ++ ((([n0, n1, n2, n3, n4, n5, n6] : List Nat).drop (4 + 1)).flatMap putN ++ TL) := by simp [List.append_assoc]
    rw [e] at hI;exact hI
   have hz := size_u64 (n := n4) (by omega);have HI := Lib.hid (And.intro hI2 (And.intro hB (And.intro hr hz)));clear hI hI2 hB hr hz hk;rw [show ((4 : Nat) : Int) = 4 from rfl];have hix : (Instr.index 284 (.agg #[.pointer (some ⟨c, 0, none⟩), .pointer (some ⟨c, 1, none⟩), .pointer (some ⟨c, 2, none⟩), .pointer (some ⟨c, 5, none⟩), .pointer (some ⟨c, 6, none⟩), .pointer (some ⟨c, 7, none⟩), .pointer (some ⟨c, 9, none⟩)]) (.int .i64 4)).run Tryz.prog wr = .ok (.pointer (some ⟨c, 6, none⟩)) wr := by first | rfl | kernel_rfl
   go_wp2_with fail
   refine (mosts 9223372036854775807 rfl n4 _ r (by omega) (by omega) (by have := HI.out.2.2.1; omega) HI.out.1.here).mono ?_;rintro e w9 ⟨rfl, h9⟩;have hB9 := HI.out.2.1.upd h9.upd H5.out.2.2.1.2;have H9 := Lib.hid (And.intro (HI.out.1.back h9) hB9);have cw : w9.cell? ⟨c, 6, none⟩ = some (.int .i64 0) := hB9.cell 6;have fw := hB9.frozen 6;clear h9 hB9;go_wp2_with fail
   have hB10 := H9.out.2.set_ 6 (.int .i64 (n4 : Int));have hI10 := H9.out.1.far ((Upd.refl (· = c) w9).setCell (p := ⟨c, 6, none⟩) (.inl rfl) (.int .i64 (n4 : Int))) (fun e => H5.out.2.2.1.2 e.symm) (fun q e => .inl (.inr e));have H10 := Lib.hid (And.intro hB10 hI10);clear hB10 hI10 cw fw;go_roundw
   case rel =>
    refine ⟨4 + 1, _, by omega, by go_num, ?_, H10.out.2, H10.out.1⟩;have := HI.out.2.2;omega
   case measure => simp [intOf] <;> omega
  ·have hI2 : InQ (fun q => q = y ∨ q = c) w5 wr y ⟨putN n5 ++ ((([n0, n1, n2, n3, n4, n5, n6] : List Nat).drop (5 + 1)).flatMap putN ++ TL), r, 0⟩ := by
    have e : (([n0, n1, n2, n3, n4, n5, n6] : List Nat).drop 5).flatMap putN ++ TL = putN n5 ++ ((([n0, n1, n2, n3, n4, n5, n6] : List Nat).drop (5 + 1)).flatMap putN ++ TL) := by simp [List.append_assoc]
    rw [e] at hI;exact hI
   have hz := size_u64 (n := n5) (by omega);have HI := Lib.hid (And.intro hI2 (And.intro hB (And.intro hr hz)));clear hI hI2 hB hr hz hk;rw [show ((5 : Nat) : Int) = 5 from rfl];have hix : (Instr.index 284 (.agg #[.pointer (some ⟨c, 0, none⟩), .pointer (some ⟨c, 1, none⟩), .pointer (some ⟨c, 2, none⟩), .pointer (some ⟨c, 5, none⟩), .pointer (some ⟨c, 6, none⟩), .pointer (some ⟨c, 7, none⟩), .pointer (some ⟨c, 9, none⟩)]) (.int .i64 5)).run Tryz.prog wr = .ok (.pointer (some ⟨c, 7, none⟩)) wr := by first | rfl | kernel_rfl
   go_wp2_with fail
   refine (mosts 9223372036854775807 rfl n5 _ r (by omega) (by omega) (by have := HI.out.2.2.1; omega) HI.out.1.here).mono ?_;rintro e w9 ⟨rfl, h9⟩;have hB9 := HI.out.2.1.upd h9.upd H5.out.2.2.1.2;have H9 := Lib.hid (And.intro (HI.out.1.back h9) hB9);have cw : w9.cell? ⟨c, 7, none⟩ = some (.int .i64 0) := hB9.cell 7;have fw := hB9.frozen 7;clear h9 hB9;go_wp2_with fail
   have hB10 := H9.out.2.set_ 7 (.int .i64 (n5 : Int));have hI10 := H9.out.1.far ((Upd.refl (· = c) w9).setCell (p := ⟨c, 7, none⟩) (.inl rfl) (.int .i64 (n5 : Int))) (fun e => H5.out.2.2.1.2 e.symm) (fun q e => .inl (.inr e));have H10 := Lib.hid (And.intro hB10 hI10);clear hB10 hI10 cw fw;go_roundw
   case rel =>
    refine ⟨5 + 1, _, by omega, by go_num, ?_, H10.out.2, H10.out.1⟩;have := HI.out.2.2;omega
   case measure => simp [intOf] <;> omega
  ·have hI2 : InQ (fun q => q = y ∨ q = c) w5 wr y ⟨putN n6 ++ ((([n0, n1, n2, n3, n4, n5, n6] : List Nat).drop (6 + 1)).flatMap putN ++ TL), r, 0⟩ := by
    have e : (([n0, n1, n2, n3, n4, n5, n6] : List Nat).drop 6).flatMap putN ++ TL = putN n6 ++ ((([n0, n1, n2, n3, n4, n5, n6] : List Nat).drop (6 + 1)).flatMap putN ++ TL) := by simp
    rw [e] at hI;exact hI
   have hz := size_u64 (n := n6) (by omega);have HI := Lib.hid (And.intro hI2 (And.intro hB (And.intro hr hz)));clear hI hI2 hB hr hz hk;rw [show ((6 : Nat) : Int) = 6 from rfl];have hix : (Instr.index 284 (.agg #[.pointer (some ⟨c, 0, none⟩), .pointer (some ⟨c, 1, none⟩), .pointer (some ⟨c, 2, none⟩), .pointer (some ⟨c, 5, none⟩), .pointer (some ⟨c, 6, none⟩), .pointer (some ⟨c, 7, none⟩), .pointer (some ⟨c, 9, none⟩)]) (.int .i64 6)).run Tryz.prog wr = .ok (.pointer (some ⟨c, 9, none⟩)) wr := by first | rfl | kernel_rfl
   go_wp2_with fail
   refine (mosts 9223372036854775807 rfl n6 _ r (by omega) (by omega) (by have := HI.out.2.2.1; omega) HI.out.1.here).mono ?_;rintro e w9 ⟨rfl, h9⟩;have hB9 := HI.out.2.1.upd h9.upd H5.out.2.2.1.2;have H9 := Lib.hid (And.intro (HI.out.1.back h9) hB9);have cw : w9.cell? ⟨c, 9, none⟩ = some (.int .i64 0) := hB9.cell 9;have fw := hB9.frozen 9;clear h9 hB9;go_wp2_with fail
   have hB10 := H9.out.2.set_ 9 (.int .i64 (n6 : Int));have hI10 := H9.out.1.far ((Upd.refl (· = c) w9).setCell (p := ⟨c, 9, none⟩) (.inl rfl) (.int .i64 (n6 : Int))) (fun e => H5.out.2.2.1.2 e.symm) (fun q e => .inl (.inr e));have H10 := Lib.hid (And.intro hB10 hI10);clear hB10 hI10 cw fw;go_roundw
   case rel =>
    refine ⟨6 + 1, _, by omega, by go_num, ?_, H10.out.2, H10.out.1⟩;have := HI.out.2.2;omega
   case measure => simp [intOf] <;> omega
  ·have hfull : (([n0, n1, n2, n3, n4, n5, n6] : List Nat).drop 7).flatMap putN ++ TL = TL := rfl
   rw [hfull] at hI;have hB' : Blk wr c 115 #[.int .i64 (n0 : Int), .int .i64 (n1 : Int), .int .i64 (n2 : Int), .slice none 0 0, .string ⟨#[]⟩, .int .i64 (n3 : Int), .int .i64 (n4 : Int), .int .i64 (n5 : Int), .int .u64 0, .int .i64 (n6 : Int), .int .u32 0] := hB;rw [← HTL.out] at hI;have z7 := size_u64 (n := n7) (by omega);have z8 := size_u64 (n := n8) (by omega);have zL := size_u64 (n := L.length) (by omega);have HI := Lib.hid (And.intro hI (And.intro hB' hr));have HZ := Lib.hid (And.intro z7 (And.intro z8 zL));clear hI hB hB' hr z7 z8 zL hk hfull;rw [show ((7 : Nat) : Int) = 7 from rfl];go_wp2_with fail
   refine (nums n7 _ r (by omega) (by have := HI.out.2.2; omega) HI.out.1.here).mono ?_;rintro e w9 ⟨rfl, h9⟩;have hB9 := HI.out.2.1.upd h9.upd H5.out.2.2.1.2;have H9 := Lib.hid (And.intro (HI.out.1.back h9) hB9);have cw : w9.cell? ⟨c, 8, none⟩ = some (.int .u64 0) := hB9.cell 8;have fw := hB9.frozen 8;clear h9 hB9;have far : ∀ (W : World) (j : Nat) (v : Value) (i : InS), InQ (fun q => q = y ∨ q = c) w5 W y i → InQ (fun q => q = y ∨ q = c) w5 (W.setCell ⟨c, j, none⟩ v) y i := fun W j v i h => h.far ((Upd.refl (· = c) W).setCell (p := ⟨c, j, none⟩) (.inl rfl) v) (fun e => H5.out.2.2.1.2 e.symm) (fun q e => .inl (.inr e))
   have FAR := Lib.hid far;clear far;go_upto_region 10 with fail
   have H10 := Lib.hid (And.intro (FAR.out _ 8 (.int .u64 (n7 : Int)) _ H9.out.1) (H9.out.2.set_ 8 (.int .u64 (n7 : Int))));clear cw fw;generalize hw10 : World.setCell w9 _ _ = w10 at H10 ⊢;clear hw10;go_wp2_with fail
   refine (mosts 4294967295 rfl n8 _ _ (by omega) (by omega) (by have := HI.out.2.2; have := HZ.out; omega) H10.out.1.here).mono ?_;rintro e w11 ⟨rfl, h11⟩;have hB11 : Blk w11 c 115 #[.int .i64 (n0 : Int), .int .i64 (n1 : Int), .int .i64 (n2 : Int), .slice none 0 0, .string ⟨#[]⟩, .int .i64 (n3 : Int), .int .i64 (n4 : Int), .int .i64 (n5 : Int), .int .u64 (n7 : Int), .int .i64 (n6 : Int), .int .u32 0] := H10.out.2.upd h11.upd H5.out.2.2.1.2;have H11 := Lib.hid (And.intro (H10.out.1.back h11) hB11);have cw : w11.cell? ⟨c, 10, none⟩ = some (.int .u32 0) := hB11.cell 10;have fw := hB11.frozen 10;have eB : IntKind.u32.wrap (n8 : Int) = (n8 : Int) := by simp only [IntKind.wrap, IntKind.bits, IntKind.signed]; simp; omega
   clear h11 hB11;go_upto_region 11 with fail
   have H12 := Lib.hid (And.intro (FAR.out _ 10 (.int .u32 (n8 : Int)) _ H11.out.1) (H11.out.2.set_ 10 (.int .u32 (n8 : Int))));clear cw fw eB;generalize hw12 : World.setCell w11 _ _ = w12 at H12 ⊢;clear hw12;go_wp2_with fail
   refine (mosts 4 rfl L.length _ _ (by omega) (by omega) (by have := HI.out.2.2; have := HZ.out; omega) H12.out.1.here).mono ?_;rintro e w13 ⟨rfl, h13⟩;obtain ⟨r3, hr3⟩ : ∃ r3, r + sizeN n7 + sizeN n8 + sizeN L.length = r3 := ⟨_, rfl⟩;rw [hr3] at h13;have hr3b : r3 ≤ 120 := by have := HI.out.2.2; have := HZ.out; omega
   have hB13 : Blk w13 c 115 #[.int .i64 (n0 : Int), .int .i64 (n1 : Int), .int .i64 (n2 : Int), .slice none 0 0, .string ⟨#[]⟩, .int .i64 (n3 : Int), .int .i64 (n4 : Int), .int .i64 (n5 : Int), .int .u64 (n7 : Int), .int .i64 (n6 : Int), .int .u32 (n8 : Int)] := H12.out.2.upd h13.upd H5.out.2.2.1.2;have H13 := Lib.hid (And.intro (H12.out.1.back h13) (And.intro hB13 hr3b));clear h13 hB13 hr3b hr3;have hsz5 : w5.heap.size ≤ w13.heap.size := H13.out.1.upd.size;have HSZ := Lib.hid hsz5;clear hsz5;go_wp2_with fail
   go_loopw [10, 11] (fun n _ wr => ∃ (k r : Nat) (v : Value), k ≤ L.length ∧ n = .int .i64 ((L.length - k : Nat) : Int) ∧ r ≤ 120 + 20 * k ∧ InQ (fun q => q = y ∨ q = c) w13 wr y ⟨(L.drop k).flatMap mtB ++ textN t, r, 0⟩ ∧ Blk wr c 115 #[.int .i64 (n0 : Int), .int .i64 (n1 : Int), .int .i64 (n2 : Int), v, .string ⟨#[]⟩, .int .i64 (n3 : Int), .int .i64 (n4 : Int), .int .i64 (n5 : Int), .int .u64 (n7 : Int), .int .i64 (n6 : Int), .int .u32 (n8 : Int)] ∧ Own wr 46 2 v k (mtsV (L.take k)) ∧ (∀ q, v.ownBlock = some q → w13.heap.size ≤ q)) (fun n _ _ => (intOf n).toNat)
   case atStart => exact ⟨0, r3, .slice none 0 0, by omega, by simp, by have := H13.out.2.2; omega, ⟨H13.out.1.blk, .inl (.inl rfl), Upd.refl _ _⟩, H13.out.2.1, Own.nil _ _ _, by simp [Value.ownBlock]⟩
   case round =>
    obtain ⟨k, r5, v, hk, rfl, hr, hI, hB, hO, hv⟩ := hrel;by_cases hlt : k < L.length
    ·have hoe := HM.out _ (List.getElem_mem hlt)
     have htk : mtsV (L.take (k + 1)) = mtsV (L.take k) ++ mtRow L[k] := by rw [List.take_succ_eq_append_getElem hlt, mtsV_snoc]
     have hdl := hbl.out (k + 1);rw [List.drop_eq_getElem_cons hlt, List.flatMap_cons] at hI;obtain ⟨rest, hrest⟩ : ∃ r, (L.drop (k + 1)).flatMap mtB = r := ⟨_, rfl⟩;rw [hrest] at hI hdl;obtain ⟨p, hp⟩ : ∃ p, L[k] = p := ⟨_, rfl⟩;rw [hp] at hoe htk hI;obtain ⟨P, sh⟩ := p;simp only at hoe
     have hI2 : InQ (fun q => q = y ∨ q = c) w13 wr y ⟨textN P ++ ((if sh then (1 : UInt8) else 0) :: (rest ++ textN t)), r5, 0⟩ := by
      have e : mtB ⟨P, sh⟩ ++ rest ++ textN t = textN P ++ ((if sh then (1 : UInt8) else 0) :: (rest ++ textN t)) := by unfold mtB; simp [List.append_assoc]
      rw [e] at hI;exact hI
     have hsP := sizeN_small (n := P.length) (by omega);have hst := sizeN_small (n := t.length) (by omega);have htt : (textN t).length ≤ 210 := by rw [textN_len]; omega
     obtain ⟨n, hn⟩ : ∃ n : Nat, L.length - k = n := ⟨_, rfl⟩;have j1 : (0 : Int) < (n : Int) := by omega
     have nle : (n : Int) ≤ 4 := by omega
     have HN := Lib.hid (And.intro hn (And.intro hr (And.intro hdl (And.intro hrest (And.intro htk (And.intro htt (And.intro hoe hsP)))))));have HK := Lib.hid (And.intro hO (And.intro hv hB));have HI2 := Lib.hid hI2;clear hI hI2 hB hO hv hrest hdl htk htt hoe hp hr hsP hst;rw [hn];clear hn;go_wp2_with fail
     refine (texts 8 rfl P _ r5 HN.out.2.2.2.2.2.2.1.2 (by omega) (by have := HN.out.2.1; omega) (by have := HN.out.2.2.1; have := HN.out.2.2.2.2.2.1; have := HN.out.2.2.2.2.2.2.1; simp only [List.length_cons, List.length_append]; omega) HI2.out.here).mono ?_;rintro e w14 ⟨rfl, h14⟩;have U14 := h14.upd;have hyl : y < w13.heap.size := H13.out.1.blk.lt;have hcl : c < w13.heap.size := H13.out.2.1.lt;have HYC := Lib.hid (And.intro hyl hcl);obtain ⟨r6, hr6⟩ : ∃ r6, r5 + (textN P).length = r6 := ⟨_, rfl⟩;rw [hr6] at h14;have hr6b : r6 ≤ 130 + 20 * k := by rw [← hr6, textN_len]; have := HN.out.2.1; have := HN.out.2.2.2.2.2.2; omega
     have H14 := Lib.hid (And.intro (HK.out.1.upd U14 (fun q hq e => by have := HK.out.2.1 q hq; have e2 : q = y := e; omega)) (And.intro (HK.out.2.2.upd U14 H5.out.2.2.1.2) (And.intro (HI2.out.back h14) hr6b)));clear h14 U14 hr6 hr6b hyl hcl;obtain ⟨S, hS⟩ : ∃ S, str P = S := ⟨_, rfl⟩;rw [hS];have HSS := Lib.hid hS;clear hS;obtain ⟨d, hd⟩ : ∃ d, w14.heap.size = d := ⟨_, rfl⟩;go_upto_region 15 with fail
     generalize hw15 : World.alloc _ _ = w15;have hB15 : Blk w15 d 46 #[.string S, .bool false] := by rw [← hw15, ← hd]; exact Blk.new w14 _ _
     have U15 : Upd (fun _ => False) w14 w15 := by rw [← hw15]; exact (Upd.refl _ w14).alloc _
     have hdb : w13.heap.size ≤ d := by rw [← hd]; exact H14.out.2.2.1.upd.size
     have hvd : ∀ q, v.ownBlock = some q → q < d := fun q hq => by rw [← hd]; exact H14.out.1.lt hq
     have H15 := Lib.hid (And.intro (H14.out.1.upd U15 (fun _ _ e => e)) (And.intro (H14.out.2.1.upd U15 (fun e => e)) (And.intro (H14.out.2.2.1.still U15) hB15)));have HDB := Lib.hid (And.intro hdb hvd);clear hw15 hB15 U15 hd hdb hvd;go_wp2_with fail
     refine (byts _ _ r6 (by have := H14.out.2.2.2; omega) H15.out.2.2.1.here).mono ?_;rintro e w16 ⟨rfl, h16⟩;have hdy : d ≠ y := by have := HDB.out.1; have := HYC.out.1; omega
     have hdc : d ≠ c := by have := HDB.out.1; have := HYC.out.2; omega
     have HDN := Lib.hid (And.intro hdy hdc);have H16 := Lib.hid (And.intro (H15.out.1.upd h16.upd (fun q hq e => by have := HK.out.2.1 q hq; have := HYC.out.1; have e2 : q = y := e; omega)) (And.intro (H15.out.2.1.upd h16.upd H5.out.2.2.1.2) (And.intro (H15.out.2.2.1.back h16) (H15.out.2.2.2.upd h16.upd hdy))));have hd16 := H16.out.2.2.2;have c0 : w16.cell? ⟨d, 0, none⟩ = some (.string S) := hd16.cell 0;have c1 : w16.cell? ⟨d, 1, none⟩ = some (.bool false) := hd16.cell 1;have fz := hd16.frozen 1;have HD16 := Lib.hid hd16;clear h16 hdy hdc hd16;cases sh
     ·go_upto_region 16 with fail
      have hd17 := HD16.out.set_ 1 (.bool false);have U17 : Upd (· = d) w16 (w16.setCell ⟨d, 1, none⟩ (.bool false)) := (Upd.refl (· = d) w16).setCell (p := ⟨d, 1, none⟩) (.inl rfl) _;generalize hw17 : World.setCell w16 _ _ = w17 at hd17 U17 ⊢;have hd17' : Blk w17 d 46 #[.string S, .bool false] := hd17;have H17 := Lib.hid (And.intro (H16.out.1.upd U17 (fun q hq e => by have := HDB.out.2 q hq; have e2 : q = d := e; omega)) (And.intro (H16.out.2.1.upd U17 (fun e => HDN.out.2 e.symm)) (And.intro (H16.out.2.2.1.far U17 (fun e => HDN.out.1 e.symm) (fun q e => .inr (by have e2 : q = d := e; have := HDB.out.1; omega))) hd17')));clear hw17 hd17 U17 hd17' c0 c1 fz;obtain ⟨A, cap, rfl, -, -⟩ := H17.out.1.shape;have d2 : w17.cell? ⟨c, 3, none⟩ = some (.slice A k cap) := H17.out.2.1.cell 3;obtain ⟨c0, c1⟩ := H17.out.2.2.2.cells2;obtain ⟨ti, hi0, hz0, hz1, hz2⟩ := info_parts infoMount;have hkl : k ≤ 4 := by omega
      go_wp2_with (first
       | (at_builtin; refine wpList_append_src rfl _ _ _ _ rfl 46 ti _ 2 24 Tryz.underlying47 hi0 hz0 hz1 hz2 rfl (.slice A k cap) k _ rfl (H17.out.1.alloc _) _ 1 [_, _] rfl (Src.of_news Tryz.underlying47 _ rfl) (by simp [Value.oneCell']) (by unfold maxLen; omega) (by omega) ?_; intro v2 w18 hO18 hU18 hl18 hs18
          have hc18 := Blk.upd (H17.out.2.1.alloc (.cells #[.string S, .bool false] 46)) hU18 (fun hq => by have := HK.out.2.1 c hq; have := HYC.out.2; omega);obtain ⟨g2, cap2, rfl, -, -⟩ := hO18.head (by omega);have e2 : w18.cell? ⟨c, 3, none⟩ = some (.slice A k cap) := hc18.cell 3;have fz2 := hc18.frozen 3))
      generalize hw19 : World.setCell _ _ _ = w19;have hw17b : w13.heap.size ≤ w17.heap.size := H17.out.2.2.1.upd.size;have hB19 := hc18.set_ 3 (.slice (some ⟨g2, 0, none⟩) (k + 1) cap2);rw [hw19] at hB19;have hU19 : Upd (· = c) w18 w19 := by rw [← hw19]; exact (Upd.refl (· = c) w18).setCell (p := ⟨c, 3, none⟩) (.inl rfl) _
      have hg2 : w13.heap.size ≤ g2 := by
       rcases hl18 with e | e
       ·exact HK.out.2.1 g2 (by rw [← e]; rfl)
       ·have e2 : some g2 = some _ := e
        have := Option.some.inj e2;rw [World.size_alloc] at this;omega
      have hO19 := hO18.upd hU19 (fun q hq e => by have e2 : some g2 = some q := hq; have := Option.some.inj e2; have e3 : q = c := e; have := HYC.out.2; omega);have hU1719 : Upd (fun q => (Value.slice A k cap).ownBlock = some q ∨ q = c) w17 w19 := (((Upd.refl _ w17).alloc _).then hU18 (fun q e => .inl (.inl e))).then hU19 (fun q e => .inl (.inr e));have hI19 : InQ (fun q => q = y ∨ q = c) w13 w19 y ⟨rest ++ textN t, r6 + 1, 0⟩ := by
       refine H17.out.2.2.1.far hU1719 (fun e => ?_) (fun q e => ?_)
       ·rcases e with e | e
        ·have := HK.out.2.1 y e; have := HYC.out.1; omega
        ·exact H5.out.2.2.1.2 e.symm
       ·rcases e with e | e
        ·exact .inr (HK.out.2.1 q e)
        ·exact .inl (.inr e)
      have H19 := Lib.hid (And.intro hB19 (And.intro hO19 (And.intro hI19 hg2)));clear hw19 hB19 hU19 hO19 hI19 hg2 hw17b hU1719 hO18 hU18 hl18 hs18 hc18 e2 fz2 d2 c0 c1 hi0 hz0 hz1 hz2;go_wp2_with fail
      go_roundw
      case rel =>
       refine ⟨k + 1, r6 + 1, _, by omega, ?_, ?_, ?_, H19.out.1, ?_, fun q hq => by have e2 : some g2 = some q := hq; have := Option.some.inj e2; have := H19.out.2.2.2; omega⟩
       ·have := HN.out.1
        congr 1
        omega
       ·have := H14.out.2.2.2
        omega
       ·rw [HN.out.2.2.2.1]; exact H19.out.2.2.1
       ·rw [HN.out.2.2.2.2.1]
        have := H19.out.2.1;rw [← HSS.out] at this;exact this
      case measure => simp [intOf] <;> omega
     ·go_upto_region 16 with fail
      have hd17 := HD16.out.set_ 1 (.bool true);have U17 : Upd (· = d) w16 (w16.setCell ⟨d, 1, none⟩ (.bool true)) := (Upd.refl (· = d) w16).setCell (p := ⟨d, 1, none⟩) (.inl rfl) _;generalize hw17 : World.setCell w16 _ _ = w17 at hd17 U17 ⊢;have hd17' : Blk w17 d 46 #[.string S, .bool true] := hd17;have H17 := Lib.hid (And.intro (H16.out.1.upd U17 (fun q hq e => by have := HDB.out.2 q hq; have e2 : q = d := e; omega)) (And.intro (H16.out.2.1.upd U17 (fun e => HDN.out.2 e.symm)) (And.intro (H16.out.2.2.1.far U17 (fun e => HDN.out.1 e.symm) (fun q e => .inr (by have e2 : q = d := e; have := HDB.out.1; omega))) hd17')));clear hw17 hd17 U17 hd17' c0 c1 fz;obtain ⟨A, cap, rfl, -, -⟩ := H17.out.1.shape;have d2 : w17.cell? ⟨c, 3, none⟩ = some (.slice A k cap) := H17.out.2.1.cell 3;obtain ⟨c0, c1⟩ := H17.out.2.2.2.cells2;obtain ⟨ti, hi0, hz0, hz1, hz2⟩ := info_parts infoMount;have hkl : k ≤ 4 := by omega
      go_wp2_with (first
       | (at_builtin; refine wpList_append_src rfl _ _ _ _ rfl 46 ti _ 2 24 Tryz.underlying47 hi0 hz0 hz1 hz2 rfl (.slice A k cap) k _ rfl (H17.out.1.alloc _) _ 1 [_, _] rfl (Src.of_news Tryz.underlying47 _ rfl) (by simp [Value.oneCell']) (by unfold maxLen; omega) (by omega) ?_; intro v2 w18 hO18 hU18 hl18 hs18
          have hc18 := Blk.upd (H17.out.2.1.alloc (.cells #[.string S, .bool true] 46)) hU18 (fun hq => by have := HK.out.2.1 c hq; have := HYC.out.2; omega);obtain ⟨g2, cap2, rfl, -, -⟩ := hO18.head (by omega);have e2 : w18.cell? ⟨c, 3, none⟩ = some (.slice A k cap) := hc18.cell 3;have fz2 := hc18.frozen 3))
      generalize hw19 : World.setCell _ _ _ = w19;have hw17b : w13.heap.size ≤ w17.heap.size := H17.out.2.2.1.upd.size;have hB19 := hc18.set_ 3 (.slice (some ⟨g2, 0, none⟩) (k + 1) cap2);rw [hw19] at hB19;have hU19 : Upd (· = c) w18 w19 := by rw [← hw19]; exact (Upd.refl (· = c) w18).setCell (p := ⟨c, 3, none⟩) (.inl rfl) _
      have hg2 : w13.heap.size ≤ g2 := by
       rcases hl18 with e | e
       ·exact HK.out.2.1 g2 (by rw [← e]; rfl)
       ·have e2 : some g2 = some _ := e
        have := Option.some.inj e2;rw [World.size_alloc] at this;omega
      have hO19 := hO18.upd hU19 (fun q hq e => by have e2 : some g2 = some q := hq; have := Option.some.inj e2; have e3 : q = c := e; have := HYC.out.2; omega);have hU1719 : Upd (fun q => (Value.slice A k cap).ownBlock = some q ∨ q = c) w17 w19 := (((Upd.refl _ w17).alloc _).then hU18 (fun q e => .inl (.inl e))).then hU19 (fun q e => .inl (.inr e));have hI19 : InQ (fun q => q = y ∨ q = c) w13 w19 y ⟨rest ++ textN t, r6 + 1, 0⟩ := by
       refine H17.out.2.2.1.far hU1719 (fun e => ?_) (fun q e => ?_)
       ·rcases e with e | e
        ·have := HK.out.2.1 y e; have := HYC.out.1; omega
        ·exact H5.out.2.2.1.2 e.symm
       ·rcases e with e | e
        ·exact .inr (HK.out.2.1 q e)
        ·exact .inl (.inr e)
      have H19 := Lib.hid (And.intro hB19 (And.intro hO19 (And.intro hI19 hg2)));clear hw19 hB19 hU19 hO19 hI19 hg2 hw17b hU1719 hO18 hU18 hl18 hs18 hc18 e2 fz2 d2 c0 c1 hi0 hz0 hz1 hz2;go_wp2_with fail
      go_roundw
      case rel =>
       refine ⟨k + 1, r6 + 1, _, by omega, ?_, ?_, ?_, H19.out.1, ?_, fun q hq => by have e2 : some g2 = some q := hq; have := Option.some.inj e2; have := H19.out.2.2.2; omega⟩
       ·have := HN.out.1
        congr 1
        omega
       ·have := H14.out.2.2.2
        omega
       ·rw [HN.out.2.2.2.1]; exact H19.out.2.2.1
       ·rw [HN.out.2.2.2.2.1]
        have := H19.out.2.1;rw [← HSS.out] at this;exact this
      case measure => simp [intOf] <;> omega
    ·obtain rfl : k = L.length := by omega
     have hz : L.length - L.length = 0 := by omega
     rw [hz];have hdr : (L.drop L.length).flatMap mtB ++ textN t = textN t ++ [] := by rw [List.drop_of_length_le (Nat.le_refl _)]; simp
     rw [hdr] at hI;rw [List.take_of_length_le (Nat.le_refl _)] at hO;obtain ⟨A, cap, rfl, -, -⟩ := hO.shape;have hgw2 := HW2.out.1.lt;have hgc : g ≠ c := by have := H5.out.2.2.1.1; omega
     have hgy : g ≠ y := by
      rcases H5.out.2.1.new with e | e
      ·exact e.elim
      ·omega
     have hU5r : Upd (fun q => q = y ∨ q = c) w5 wr := H13.out.1.upd.then hI.upd (fun _ e => .inl e);have hU2r : Upd (fun q => q = y ∨ q = c) w2 wr := (H5.out.2.1.upd.mono (G := fun q => q = y ∨ q = c) (fun _ e => e.elim)).then hU5r (fun _ e => .inl e);have hgr := HW2.out.1.upd hU2r (fun e => e.elim hgy hgc);have hUwr : Upd (fun _ => False) w wr := HW2.out.2.then hU2r (fun q e => .inr (by
      have hw2 := HW2.out.2.size;rcases e with e | e
      ·rw [e]
       rcases H5.out.2.1.new with e2 | e2
       ·exact e2.elim
       ·omega
      ·rw [e]; have := H5.out.2.2.1.1; omega))
     have hstt := sizeN_small (n := t.length) (by omega);have HL := Lib.hid (And.intro hgr (And.intro hUwr (And.intro hgc (And.intro hgy (And.intro hB (And.intro hO hv))))));have HI := Lib.hid (And.intro hI hr);clear hgr hUwr hgc hgy hB hO hv hI hr hz hdr hgw2 hU5r hU2r hlt hk;go_wp2_with fail
     refine (texts 300 rfl t [] r5 (by omega) (by omega) (by have := HI.out.2; omega) (by simp; omega) HI.out.1.here).mono ?_;rintro e wq ⟨rfl, hq⟩;have hgq := HL.out.1.upd hq.upd HL.out.2.2.2.1;have hcq := HL.out.2.2.2.2.1.upd hq.upd H5.out.2.2.1.2;have hoq := HL.out.2.2.2.2.2.1.upd hq.upd (fun q hqq e => by have := HL.out.2.2.2.2.2.2 q hqq; have := H13.out.1.blk.lt; have e2 : q = y := e; omega);have hUq : Upd (fun _ => False) w wq := HL.out.2.1.then hq.upd (fun q e => .inr (by
      have e2 : q = y := e;rw [e2];rcases H3.out.new with e3 | e3
      ·exact e3.elim
      ·have := HW2.out.2.size; omega))
     have HQ := Lib.hid (And.intro hgq (And.intro hcq (And.intro hoq (And.intro hUq hq))));obtain ⟨ST, hST⟩ : ∃ S, str t = S := ⟨_, rfl⟩;rw [hST];have HSTQ := Lib.hid hST;clear hgq hcq hoq hUq hq hST;go_upto_region 18 with fail
     refine wp_region_noPanic ?_;refine wp_region_T (S := fun w' => Upd (fun q => q = g) wq w') (T := fun _ => false) (by kernel_rfl) ?_;have hS0 := (Upd.refl (fun q => q = g) wq).drew;have HCQ := Lib.hid (fun (w' : World) (h : Upd (fun q => q = g) wq w') => HQ.out.2.1.upd h (fun e => HL.out.2.2.1 e.symm));refine wpAnyT_take8 (i := 0) (v := .agg #[.int .i64 (n0 : Int), .int .i64 (n1 : Int), .int .i64 (n2 : Int), .slice A L.length cap, .string ⟨#[]⟩, .int .i64 (n3 : Int), .int .i64 (n4 : Int), .int .i64 (n5 : Int), .int .u64 (n7 : Int), .int .i64 (n6 : Int), .int .u32 (n8 : Int)]) rfl (by kernel_rfl) (by kernel_rfl) (by kernel_rfl) (by kernel_rfl) (fun _ _ _ h => h) (takes_load_all rfl (by rfl) _ _ rfl c (by rfl) _ _ _ (fun w' hSw => HCQ.out w' hSw) Tryz.underlying115 rfl (by kernel_rfl)) (by assumption) (by kernel_rfl) ?_;simp only [tkS];refine tk8 1 ?_;simp only [tkS];refine tk8 2 ?_;simp only [tkS];refine wpAnyT_one (i := 3) (by kernel_rfl) rfl (fun KK hKK => ?_);go_simp
     refine (end_q (HQ.out.2.2.2.2.still (Upd.refl _ _).drew)).mono ?_;rintro e w21 ⟨rfl, hU21⟩;have hS21 : Upd (fun q => q = g) wq w21 := hS0.then hU21 (fun _ e => e.elim);refine hKK.out _ _ hS21 ?_;have hg21 := HQ.out.1.drew.upd hU21 (fun e => e);have hb5 : (n5 : Int) ≤ 2 := by omega
     clear hKK hU21;refine tk8 4 ?_ rfl (by intro w' hSw; have c3 : w'.cell? ⟨c, 7, none⟩ = some (.int .i64 (n5 : Int)) := (HCQ.out _ hSw).cell 7; go_split_ands; first | (go_simp; done) | (go_simp; rfl) | rfl)
     simp only [tkS];refine tk8 5 ?_ rfl (by intro w' hSw; have c3 : w'.cell? ⟨c, 7, none⟩ = some (.int .i64 (n5 : Int)) := (HCQ.out _ hSw).cell 7; go_split_ands; first | (go_simp; done) | (go_simp; rfl) | rfl)
     simp only [tkS];refine tk8 6 ?_ rfl (by intro w' hSw; have c3 : w'.cell? ⟨c, 7, none⟩ = some (.int .i64 (n5 : Int)) := (HCQ.out _ hSw).cell 7; go_split_ands; first | (go_simp; done) | (go_simp; rfl) | rfl)
     simp only [tkS];refine tk8 7 ?_ rfl (by intro w' hSw; have c3 : w'.cell? ⟨c, 7, none⟩ = some (.int .i64 (n5 : Int)) := (HCQ.out _ hSw).cell 7; go_split_ands; first | (go_simp; done) | (go_simp; rfl) | rfl)
     simp only [tkS];refine tk8 8 ?_ rfl (by intro w' hSw; have c3 : w'.cell? ⟨c, 7, none⟩ = some (.int .i64 (n5 : Int)) := (HCQ.out _ hSw).cell 7; go_split_ands; first | (go_simp; done) | (go_simp; rfl) | rfl)
     simp only [tkS];refine tk8 9 ?_ rfl (by intro w' hSw; have c3 : w'.cell? ⟨c, 7, none⟩ = some (.int .i64 (n5 : Int)) := (HCQ.out _ hSw).cell 7; go_split_ands; first | (go_simp; done) | (go_simp; rfl) | rfl)
     simp only [tkS];refine tk8 10 ?_ rfl (by intro w' hSw; have c3 : w'.cell? ⟨c, 7, none⟩ = some (.int .i64 (n5 : Int)) := (HCQ.out _ hSw).cell 7; go_split_ands; first | (go_simp; done) | (go_simp; rfl) | rfl)
     simp only [tkS];refine tk8 11 ?_ rfl (by intro w' hSw; have c3 : w'.cell? ⟨c, 7, none⟩ = some (.int .i64 (n5 : Int)) := (HCQ.out _ hSw).cell 7; go_split_ands; first | (go_simp; done) | (go_simp; rfl) | rfl)
     simp only [tkS];refine tk8 12 ?_ rfl (by intro w' hSw; have c3 : w'.cell? ⟨c, 7, none⟩ = some (.int .i64 (n5 : Int)) := (HCQ.out _ hSw).cell 7; go_split_ands; first | (go_simp; done) | (go_simp; rfl) | rfl)
     simp only [tkS];refine tk8 13 ?_ rfl (by intro w' hSw; have c3 : w'.cell? ⟨c, 7, none⟩ = some (.int .i64 (n5 : Int)) := (HCQ.out _ hSw).cell 7; go_split_ands; first | (go_simp; done) | (go_simp; rfl) | rfl)
     simp only [tkS];refine wpAnyT_one (i := 14) (by kernel_rfl) rfl (fun KK hKK => ?_);refine step_store_all rfl 115 _ _ rfl g #[.int .i64 (n0 : Int), .int .i64 (n1 : Int), .int .i64 (n2 : Int), .slice A L.length cap, .string ⟨#[]⟩, .int .i64 (n3 : Int), .int .i64 (n4 : Int), .int .i64 (n5 : Int), .int .u64 (n7 : Int), .int .i64 (n6 : Int), .int .u32 (n8 : Int)] rfl rfl _ _ hg21 rfl (by simp [Value.oneCell']) (by kernel_rfl) ?_;intro ws hBs hUs hzs;have hSs : Upd (fun q => q = g) wq ws := hS21.then hUs (fun _ e => .inl e);refine hKK.out _ _ hSs ?_;clear hKK;refine tk8 15 ?_;simp only [tkS];refine tk8 16 ?_;simp only [tkS];refine wpAnyT_done (by kernel_rfl) ?_ _;refine NoPanic.normal ?_;have HZ := Lib.hid (And.intro hBs (And.intro hSs (HQ.out.2.2.1.upd hSs (fun q hqq e => by have := HL.out.2.2.2.2.2.2 q hqq; have := H13.out.1.blk.lt; have := HW2.out.1.lt; have h5z := H5.out.2.1.upd.size; have e2 : q = g := e; have := HSZ.out; omega))));clear hBs hUs hzs hSs hS21 hS0 hg21;go_wp2_with fail
     refine bodyPost_ret (results_cell_slots2 rfl _ _ g _ _ _ _ rfl HZ.out.1 Tryz.underlying115 rfl (by kernel_rfl) (.string ST) (.bool true) rfl (by simp)) rfl ⟨.slice A L.length cap, ?_, HZ.out.2.2, fun q hqq => ?_, ?_⟩
     ·rw [HROW.out, HSTQ.out]
     ·have := HL.out.2.2.2.2.2.2 q hqq
      have h1 := HW2.out.2.size;have h2 := H5.out.2.1.upd.size;have h3 := HSZ.out;omega
     ·exact HQ.out.2.2.2.1.then HZ.out.2.1 (fun q e => .inr (by have e2 : q = g := e; have := HG.out; omega))
end
end Go.Proofs.YtbhjgfibhegddaaGreat
