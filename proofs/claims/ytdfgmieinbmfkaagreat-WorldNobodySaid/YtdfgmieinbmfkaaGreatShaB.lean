/-
  Package sha: New, Write, Sum: a text's hash.
-/
import Derived.Test.YtdfgmieinbmfkaaGreatSha
import Derived.Test.YtdfgmieinbmfkaaGreatTakeT

namespace Go.Proofs.YtdfgmieinbmfkaaGreat
open Go Go.RowKit

theorem built_begin : Tryz.prog.built 353 [(0, .int .u32 0x6a09e667), (1, .int .u32 0xbb67ae85), (2, .int .u32 0x3c6ef372), (3, .int .u32 0xa54ff53a), (4, .int .u32 0x510e527f), (5, .int .u32 0x9b05688c), (6, .int .u32 0x1f83d9ab), (7, .int .u32 0x5be0cd19)] = some (arrU hash0) := by kernel_rfl
theorem built_numbers : Tryz.prog.built 352 [(0, .int .u32 0x428a2f98), (1, .int .u32 0x71374491), (2, .int .u32 0xb5c0fbcf), (3, .int .u32 0xe9b5dba5), (4, .int .u32 0x3956c25b), (5, .int .u32 0x59f111f1), (6, .int .u32 0x923f82a4), (7, .int .u32 0xab1c5ed5), (8, .int .u32 0xd807aa98), (9, .int .u32 0x12835b01), (10, .int .u32 0x243185be), (11, .int .u32 0x550c7dc3), (12, .int .u32 0x72be5d74), (13, .int .u32 0x80deb1fe), (14, .int .u32 0x9bdc06a7), (15, .int .u32 0xc19bf174), (16, .int .u32 0xe49b69c1), (17, .int .u32 0xefbe4786), (18, .int .u32 0x0fc19dc6), (19, .int .u32 0x240ca1cc), (20, .int .u32 0x2de92c6f), (21, .int .u32 0x4a7484aa), (22, .int .u32 0x5cb0a9dc), (23, .int .u32 0x76f988da), (24, .int .u32 0x983e5152), (25, .int .u32 0xa831c66d), (26, .int .u32 0xb00327c8), (27, .int .u32 0xbf597fc7), (28, .int .u32 0xc6e00bf3), (29, .int .u32 0xd5a79147), (30, .int .u32 0x06ca6351), (31, .int .u32 0x14292967), (32, .int .u32 0x27b70a85), (33, .int .u32 0x2e1b2138), (34, .int .u32 0x4d2c6dfc), (35, .int .u32 0x53380d13), (36, .int .u32 0x650a7354), (37, .int .u32 0x766a0abb), (38, .int .u32 0x81c2c92e), (39, .int .u32 0x92722c85), (40, .int .u32 0xa2bfe8a1), (41, .int .u32 0xa81a664b), (42, .int .u32 0xc24b8b70), (43, .int .u32 0xc76c51a3), (44, .int .u32 0xd192e819), (45, .int .u32 0xd6990624), (46, .int .u32 0xf40e3585), (47, .int .u32 0x106aa070), (48, .int .u32 0x19a4c116), (49, .int .u32 0x1e376c08), (50, .int .u32 0x2748774c), (51, .int .u32 0x34b0bcb5), (52, .int .u32 0x391c0cb3), (53, .int .u32 0x4ed8aa4a), (54, .int .u32 0x5b9cca4f), (55, .int .u32 0x682e6ff3), (56, .int .u32 0x748f82ee), (57, .int .u32 0x78a5636f), (58, .int .u32 0x84c87814), (59, .int .u32 0x8cc70208), (60, .int .u32 0x90befffa), (61, .int .u32 0xa4506ceb), (62, .int .u32 0xbef9a3f7), (63, .int .u32 0xc67178f2)] = some (arrU hashK) := by kernel_rfl
/-- A text that is written: its cells. -/
def shaRow (h : List Int) (rest : Value) (n : Nat) : Array Value := ((h ++ hashK).map (Value.int .u32) ++ [rest, .int .i64 (n : Int), .bool true]).toArray
theorem built_sha : Tryz.prog.built 474 [(0, .agg (arrU hash0)), (1, .agg (arrU hashK)), (4, .bool true)] = some (shaRow hash0 (.slice none 0 0) 0) := by kernel_rfl
set_option maxRecDepth 100000 in
theorem begin_c (w : World) : Calls Tryz.prog 366 #[] w fun e w' => e = .returned (.agg (arrU hash0)) ∧ Upd (fun _ => False) w w' := by
  go_enter Tryz.func366, Tryz.ntmps366
  go_wp2_with fail
  refine bodyPost_ret (results_cell_row rfl _ _ w.heap.size _ _ _ _ rfl (Blk.new w _ _) Tryz.underlying353 rfl rfl) rfl ⟨rfl, (Upd.refl _ w).alloc _⟩
set_option maxRecDepth 100000 in
set_option maxHeartbeats 2000000 in
theorem numbers_c (w : World) : Calls Tryz.prog 367 #[] w fun e w' => e = .returned (.agg (arrU hashK)) ∧ Upd (fun _ => False) w w' := by
  go_enter Tryz.func367, Tryz.ntmps367
  go_wp2_with (first
    | (show wpList _ _ _ (⟨_, Op.build _ _, _, _, _, _⟩ :: _) _ _
       refine wpList_build rfl _ _ rfl (by kernel_rfl) ?_
       rw [show ((Program.built _ _ _).getD #[]) = arrU hashK from by kernel_rfl])
    | (show wpList _ _ _ (⟨none, _, _, _, _, _⟩ :: _) _ _
       refine wpList_store_all rfl 352 _ _ rfl w.heap.size (arrU hashK) rfl rfl 352 _ (Blk.new w _ _) rfl (arrU_one _) (by kernel_rfl) ?_
       intro w4 hB4 hU4 hz4))
  refine bodyPost_ret (results_cell_row rfl _ _ w.heap.size _ _ _ _ rfl hB4 Tryz.underlying352 rfl rfl) rfl ⟨rfl, ((Upd.refl _ w).alloc _).then hU4 (fun q hq => .inr (by omega))⟩
/-- A text is being written: the blocks of the call. -/
structure ShaS (w0 w : World) (x : Nat) (h : List Int) (rest : Value) (n : Nat) : Prop where
  blk : Blk w x 474 (shaRow h rest n)
  len : h.length = 8
  all : AllU h
  new : w0.heap.size ≤ x
  upd : Upd (fun _ => False) w0 w
theorem shaRow_len {h : List Int} (h8 : h.length = 8) : ((h ++ hashK).map (Value.int .u32)).length = 72 := by rw [List.length_map, List.length_append, h8, hashK_ok.1]
theorem shaRow_72 {h : List Int} (h8 : h.length = 8) (rest : Value) (n : Nat) : (shaRow h rest n)[72]? = some rest ∧ (shaRow h rest n)[73]? = some (.int .i64 (n : Int)) ∧ (shaRow h rest n)[74]? = some (.bool true) := by
  have hl := shaRow_len h8
  unfold shaRow
  refine ⟨?_, ?_, ?_⟩ <;> rw [List.getElem?_toArray, List.getElem?_append_right (by omega), hl] <;> rfl
theorem shaRow_h {h : List Int} (h8 : h.length = 8) (rest : Value) (n : Nat) (j : Nat) (v : Value) (hv : (arrU h).toList[j]? = some v) : (shaRow h rest n)[0 + j]? = some v := by
  have hl := shaRow_len h8
  have hv2 : (h.map (Value.int .u32))[j]? = some v := by simpa [arrU] using hv
  have hj : j < h.length := by have := (List.getElem?_eq_some_iff.1 hv2).1; rwa [List.length_map] at this
  unfold shaRow
  rw [List.getElem?_toArray, List.getElem?_append_left (by omega), Nat.zero_add, List.map_append, List.getElem?_append_left (by rw [List.length_map]; exact hj)]
  exact hv2
theorem shaRow_k {h : List Int} (h8 : h.length = 8) (rest : Value) (n : Nat) (j : Nat) (hj : j < 64) : (shaRow h rest n)[8 + j]? = some (.int .u32 (hashK.getD j 0)) := by
  have hl := shaRow_len h8
  have hk : j < hashK.length := by rw [hashK_ok.1]; exact hj
  unfold shaRow
  rw [List.getElem?_toArray, List.getElem?_append_left (by omega), List.getElem?_map, List.getElem?_append_right (by omega), h8, Nat.add_sub_cancel_left, List.getElem?_eq_getElem hk, List.getD_eq_getElem?_getD, List.getElem?_eq_getElem hk]
  rfl
theorem shaRow_set72 {h : List Int} (h8 : h.length = 8) (rest r : Value) (n : Nat) : (shaRow h rest n).setIfInBounds 72 r = shaRow h r n := by
  have hl := shaRow_len h8
  unfold shaRow
  rw [List.setIfInBounds_toArray, List.set_append_right _ _ (by omega), hl]
  rfl
theorem shaRow_set73 {h : List Int} (h8 : h.length = 8) (rest : Value) (n m : Nat) : (shaRow h rest n).setIfInBounds 73 (.int .i64 (m : Int)) = shaRow h rest m := by
  have hl := shaRow_len h8
  unfold shaRow
  rw [List.setIfInBounds_toArray, List.set_append_right _ _ (by omega), hl]
  rfl
theorem shaRow_put {h h' : List Int} (h8 : h.length = 8) (h8' : h'.length = 8) (rest : Value) (n : Nat) : (shaRow h rest n).toList.take 0 ++ (arrU h').toList ++ (shaRow h rest n).toList.drop (0 + (arrU h').size) = (shaRow h' rest n).toList := by
  unfold shaRow
  rw [List.take_zero, List.nil_append, Nat.zero_add, arrU_size, h8']
  simp only [arrU]
  rw [List.map_append, List.map_append, List.append_assoc, List.drop_left' (by rw [List.length_map, h8]), List.append_assoc]
section
variable {w0 w : World} {x : Nat} {h : List Int} {rest : Value} {n : Nat}
theorem ShaS.k_ (s : ShaS w0 w x h rest n) (i : Nat) (hi : i < 64) : w.cell? ⟨x, 8 + i, none⟩ = some (.int .u32 (hashK.getD i 0)) := (s.blk.cell (8 + i)).trans (shaRow_k s.len rest n i hi)
theorem ShaS.c8 {a0 a1 a2 a3 a4 a5 a6 a7 : Int} (s : ShaS w0 w x [a0, a1, a2, a3, a4, a5, a6, a7] rest n) : w.cell? ⟨x, 0, none⟩ = some (.int .u32 a0) ∧ w.cell? ⟨x, 1, none⟩ = some (.int .u32 a1) ∧ w.cell? ⟨x, 2, none⟩ = some (.int .u32 a2) ∧ w.cell? ⟨x, 3, none⟩ = some (.int .u32 a3) ∧ w.cell? ⟨x, 4, none⟩ = some (.int .u32 a4) ∧ w.cell? ⟨x, 5, none⟩ = some (.int .u32 a5) ∧ w.cell? ⟨x, 6, none⟩ = some (.int .u32 a6) ∧ w.cell? ⟨x, 7, none⟩ = some (.int .u32 a7) := by
  refine ⟨?_, ?_, ?_, ?_, ?_, ?_, ?_, ?_⟩ <;> (rw [s.blk.cell]; unfold shaRow; rw [List.getElem?_toArray]; rfl)
theorem ShaS.c72 (s : ShaS w0 w x h rest n) : w.cell? ⟨x, 72, none⟩ = some rest ∧ w.cell? ⟨x, 73, none⟩ = some (.int .i64 (n : Int)) ∧ w.cell? ⟨x, 74, none⟩ = some (.bool true) := by
  obtain ⟨a, b, c⟩ := shaRow_72 s.len rest n
  exact ⟨(s.blk.cell 72).trans a, (s.blk.cell 73).trans b, (s.blk.cell 74).trans c⟩
theorem ShaS.still (s : ShaS w0 w x h rest n) {w' : World} (hu : Upd (fun _ => False) w w') : ShaS w0 w' x h rest n :=
  ⟨s.blk.upd hu (fun e => e), s.len, s.all, s.new, s.upd.then hu (fun _ e => e.elim)⟩
theorem ShaS.rest_ (s : ShaS w0 w x h rest n) (r : Value) : ShaS w0 (w.setCell ⟨x, 72, none⟩ r) x h r n := by
  refine ⟨?_, s.len, s.all, s.new, s.upd.setCell (.inr s.new) _⟩
  have := s.blk.set_ 72 r
  rw [shaRow_set72 s.len] at this
  exact this
theorem ShaS.n_ (s : ShaS w0 w x h rest n) (m : Nat) : ShaS w0 (w.setCell ⟨x, 73, none⟩ (.int .i64 (m : Int))) x h rest m := by
  refine ⟨?_, s.len, s.all, s.new, s.upd.setCell (.inr s.new) _⟩
  have := s.blk.set_ 73 (.int .i64 (m : Int))
  rw [shaRow_set73 s.len] at this
  exact this
theorem ShaS.h_ (s : ShaS w0 w x h rest n) {h' : List Int} (h8 : h'.length = 8) (hh : AllU h') {w' : World} (hb : Blk w' x 474 (shaRow h' rest n)) (hu : Upd (· = x) w w') : ShaS w0 w' x h' rest n :=
  ⟨hb, h8, hh, s.new, s.upd.then hu (fun q hq => .inr (by have := s.new; omega))⟩
/-- Its words, as they are loaded. -/
theorem ShaS.loads (s : ShaS w0 w x h rest n) : (Instr.loadAt 353 (.pointer (some ⟨x, 0, none⟩))).run Tryz.prog w = .ok (.agg (arrU h)) w := by
  have := run_loadAt_mid (P := Tryz.prog) w x 0 353 (arrU h).toList _ (s.blk.range 0 _ (fun j v hv => shaRow_h s.len rest n j v hv)) Tryz.underlying353 rfl (by rw [Array.length_toList, arrU_size, s.len]; kernel_rfl)
  exact this
set_option maxRecDepth 100000 in
theorem shanone_c (s : ShaS w0 w x h rest n) : Calls Tryz.prog 368 #[.pointer (some ⟨x, 0, none⟩)] w fun e w' => e = .returned (.bool false) ∧ w = w' := by
  obtain ⟨-, -, hc⟩ := s.c72
  clear s
  go_enter Tryz.func368, Tryz.ntmps368
  go_wp2_with fail
  go_ret
  exact ⟨rfl, rfl⟩
end
set_option maxRecDepth 100000 in
theorem shanew_c (w : World) : Calls Tryz.prog 268 #[] w fun e w' => ∃ x, e = .returned (.pointer (some ⟨x, 0, none⟩)) ∧ ShaS w w' x hash0 (.slice none 0 0) 0 := by
  go_enter Tryz.func268, Tryz.ntmps268
  go_wp2_with fail
  refine (begin_c _).mono ?_
  rintro e w1 ⟨rfl, hU1⟩
  have H1 := Lib.hid hU1
  clear hU1
  go_wp2_with fail
  refine (numbers_c _).mono ?_
  rintro e w2 ⟨rfl, hU2⟩
  have H2 := Lib.hid hU2
  clear hU2
  go_wp2_with (first
    | (show wpList _ _ _ (⟨_, Op.build _ _, _, _, _, _⟩ :: _) _ _
       refine wpList_build_is rfl _ _ rfl [(0, .agg (arrU hash0)), (1, .agg (arrU hashK)), (4, .bool true)] _ rfl built_sha ?_))
  go_ret
  have hu := H1.out.then H2.out (fun _ e => e.elim)
  exact ⟨_, rfl, Blk.new w2 _ _, hash0_ok.1, hash0_ok.2, hu.size, hu.alloc _⟩
theorem BytesAt.upd {w w' : World} {v : Value} {l : List UInt8} {F : Nat → Prop} (h : BytesAt w v l) (hu : Upd F w w') (hF : ∀ k, v.ownBlock = some k → ¬ F k) : BytesAt w' v l := by
  obtain ⟨A, cap, rfl, h1, h2, h3⟩ := h
  refine ⟨A, cap, rfl, h1, h2, fun hl => ?_⟩
  obtain ⟨b, off, rfl, hb, hc⟩ := h3 hl
  exact ⟨b, off, rfl, Nat.lt_of_lt_of_le hb hu.size, fun i hi => (cell_upd hu hb (hF b rfl) _).trans (hc i hi)⟩
theorem BytesAt.far {w : World} {v : Value} {l : List UInt8} (h : BytesAt w v l) {p : Addr} (hp : v.ownBlock ≠ some p.block) (u : Value) : BytesAt (w.setCell p u) v l :=
  h.upd ((Upd.refl (· = p.block) w).setCell (.inl rfl) u) (fun k hk e => hp (by rw [hk, e]))
theorem BytesAt.of_own {w : World} {v : Value} {l : List UInt8} {n : Nat} (h : Own w 5 1 v n (bytesV l)) : BytesAt w v l := by
  have hn : l.length = n := by have := h.len; simp [bytesV] at this; omega
  subst hn
  obtain ⟨A, cap, rfl, h1, h2⟩ := h.shape
  refine ⟨A, cap, rfl, h1, h2, fun hl => ?_⟩
  obtain ⟨g, cap', e, _, _⟩ := h.head hl
  injection e with e1 e2 e3
  subst e1
  refine ⟨g, 0, rfl, h.lt rfl, fun i hi => ?_⟩
  rw [Nat.zero_add, h.cellAt i (by omega)]
  simp [bytesV, hi]
/-- Its first bytes are left behind. -/
theorem BytesAt.drop {w : World} {b off n cap k : Nat} {l : List UInt8} (h : BytesAt w (.slice (some ⟨b, off, none⟩) n cap) l) (hk : k < n) : BytesAt w (.slice (some ⟨b, off + k, none⟩) (n - k) (cap - k)) (l.drop k) := by
  obtain ⟨A, c2, e, h1, h2, h3⟩ := h
  injection e with e1 e2 e3
  subst e1 e2 e3
  refine ⟨_, _, by rw [List.length_drop], by rw [List.length_drop]; omega, by omega, fun hl => ?_⟩
  obtain ⟨b', off', e, hb, hc⟩ := h3 (by omega)
  injection e with e
  injection e with e1 e2
  subst e1 e2
  refine ⟨b, off + k, rfl, hb, fun i hi => ?_⟩
  rw [List.length_drop] at hi
  rw [Nat.add_assoc, hc (k + i) (by omega)]
  simp [List.getD_eq_getElem?_getD]
theorem BytesAt.none {w : World} (A : Option Addr) (cap : Nat) (hc : cap ≤ maxLen) : BytesAt w (.slice A 0 cap) [] := ⟨A, cap, rfl, Nat.zero_le _, hc, fun h => absurd h (by simp)⟩
/-- How much is left: a loop's measure. -/
def restLen (w : World) (x : Nat) : Nat := match w.cell? ⟨x, 72, none⟩ with | some (.slice _ n _) => n | _ => 0
set_option maxRecDepth 100000 in
set_option maxHeartbeats 2000000 in
theorem shawrite_c {w0 w : World} {x : Nat} (s : ShaS w0 w x hash0 (.slice none 0 0) 0) (t : ByteArray) (ht : t.size ≤ 1000000) :
    Calls Tryz.prog 269 #[.pointer (some ⟨x, 0, none⟩), .string t] w fun e w' => ∃ r, e = .returned (.int .i64 (t.size : Int)) ∧ ShaS w0 w' x (hashN (t.size / 64) hash0 t.data.toList) r t.size ∧ BytesAt w' r (t.data.toList.drop (64 * (t.size / 64))) := by
  obtain ⟨i0, hi0, hz0, hz1, hz2⟩ := info_parts infoU8
  have HS := Lib.hid s
  have H0 := Lib.hid (shanone_c s)
  obtain ⟨c72, c73, -⟩ := s.c72
  have f72 := s.blk.frozen 72
  have f73 := s.blk.frozen 73
  clear s
  go_enter Tryz.func269, Tryz.ntmps269
  go_wp2_with fail
  refine H0.out.mono ?_
  rintro e w' ⟨rfl, rfl⟩
  go_wp2_with (at_builtin
               refine wpList_append_src rfl _ _ _ _ rfl 5 i0 _ 1 1 Tryz.underlying223 hi0 hz0 hz1 hz2 rfl (.slice none 0 0) 0 [] rfl (Own.nil _ _ _) _ t.size (bytesV t.data.toList) rfl (Src.of_string Tryz.underlying9 t) (bytesV_one _) (by unfold maxLen; omega) (by omega) ?_
               intro v2 w2 ho2 hU2 hl2 hs2
               rw [Nat.zero_add, List.nil_append] at ho2
               obtain ⟨A2, cap2, rfl, hA1, hA2⟩ := ho2.shape
               have hS2 := (HS.out.n_ t.size).still (hU2.mono (fun b hb => by simp [Value.ownBlock] at hb))
               have HS2 := Lib.hid (And.intro hS2 ho2)
               have c72 := hS2.c72.1
               have f72 := hS2.blk.frozen 72
               clear hS2 ho2 hU2 hl2 hs2)
  go_loopw [] (fun wr => ∃ (j : Nat) (A : Option Addr) (cap : Nat), 64 * j ≤ t.size ∧ ShaS w0 wr x (hashN j hash0 t.data.toList) (.slice A (t.size - 64 * j) cap) t.size ∧ BytesAt wr (.slice A (t.size - 64 * j) cap) (t.data.toList.drop (64 * j)) ∧ (Value.slice A (t.size - 64 * j) cap).ownBlock ≠ some x) (fun wr => restLen wr x)
  case atStart =>
    have hne := HS2.out.2.ne_blk HS2.out.1.blk (by decide)
    refine ⟨0, A2, cap2, by omega, HS2.out.1.rest_ _, (BytesAt.of_own HS2.out.2).far hne _, hne⟩
  case round =>
    obtain ⟨j, A, cap, hj, hS, hB, hne⟩ := hrel
    have HX := Lib.hid (And.intro hS (And.intro hB hne))
    obtain ⟨c72, c73, -⟩ := hS.c72
    have f72 := hS.blk.frozen 72
    clear HS2 HS H0 hA1 hA2
    by_cases hlt : 64 ≤ t.size - 64 * j
    · obtain ⟨A', cap', e, hcap1, hcap2, hby⟩ := hB
      injection e with e1 e2 e3
      subst e1 e3
      have hl : (t.data.toList.drop (64 * j)).length = t.size - 64 * j := by rw [List.length_drop]; rfl
      rw [hl] at hcap1
      obtain ⟨b, off, rfl, hb, hby⟩ := hby (by omega)
      obtain ⟨L, hL⟩ : ∃ L, t.size - 64 * j = L := ⟨_, rfl⟩
      have HLj := Lib.hid (And.intro hL hj)
      obtain ⟨h, hh⟩ : ∃ h, hashN j hash0 t.data.toList = h := ⟨_, rfl⟩
      have HH := Lib.hid hh
      rw [hL] at c72 HX hlt hl hS hcap1
      rw [hh] at HX hS
      obtain ⟨a0, a1, a2, a3, a4, a5, a6, a7, rfl⟩ := eight hS.len
      have hSd := hS.still (Upd.refl (fun _ => False) wr).drew
      have HSd := Lib.hid hSd
      obtain ⟨q0, q1, q2, q3, q4, q5, q6, q7⟩ := hS.c8
      have HBY := Lib.hid (And.intro hl hby)
      have i1 : (64 : Int) ≤ (L : Int) := by omega
      have i2 : (64 : Int) ≤ (cap : Int) := by omega
      unfold maxLen at hcap2
      clear hS hSd hby e2 hl hL hj hh hne
      go_wp2_with fail
      clear q0 q1 q2 q3 q4 q5 q6 q7
      refine wp_region_noPanic ?_
      refine wp_region_T (S := fun w' => ShaS w0 w' x [a0, a1, a2, a3, a4, a5, a6, a7] (.slice (some ⟨b, off, none⟩) L cap) t.size) (T := fun k => k == 20) (by kernel_rfl) ?_
      have hS0 := HSd.out
      refine wpAnyT_take (i := 0) (v := ?_) rfl (by kernel_rfl) (by kernel_rfl) (by kernel_rfl) (by kernel_rfl) (fun _ _ _ h => h) (takes_yield rfl (Or.inl ⟨by rfl, ?_⟩)) (by assumption) (by kernel_rfl) ?_
      rotate_left 1
      · intro w' hSw; have hq1 := hSw.c72.1; have hq2 := hSw.c8; go_split_ands; first | (go_simp; done) | (go_simp; rfl) | rfl
      simp only [Act.put, List.getElem_toArray, List.getElem_cons_zero, List.setIfInBounds_toArray, List.set_cons_zero, List.set_cons_succ]
      refine wpAnyT_take (i := 1) (v := ?_) rfl (by kernel_rfl) (by kernel_rfl) (by kernel_rfl) (by kernel_rfl) (fun _ _ _ h => h) (takes_yield rfl (Or.inl ⟨by rfl, ?_⟩)) (by assumption) (by kernel_rfl) ?_
      rotate_left 1
      · intro w' hSw; have hq1 := hSw.c72.1; have hq2 := hSw.c8; go_split_ands; first | (go_simp; done) | (go_simp; rfl) | rfl
      simp only [Act.put, List.getElem_toArray, List.getElem_cons_zero, List.getElem_cons_succ, List.setIfInBounds_toArray, List.set_cons_zero, List.set_cons_succ]
      refine wpAnyT_take (i := 2) (v := ?_) rfl (by kernel_rfl) (by kernel_rfl) (by kernel_rfl) (by kernel_rfl) (fun _ _ _ h => h) (takes_yield rfl (Or.inl ⟨by rfl, ?_⟩)) (by assumption) (by kernel_rfl) ?_
      rotate_left 1
      · intro w' hSw; have hq1 := hSw.c72.1; have hq2 := hSw.c8; go_split_ands; first | (go_simp; done) | (go_simp; rfl) | rfl
      simp only [Act.put, List.getElem_toArray, List.getElem_cons_zero, List.getElem_cons_succ, List.setIfInBounds_toArray, List.set_cons_zero, List.set_cons_succ]
      refine wpAnyT_take (i := 3) (v := ?_) rfl (by kernel_rfl) (by kernel_rfl) (by kernel_rfl) (by kernel_rfl) (fun _ _ _ h => h) (takes_yield rfl (Or.inl ⟨by rfl, ?_⟩)) (by assumption) (by kernel_rfl) ?_
      rotate_left 1
      · intro w' hSw; have hq1 := hSw.c72.1; have hq2 := hSw.c8; go_split_ands; first | (go_simp; done) | (go_simp; rfl) | rfl
      simp only [Act.put, List.getElem_toArray, List.getElem_cons_zero, List.getElem_cons_succ, List.setIfInBounds_toArray, List.set_cons_zero, List.set_cons_succ]
      refine wpAnyT_take (i := 4) (v := ?_) rfl (by kernel_rfl) (by kernel_rfl) (by kernel_rfl) (by kernel_rfl) (fun _ _ _ h => h) (takes_yield rfl (Or.inl ⟨by rfl, ?_⟩)) (by assumption) (by kernel_rfl) ?_
      rotate_left 1
      · intro w' hSw; have hq1 := hSw.c72.1; have hq2 := hSw.c8; go_split_ands; first | (go_simp; done) | (go_simp; rfl) | rfl
      simp only [Act.put, List.getElem_toArray, List.getElem_cons_zero, List.getElem_cons_succ, List.setIfInBounds_toArray, List.set_cons_zero, List.set_cons_succ]
      refine wpAnyT_take (i := 5) (v := ?_) rfl (by kernel_rfl) (by kernel_rfl) (by kernel_rfl) (by kernel_rfl) (fun _ _ _ h => h) (takes_yield rfl (Or.inl ⟨by rfl, ?_⟩)) (by assumption) (by kernel_rfl) ?_
      rotate_left 1
      · intro w' hSw; have hq1 := hSw.c72.1; have hq2 := hSw.c8; go_split_ands; first | (go_simp; done) | (go_simp; rfl) | rfl
      simp only [Act.put, List.getElem_toArray, List.getElem_cons_zero, List.getElem_cons_succ, List.setIfInBounds_toArray, List.set_cons_zero, List.set_cons_succ]
      refine wpAnyT_take (i := 6) (v := ?_) rfl (by kernel_rfl) (by kernel_rfl) (by kernel_rfl) (by kernel_rfl) (fun _ _ _ h => h) (takes_yield rfl (Or.inl ⟨by rfl, ?_⟩)) (by assumption) (by kernel_rfl) ?_
      rotate_left 1
      · intro w' hSw; have hq1 := hSw.c72.1; have hq2 := hSw.c8; go_split_ands; first | (go_simp; done) | (go_simp; rfl) | rfl
      simp only [Act.put, List.getElem_toArray, List.getElem_cons_zero, List.getElem_cons_succ, List.setIfInBounds_toArray, List.set_cons_zero, List.set_cons_succ]
      refine wpAnyT_take (i := 7) (v := ?_) rfl (by kernel_rfl) (by kernel_rfl) (by kernel_rfl) (by kernel_rfl) (fun _ _ _ h => h) (takes_yield rfl (Or.inl ⟨by rfl, ?_⟩)) (by assumption) (by kernel_rfl) ?_
      rotate_left 1
      · intro w' hSw; have hq1 := hSw.c72.1; have hq2 := hSw.c8; go_split_ands; first | (go_simp; done) | (go_simp; rfl) | rfl
      simp only [Act.put, List.getElem_toArray, List.getElem_cons_zero, List.getElem_cons_succ, List.setIfInBounds_toArray, List.set_cons_zero, List.set_cons_succ]
      refine wpAnyT_take (i := 8) (v := ?_) rfl (by kernel_rfl) (by kernel_rfl) (by kernel_rfl) (by kernel_rfl) (fun _ _ _ h => h) (takes_yield rfl (Or.inl ⟨by rfl, ?_⟩)) (by assumption) (by kernel_rfl) ?_
      rotate_left 1
      · intro w' hSw; have hq1 := hSw.c72.1; have hq2 := hSw.c8; go_split_ands; first | (go_simp; done) | (go_simp; rfl) | rfl
      simp only [Act.put, List.getElem_toArray, List.getElem_cons_zero, List.getElem_cons_succ, List.setIfInBounds_toArray, List.set_cons_zero, List.set_cons_succ]
      refine wpAnyT_take (i := 9) (v := ?_) rfl (by kernel_rfl) (by kernel_rfl) (by kernel_rfl) (by kernel_rfl) (fun _ _ _ h => h) (takes_yield rfl (Or.inl ⟨by rfl, ?_⟩)) (by assumption) (by kernel_rfl) ?_
      rotate_left 1
      · intro w' hSw; have hq1 := hSw.c72.1; have hq2 := hSw.c8; go_split_ands; first | (go_simp; done) | (go_simp; rfl) | rfl
      simp only [Act.put, List.getElem_toArray, List.getElem_cons_zero, List.getElem_cons_succ, List.setIfInBounds_toArray, List.set_cons_zero, List.set_cons_succ]
      refine wpAnyT_take (i := 10) (v := ?_) rfl (by kernel_rfl) (by kernel_rfl) (by kernel_rfl) (by kernel_rfl) (fun _ _ _ h => h) (takes_yield rfl (Or.inl ⟨by rfl, ?_⟩)) (by assumption) (by kernel_rfl) ?_
      rotate_left 1
      · intro w' hSw; have hq1 := hSw.c72.1; have hq2 := hSw.c8; go_split_ands; first | (go_simp; done) | (go_simp; rfl) | rfl
      simp only [Act.put, List.getElem_toArray, List.getElem_cons_zero, List.getElem_cons_succ, List.setIfInBounds_toArray, List.set_cons_zero, List.set_cons_succ]
      refine wpAnyT_take (i := 11) (v := ?_) rfl (by kernel_rfl) (by kernel_rfl) (by kernel_rfl) (by kernel_rfl) (fun _ _ _ h => h) (takes_yield rfl (Or.inl ⟨by rfl, ?_⟩)) (by assumption) (by kernel_rfl) ?_
      rotate_left 1
      · intro w' hSw; have hq1 := hSw.c72.1; have hq2 := hSw.c8; go_split_ands; first | (go_simp; done) | (go_simp; rfl) | rfl
      simp only [Act.put, List.getElem_toArray, List.getElem_cons_zero, List.getElem_cons_succ, List.setIfInBounds_toArray, List.set_cons_zero, List.set_cons_succ]
      refine wpAnyT_take (i := 12) (v := ?_) rfl (by kernel_rfl) (by kernel_rfl) (by kernel_rfl) (by kernel_rfl) (fun _ _ _ h => h) (takes_yield rfl (Or.inl ⟨by rfl, ?_⟩)) (by assumption) (by kernel_rfl) ?_
      rotate_left 1
      · intro w' hSw; have hq1 := hSw.c72.1; have hq2 := hSw.c8; go_split_ands; first | (go_simp; done) | (go_simp; rfl) | rfl
      simp only [Act.put, List.getElem_toArray, List.getElem_cons_zero, List.getElem_cons_succ, List.setIfInBounds_toArray, List.set_cons_zero, List.set_cons_succ]
      refine wpAnyT_take (i := 13) (v := ?_) rfl (by kernel_rfl) (by kernel_rfl) (by kernel_rfl) (by kernel_rfl) (fun _ _ _ h => h) (takes_yield rfl (Or.inl ⟨by rfl, ?_⟩)) (by assumption) (by kernel_rfl) ?_
      rotate_left 1
      · intro w' hSw; have hq1 := hSw.c72.1; have hq2 := hSw.c8; go_split_ands; first | (go_simp; done) | (go_simp; rfl) | rfl
      simp only [Act.put, List.getElem_toArray, List.getElem_cons_zero, List.getElem_cons_succ, List.setIfInBounds_toArray, List.set_cons_zero, List.set_cons_succ]
      refine wpAnyT_take (i := 14) (v := ?_) rfl (by kernel_rfl) (by kernel_rfl) (by kernel_rfl) (by kernel_rfl) (fun _ _ _ h => h) (takes_yield rfl (Or.inl ⟨by rfl, ?_⟩)) (by assumption) (by kernel_rfl) ?_
      rotate_left 1
      · intro w' hSw; have hq1 := hSw.c72.1; have hq2 := hSw.c8; go_split_ands; first | (go_simp; done) | (go_simp; rfl) | rfl
      simp only [Act.put, List.getElem_toArray, List.getElem_cons_zero, List.getElem_cons_succ, List.setIfInBounds_toArray, List.set_cons_zero, List.set_cons_succ]
      refine wpAnyT_take (i := 15) (v := ?_) rfl (by kernel_rfl) (by kernel_rfl) (by kernel_rfl) (by kernel_rfl) (fun _ _ _ h => h) (takes_yield rfl (Or.inl ⟨by rfl, ?_⟩)) (by assumption) (by kernel_rfl) ?_
      rotate_left 1
      · intro w' hSw; have hq1 := hSw.c72.1; have hq2 := hSw.c8; go_split_ands; first | (go_simp; done) | (go_simp; rfl) | rfl
      simp only [Act.put, List.getElem_toArray, List.getElem_cons_zero, List.getElem_cons_succ, List.setIfInBounds_toArray, List.set_cons_zero, List.set_cons_succ]
      refine wpAnyT_take (i := 16) (v := ?_) rfl (by kernel_rfl) (by kernel_rfl) (by kernel_rfl) (by kernel_rfl) (fun _ _ _ h => h) (takes_yield rfl (Or.inl ⟨by rfl, ?_⟩)) (by assumption) (by kernel_rfl) ?_
      rotate_left 1
      · intro w' hSw; have hq1 := hSw.c72.1; have hq2 := hSw.c8; go_split_ands; first | (go_simp; done) | (go_simp; rfl) | rfl
      simp only [Act.put, List.getElem_toArray, List.getElem_cons_zero, List.getElem_cons_succ, List.setIfInBounds_toArray, List.set_cons_zero, List.set_cons_succ]
      refine wpAnyT_one (i := 17) (by kernel_rfl) rfl (fun K hK => ?_)
      go_simp
      refine (turn_c [a0, a1, a2, a3, a4, a5, a6, a7] [a0, a1, a2, a3, a4, a5, a6, a7] hashK ((t.data.toList.drop (64 * j)).take 64) x 8 b off cap _ HSd.out.len HSd.out.len hashK_ok.1 HSd.out.all HSd.out.all hashK_ok.2 HSd.out.k_ HSd.out.blk.lt (by rw [List.length_take, HBY.out.1]; omega) (by omega) (by omega) hb (fun i hi => by
        rw [World.cell?_drew, HBY.out.2 i (by rw [HBY.out.1]; omega)]; simp [List.getD_eq_getElem?_getD, hi])).mono ?_
      rintro e w3 ⟨rfl, hU3⟩
      have hS3 := HSd.out.still hU3
      refine hK.out _ _ hS3 ?_
      clear hK
      refine wpAnyT_take (i := 18) (v := ?_) rfl (by kernel_rfl) (by kernel_rfl) (by kernel_rfl) (by kernel_rfl) (fun _ _ _ h => h) (takes_yield rfl (Or.inl ⟨by rfl, ?_⟩)) (by assumption) (by kernel_rfl) ?_
      rotate_left 1
      · intro w' hSw; have hq1 := hSw.c72.1; go_split_ands; first | (go_simp; done) | (go_simp; rfl) | rfl
      simp only [Act.put, List.getElem_toArray, List.getElem_cons_zero, List.getElem_cons_succ, List.setIfInBounds_toArray, List.set_cons_zero, List.set_cons_succ]
      refine wpAnyT_take (i := 19) (v := ?_) rfl (by kernel_rfl) (by kernel_rfl) (by kernel_rfl) (by kernel_rfl) (fun _ _ _ h => h) (takes_yield rfl (Or.inl ⟨by rfl, ?_⟩)) (by assumption) (by kernel_rfl) ?_
      rotate_left 1
      · intro w' hSw; have hq1 := hSw.c72.1; go_split_ands; first | (go_simp; done) | (go_simp; rfl) | rfl
      simp only [Act.put, List.getElem_toArray, List.getElem_cons_zero, List.getElem_cons_succ, List.setIfInBounds_toArray, List.set_cons_zero, List.set_cons_succ]
      refine wpAnyT_oneT (i := 20) (by kernel_rfl) rfl (by kernel_rfl) (fun K hK => ?_)
      obtain ⟨h', hh'⟩ : ∃ h', turnL [a0, a1, a2, a3, a4, a5, a6, a7] [a0, a1, a2, a3, a4, a5, a6, a7] hashK ((t.data.toList.drop (64 * j)).take 64) = h' := ⟨_, rfl⟩
      have h8' : h'.length = 8 := by rw [← hh', turnL_len]; rfl
      have hall' : AllU h' := by rw [← hh']; exact turnL_all HSd.out.all
      rw [hh']
      refine step_store_part (by rfl) 353 _ _ (by rfl) x 0 (arrU h') (by rfl) (by rfl) _ _ _ hS3.blk (by rw [arrU_size, h8']; have := shaRow_len hS3.len; simp [shaRow]) (shaRow_put hS3.len h8' _ _) (arrU_one _) (by rw [arrU_size, h8']; kernel_rfl) ?_
      intro w4 hB4 hU4 hz4
      refine hK.out _ _ ?_
      have hS4 := hS3.h_ h8' hall' hB4 hU4
      have HS4 := Lib.hid (And.intro hS4 (And.intro (hU3.trans hU4 (H := (· = x)) (fun _ e => e.elim) (fun _ e => .inl e)) hh'))
      have c72 := hS4.c72.1
      have f72 := hS4.blk.frozen 72
      clear hK hS3 hS4 hB4 hU4 hz4 hh' h8' hall' hU3 hS0
      refine wpAnyT_done (by kernel_rfl) ?_ _
      refine NoPanic.normal ?_
      have hfin : ∀ (A' : Option Addr) (cap' : Nat), BytesAt w4 (.slice A' (L - 64) cap') ((t.data.toList.drop (64 * j)).drop 64) → (Value.slice A' (L - 64) cap').ownBlock ≠ some x →
          (∃ (j : Nat) (A : Option Addr) (cap : Nat), 64 * j ≤ t.size ∧ ShaS w0 (w4.setCell ⟨x, 72, none⟩ (.slice A' (L - 64) cap')) x (hashN j hash0 t.data.toList) (.slice A (t.size - 64 * j) cap) t.size ∧ BytesAt (w4.setCell ⟨x, 72, none⟩ (.slice A' (L - 64) cap')) (.slice A (t.size - 64 * j) cap) (t.data.toList.drop (64 * j)) ∧ (Value.slice A (t.size - 64 * j) cap).ownBlock ≠ some x) ∧
          restLen (w4.setCell ⟨x, 72, none⟩ (.slice A' (L - 64) cap')) x < restLen wr x := by
        intro A' cap' h1 h2
        have hS5 := HS4.out.1.rest_ (.slice A' (L - 64) cap')
        have hm1 : restLen (w4.setCell ⟨x, 72, none⟩ (.slice A' (L - 64) cap')) x = L - 64 := by unfold restLen; rw [hS5.c72.1]
        have hm2 : restLen wr x = L := by unfold restLen; rw [HX.out.1.c72.1]
        refine ⟨⟨j + 1, A', cap', by have := HLj.out.1; omega, ?_, ?_, ?_⟩, by omega⟩
        · rw [hashN_snoc, HH.out, HS4.out.2.2, show t.size - 64 * (j + 1) = L - 64 by have := HLj.out.1; omega]
          exact hS5
        · rw [show t.size - 64 * (j + 1) = L - 64 by have := HLj.out.1; omega, show 64 * (j + 1) = 64 * j + 64 by omega, ← List.drop_drop]
          exact h1.far h2 _
        · rw [show t.size - 64 * (j + 1) = L - 64 by have := HLj.out.1; omega]
          exact h2
      have hB4 : BytesAt w4 (.slice (some ⟨b, off, none⟩) L cap) (t.data.toList.drop (64 * j)) := HX.out.2.1.upd ((Upd.refl (fun _ => False) wr).drew.trans HS4.out.2.1 (H := (· = x)) (fun _ e => e.elim) (fun _ e => .inl e)) (fun k hk e => HX.out.2.2 (by rw [hk, e]))
      have HF := Lib.hid hfin
      have HB4 := Lib.hid (And.intro hB4 HX.out.2.2)
      clear hfin hB4
      by_cases hcapL : cap = 64
      · subst hcapL
        obtain rfl : L = 64 := by omega
        go_wp2_with fail
        refine HF.out _ _ ?_ HB4.out.2
        rw [List.drop_of_length_le (by rw [HBY.out.1]; omega)]
        exact BytesAt.none _ _ (by unfold maxLen; omega)
      · go_wp2_with fail
        refine HF.out _ _ ?_ HB4.out.2
        by_cases hL64 : L = 64
        · subst hL64
          rw [List.drop_of_length_le (by rw [HBY.out.1]; omega)]
          exact BytesAt.none _ _ (by unfold maxLen; omega)
        · exact HB4.out.1.drop (by omega)
    · have hl := Lib.hid (show t.size / 64 = j by omega)
      have hlt' : t.size - 64 * j < 64 := by omega
      go_wp2_with fail
      go_ret
      rw [hl.out]
      exact ⟨_, rfl, HX.out.1, HX.out.2.1⟩
end Go.Proofs.YtdfgmieinbmfkaaGreat
