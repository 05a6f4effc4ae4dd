/-
  Package mac: tags under a key.
-/
import Derived.Test.YtdfgmieinbmfkaaGreatShaC
import Derived.Test.YtdfgmieinbmfkaaGreatSealM
import Derived.Test.YtdfgmieinbmfkaaGreatSteps
import Derived.Laws.BitsAllLaws
namespace Go.Proofs.YtdfgmieinbmfkaaGreat
open Go Go.RowKit

theorem xorB (a b : UInt8) : bits .xor .u8 (a.toNat : Int) (b.toNat : Int) = ((a ^^^ b).toNat : Int) := by rw [u8_xor_nat _ _ a.toNat_lt b.toNat_lt, UInt8.toNat_xor]
theorem arrB_get (l : List UInt8) (i : Nat) (h : i < l.length) : (arrB l)[i]? = some (.int .u8 ((l.getD i 0).toNat : Int)) := by simp [arrB, bytesV, h]
theorem arrB_set (l : List UInt8) (i : Nat) (b : UInt8) : (arrB l).setIfInBounds i (.int .u8 (b.toNat : Int)) = arrB (l.set i b) := by simp [arrB, bytesV, List.map_set]
theorem Blk.cellB {w : World} {g : Nat} {t : TypeId} {l : List UInt8} (h : Blk w g t (arrB l)) (i : Nat) (hi : i < l.length) : w.cell? ⟨g, i, none⟩ = some (.int .u8 ((l.getD i 0).toNat : Int)) := (h.cell i).trans (arrB_get l i hi)
theorem Blk.setB {w : World} {g : Nat} {t : TypeId} {l : List UInt8} (h : Blk w g t (arrB l)) (i : Nat) (b : UInt8) : Blk (w.setCell ⟨g, i, none⟩ (.int .u8 (b.toNat : Int))) g t (arrB (l.set i b)) := by
  rw [← arrB_set]
  exact h.set_ i _
/-- The bytes of an array as a text. -/
theorem conv_arr {w : World} {g : Nat} {t : TypeId} {l : List UInt8} (h : Blk w g t (arrB l)) (n cap : Nat) (hn : l.length = n) : (convert 223 9 (.slice (some ⟨g, 0, none⟩) n cap)).run Tryz.prog w = .ok (.string (str l)) w :=
  conv_at w g 0 n cap l hn (fun i hi => by rw [Nat.zero_add]; exact h.cellB i (by omega))
/-- A text copied into a row of bytes. -/
theorem copy_text {w : World} {g off n cap : Nat} {T : TypeId} {l0 : List UInt8} {s : ByteArray} (hB : Blk w g T (arrB l0)) (hn : s.size ≤ n) (hf : off + s.size ≤ l0.length) :
    ∃ W r, (Builtin.copy_ #[223, 9] 3 #[.slice (some ⟨g, off, none⟩) n cap, .string s]).run Tryz.prog w = .ok r W ∧ Blk W g T (arrB (l0.take off ++ s.data.toList ++ l0.drop (off + s.size))) ∧ Upd (· = g) w W ∧ W.heap.size = w.heap.size := by
  have hlen : (bytesV s.data.toList).length = s.size := by rw [bytesV_len]; rfl
  have hst := run_storeCells_at Tryz.prog g off T (bytesV s.data.toList) 0 (arrB l0) w hB (by rw [hlen, arrB_size]; omega) (bytesV_one _)
  rw [hlen] at hst
  simp only [Nat.add_zero] at hst
  have hsize : (Tryz.prog.info? 5).map (·.size) = some 1 := by kernel_rfl
  have hmin : Nat.min s.size n = s.size := Nat.min_eq_left hn
  refine ⟨w.setRow g ((arrB l0).toList.take off ++ bytesV s.data.toList ++ (arrB l0).toList.drop (off + s.size)).toArray, goInt s.size, ?_, ?_, Upd.setRow_ _ _ _, by simp [World.setRow]⟩
  · cases hi : Tryz.prog.info? 5 with
    | none => rw [hi] at hsize; simp at hsize
    | some i =>
      have htk : List.take s.size (List.map (fun b : UInt8 => Value.int IntKind.u8 (b.toNat : Int)) s.data.toList) = bytesV s.data.toList := by
        rw [List.take_of_length_le (by rw [List.length_map]; exact Nat.le_refl _)]
        rfl
      simp [Builtin.copy_, run_underlying Tryz.underlying223, Builtin.lenOf, Builtin.firstCells, sizeOf, typeInfo, hi, hmin]
      rw [htk, hst]
      simp [Result.andThen]
  · have e : ((arrB l0).toList.take off ++ bytesV s.data.toList ++ (arrB l0).toList.drop (off + s.size)).toArray = arrB (l0.take off ++ s.data.toList ++ l0.drop (off + s.size)) := by
      simp [arrB, bytesV, List.map_take, List.map_drop]
    rw [e]
    exact hB.setRow _
/-- A list of which the first k are mapped. -/
def mapAt (f : UInt8 → UInt8) (l : List UInt8) (k : Nat) : List UInt8 := (l.take k).map f ++ l.drop k
theorem mapAt_len (f : UInt8 → UInt8) (l : List UInt8) (k : Nat) : (mapAt f l k).length = l.length := by
  unfold mapAt
  rw [List.length_append, List.length_map, List.length_take, List.length_drop]
  omega
theorem mapAt_get (f : UInt8 → UInt8) (l : List UInt8) (k : Nat) (hk : k < l.length) : (mapAt f l k).getD k 0 = l.getD k 0 := by
  unfold mapAt
  have h1 : ((l.take k).map f).length = k := by rw [List.length_map, List.length_take]; omega
  rw [List.getD_eq_getElem?_getD, List.getElem?_append_right (by omega), h1, Nat.sub_self, List.getElem?_drop, List.getD_eq_getElem?_getD]
  rfl
theorem mapAt_step (f : UInt8 → UInt8) (l : List UInt8) (k : Nat) (hk : k < l.length) : (mapAt f l k).set k (f (l.getD k 0)) = mapAt f l (k + 1) := by
  unfold mapAt
  have h1 : ((l.take k).map f).length = k := by rw [List.length_map, List.length_take]; omega
  rw [List.set_append_right _ _ (by omega), h1, Nat.sub_self, List.take_succ_eq_append_getElem hk, List.map_append, List.append_assoc, List.drop_eq_getElem_cons hk, List.getD_eq_getElem?_getD, List.getElem?_eq_getElem hk]
  rfl
theorem mapAt_all (f : UInt8 → UInt8) (l : List UInt8) : mapAt f l l.length = l.map f := by
  unfold mapAt
  rw [List.take_length, List.drop_length, List.append_nil]
set_option maxRecDepth 100000 in
set_option maxHeartbeats 2000000 in
theorem pad_c (key : ByteArray) (by_ : UInt8) (w : World) (hk : key.size ≤ 64) :
    Calls Tryz.prog 294 #[.string key, .int .u8 (by_.toNat : Int)] w fun e w' => e = .returned (.string (str (padK key.data.toList by_))) ∧ Upd (fun _ => False) w w' := by
  have hk2 : ((key.size : Nat) : Int) ≤ 64 := by omega
  obtain ⟨X, hX⟩ : ∃ X, key.data.toList ++ List.replicate (64 - key.data.toList.length) 0 = X := ⟨_, rfl⟩
  have hXl : X.length = 64 := by rw [← hX, List.length_append, List.length_replicate]; show key.size + (64 - key.size) = 64; omega
  have HX := Lib.hid (And.intro hX hXl)
  clear hX hXl
  go_enter Tryz.func294, Tryz.ntmps294
  go_wp2_with fail
  generalize hw1 : w.alloc (Obj.cells _ _) = w1
  have hU1 : Upd (fun _ => False) w w1 := by rw [← hw1]; exact (Upd.refl _ w).alloc _
  have hO1 : Blk w1 w.heap.size 485 (arrB (List.replicate 64 0)) := by rw [← hw1]; exact Blk.new w _ _
  obtain ⟨g, hg⟩ : ∃ g, w.heap.size = g := ⟨_, rfl⟩
  have HG := Lib.hid hg
  rw [hg] at hO1
  obtain ⟨W, r, hcp, hB2, hU2, hz2⟩ := copy_text (s := key) (off := 0) (n := 64) (cap := 64) hO1 hk (by rw [List.length_replicate]; omega)
  have hE : (List.replicate 64 0).take 0 ++ key.data.toList ++ (List.replicate 64 (0 : UInt8)).drop (0 + key.size) = X := by
    rw [← HX.out.1, List.take_zero, List.nil_append, Nat.zero_add, List.drop_replicate]
    rfl
  rw [hE] at hB2
  have HW := Lib.hid (And.intro hU1 (And.intro hB2 hU2))
  rw [hg, hcp]
  clear hU1 hO1 hE hB2 hU2 hz2 hg hw1 hcp
  go_wp2_with fail
  go_loopw [18] (fun u wr => ∃ k : Nat, k ≤ 64 ∧ u = .int .i64 (k : Int) ∧ Upd (fun q => q = g) w wr ∧ Blk wr g 485 (arrB (mapAt (· ^^^ by_) X k))) (fun u _ => 64 - (intOf u).toNat)
  case atStart => exact ⟨0, by omega, rfl, HW.out.1.trans HW.out.2.2 (fun _ e => e.elim) (fun _ e => .inl e), HW.out.2.1⟩
  case round =>
    obtain ⟨k, hk64, rfl, hu, hB⟩ := hrel
    clear HW
    have HB := Lib.hid (And.intro hu hB)
    have hXl := HX.out.2
    by_cases hlt : k < 64
    · have hc := hB.cellB k (by rw [mapAt_len]; omega)
      have hf := hB.frozen k
      rw [mapAt_get _ _ _ (by omega)] at hc
      have hst := mapAt_step (· ^^^ by_) X k (by omega)
      obtain ⟨b, hb⟩ : ∃ b, X.getD k 0 = b := ⟨_, rfl⟩
      rw [hb] at hc hst
      have hx := xorB b by_
      have HST := Lib.hid hst
      have hk1 : (k : Int) < 64 := by omega
      clear hu hB hb hst hXl
      go_wp2_with fail
      go_roundw
      case rel =>
        refine ⟨k + 1, by omega, by go_num, HB.out.1.setCell (.inl rfl) _, ?_⟩
        rw [← HST.out]
        have h := HB.out.2.setB k (b ^^^ by_)
        rw [UInt8.toNat_xor] at h
        exact h
      case measure => simp [intOf] <;> omega
    · obtain rfl : k = 64 := by omega
      have e64 : ((64 : Nat) : Int) = 64 := rfl
      rw [e64]
      have hfin : mapAt (· ^^^ by_) X 64 = padK key.data.toList by_ := by
        rw [← hXl, mapAt_all, ← HX.out.1]
        rfl
      rw [hfin] at hB
      have hcv := conv_arr hB 64 64 (padK_len (by show key.size ≤ 64; exact hk))
      clear hB hfin hXl hlt e64 hk64
      go_wp2_with fail
      go_ret
      exact ⟨rfl, hu.mono (fun q hq => .inr (by have := HG.out; omega))⟩
/-! ### a text's tag -/
set_option maxRecDepth 100000 in
set_option maxHeartbeats 2000000 in
theorem tag_c (key text : ByteArray) (w : World) (hk : key.size ≤ 64) (ht : text.size ≤ 900000) :
    Calls Tryz.prog 176 #[.string key, .string text] w fun e w' => e = .returned (.agg (arrB (tagL key.data.toList text.data.toList))) ∧ Upd (fun _ => False) w w' := by
  obtain ⟨P1, hP1⟩ : ∃ P, padK key.data.toList 54 = P := ⟨_, rfl⟩
  obtain ⟨P2, hP2⟩ : ∃ P, padK key.data.toList 92 = P := ⟨_, rfl⟩
  have hl1 : P1.length = 64 := by rw [← hP1]; exact padK_len (by show key.size ≤ 64; exact hk)
  have hl2 : P2.length = 64 := by rw [← hP2]; exact padK_len (by show key.size ≤ 64; exact hk)
  have h1 : ∀ W, key.size ≤ 64 → Calls Tryz.prog 294 #[.string key, .int .u8 54] W fun e w' => e = .returned (.string (str (padK key.data.toList 54))) ∧ Upd (fun _ => False) W w' := pad_c key 54
  have h2 : ∀ W, key.size ≤ 64 → Calls Tryz.prog 294 #[.string key, .int .u8 92] W fun e w' => e = .returned (.string (str (padK key.data.toList 92))) ∧ Upd (fun _ => False) W w' := pad_c key 92
  rw [hP1] at h1
  rw [hP2] at h2
  have H1 := Lib.hid (fun W => h1 W hk)
  have H2 := Lib.hid (fun W => h2 W hk)
  obtain ⟨T1, hT1⟩ : ∃ T1, str P1 ++ text = T1 := ⟨_, rfl⟩
  have hT1l : T1.data.toList = P1 ++ text.data.toList := by rw [← hT1, ByteArray.data_append, Array.toList_append, str_list]
  have hT1s : T1.size = 64 + text.size := by rw [← hT1, ByteArray.size_append, str_size, hl1]
  obtain ⟨I, hI⟩ : ∃ I, shaL T1.data.toList = I := ⟨_, rfl⟩
  have hIl : I.length = 32 := by rw [← hI]; exact shaL_len _
  obtain ⟨T2, hT2⟩ : ∃ T2, str P2 ++ str I = T2 := ⟨_, rfl⟩
  have hT2l : T2.data.toList = P2 ++ I := by rw [← hT2, ByteArray.data_append, Array.toList_append, str_list, str_list]
  have hT2s : T2.size = 96 := by rw [← hT2, ByteArray.size_append, str_size, str_size, hl2, hIl]
  obtain ⟨O, hO⟩ : ∃ O, tagL key.data.toList text.data.toList = O := ⟨_, rfl⟩
  have hO2 : shaL T2.data.toList = O := by rw [← hO, hT2l]; unfold tagL; rw [hP1, hP2, ← hT1l, hI]
  have hOl : O.length = 32 := by rw [← hO]; exact tagL_len _ _
  rw [hO]
  have hs1 : (9223372036854775807 < (str P1).size + text.size) = False := by rw [str_size, hl1]; simp; omega
  have hs2 : (9223372036854775807 < (str P2).size + (str I).size) = False := by rw [str_size, str_size, hl2, hIl]; simp
  have HT1 := Lib.hid (And.intro hT1 (And.intro hT1s hI))
  have HT2 := Lib.hid (And.intro hT2 (And.intro hT2s hO2))
  have HL := Lib.hid (And.intro hIl hOl)
  have HS2 := Lib.hid hs2
  clear hP1 hP2 hl1 hl2 h1 h2 hT1 hT1l hT1s hI hIl hT2 hT2l hT2s hO hO2 hOl hs2
  go_enter Tryz.func176, Tryz.ntmps176
  go_wp2_with fail
  generalize hw1 : w.alloc (Obj.cells _ _) = w1
  have hU1 : Upd (fun _ => False) w w1 := by rw [← hw1]; exact (Upd.refl _ w).alloc _
  have hO1 : Blk w1 w.heap.size 70 (arrB (List.replicate 32 0)) := by rw [← hw1]; exact Blk.new w _ _
  have HW1 := Lib.hid (And.intro hU1 hO1)
  clear hw1 hU1 hO1
  refine (H1.out _).mono ?_
  rintro e w2 ⟨rfl, hU2⟩
  have HU2 := Lib.hid hU2
  clear hU2
  go_wp2_with fail
  rw [HT1.out.1]
  refine (hash_c T1 (by rw [HT1.out.2.1]; omega) w2).mono ?_
  rintro e w3 ⟨rfl, hU3⟩
  rw [HT1.out.2.2]
  have HU3 := Lib.hid (HU2.out.then hU3 (fun _ e => e.elim))
  clear hU3 hs1
  obtain ⟨g, hg⟩ : ∃ g, w.heap.size = g := ⟨_, rfl⟩
  have HG := Lib.hid hg
  rw [hg]
  clear hg
  go_wp2_with (first
    | (show wpList _ _ _ (⟨none, _, _, _, _, _⟩ :: _) _ _
       refine wpList_store_all rfl 70 _ _ rfl w3.heap.size (arrB I) rfl rfl 70 _ (Blk.new w3 _ _) (by rw [arrB_size, HL.out.1]; rfl) (arrB_one _) (by rw [arrB_size, HL.out.1]; kernel_rfl) ?_
       intro w4 hB4 hU4 hz4))
  obtain ⟨g5, hg5⟩ : ∃ g5, w3.heap.size = g5 := ⟨_, rfl⟩
  have hu4 : Upd (fun _ => False) w3 w4 := ((Upd.refl (fun _ => False) w3).alloc _).then hU4 (fun q hq => .inr (by omega))
  rw [hg5] at hB4 ⊢
  have hO4 : Blk w4 g 70 (arrB (List.replicate 32 0)) := by rw [← HG.out]; exact HW1.out.2.upd (HU3.out.then hu4 (fun _ e => e.elim)) (fun e => e)
  have HW4 := Lib.hid (And.intro ((HW1.out.1.then HU3.out (fun _ e => e.elim)).then hu4 (fun _ e => e.elim)) (And.intro hB4 hO4))
  have hs2 := HS2.out
  clear hU4 hz4 hu4 hO4 hg5 hB4
  refine wp_region_noPanic ?_
  refine wp_region_T (S := fun w' => Upd (fun _ => False) w4 w') (T := fun k => k == 6) (by kernel_rfl) ?_
  have hS0 := (Upd.refl (fun _ => False) w4).drew
  refine wpAnyT_take (i := 0) (v := ?_) rfl (by kernel_rfl) (by kernel_rfl) (by kernel_rfl) (by kernel_rfl) (fun _ _ _ h => h) (takes_yield rfl (Or.inl ⟨by rfl, ?_⟩)) (by assumption) (by kernel_rfl) ?_
  rotate_left 1
  · intro w' hSw; have hcv := conv_arr (HW4.out.2.1.upd hSw (fun e => e)) 32 32 HL.out.1; go_split_ands; first | (go_simp; done) | (go_simp; rfl) | rfl
  simp only [Act.put, List.getElem_toArray, List.getElem_cons_zero, List.setIfInBounds_toArray, List.set_cons_zero, List.set_cons_succ]
  refine wpAnyT_take (i := 2) (v := ?_) rfl (by kernel_rfl) (by kernel_rfl) (by kernel_rfl) (by kernel_rfl) (fun _ _ _ h => h) (takes_yield rfl (Or.inl ⟨by rfl, ?_⟩)) (by assumption) (by kernel_rfl) ?_
  rotate_left 1
  · intro w' hSw; have hcv := conv_arr (HW4.out.2.1.upd hSw (fun e => e)) 32 32 HL.out.1; go_split_ands; first | (go_simp; done) | (go_simp; rfl) | rfl
  simp only [Act.put, List.getElem_toArray, List.getElem_cons_zero, List.getElem_cons_succ, List.setIfInBounds_toArray, List.set_cons_zero, List.set_cons_succ]
  refine wpAnyT_take (i := 3) (v := ?_) rfl (by kernel_rfl) (by kernel_rfl) (by kernel_rfl) (by kernel_rfl) (fun _ _ _ h => h) (takes_yield rfl (Or.inl ⟨by rfl, ?_⟩)) (by assumption) (by kernel_rfl) ?_
  rotate_left 1
  · intro w' hSw; have hcv := conv_arr (HW4.out.2.1.upd hSw (fun e => e)) 32 32 HL.out.1; go_split_ands; first | (go_simp; done) | (go_simp; rfl) | rfl
  simp only [Act.put, List.getElem_toArray, List.getElem_cons_zero, List.getElem_cons_succ, List.setIfInBounds_toArray, List.set_cons_zero, List.set_cons_succ]
  refine wpAnyT_one (i := 1) (by kernel_rfl) rfl (fun K hK => ?_)
  go_simp
  refine (H2.out _).mono ?_
  rintro e w5 ⟨rfl, hU5⟩
  have hS5 := hS0.then hU5 (fun _ e => e.elim)
  refine hK.out _ _ hS5 ?_
  clear hK hU5
  refine wpAnyT_take (i := 4) (v := ?_) rfl (by kernel_rfl) (by kernel_rfl) (by kernel_rfl) (by kernel_rfl) (fun _ _ _ h => h) (takes_yield rfl (Or.inl ⟨by rfl, ?_⟩)) (by assumption) (by kernel_rfl) ?_
  rotate_left 1
  · intro w' hSw; go_split_ands; first | (go_simp; done) | (go_simp; rfl) | rfl
  simp only [Act.put, List.getElem_toArray, List.getElem_cons_zero, List.getElem_cons_succ, List.setIfInBounds_toArray, List.set_cons_zero, List.set_cons_succ]
  refine wpAnyT_one (i := 5) (by kernel_rfl) rfl (fun K hK => ?_)
  go_simp
  rw [HT2.out.1]
  refine (hash_c T2 (by rw [HT2.out.2.1]; omega) w5).mono ?_
  rintro e w6 ⟨rfl, hU6⟩
  rw [HT2.out.2.2]
  have hS6 := hS5.then hU6 (fun _ e => e.elim)
  refine hK.out _ _ hS6 ?_
  clear hK hU6
  refine wpAnyT_oneT (i := 6) (by kernel_rfl) rfl (by kernel_rfl) (fun K hK => ?_)
  refine step_store_all (by rfl) 70 _ _ (by rfl) g (arrB O) (by rfl) (by rfl) _ _ (HW4.out.2.2.upd hS6 (fun e => e)) (by rw [arrB_size, arrB_size, HL.out.2]; rfl) (arrB_one _) (by rw [arrB_size, HL.out.2]; kernel_rfl) ?_
  intro w7 hB7 hU7 hz7
  refine hK.out _ _ ?_
  refine wpAnyT_done (by kernel_rfl) ?_ _
  refine NoPanic.normal ?_
  have hfin := (HW4.out.1.then hS6 (fun _ e => e.elim)).then hU7 (fun q hq => .inr (by have := HG.out; omega))
  have HF := Lib.hid (And.intro hfin hB7)
  clear hfin hB7 hU7 hz7 hK hS0 hS5 hS6 hs2
  go_wp2_with fail
  refine bodyPost_ret (results_cell_row rfl _ _ g _ _ _ _ rfl HF.out.2 Tryz.underlying70 rfl (by rw [arrB_size, HL.out.2]; kernel_rfl)) rfl ⟨rfl, HF.out.1⟩
set_option maxRecDepth 100000 in
/-- A key's own by a label. -/
theorem mkey_c (key : List UInt8) (label : ByteArray) (w : World) (hk : key.length = 32) (hl : label.size ≤ 900000) :
    Calls Tryz.prog 291 #[.agg (arrB key), .string label] w fun e w' => e = .returned (.agg (arrB (tagL key label.data.toList))) ∧ Upd (fun _ => False) w w' := by
  obtain ⟨O, hO⟩ : ∃ O, tagL key label.data.toList = O := ⟨_, rfl⟩
  have hOl : O.length = 32 := by rw [← hO]; exact tagL_len _ _
  have ht := fun W => tag_c (str key) label W (by rw [str_size]; omega) hl
  rw [str_list, hO] at ht
  rw [hO]
  have HT := Lib.hid ht
  have HL := Lib.hid (And.intro hk hOl)
  clear hO hOl ht hk
  obtain ⟨g, hg⟩ : ∃ g, w.heap.size = g := ⟨_, rfl⟩
  have HG := Lib.hid hg
  go_enter Tryz.func291, Tryz.ntmps291
  go_wp2_with fail
  generalize hw2 : World.alloc _ _ = w2
  have hB2 : Blk w2 g 139 (arrB key) := by rw [← hw2, ← hg]; exact (Blk.new w _ _).alloc _
  have hO2 : Blk w2 (g + 1) 139 (arrB (List.replicate 32 0)) := by
    have h := Blk.new (w.alloc (.cells (arrB key) 139)) 139 (arrB (List.replicate 32 0))
    rw [World.size_alloc, hg] at h
    rw [← hw2]
    exact h
  have hU2 : Upd (fun _ => False) w w2 := by rw [← hw2]; exact ((Upd.refl _ w).alloc _).alloc _
  have hcv := conv_arr hB2 32 32 HL.out.1
  have HW2 := Lib.hid (And.intro hO2 hU2)
  rw [hcv]
  clear hB2 hO2 hU2 hcv hw2 hg
  go_wp2_with fail
  refine (HT.out _).mono ?_
  rintro e w3 ⟨rfl, hU3⟩
  have HU3 := Lib.hid hU3
  clear hU3
  go_wp2_with (first
    | (show wpList _ _ _ (⟨none, _, _, _, _, _⟩ :: _) _ _
       refine wpList_store_all rfl 139 _ _ rfl (g + 1) (arrB O) rfl rfl 139 _ (HW2.out.1.upd HU3.out (fun e => e)) (by rw [arrB_size, arrB_size, HL.out.2]; rfl) (arrB_one _) (by rw [arrB_size, HL.out.2]; kernel_rfl) ?_
       intro w4 hB4 hU4 hz4))
  refine bodyPost_ret (results_cell_row rfl _ _ (g + 1) _ _ _ _ rfl hB4 Tryz.underlying139 rfl (by rw [arrB_size, HL.out.2]; kernel_rfl)) rfl ⟨rfl, (HW2.out.2.then HU3.out (fun _ e => e.elim)).then hU4 (fun q hq => .inr (by have := HG.out; omega))⟩
/-! ### are two hashes the same? -/
theorem or_zero8 (a b : UInt8) : a ||| b = 0 ↔ a = 0 ∧ b = 0 := by
  constructor
  · intro h
    have h1 := congrArg UInt8.toNat h
    rw [UInt8.toNat_or] at h1
    have h2 : a.toNat = 0 ∧ b.toNat = 0 := by
      have e := Nat.or_eq_zero_iff.1 h1
      exact e
    exact ⟨UInt8.toNat.inj h2.1, UInt8.toNat.inj h2.2⟩
  · rintro ⟨rfl, rfl⟩
    rfl
theorem xor_zero8 (a b : UInt8) : a ^^^ b = 0 ↔ a = b := by
  constructor
  · intro h
    have : a ^^^ b ^^^ b = 0 ^^^ b := by rw [h]
    rw [UInt8.xor_assoc, UInt8.xor_self, UInt8.xor_zero, UInt8.zero_xor] at this
    exact this
  · rintro rfl
    exact UInt8.xor_self
theorem orB (a b : UInt8) : bits .or .u8 (a.toNat : Int) (b.toNat : Int) = ((a ||| b).toNat : Int) := by rw [u8_or_nat _ _ a.toNat_lt b.toNat_lt, UInt8.toNat_or]
set_option maxRecDepth 100000 in
set_option maxHeartbeats 1000000 in
theorem equal_c (x y : List UInt8) (w : World) (hx : x.length = 32) (hy : y.length = 32) :
    Calls Tryz.prog 173 #[.agg (arrB x), .agg (arrB y)] w fun e w' => e = .returned (.bool (decide (x = y))) ∧ Upd (fun _ => False) w w' := by
  have HL := Lib.hid (And.intro hx hy)
  obtain ⟨g, hg⟩ : ∃ g, w.heap.size = g := ⟨_, rfl⟩
  clear hx hy
  go_enter Tryz.func173, Tryz.ntmps173
  go_wp2_with fail
  generalize hw2 : World.alloc _ _ = w2
  have hB2 : Blk w2 g 70 (arrB x) := by rw [← hw2, ← hg]; exact (Blk.new w _ _).alloc _
  have hC2 : Blk w2 (g + 1) 70 (arrB y) := by
    have h := Blk.new (w.alloc (.cells (arrB x) 70)) 70 (arrB y)
    rw [World.size_alloc, hg] at h
    rw [← hw2]
    exact h
  have hU2 : Upd (fun _ => False) w w2 := by rw [← hw2]; exact ((Upd.refl _ w).alloc _).alloc _
  have HW2 := Lib.hid (And.intro hB2 (And.intro hC2 hU2))
  clear hB2 hC2 hU2 hw2 hg
  go_loopw [5, 7] (fun d u wr => ∃ (k : Nat) (z : UInt8), k ≤ 32 ∧ u = .int .i64 (k : Int) ∧ d = .int .u8 (z.toNat : Int) ∧ (z = 0 ↔ x.take k = y.take k) ∧ Upd (fun _ => False) w2 wr) (fun _ u _ => 32 - (intOf u).toNat)
  case atStart => exact ⟨0, 0, by omega, rfl, rfl, by simp, Upd.refl _ _⟩
  case round =>
    obtain ⟨k, z, hk, rfl, rfl, hz, hu⟩ := hrel
    have HZ := Lib.hid hz
    by_cases hlt : k < 32
    · have c1 := (HW2.out.1.upd hu (fun e => e)).cellB k (by rw [HL.out.1]; exact hlt)
      have c2 := (HW2.out.2.1.upd hu (fun e => e)).cellB k (by rw [HL.out.2]; exact hlt)
      obtain ⟨a, ha⟩ : ∃ a, x.getD k 0 = a := ⟨_, rfl⟩
      obtain ⟨b, hb⟩ : ∃ b, y.getD k 0 = b := ⟨_, rfl⟩
      rw [ha] at c1
      rw [hb] at c2
      have HAB := Lib.hid (And.intro ha hb)
      have HU := Lib.hid hu
      have hk1 : (k : Int) < 32 := by omega
      have e1 := xorB a b
      have e2 := orB z (a ^^^ b)
      obtain ⟨ab, hab⟩ : ∃ ab, a ^^^ b = ab := ⟨_, rfl⟩
      rw [hab] at e1 e2
      obtain ⟨z2, hz2⟩ : ∃ z2, z ||| ab = z2 := ⟨_, rfl⟩
      rw [hz2] at e2
      have HH := Lib.hid (And.intro hab hz2)
      clear ha hb hu hz hab hz2
      go_wp2_with fail
      go_quiet (fail)
      go_wp2_with fail
      go_roundw
      case rel =>
        refine ⟨k + 1, z2, by omega, by go_num, ?_, ?_, HU.out.drewN _⟩
        · first | rfl | rw [e1, e2]
        · rw [← HH.out.2, or_zero8, HZ.out, ← HH.out.1, xor_zero8, List.take_succ_eq_append_getElem (by rw [HL.out.1]; exact hlt), List.take_succ_eq_append_getElem (by rw [HL.out.2]; exact hlt)]
          have ea : x[k]'(by rw [HL.out.1]; exact hlt) = a := by rw [← HAB.out.1, List.getD_eq_getElem?_getD, List.getElem?_eq_getElem]; rfl
          have eb : y[k]'(by rw [HL.out.2]; exact hlt) = b := by rw [← HAB.out.2, List.getD_eq_getElem?_getD, List.getElem?_eq_getElem]; rfl
          rw [ea, eb]
          constructor
          · rintro ⟨h1, h2⟩; rw [h1, h2]
          · intro h
            have := List.append_inj' h rfl
            exact ⟨this.1, by simpa using this.2⟩
      case measure => simp [intOf] <;> omega
    · obtain rfl : k = 32 := by omega
      have e32 : ((32 : Nat) : Int) = 32 := rfl
      rw [e32]
      have HU := Lib.hid (HW2.out.2.2.then hu (fun _ e => e.elim))
      have hd : decide (x = y) = decide (z = 0) := by
        have h := HZ.out
        rw [List.take_of_length_le (Nat.le_of_eq HL.out.1), List.take_of_length_le (Nat.le_of_eq HL.out.2)] at h
        rw [Bool.eq_iff_iff]; simp [h]
      have hd2 : ((z.toNat : Int) == 0) = decide (z = 0) := by
        rw [Bool.eq_iff_iff]
        simp only [beq_iff_eq, decide_eq_true_eq]
        constructor
        · intro h; exact UInt8.toNat.inj (by have : z.toNat = 0 := by omega
                                             rw [this]; rfl)
        · rintro rfl; rfl
      have HD := Lib.hid (And.intro hd hd2)
      clear hu hz hd hd2 e32 hlt hk
      go_wp2_with fail
      go_ret
      refine ⟨?_, HU.out⟩
      rw [HD.out.1, ← HD.out.2]
      first | rfl | (congr 1; done)
end Go.Proofs.YtdfgmieinbmfkaaGreat
