/-
  Parts of the proof of VaultMetas: RingC, RingD, RingE, RingF, VatA, VatB.
-/
import Derived.Test.YtbhjgfibhegddaaGreatQVaultMetas16
set_option maxRecDepth 100000
set_option maxHeartbeats 16000000
namespace Go.Proofs.YtbhjgfibhegddaaGreat
section
open Go Go.RowKit
def slotPtr (e : Int × Nat) : Int × Value := (e.1, .pointer (some ⟨e.2, 0, none⟩))
structure RgE (F : Nat → Prop) (w0 w : World) (r : Nat) (master : ByteArray) (cur boot n kb : Nat) (ents : List (Int × Nat)) : Prop where
 blk : Blk w r 186 #[.string master, .int .i64 (cur : Int), .int .u32 (boot : Int), .int .u64 (n : Int), .map (some kb)]
 map : MapB (fun i : Int => Value.int .i64 i) w kb (ents.map slotPtr)
 slots : ∀ e ∈ ents, Blk w e.2 269 (slotRow 1 0 (ringK master.data.toList e.1.toNat))
 new : F r ∨ w0.heap.size ≤ r
 newK : F kb ∨ w0.heap.size ≤ kb
 newS : ∀ e ∈ ents, F e.2 ∨ w0.heap.size ≤ e.2
 upd : Upd F w0 w
theorem RgE.still {F : Nat → Prop} {w0 w w' : World} {r : Nat} {master : ByteArray} {cur boot n kb : Nat} {ents : List (Int × Nat)} (h : RgE F w0 w r master cur boot n kb ents) (hu : Upd (fun _ => False) w w') : RgE F w0 w' r master cur boot n kb ents :=
 ⟨h.blk.upd hu (fun e => e), h.map.upd hu (fun e => e), fun e he => (h.slots e he).upd hu (fun e => e), h.new, h.newK, h.newS, h.upd.then hu (fun _ e => e.elim)⟩
theorem getA_slot {ents : List (Int × Nat)} {i : Int} : getA (ents.map slotPtr) i = none ∨ ∃ e ∈ ents, e.1 = i ∧ getA (ents.map slotPtr) i = some (.pointer (some ⟨e.2, 0, none⟩)) := by
 unfold getA;cases hf : (ents.map slotPtr).find? (fun p => decide (p.1 = i)) with
 | none => exact .inl rfl
 | some p =>
   obtain ⟨e, he, rfl⟩ := List.mem_map.1 (List.mem_of_find?_eq_some hf);exact .inr ⟨e, he, by have h := List.find?_some hf; exact of_decide_eq_true h, rfl⟩
theorem built_slot : Tryz.prog.built 269 [] = some (slotRow 0 0 (List.replicate 32 0)) := by kernel_rfl
theorem ringkey_c {F : Nat → Prop} {w0 w : World} {r : Nat} {master : ByteArray} {cur boot n kb : Nat} {ents : List (Int × Nat)} (h : RgE F w0 w r master cur boot n kb ents) (i : Nat) (hi : i ≤ 1048576) (hm : master.size ≤ 64) :
 Calls Tryz.prog 108 #[.pointer (some ⟨r, 0, none⟩), .int .i64 (i : Int)] w fun e w' => e = .returned (.agg (arrB (ringK master.data.toList i))) ∧ ∃ ents', RgE F w0 w' r master cur boot n kb ents' := by
 obtain ⟨g, hg⟩ : ∃ g, w.heap.size = g := ⟨_, rfl⟩;have HG := Lib.hid hg;have HH := Lib.hid h;have HI := Lib.hid (And.intro hi hm);obtain ⟨K, hK⟩ : ∃ K, ringK master.data.toList i = K := ⟨_, rfl⟩;have hKl : K.length = 32 := by rw [← hK]; exact tagL_len _ _
 rw [hK];have HK := Lib.hid hK;have HKL := Lib.hid hKl;clear h hi hm hK hKl;go_enter Tryz.func108, Tryz.ntmps108
 go_upto_region 1 with (fail)
 generalize hw2 : World.alloc _ _ = w2;have ha2 : Blk w2 g 111 #[.pointer (some ⟨r, 0, none⟩)] := by rw [← hw2, ← hg]; exact ((Blk.new w _ _).alloc _).alloc _
 have hb2 : Blk w2 (g + 1) 3 #[.int .i64 (i : Int)] := by
  have h := (Blk.new (w.alloc (.cells #[.pointer (some ⟨r, 0, none⟩)] 111)) 3 #[.int .i64 (i : Int)]).alloc (.cells (arrB (List.replicate 32 0)) 194);rw [World.size_alloc, hg] at h;rw [← hw2];exact h
 have hc2 : Blk w2 (g + 1 + 1) 194 (arrB (List.replicate 32 0)) := by
  have h := Blk.new ((w.alloc (.cells #[.pointer (some ⟨r, 0, none⟩)] 111)).alloc (.cells #[.int .i64 (i : Int)] 3)) 194 (arrB (List.replicate 32 0));rw [World.size_alloc, World.size_alloc, hg] at h;rw [← hw2];exact h
 have hU2 : Upd (fun _ => False) w w2 := by rw [← hw2]; exact (((Upd.refl _ w).alloc _).alloc _).alloc _
 have hz2 : w2.heap.size = g + 3 := by rw [← hw2, World.size_alloc, World.size_alloc, World.size_alloc, hg]
 have HW2 := Lib.hid (And.intro ha2 (And.intro hb2 (And.intro hc2 (And.intro (HH.out.still hU2) hz2))));have HU2 := Lib.hid hU2;clear ha2 hb2 hc2 hU2 hw2 hg hz2;obtain ⟨q, hq⟩ : ∃ q, w2.heap.size = q := ⟨_, rfl⟩;have HQ := Lib.hid (show q = g + 3 by rw [← hq]; exact HW2.out.2.2.2.2);refine wp_region_noPanic ?_;refine wp_region_T (S := fun w' => Upd (fun _ => False) w2 w') (T := fun _ => false) (by kernel_rfl) ?_;have hS0 := (Upd.refl (fun _ => False) w2).drew;refine tk8 0 ?_ rfl (by intro w' hSw; have ca := (HW2.out.1.upd hSw (fun e => e)).cells1; have cb := (HW2.out.2.1.upd hSw (fun e => e)).cells1; have cr : w'.cell? ⟨r, 4, none⟩ = some (.map (some kb)) := (HW2.out.2.2.2.1.blk.upd hSw (fun e => e)).cell 4; go_split_ands; first | (go_simp; done) | (go_simp; rfl) | rfl)
 simp only [tkS];refine tk8 1 ?_ rfl (by intro w' hSw; have ca := (HW2.out.1.upd hSw (fun e => e)).cells1; have cb := (HW2.out.2.1.upd hSw (fun e => e)).cells1; have cr : w'.cell? ⟨r, 4, none⟩ = some (.map (some kb)) := (HW2.out.2.2.2.1.blk.upd hSw (fun e => e)).cell 4; go_split_ands; first | (go_simp; done) | (go_simp; rfl) | rfl)
 simp only [tkS];refine tk8 2 ?_ rfl (by intro w' hSw; have ca := (HW2.out.1.upd hSw (fun e => e)).cells1; have cb := (HW2.out.2.1.upd hSw (fun e => e)).cells1; have cr : w'.cell? ⟨r, 4, none⟩ = some (.map (some kb)) := (HW2.out.2.2.2.1.blk.upd hSw (fun e => e)).cell 4; go_split_ands; first | (go_simp; done) | (go_simp; rfl) | rfl)
 simp only [tkS];refine tk8 3 ?_ rfl (by intro w' hSw; have ca := (HW2.out.1.upd hSw (fun e => e)).cells1; have cb := (HW2.out.2.1.upd hSw (fun e => e)).cells1; have cr : w'.cell? ⟨r, 4, none⟩ = some (.map (some kb)) := (HW2.out.2.2.2.1.blk.upd hSw (fun e => e)).cell 4; go_split_ands; first | (go_simp; done) | (go_simp; rfl) | rfl)
 simp only [tkS];refine tk8 4 ?_ rfl (by intro w' hSw; have ca := (HW2.out.1.upd hSw (fun e => e)).cells1; have cb := (HW2.out.2.1.upd hSw (fun e => e)).cells1; have cr : w'.cell? ⟨r, 4, none⟩ = some (.map (some kb)) := (HW2.out.2.2.2.1.blk.upd hSw (fun e => e)).cell 4; go_split_ands; first | (go_simp; done) | (go_simp; rfl) | rfl)
 simp only [tkS];obtain ⟨V, hV⟩ : ∃ V, (getA (ents.map slotPtr) (i : Int)).getD (.pointer none) = V := ⟨_, rfl⟩;obtain ⟨B, hB⟩ : ∃ B, (getA (ents.map slotPtr) (i : Int)).isSome = B := ⟨_, rfl⟩;have hz : ∀ W : World, (zeroValue 257).run Tryz.prog W = .ok (.pointer none) W := fun W => by simp [go_sem]
 have hlk : ∀ w', Upd (fun _ => False) w2 w' → (Instr.lookup 184 (.map (some kb)) (.int .i64 (i : Int)) true).run Tryz.prog w' = .ok (.tuple #[V, .bool B]) w' := fun w' hSw => by
  have := (HW2.out.2.2.2.1.map.upd hSw (fun e => e)).run_lookup (P := Tryz.prog) keyI Tryz.underlying184 Tryz.underlying3 (i : Int) true (hz w');rw [if_pos rfl, hV, hB] at this;exact this
 refine tk8 5 ?_ rfl (by intro w' hSw; have hl := hlk _ hSw; go_split_ands; first | (go_simp; done) | (go_simp; rfl) | rfl)
 simp only [tkS];refine tk8 6 ?_;simp only [tkS];refine tk8 7 ?_;simp only [tkS];refine tk8 8 ?_;simp only [tkS];refine wpAnyT_one (i := 9) (by kernel_rfl) rfl (fun KK hK => ?_);go_simp
 have hV1 : V.oneCell' = true := by
  rw [← hV];rcases getA_slot (ents := ents) (i := (i : Int)) with e | ⟨e, -, -, h⟩
  ·rw [e]; rfl
  ·rw [h]; rfl
 have hS9 : Upd (fun _ => False) w2 (w2.alloc (.cells #[.pointer none] 257)).drew := ((Upd.refl _ w2).alloc _).drew;have hB9 : Blk (w2.alloc (.cells #[.pointer none] 257)).drew q 257 #[.pointer none] := by rw [← hq]; exact Blk.new w2 _ _
 refine hK.out _ _ hS9 ?_;clear hK;generalize hw3 : (w2.alloc (.cells #[.pointer none] 257)).drew = w3 at hS9 hB9 ⊢;refine wpAnyT_one (i := 10) (by kernel_rfl) rfl (fun KK hK => ?_);refine step_store_one (by rfl) 257 _ _ (by rfl) q 0 V (by rfl) (by rfl) _ _ #[V] hB9 (by decide) rfl hV1 (by kernel_rfl) ?_;intro w4 hB4 hU4 hz4;have hS4 : Upd (fun _ => False) w2 w4 := hS9.then hU4 (fun b hb => .inr (by omega));refine hK.out _ _ hS4 ?_;clear hK;refine tk8 11 ?_;simp only [tkS];refine wpAnyT_done (by kernel_rfl) ?_ _;refine NoPanic.normal ?_;have HW4 := Lib.hid (And.intro (HW2.out.1.upd hS4 (fun e => e)) (And.intro (HW2.out.2.1.upd hS4 (fun e => e)) (And.intro (HW2.out.2.2.1.upd hS4 (fun e => e)) (And.intro hB4 (HW2.out.2.2.2.1.still hS4)))));have HU4 := Lib.hid (HU2.out.then hS4 (fun _ e => e.elim));have hz4 : g + 3 < w4.heap.size := by have := hB4.lt; have := HQ.out; omega
 have HZ4 := Lib.hid hz4;clear hw3 hS9 hB9 hU4 hS4 hB4 hlk hz hS0 hV1 hz4 hq;have hnot : ∀ (x : Bool) (w : World), (Op.unary .not (.bool x)).run Tryz.prog w = .ok (.bool (!x)) w := fun _ _ => rfl
 rcases getA_slot (ents := ents) (i := (i : Int)) with hga | ⟨e, he, hei, hga⟩
 ·rw [hga] at hV hB
  obtain rfl : Value.pointer none = V := hV;obtain rfl : false = B := hB;have HGA := Lib.hid hga;obtain ⟨sb, hsb⟩ : ∃ sb, w4.heap.size = sb := ⟨_, rfl⟩;have HSB := Lib.hid hsb;clear hga hz4;go_upto_region 4 with (first
   | (refine wpList_build_is rfl _ _ rfl [] _ rfl built_slot ?_)
   | (refine wpList_store_one rfl 257 _ _ rfl q 0 (.pointer (some ⟨sb, 0, none⟩)) rfl (by rw [← hsb]; rfl) _ _ ((HW4.out.2.2.2.1).alloc _) (by decide) rfl (by kernel_rfl) ?_
      intro w5 hB5 hU5 hz5))
  have hqs : q < sb := by rw [← hsb]; exact HW4.out.2.2.2.1.lt
  have hn5 : Blk w5 sb 269 (slotRow 0 0 (List.replicate 32 0)) := by
   have h := Blk.new w4 269 (slotRow 0 0 (List.replicate 32 0));rw [hsb] at h;exact h.upd hU5 (by omega)
  have hu5 : Upd (fun _ => False) w w5 := (HU4.out.alloc _).then hU5 (fun b hb => .inr (by have e2 : b = q := hb; have := HQ.out; have := HG.out; omega));have hg5 : Blk w5 g 111 #[.pointer (some ⟨r, 0, none⟩)] := (HW4.out.1.alloc _).upd hU5 (by have := HQ.out; omega);have hi5 : Blk w5 (g + 1) 3 #[.int .i64 (i : Int)] := (HW4.out.2.1.alloc _).upd hU5 (by have := HQ.out; omega);have hk5 : Blk w5 (g + 1 + 1) 194 (arrB (List.replicate 32 0)) := (HW4.out.2.2.1.alloc _).upd hU5 (by have := HQ.out; omega);have hB5' : Blk w5 q 257 #[.pointer (some ⟨sb, 0, none⟩)] := hB5;have R5 := HH.out.still hu5.drew;obtain ⟨w6, hrun6, hM6, hU6, hz6⟩ := R5.map.run_update (P := Tryz.prog) keyI Tryz.underlying184 Tryz.underlying3 (i : Int) (.pointer (some ⟨sb, 0, none⟩));have ca := hg5.cells1;have cb := hi5.cells1;have cq := hB5'.cells1;have cr : w5.cell? ⟨r, 4, none⟩ = some (.map (some kb)) := R5.blk.cell 4;have nkr := R5.map.ne_blk R5.blk;have nks : kb ≠ sb := R5.map.ne_blk hn5.drew;have nkg : kb ≠ g := R5.map.ne_blk hg5.drew;have nki : kb ≠ g + 1 := R5.map.ne_blk hi5.drew;have nkq : kb ≠ q := R5.map.ne_blk hB5'.drew;have H6 := Lib.hid (And.intro (hn5.drew.upd hU6 nks.symm) (And.intro (hg5.drew.upd hU6 nkg.symm) (And.intro (hi5.drew.upd hU6 nki.symm) (And.intro (hB5'.drew.upd hU6 nkq.symm) (R5.blk.upd hU6 nkr.symm)))))
  have HN := Lib.hid (And.intro nkr nks);clear nkr nks nkg nki nkq;have H5 := Lib.hid (And.intro hn5 (And.intro hu5 (And.intro hg5 (And.intro hi5 (And.intro hk5 (And.intro hB5' (And.intro hM6 hU6)))))));clear hn5 hu5 hg5 hi5 hk5 hB5 hB5' hM6 hU6 hU5 hz5 hsb R5;go_still_tail 6, (by kernel_rfl)
  change wpList _ _ _ _ _ w5.drew;go_upto_region 5 with (fail)
  have cq6 := H6.out.2.2.2.1.cells1;have hof := once_first H6.out.2.1 H6.out.2.2.1 H6.out.2.2.2.1 H6.out.2.2.2.2 H6.out.1 List.length_replicate HI.out.1 HI.out.2 (by have := HQ.out; omega) (by have := HQ.out; omega) (by omega) (by have := HH.out.blk.lt; have := HG.out; have := HQ.out; omega);rw [HK.out] at hof;have HOF := Lib.hid hof;clear hof;go_wp2_with (first
   | (go_at_call 165
      refine HOF.out.mono ?_;rintro e w7 ⟨rfl, hB7, hU7⟩;have H7 := Lib.hid (And.intro hB7 hU7);have cq7 := (H6.out.2.2.2.1.upd hU7 (by omega)).cells1;clear hB7 hU7 cq6)
   | (refine wpList_load_part rfl _ _ rfl sb 3 rfl _ _ (bytesV K) _ H7.out.1 (slotRow_keyV _ _ _) Tryz.underlying194 rfl (by rw [bytesV_len, HKL.out]; kernel_rfl) ?_)
   | (refine wpList_store_all rfl 194 _ _ rfl (g + 1 + 1) (arrB K) rfl rfl 194 (arrB (List.replicate 32 0)) ((H5.out.2.2.2.2.1.drew.upd H5.out.2.2.2.2.2.2.2 (by have := HH.out.map.lt; have := HG.out; omega)).upd H7.out.2 (by have := HQ.out; omega)) (by rw [arrB_size, arrB_size, HKL.out]; rfl) (arrB_one _) (by rw [arrB_size, HKL.out]; kernel_rfl) ?_
      intro w8 hB8 hU8 hz8))
  have hgsz := HG.out;have hkl := HH.out.map.lt;have hrl := HH.out.blk.lt;have hqe := HQ.out;have hU : Upd (· = kb) w w8 := (((H5.out.2.1.drew.mono (G := (· = kb)) (fun _ e => e.elim)).then H5.out.2.2.2.2.2.2.2 (fun _ e => .inl e)).then H7.out.2 (fun b e => .inr (by have e2 : b = sb := e; omega))).then hU8 (fun b e => .inr (by have e2 : b = g + 1 + 1 := e; omega));have hset : setA (ents.map slotPtr) (i : Int) (.pointer (some ⟨sb, 0, none⟩)) = (ents ++ [((i : Int), sb)]).map slotPtr := by
   unfold setA;rw [if_neg ?_, List.map_append]
   ·rfl
   ·intro hmem
    obtain ⟨p, hp, hpi⟩ := List.mem_map.1 hmem;have h := HGA.out;unfold getA at h;rw [Option.map_eq_none_iff, List.find?_eq_none] at h;exact h p hp (by simp [hpi])
  have hM := H5.out.2.2.2.2.2.2.1;rw [hset] at hM;refine bodyPost_ret (results_cell_row rfl _ _ (g + 1 + 1) _ _ _ _ rfl hB8 Tryz.underlying194 rfl (by rw [arrB_size, HKL.out]; kernel_rfl)) rfl ⟨rfl, ents ++ [((i : Int), sb)], ?_⟩
  refine ⟨HH.out.blk.upd hU HN.out.1.symm, (hM.upd H7.out.2 HN.out.2).upd hU8 (by omega), fun e he => ?_, HH.out.new, HH.out.newK, fun e he => ?_, HH.out.upd.then hU (fun b e => by have e2 : b = kb := e; rw [e2]; exact HH.out.newK)⟩
  ·rcases List.mem_append.1 he with he | he
   ·exact (HH.out.slots e he).upd hU (fun e2 => HH.out.map.ne_blk (HH.out.slots e he) e2.symm)
   ·obtain rfl := List.mem_singleton.1 he
    show Blk w8 sb _ (slotRow 1 0 (ringK master.data.toList i));rw [HK.out];exact H7.out.1.upd hU8 (by omega)
  ·rcases List.mem_append.1 he with he | he
   ·exact HH.out.newS e he
   ·obtain rfl := List.mem_singleton.1 he
    exact .inr (by have := HH.out.upd.size; show w0.heap.size ≤ sb; omega)
 ·rw [hga] at hV hB
  obtain rfl : Value.pointer (some ⟨e.2, 0, none⟩) = V := hV;obtain rfl : true = B := hB;have hsl := HW4.out.2.2.2.2.slots e he;rw [hei] at hsl;have hti : ((i : Int)).toNat = i := rfl;rw [hti] at hsl;rw [HK.out] at hsl;obtain ⟨sb, hsb⟩ : ∃ sb, e.2 = sb := ⟨_, rfl⟩;rw [hsb] at hsl ⊢;have HSL := Lib.hid hsl;have cq := HW4.out.2.2.2.1.cells1;rw [hsb] at cq;clear hga hsl hsb hei hti;go_wp2_with (first
   | (go_at_call 165
      refine (once_done HSL.out).mono ?_;rintro e w5 ⟨rfl, rfl⟩)
   | (refine wpList_load_part rfl _ _ rfl sb 3 rfl _ _ (bytesV K) _ HSL.out (slotRow_keyV _ _ _) Tryz.underlying194 rfl (by rw [bytesV_len, HKL.out]; kernel_rfl) ?_)
   | (refine wpList_store_all rfl 194 _ _ rfl (g + 1 + 1) (arrB K) rfl rfl _ _ HW4.out.2.2.1 (by rw [arrB_size, arrB_size, HKL.out]; rfl) (arrB_one _) (by rw [arrB_size, HKL.out]; kernel_rfl) ?_
      intro w6 hB6 hU6 hz6))
  refine bodyPost_ret (results_cell_row rfl _ _ (g + 1 + 1) _ _ _ _ rfl hB6 Tryz.underlying194 rfl (by rw [arrB_size, HKL.out]; kernel_rfl)) rfl ⟨rfl, ents, HH.out.still (HU4.out.then hU6 (fun b hb => .inr (by have e2 : b = g + 1 + 1 := hb; have := HG.out; omega)))⟩
end
section
open Go Go.RowKit
section
variable {F : Nat → Prop} {w0 w : World} {r : Nat} {master : ByteArray} {cur boot n kb : Nat} {ents : List (Int × Nat)}
theorem rnone_c (h : RgE F w0 w r master cur boot n kb ents) : Calls Tryz.prog 105 #[.pointer (some ⟨r, 0, none⟩)] w fun e w' => e = .returned (.bool false) ∧ w' = w := by
 have cr : w.cell? ⟨r, 4, none⟩ = some (.map (some kb)) := h.blk.cell 4;have hmn : (binOp .eql 184 (.map (some kb)) (.map none)).run Tryz.prog w = .ok (.bool false) w := by first | rfl | kernel_rfl | simp [binOp, Op.equal, run_underlying Tryz.underlying184]
 clear h;go_enter Tryz.func105, Tryz.ntmps105
 go_wp2_with fail
 go_ret
 exact ⟨rfl, rfl⟩
theorem RgE.set (h : RgE F w0 w r master cur boot n kb ents) {w' : World} {cur' n' : Nat} (hu : Upd (· = r) w w') (hB : Blk w' r 186 #[.string master, .int .i64 (cur' : Int), .int .u32 (boot : Int), .int .u64 (n' : Int), .map (some kb)]) : RgE F w0 w' r master cur' boot n' kb ents := by
 refine ⟨hB, h.map.upd hu (h.map.ne_blk h.blk), fun e he => (h.slots e he).upd hu ?_, h.new, h.newK, h.newS, h.upd.then hu (fun b e => by have e2 : b = r := e; rw [e2]; exact h.new)⟩;exact fun e2 => absurd rfl ((h.slots e he).ne_ (e2 ▸ h.blk) (by decide))
end
theorem rnew_c (master : ByteArray) (cur boot : Nat) (hc : cur ≤ 1048576) (w : World) :
 Calls Tryz.prog 122 #[.string master, .int .i64 (cur : Int), .int .u32 (boot : Int)] w fun e w' => ∃ r kb, e = .returned (.tuple #[.pointer (some ⟨r, 0, none⟩), .int .i64 0]) ∧ RgE (fun _ => False) w w' r master cur boot 0 kb [] := by
 obtain ⟨C, hC⟩ : ∃ C : Int, (cur : Int) = C := ⟨_, rfl⟩;have k0 : (0 : Int) ≤ C := by omega
 have k1 : C ≤ 1048576 := by omega
 rw [hC];have HCC := Lib.hid hC;clear hC hc;have hmm := @run_makeMap Tryz.prog;have hbr : Tryz.prog.built 186 [(0, .string master), (1, .int .i64 C), (2, .int .u32 (boot : Int)), (4, .map (some w.heap.size))] = some #[.string master, .int .i64 C, .int .u32 (boot : Int), .int .u64 0, .map (some w.heap.size)] := by kernel_rfl
 go_enter Tryz.func122, Tryz.ntmps122
 go_wp2_with (first
  | (refine wpList_build_is rfl _ _ rfl [(0, .string master), (1, .int .i64 C), (2, .int .u32 (boot : Int)), (4, .map (some w.heap.size))] _ (by first | rfl | kernel_rfl) hbr ?_))
 go_ret2
 refine ⟨w.heap.size + 1, w.heap.size, rfl, ?_⟩;have h2 := Blk.new (w.alloc (.map #[] 0)) 186 #[.string master, .int .i64 C, .int .u32 (boot : Int), .int .u64 0, .map (some w.heap.size)];rw [World.size_alloc, ← HCC.out] at h2;rw [← HCC.out];exact ⟨h2, (MapB.new w).alloc _, fun e he => by simp at he, .inr (by omega), .inr (Nat.le_refl _), fun e he => by simp at he, ((Upd.refl _ w).alloc _).alloc _⟩
section
variable {F : Nat → Prop} {w0 w w' : World} {r : Nat} {master : ByteArray} {cur boot n kb : Nat} {ents : List (Int × Nat)}
def ringOwn (r kb : Nat) (ents : List (Int × Nat)) (q : Nat) : Prop := q = r ∨ q = kb ∨ ∃ e ∈ ents, e.2 = q
theorem RgE.here (h : RgE F w0 w r master cur boot n kb ents) : RgE (ringOwn r kb ents) w w r master cur boot n kb ents :=
 ⟨h.blk, h.map, h.slots, .inl (.inl rfl), .inl (.inr (.inl rfl)), fun e he => .inl (.inr (.inr ⟨e, he, rfl⟩)), Upd.refl _ _⟩
theorem RgE.own_is (h : RgE F w0 w r master cur boot n kb ents) (q : Nat) (hq : ringOwn r kb ents q) : F q ∨ w0.heap.size ≤ q := by
 rcases hq with rfl | rfl | ⟨e, he, rfl⟩
 ·exact h.new
 ·exact h.newK
 ·exact h.newS e he
theorem RgE.back {cur' n' : Nat} {ents' : List (Int × Nat)} (h : RgE F w0 w r master cur boot n kb ents) (h' : RgE (ringOwn r kb ents) w w' r master cur' boot n' kb ents') : RgE F w0 w' r master cur' boot n' kb ents' := by
 have hs := h.upd.size;refine ⟨h'.blk, h'.map, h'.slots, h.new, h.newK, fun e he => (h'.newS e he).elim (h.own_is _) (fun x => .inr (by omega)), h.upd.then h'.upd (fun q hq => h.own_is q hq)⟩
theorem RgE.own_not (h : RgE F w0 w r master cur boot n kb ents) {q : Nat} {t : TypeId} {cs : Array Value} (hB : Blk w q t cs) (n1 : t ≠ 186) (n2 : t ≠ 269) : ¬ ringOwn r kb ents q := by
 rintro (rfl | rfl | ⟨e, he, rfl⟩)
 ·exact absurd rfl (hB.ne_ h.blk n1)
 ·exact h.map.ne_blk hB rfl
 ·exact absurd rfl (hB.ne_ (h.slots e he) n2)
end
end
section
open Go Go.RowKit
theorem RgE.far_env {F : Nat → Prop} {w0 w w' : World} {r : Nat} {master : ByteArray} {cur boot n kb q : Nat} {cs : Array Value} {ents : List (Int × Nat)} (h : RgE F w0 w r master cur boot n kb ents) (hB : Blk w q 191 cs) (hu : Upd (· = q) w w') (h0 : w0.heap.size ≤ q) : RgE F w0 w' r master cur boot n kb ents := by
 have hno := h.own_not hB (by decide) (by decide);exact ⟨h.blk.upd hu (fun e => hno (.inl e.symm)), h.map.upd hu (fun e => hno (.inr (.inl e.symm))), fun e he => (h.slots e he).upd hu (fun e2 => hno (.inr (.inr ⟨e, he, e2⟩))), h.new, h.newK, h.newS, h.upd.then hu (fun b e => .inr (by have e2 : b = q := e; omega))⟩
theorem rwrap_c {F : Nat → Prop} {w0 w : World} {r : Nat} {master : ByteArray} {cur boot n kb : Nat} {ents : List (Int × Nat)} (h : RgE F w0 w r master cur boot n kb ents) (hm : master.size ≤ 64) (hc : cur ≤ 1048576) (hb : boot < 4294967296) (hn : n < 4611686018427387904) (about text : ByteArray) (ha : about.size ≤ 1000) (ht : text.size ≤ 8192) :
 Calls Tryz.prog 57 #[.pointer (some ⟨r, 0, none⟩), .string about, .string text] w fun e w' => e = .returned (.tuple #[.string (str (sealB (ringK master.data.toList cur) cur boot n about.data.toList text.data.toList)), .int .i64 0]) ∧ ∃ ents', RgE F w0 w' r master cur boot (n + 1) kb ents' := by
 obtain ⟨K, hK⟩ : ∃ K, ringK master.data.toList cur = K := ⟨_, rfl⟩;have hKl : K.length = 32 := by rw [← hK]; exact tagL_len _ _
 rw [hK];obtain ⟨D, hD⟩ : ∃ D, dataL K boot n text.data.toList = D := ⟨_, rfl⟩;have hDl : D.length = text.size := by rw [← hD, dataL_len]; rfl
 obtain ⟨T, hT⟩ : ∃ T, stampL K cur boot n about.data.toList D = T := ⟨_, rfl⟩;have hTl : T.length = 32 := by rw [← hT]; exact tagL_len _ _
 obtain ⟨x, hx⟩ : ∃ x, (⟨cur, boot, n, D, T⟩ : EnvM) = x := ⟨_, rfl⟩;have okx : EnvOk x := by rw [← hx]; exact ⟨hc, hb, by show n < _; omega, by show D.length ≤ _; omega, hTl⟩
 have hcl := fun W => sclose_c K hKl cur boot n hc hb (by omega) about text ha ht W
 rw [hD, hT, hx] at hcl;have hby := fun W => sbytes_c x okx W
 obtain ⟨O, hO⟩ : ∃ O, str (sealB K cur boot n about.data.toList text.data.toList) = O := ⟨_, rfl⟩;rw [show str (numbersB x.key x.boot x.n ++ (textN x.data ++ x.tag)) = O by rw [← hO, ← hx]; unfold sealB; rw [hD, hT]] at hby;rw [hO];have hkey : ∀ (F : Nat → Prop) (w0 W : World) (es : List (Int × Nat)), RgE F w0 W r master cur boot n kb es → Calls Tryz.prog 108 #[.pointer (some ⟨r, 0, none⟩), .int .i64 (cur : Int)] W fun e w' => e = .returned (.agg (arrB K)) ∧ ∃ ents', RgE F w0 w' r master cur boot n kb ents' := fun F w0 W es h => by
  have := ringkey_c h cur hc hm;rw [hK] at this;exact this
 obtain ⟨C, hC⟩ : ∃ C : Int, (cur : Int) = C := ⟨_, rfl⟩;obtain ⟨B, hB⟩ : ∃ C : Int, (boot : Int) = C := ⟨_, rfl⟩;obtain ⟨N, hN⟩ : ∃ C : Int, (n : Int) = C := ⟨_, rfl⟩;have n0 : (0 : Int) ≤ N := by omega
 have n1 : N < 9223372036854775808 := by omega
 rw [hC] at hkey hcl;rw [hB, hN] at hcl;have hld := aload_c r 3 (n : Int) w (h.blk.cell 3);rw [hN] at hld;have HNo := Lib.hid (rnone_c h);have HLD := Lib.hid hld;have HKY := Lib.hid hkey;have HCL := Lib.hid hcl;have HBY := Lib.hid hby;have HH := Lib.hid h;have HX := Lib.hid (And.intro hC (And.intro hB (And.intro hN (And.intro (EnvM.row_size okx.tag) hn))));have HKL := Lib.hid hKl;clear h hm hc hb hn ha ht hK hKl hD hDl hT hTl hx okx hcl hby hO hkey hC hB hN hld;go_enter Tryz.func57, Tryz.ntmps57
 go_upto_region 6 with (first
  | (go_at_call 105
     refine HNo.out.mono ?_;rintro e w1 ⟨rfl, rfl⟩)
  | (go_at_call 106
     refine HLD.out.mono ?_;rintro e w2 ⟨rfl, rfl⟩))
 refine wp_region_noPanic ?_;refine wp_region_T (S := fun w' => ∃ es, RgE F w0 w' r master cur boot n kb es) (T := fun _ => false) (by kernel_rfl) ?_;have hS0 : ∃ es, RgE F w0 w2.drew r master cur boot n kb es := ⟨ents, HH.out.still (Upd.refl _ _).drew⟩;have hcells : ∀ w', (∃ es, RgE F w0 w' r master cur boot n kb es) → w'.cell? ⟨r, 1, none⟩ = some (.int .i64 C) ∧ w'.cell? ⟨r, 2, none⟩ = some (.int .u32 B) := fun w' h => by
  obtain ⟨es, h⟩ := h;have h1 := h.blk.cell 1;have h2 := h.blk.cell 2;exact ⟨h1.trans (by rw [← HX.out.1]; rfl), h2.trans (by rw [← HX.out.2.1]; rfl)⟩
 have HCE := Lib.hid hcells;clear hcells;refine tk8 0 ?_ rfl (by intro w' hSw; obtain ⟨cb1, cb2⟩ := HCE.out _ hSw; go_split_ands; first | (go_simp; done) | (go_simp; rfl) | rfl)
 simp only [tkS];refine tk8 1 ?_ rfl (by intro w' hSw; obtain ⟨cb1, cb2⟩ := HCE.out _ hSw; go_split_ands; first | (go_simp; done) | (go_simp; rfl) | rfl)
 simp only [tkS];refine tk8 2 ?_ rfl (by intro w' hSw; obtain ⟨cb1, cb2⟩ := HCE.out _ hSw; go_split_ands; first | (go_simp; done) | (go_simp; rfl) | rfl)
 simp only [tkS];refine tk8 3 ?_ rfl (by intro w' hSw; obtain ⟨cb1, cb2⟩ := HCE.out _ hSw; go_split_ands; first | (go_simp; done) | (go_simp; rfl) | rfl)
 simp only [tkS];refine tk8 4 ?_ rfl (by intro w' hSw; obtain ⟨cb1, cb2⟩ := HCE.out _ hSw; go_split_ands; first | (go_simp; done) | (go_simp; rfl) | rfl)
 simp only [tkS];refine tk8 6 ?_ rfl (by intro w' hSw; obtain ⟨cb1, cb2⟩ := HCE.out _ hSw; go_split_ands; first | (go_simp; done) | (go_simp; rfl) | rfl)
 simp only [tkS];refine tk8 7 ?_ rfl (by intro w' hSw; obtain ⟨cb1, cb2⟩ := HCE.out _ hSw; go_split_ands; first | (go_simp; done) | (go_simp; rfl) | rfl)
 simp only [tkS];refine tk8 8 ?_ rfl (by intro w' hSw; obtain ⟨cb1, cb2⟩ := HCE.out _ hSw; go_split_ands; first | (go_simp; done) | (go_simp; rfl) | rfl)
 simp only [tkS];refine tk8 9 ?_ rfl (by intro w' hSw; obtain ⟨cb1, cb2⟩ := HCE.out _ hSw; go_split_ands; first | (go_simp; done) | (go_simp; rfl) | rfl)
 simp only [tkS];refine tk8 10 ?_ rfl (by intro w' hSw; obtain ⟨cb1, cb2⟩ := HCE.out _ hSw; go_split_ands; first | (go_simp; done) | (go_simp; rfl) | rfl)
 simp only [tkS];refine tk8 11 ?_ rfl (by intro w' hSw; obtain ⟨cb1, cb2⟩ := HCE.out _ hSw; go_split_ands; first | (go_simp; done) | (go_simp; rfl) | rfl)
 simp only [tkS];refine tk8 12 ?_ rfl (by intro w' hSw; obtain ⟨cb1, cb2⟩ := HCE.out _ hSw; go_split_ands; first | (go_simp; done) | (go_simp; rfl) | rfl)
 simp only [tkS];refine tk8 13 ?_ rfl (by intro w' hSw; obtain ⟨cb1, cb2⟩ := HCE.out _ hSw; go_split_ands; first | (go_simp; done) | (go_simp; rfl) | rfl)
 simp only [tkS];refine tk8 14 ?_ rfl (by intro w' hSw; obtain ⟨cb1, cb2⟩ := HCE.out _ hSw; go_split_ands; first | (go_simp; done) | (go_simp; rfl) | rfl)
 simp only [tkS];refine tk8 15 ?_ rfl (by intro w' hSw; obtain ⟨cb1, cb2⟩ := HCE.out _ hSw; go_split_ands; first | (go_simp; done) | (go_simp; rfl) | rfl)
 simp only [tkS];refine tk8 16 ?_ rfl (by intro w' hSw; obtain ⟨cb1, cb2⟩ := HCE.out _ hSw; go_split_ands; first | (go_simp; done) | (go_simp; rfl) | rfl)
 simp only [tkS];refine wpAnyT_two (i := 5) (j := 21) (by kernel_rfl) rfl rfl (fun KK hKK => ?_) (fun KK hKK => ?_)
 ·go_simp
  obtain ⟨es1, hE1⟩ := hS0;refine (HKY.out _ _ _ _ hE1.here).mono ?_;rintro e wk ⟨rfl, es2, hk2⟩;have hSk : ∃ es, RgE F w0 wk r master cur boot n kb es := ⟨es2, hE1.back hk2⟩;refine hKK.out _ _ hSk ?_;clear hKK;refine wpAnyT_two (i := 17) (j := 21) (by kernel_rfl) rfl rfl (fun KK hKK => ?_) (fun KK hKK => ?_)
  ·go_simp
   refine (HCL.out _).mono ?_;rintro e wc ⟨rfl, hUc⟩;have hSc : ∃ es, RgE F w0 wc r master cur boot n kb es := by
    obtain ⟨es, h⟩ := hSk;exact ⟨es, h.still hUc⟩
   refine hKK.out _ _ hSc ?_;clear hKK;refine tk8 18 ?_;simp only [tkS];refine tk8 19 ?_;simp only [tkS];refine tk8 20 ?_;simp only [tkS];refine wpAnyT_one (i := 21) (by kernel_rfl) rfl (fun KK hKK => ?_);go_simp
   generalize hwa : World.alloc wc _ = wa;have hUa : Upd (fun _ => False) wc wa := by rw [← hwa]; exact ((Upd.refl _ _).alloc _)
   have hBq : Blk wa wc.heap.size 191 (EnvM.row ⟨0, 0, 0, [], List.replicate 32 0⟩) := by rw [← hwa]; exact Blk.new _ _ _
   obtain ⟨q, hq⟩ : ∃ q, wc.heap.size = q := ⟨_, rfl⟩;rw [hq] at hBq ⊢;have hSa : ∃ es, RgE F w0 wa r master cur boot n kb es := by
    obtain ⟨es, h⟩ := hSc;exact ⟨es, h.still hUa⟩
   have hq0 : w0.heap.size ≤ q := by
    obtain ⟨es, h⟩ := hSc;rw [← hq];exact h.upd.size
   refine hKK.out _ _ hSa ?_;clear hKK hwa hq hUa;refine wpAnyT_one (i := 22) (by kernel_rfl) rfl (fun KK hKK => ?_);refine step_store_all rfl 191 _ _ rfl q x.row rfl rfl 191 _ hBq (by rw [HX.out.2.2.2.1]; exact EnvM.row_size List.length_replicate) (EnvM.row_one x) (by rw [HX.out.2.2.2.1]; kernel_rfl) ?_
   intro ws hBs hUs hzs;have hSs : ∃ es, RgE F w0 ws r master cur boot n kb es := by
    obtain ⟨es, h⟩ := hSa;exact ⟨es, h.far_env hBq hUs hq0⟩
   refine hKK.out _ _ hSs ?_;clear hKK;refine tk8 23 ?_;simp only [tkS];refine wpAnyT_done (by kernel_rfl) ?_ _;refine NoPanic.normal ?_;obtain ⟨esz, hz⟩ := hSs;have HZ := Lib.hid (And.intro hz (And.intro hBs hq0));clear hBs hUs hzs hq0 hz;go_upto_region 11 with (first
    | (refine wpList_load_all rfl _ _ rfl q rfl _ _ _ HZ.out.2.1 Tryz.underlying191 rfl (by rw [HX.out.2.2.2.1]; kernel_rfl) ?_)
    | (go_at_call 109
       refine (HBY.out _).mono ?_;rintro e wb ⟨rfl, hUb⟩;have HZB := Lib.hid (HZ.out.1.still hUb);clear hUb))
   have had := aadd_c r 3 n (by have := HX.out.2.2.2.2; omega) wb (HZB.out.blk.cell 3) (HZB.out.blk.frozen 3);have HAD := Lib.hid had;clear had;go_wp2_with fail
   refine HAD.out.mono ?_;rintro e wd ⟨rfl, rfl⟩;go_wp2_with fail
   go_ret2
   refine ⟨rfl, esz, HZB.out.set ((Upd.refl (· = r) _).setCell (p := ⟨r, 3, none⟩) (.inl rfl) _) ?_⟩;exact HZB.out.blk.set_ 3 _
  ·go_simp
   generalize hwa : World.alloc wk _ = wa;have hUa : Upd (fun _ => False) wk wa := by rw [← hwa]; exact ((Upd.refl _ _).alloc _)
   have hBq : Blk wa wk.heap.size 191 (EnvM.row ⟨0, 0, 0, [], List.replicate 32 0⟩) := by rw [← hwa]; exact Blk.new _ _ _
   obtain ⟨q, hq⟩ : ∃ q, wk.heap.size = q := ⟨_, rfl⟩;rw [hq] at hBq ⊢;have hSa : ∃ es, RgE F w0 wa r master cur boot n kb es := by
    obtain ⟨es, h⟩ := hSk;exact ⟨es, h.still hUa⟩
   have hq0 : w0.heap.size ≤ q := by
    obtain ⟨es, h⟩ := hSk;rw [← hq];exact h.upd.size
   refine hKK.out _ _ hSa ?_;clear hKK hwa hq hUa;refine wpAnyT_one (i := 17) (by kernel_rfl) rfl (fun KK hKK => ?_);go_simp
   refine (HCL.out _).mono ?_;rintro e wc ⟨rfl, hUc⟩;have hSc : ∃ es, RgE F w0 wc r master cur boot n kb es := by
    obtain ⟨es, h⟩ := hSa;exact ⟨es, h.still hUc⟩
   have hBc := hBq.upd hUc (fun e => e);refine hKK.out _ _ hSc ?_;clear hKK;refine tk8 18 ?_;simp only [tkS];refine tk8 19 ?_;simp only [tkS];refine tk8 20 ?_;simp only [tkS];refine wpAnyT_one (i := 22) (by kernel_rfl) rfl (fun KK hKK => ?_);refine step_store_all rfl 191 _ _ rfl q x.row rfl rfl 191 _ hBc (by rw [HX.out.2.2.2.1]; exact EnvM.row_size List.length_replicate) (EnvM.row_one x) (by rw [HX.out.2.2.2.1]; kernel_rfl) ?_
   intro ws hBs hUs hzs;have hSs : ∃ es, RgE F w0 ws r master cur boot n kb es := by
    obtain ⟨es, h⟩ := hSc;exact ⟨es, h.far_env hBc hUs hq0⟩
   refine hKK.out _ _ hSs ?_;clear hKK;refine tk8 23 ?_;simp only [tkS];refine wpAnyT_done (by kernel_rfl) ?_ _;refine NoPanic.normal ?_;obtain ⟨esz, hz⟩ := hSs;have HZ := Lib.hid (And.intro hz (And.intro hBs hq0));clear hBs hUs hzs hq0 hz;go_upto_region 11 with (first
    | (refine wpList_load_all rfl _ _ rfl q rfl _ _ _ HZ.out.2.1 Tryz.underlying191 rfl (by rw [HX.out.2.2.2.1]; kernel_rfl) ?_)
    | (go_at_call 109
       refine (HBY.out _).mono ?_;rintro e wb ⟨rfl, hUb⟩;have HZB := Lib.hid (HZ.out.1.still hUb);clear hUb))
   have had := aadd_c r 3 n (by have := HX.out.2.2.2.2; omega) wb (HZB.out.blk.cell 3) (HZB.out.blk.frozen 3);have HAD := Lib.hid had;clear had;go_wp2_with fail
   refine HAD.out.mono ?_;rintro e wd ⟨rfl, rfl⟩;go_wp2_with fail
   go_ret2
   refine ⟨rfl, esz, HZB.out.set ((Upd.refl (· = r) _).setCell (p := ⟨r, 3, none⟩) (.inl rfl) _) ?_⟩;exact HZB.out.blk.set_ 3 _
 ·have hSb : ∃ es, RgE F w0 w2 r master cur boot n kb es := ⟨ents, HH.out⟩
  go_simp
  generalize hwa : World.drew (World.alloc w2 _) = wa;have hUa : Upd (fun _ => False) w2 wa := by rw [← hwa]; exact ((Upd.refl _ _).alloc _).drew
  have hBq : Blk wa w2.heap.size 191 (EnvM.row ⟨0, 0, 0, [], List.replicate 32 0⟩) := by rw [← hwa]; exact Blk.new _ _ _
  obtain ⟨q, hq⟩ : ∃ q, w2.heap.size = q := ⟨_, rfl⟩;rw [hq] at hBq ⊢;have hSa : ∃ es, RgE F w0 wa r master cur boot n kb es := by
   obtain ⟨es, h⟩ := hSb;exact ⟨es, h.still hUa⟩
  have hq0 : w0.heap.size ≤ q := by
   obtain ⟨es, h⟩ := hSb;rw [← hq];exact h.upd.size
  refine hKK.out _ _ hSa ?_;clear hKK hwa hq hUa;refine wpAnyT_one (i := 5) (by kernel_rfl) rfl (fun KK hKK => ?_);go_simp
  obtain ⟨es2, hE2⟩ := hSa;refine (HKY.out _ _ _ _ hE2.here).mono ?_;rintro e wk ⟨rfl, es2, hk2⟩;have hBk := hBq.upd hk2.upd (hE2.own_not hBq (by decide) (by decide));have hSk : ∃ es, RgE F w0 wk r master cur boot n kb es := ⟨es2, hE2.back hk2⟩;refine hKK.out _ _ hSk ?_;clear hKK;refine wpAnyT_one (i := 17) (by kernel_rfl) rfl (fun KK hKK => ?_);go_simp
  refine (HCL.out _).mono ?_;rintro e wc ⟨rfl, hUc⟩;have hSc : ∃ es, RgE F w0 wc r master cur boot n kb es := by
   obtain ⟨es, h⟩ := hSk;exact ⟨es, h.still hUc⟩
  have hBc := hBk.upd hUc (fun e => e);refine hKK.out _ _ hSc ?_;clear hKK;refine tk8 18 ?_;simp only [tkS];refine tk8 19 ?_;simp only [tkS];refine tk8 20 ?_;simp only [tkS];refine wpAnyT_one (i := 22) (by kernel_rfl) rfl (fun KK hKK => ?_);refine step_store_all rfl 191 _ _ rfl q x.row rfl rfl 191 _ hBc (by rw [HX.out.2.2.2.1]; exact EnvM.row_size List.length_replicate) (EnvM.row_one x) (by rw [HX.out.2.2.2.1]; kernel_rfl) ?_
  intro ws hBs hUs hzs;have hSs : ∃ es, RgE F w0 ws r master cur boot n kb es := by
   obtain ⟨es, h⟩ := hSc;exact ⟨es, h.far_env hBc hUs hq0⟩
  refine hKK.out _ _ hSs ?_;clear hKK;refine tk8 23 ?_;simp only [tkS];refine wpAnyT_done (by kernel_rfl) ?_ _;refine NoPanic.normal ?_;obtain ⟨esz, hz⟩ := hSs;have HZ := Lib.hid (And.intro hz (And.intro hBs hq0));clear hBs hUs hzs hq0 hz;go_upto_region 11 with (first
   | (refine wpList_load_all rfl _ _ rfl q rfl _ _ _ HZ.out.2.1 Tryz.underlying191 rfl (by rw [HX.out.2.2.2.1]; kernel_rfl) ?_)
   | (go_at_call 109
      refine (HBY.out _).mono ?_;rintro e wb ⟨rfl, hUb⟩;have HZB := Lib.hid (HZ.out.1.still hUb);clear hUb))
  have had := aadd_c r 3 n (by have := HX.out.2.2.2.2; omega) wb (HZB.out.blk.cell 3) (HZB.out.blk.frozen 3);have HAD := Lib.hid had;clear had;go_wp2_with fail
  refine HAD.out.mono ?_;rintro e wd ⟨rfl, rfl⟩;go_wp2_with fail
  go_ret2
  refine ⟨rfl, esz, HZB.out.set ((Upd.refl (· = r) _).setCell (p := ⟨r, 3, none⟩) (.inl rfl) _) ?_⟩;exact HZB.out.blk.set_ 3 _
end
section
open Go Go.RowKit
theorem ropen_c {F : Nat → Prop} {w0 w : World} {r : Nat} {master : ByteArray} {cur boot n kb : Nat} {ents : List (Int × Nat)} (h : RgE F w0 w r master cur boot n kb ents) (hm : master.size ≤ 64) (hc : cur ≤ 1048576) (key b2 n2 : Nat) (hk : key ≤ cur) (hb : b2 < 4294967296) (hn : n2 < 18446744073709551616) (about : ByteArray) (ha : about.size ≤ 1000) (text : List UInt8) (ht : text.length ≤ 8192)
 (s : ByteArray) (hs : s.data.toList = sealB (ringK master.data.toList key) key b2 n2 about.data.toList text) :
 Calls Tryz.prog 123 #[.pointer (some ⟨r, 0, none⟩), .string s, .string about] w fun e w' => e = .returned (.tuple #[.string (str text), .int .i64 0]) ∧ ∃ ents', RgE F w0 w' r master cur boot n kb ents' := by
 obtain ⟨K, hK⟩ : ∃ K, ringK master.data.toList key = K := ⟨_, rfl⟩;have hKl : K.length = 32 := by rw [← hK]; exact tagL_len _ _
 rw [hK] at hs;obtain ⟨D, hD⟩ : ∃ D, dataL K b2 n2 text = D := ⟨_, rfl⟩;have hDl : D.length = text.length := by rw [← hD, dataL_len]
 obtain ⟨T, hT⟩ : ∃ T, stampL K key b2 n2 about.data.toList D = T := ⟨_, rfl⟩;have hTl : T.length = 32 := by rw [← hT]; exact tagL_len _ _
 have hback : dataL K b2 n2 D = text := by rw [← hD]; exact dataL_back _ _ _ _
 obtain ⟨x, hx⟩ : ∃ x, (⟨key, b2, n2, D, T⟩ : EnvM) = x := ⟨_, rfl⟩;have okx : EnvOk x := by rw [← hx]; exact ⟨by show key ≤ _; omega, hb, hn, by show D.length ≤ _; omega, hTl⟩
 have hrd := fun W => sread_c x okx s (by rw [hs, ← hx]; unfold sealB; rw [hD, hT]) W
 have hop := fun W => sopen_c K hKl x okx about ha (by rw [← hx]; exact hT.symm) W
 obtain ⟨O, hO⟩ : ∃ O, str text = O := ⟨_, rfl⟩;rw [show dataL K x.boot x.n x.data = text by rw [← hx]; exact hback, hO] at hop;rw [hO];have hkey : ∀ (F : Nat → Prop) (w0 W : World) (es : List (Int × Nat)), RgE F w0 W r master cur boot n kb es → Calls Tryz.prog 108 #[.pointer (some ⟨r, 0, none⟩), .int .i64 (key : Int)] W fun e w' => e = .returned (.agg (arrB K)) ∧ ∃ ents', RgE F w0 w' r master cur boot n kb ents' := fun F w0 W es h => by
  have := ringkey_c h key (by omega) hm;rw [hK] at this;exact this
 have hxk : x.key = key := by rw [← hx]
 have k1 : (key : Int) ≤ (cur : Int) := by omega
 have HNo := Lib.hid (rnone_c h);have HRD := Lib.hid hrd;have HKY := Lib.hid hkey;have HOP := Lib.hid hop;have HH := Lib.hid h;have HX := Lib.hid (And.intro hxk (EnvM.row_size okx.tag));clear h hm hc hb hn ha ht hK hKl hD hDl hT hTl hx okx hrd hop hO hkey hxk hs hback hk;go_enter Tryz.func123, Tryz.ntmps123
 go_upto_region 3 with (first
  | (go_at_call 105
     refine HNo.out.mono ?_;rintro e w1 ⟨rfl, rfl⟩))
 go_wp2_with fail
 refine (HRD.out _).mono ?_;rintro e w2 ⟨rfl, hU2⟩;obtain ⟨q, hq⟩ : ∃ q, w2.heap.size = q := ⟨_, rfl⟩;have HQ := Lib.hid hq;clear hq;have H2 := Lib.hid (HH.out.still hU2);clear hU2;go_upto_region 6 with (first
  | (refine wpList_store_all rfl 191 _ _ rfl w2.heap.size x.row rfl rfl 191 _ (Blk.new w2 _ _) (by rw [HX.out.2]; rfl) (EnvM.row_one x) (by rw [HX.out.2]; kernel_rfl) ?_
     intro w3 hB3 hU3 hz3))
 rw [HQ.out] at hB3 hU3 ⊢;have hU23 : Upd (fun _ => False) w2 w3 := ((Upd.refl _ w2).alloc _).then hU3 (fun b e => .inr (by have e2 : b = q := e; have := HQ.out; omega));have H3 := Lib.hid (And.intro (H2.out.still hU23) hB3);clear hU3 hz3 hB3 hU23;have c0 : w3.cell? ⟨q, 0, none⟩ = some (.int .i64 (key : Int)) := (H3.out.2.cell 0).trans (by have := HX.out.1; unfold EnvM.row; rw [this]; rfl)
 have cr : w3.cell? ⟨r, 1, none⟩ = some (.int .i64 (cur : Int)) := H3.out.1.blk.cell 1;have k2 : decide ((cur : Int) < (key : Int)) = false := by simpa using k1
 go_quiet (fail)
 go_upto_region 8 with (fail)
 have HS4 := Lib.hid (And.intro (H3.out.1.still ((Upd.refl _ w3).drewN nq)) (H3.out.2.drewN nq));generalize hw4 : World.drewN w3 nq = w4 at HS4 ⊢;clear hw4 c0 cr k2;refine wp_region_noPanic ?_;refine wp_region_T (S := fun w' => (∃ es, RgE F w0 w' r master cur boot n kb es) ∧ Blk w' q 191 x.row) (T := fun _ => false) (by kernel_rfl) ?_;have hS0 : (∃ es, RgE F w0 w4.drew r master cur boot n kb es) ∧ Blk w4.drew q 191 x.row := ⟨⟨ents, HS4.out.1.still (Upd.refl _ _).drew⟩, HS4.out.2.drew⟩;have HCK := Lib.hid (fun (w' : World) (h : Blk w' q 191 x.row) => (h.cell 0).trans (show x.row[0]? = some (.int .i64 (key : Int)) by have := HX.out.1; unfold EnvM.row; rw [this]; rfl))
 refine tk8 0 ?_ rfl (by intro w' hSw; have ck := HCK.out _ hSw.2; go_split_ands; first | (go_simp; done) | (go_simp; rfl) | rfl)
 simp only [tkS];refine tk8 1 ?_ rfl (by intro w' hSw; have ck := HCK.out _ hSw.2; go_split_ands; first | (go_simp; done) | (go_simp; rfl) | rfl)
 simp only [tkS];refine tk8 2 ?_ rfl (by intro w' hSw; have ck := HCK.out _ hSw.2; go_split_ands; first | (go_simp; done) | (go_simp; rfl) | rfl)
 simp only [tkS];refine wpAnyT_take8 (i := 4) (v := .agg x.row) rfl (by kernel_rfl) (by kernel_rfl) (by kernel_rfl) (by kernel_rfl) (fun _ _ _ h => h) (takes_load_all rfl (by rfl) _ _ rfl q (by rfl) _ _ _ (fun w' hSw => hSw.2) Tryz.underlying191 rfl (by rw [HX.out.2]; kernel_rfl)) (by assumption) (by kernel_rfl) ?_
 simp only [tkS];refine tk8 5 ?_;simp only [tkS];refine wpAnyT_one (i := 3) (by kernel_rfl) rfl (fun KK hKK => ?_);go_simp
 obtain ⟨⟨es, hE⟩, hBq⟩ := hS0;refine (HKY.out _ _ _ _ hE.here).mono ?_;rintro e wk ⟨rfl, es2, hk2⟩;have hSk : (∃ es, RgE F w0 wk r master cur boot n kb es) ∧ Blk wk q 191 x.row := ⟨⟨es2, hE.back hk2⟩, hBq.upd hk2.upd (hE.own_not hBq (by decide) (by decide))⟩;refine hKK.out _ _ hSk ?_;clear hKK hE hk2 hBq;refine wpAnyT_one (i := 6) (by kernel_rfl) rfl (fun KK hKK => ?_);go_simp
 refine (HOP.out _).mono ?_;rintro e wo ⟨rfl, hUo⟩;have hSo : (∃ es, RgE F w0 wo r master cur boot n kb es) ∧ Blk wo q 191 x.row := ⟨by
  obtain ⟨⟨es, h⟩, -⟩ := hSk;exact ⟨es, h.still hUo⟩, hSk.2.upd hUo (fun e => e)⟩
 refine hKK.out _ _ hSo ?_;clear hKK hSk hUo;refine tk8 7 ?_;simp only [tkS];refine tk8 8 ?_;simp only [tkS];refine tk8 9 ?_;simp only [tkS];refine tk8 10 ?_;simp only [tkS];refine wpAnyT_done (by kernel_rfl) ?_ _;refine NoPanic.normal ?_;obtain ⟨⟨es3, hz⟩, -⟩ := hSo;have HZ := Lib.hid hz;clear hz;go_wp2_with fail
 go_ret2
 exact ⟨rfl, es3, HZ.out⟩
end
section
open Go Go.RowKit
def metaRow (m : MetaM) (mv : Value) : Array Value := #[.int .i64 m.role, .int .i64 m.seen, .int .i64 m.grant, mv, .string (str m.secret)]
theorem vright_c {w : World} {A : Option Addr} {cap b off : Nat} (m : MetaM) (hA : 0 < m.mounts.length → A = some ⟨b, off, none⟩) (hb : ∀ w', Upd (fun _ => False) w w' → MtsAt w' b off m.mounts) (hl : m.mounts.length ≤ 1000000) (hcap : m.mounts.length ≤ cap) (hs : ∀ x ∈ m.mounts, x.name.length ≤ 1000000) :
 Calls Tryz.prog 41 #[.agg (metaRow m (.slice A m.mounts.length cap))] w fun e w' => e = .returned (.bool (rightM m)) ∧ Upd (fun _ => False) w w' := by
 have hpr := fun W (hW : Upd (fun _ => False) w W) => pright_c (A := A) (cap := cap) (w := W) hA (fun w' h => hb w' (hW.then h (fun _ e => e.elim))) hl hcap hs
 obtain ⟨B, hB⟩ : ∃ B, rightM m = B := ⟨_, rfl⟩;rw [hB];unfold rightM at hB;have hnil : m.mounts = [] ↔ (m.mounts.length : Int) = 0 := by
  constructor
  ·intro h; rw [h]; rfl
  ·intro h; exact List.eq_nil_of_length_eq_zero (by omega)
 obtain ⟨M, hM⟩ : ∃ M, okMounts m.mounts = M := ⟨_, rfl⟩;rw [hM] at hB hpr;obtain ⟨S, hS⟩ : ∃ S, str m.secret = S := ⟨_, rfl⟩;have hSs : S.size = m.secret.length := by rw [← hS, str_size]
 have hrow : metaRow m (.slice A m.mounts.length cap) = #[.int .i64 m.role, .int .i64 m.seen, .int .i64 m.grant, .slice A m.mounts.length cap, .string S] := by unfold metaRow; rw [hS]
 rw [hrow];obtain ⟨role, seen, grant, mts, sec⟩ := m;simp only at *
 obtain ⟨n, hn⟩ : ∃ n, mts.length = n := ⟨_, rfl⟩;rw [hn] at hnil hpr ⊢;rw [← hSs] at hB;have HPR := Lib.hid hpr;have HB := Lib.hid hB;have HNIL := Lib.hid hnil;clear hpr hB hnil hM hS hSs hrow hb hs hA hl hcap hn;go_enter Tryz.func41, Tryz.ntmps41
 go_upto_region 1 with fail
 generalize hw5 : World.alloc _ _ = w5;obtain ⟨q, hq⟩ : ∃ q, w.heap.size = q := ⟨_, rfl⟩;rw [hq];have hB5 : Blk w5 q 50 #[.int .i64 role, .int .i64 seen, .int .i64 grant, .slice A n cap, .string S] := by rw [← hw5, ← hq]; exact Blk.new w _ _
 have hU5 : Upd (fun _ => False) w w5 := by rw [← hw5]; exact (Upd.refl _ w).alloc _
 have HB5 := Lib.hid hB5;have HU5 := Lib.hid hU5;have c0 := hB5.cell 0;have c1 := hB5.cell 1;have c2 := hB5.cell 2;have c3 := hB5.cell 3;have c4 := hB5.cell 4;clear hw5 hq hB5 hU5;by_cases h0 : (n : Int) = 0
 ·have h0n : mts = [] := HNIL.out.2 h0
  have hn0 : n = 0 := by omega
  subst hn0;by_cases a1 : 0 ≤ role
  ·by_cases a2 : role ≤ 3
   ·by_cases a3 : 0 ≤ seen
    ·by_cases a4 : 0 ≤ grant
     ·by_cases a5 : (S.size : Int) ≤ 64
      ·have a5n : S.size ≤ 64 := by omega
       obtain rfl : true = B := by
        rw [← HB.out];simp [a1, a2, a3, a4, a5n, h0n]
       go_wp2_with fail
       go_ret
       exact ⟨by first | rfl | simp [a5], HU5.out⟩
      ·have a5n : ¬ S.size ≤ 64 := by omega
       obtain rfl : false = B := by
        rw [← HB.out];simp [a1, a2, a3, a4, a5n]
       go_wp2_with fail
       go_ret
       exact ⟨by first | rfl | simp [a5], HU5.out⟩
     ·obtain rfl : false = B := by
       rw [← HB.out];simp [a1, a2, a3, a4]
      go_wp2_with fail
      go_ret
      exact ⟨by first | rfl | simp [a5], HU5.out⟩
    ·obtain rfl : false = B := by
      rw [← HB.out];simp [a1, a2, a3]
     go_wp2_with fail
     go_ret
     exact ⟨by first | rfl | simp [a5], HU5.out⟩
   ·obtain rfl : false = B := by
     rw [← HB.out];simp [a1, a2]
    go_wp2_with fail
    go_ret
    exact ⟨by first | rfl | simp [a5], HU5.out⟩
  ·obtain rfl : false = B := by
    rw [← HB.out];simp [a1]
   go_wp2_with fail
   go_ret
   exact ⟨by first | rfl | simp [a5], HU5.out⟩
 ·have h0n : ¬ mts = [] := fun e => h0 (HNIL.out.1 e)
  have k0 : ((n : Int) == 0) = false := by simpa using h0
  go_wp2_with fail
  refine (HPR.out _ HU5.out).mono ?_;rintro e w6 ⟨rfl, hU6⟩;have HU6 := Lib.hid (HU5.out.then hU6 (fun _ e => e.elim));have hB6 := HB5.out.upd hU6 (fun e => e);have c0 := hB6.cell 0;have c1 := hB6.cell 1;have c2 := hB6.cell 2;have c3 := hB6.cell 3;have c4 := hB6.cell 4;clear hU6 hB6;by_cases a1 : 0 ≤ role
  ·by_cases a2 : role ≤ 3
   ·by_cases a3 : 0 ≤ seen
    ·by_cases a4 : 0 ≤ grant
     ·cases M
      ·obtain rfl : false = B := by
        rw [← HB.out];simp [a1, a2, a3, a4, h0n]
       go_wp2_with fail
       go_ret
       exact ⟨by first | rfl | simp [a5], HU6.out⟩
      ·by_cases a5 : (S.size : Int) ≤ 64
       ·have a5n : S.size ≤ 64 := by omega
        obtain rfl : true = B := by
         rw [← HB.out];simp [a1, a2, a3, a4, h0n, a5n]
        go_wp2_with fail
        go_ret
        exact ⟨by first | rfl | simp [a5], HU6.out⟩
       ·have a5n : ¬ S.size ≤ 64 := by omega
        obtain rfl : false = B := by
         rw [← HB.out];simp [a1, a2, a3, a4, h0n, a5n]
        go_wp2_with fail
        go_ret
        exact ⟨by first | rfl | simp [a5], HU6.out⟩
     ·obtain rfl : false = B := by
       rw [← HB.out];simp [a1, a2, a3, a4]
      go_wp2_with fail
      go_ret
      exact ⟨by first | rfl | simp [a5], HU6.out⟩
    ·obtain rfl : false = B := by
      rw [← HB.out];simp [a1, a2, a3]
     go_wp2_with fail
     go_ret
     exact ⟨by first | rfl | simp [a5], HU6.out⟩
   ·obtain rfl : false = B := by
     rw [← HB.out];simp [a1, a2]
    go_wp2_with fail
    go_ret
    exact ⟨by first | rfl | simp [a5], HU6.out⟩
  ·obtain rfl : false = B := by
    rw [← HB.out];simp [a1]
   go_wp2_with fail
   go_ret
   exact ⟨by first | rfl | simp [a5], HU6.out⟩
end
section
open Go Go.RowKit
theorem vplace_c (slot i : Nat) (h1 : 1 ≤ slot) (h2 : slot ≤ 1000) (h3 : i ≤ 1000) (w : World) : Calls Tryz.prog 158 #[.int .i64 (slot : Int), .int .i64 (i : Int)] w fun e w' => e = .returned (.int .i64 ((placeN slot + i : Nat) : Int)) ∧ w = w' := by
 have e0 : ((placeN slot + i : Nat) : Int) = 340 + ((slot : Int) - 1) * 80 + (i : Int) := by unfold placeN; omega
 rw [e0];have k1 : (1 : Int) ≤ (slot : Int) := by omega
 have k2 : (slot : Int) ≤ 1000 := by omega
 have k3 : (i : Int) ≤ 1000 := by omega
 clear e0;go_enter Tryz.func158, Tryz.ntmps158
 go_wp2_with fail
 go_ret
 exact ⟨rfl, rfl⟩
theorem num_step {F : Nat → Prop} {w0 W : World} {o : Nat} {acc : List UInt8} (n : Nat) (h1 : n < 18446744073709551616) (h2 : acc.length ≤ 10000) (h : OutQ F w0 W o acc) : Calls Tryz.prog 98 #[.pointer (some ⟨o, 0, none⟩), .int .u64 (n : Int)] W fun e w' => e = .returned (.tuple #[]) ∧ OutQ F w0 w' o (acc ++ putN n) := onum_q h n h1 (by omega)
theorem pairB_take {l : List PairM} {k : Nat} (hk : k < l.length) : (l.take (k + 1)).flatMap pairB = (l.take k).flatMap pairB ++ pairB l[k] := by
 rw [List.take_succ_eq_append_getElem hk, List.flatMap_append];simp
theorem ptext_c {w : World} {A : Option Addr} {cap b off : Nat} {l : List PairM} (hA : 0 < l.length → A = some ⟨b, off, none⟩) (hb : ∀ w', Upd (fun _ => False) w w' → PairsAt w' b off l) (hs : ∀ p ∈ l, p.1.length ≤ 33 ∧ p.2.length ≤ 32) (hl : l.length ≤ 48) :
 Calls Tryz.prog 102 #[.slice A l.length cap] w fun e w' => e = .returned (.string (str (pairsB l))) ∧ Upd (fun _ => False) w w' := by
 have s1 := size_u64 (n := l.length) (by omega);have htl : ∀ k, ((l.take k).flatMap pairB).length ≤ 3400 := fun k => by
  have := pairs_len (l := l.take k) (a := 33) (b := 32) (by omega) (by omega) (fun p hp => hs p (List.mem_of_mem_take hp));rw [List.length_take] at this;have h2 : (33 + 32 + 4) * min k l.length ≤ 69 * 48 := Nat.mul_le_mul_left _ (by omega);omega
 have hfin : pairsB l = putN l.length ++ (l.take l.length).flatMap pairB := by rw [List.take_length]; rfl
 have HF := Lib.hid hfin;have HB := Lib.hid hb;have HS := Lib.hid (And.intro hs htl);have HN1 := Lib.hid s1;have l1 : (l.length : Int) ≤ 48 := by omega
 clear hb hs hfin s1 htl;obtain ⟨o, ho⟩ : ∃ o, w.heap.size = o := ⟨_, rfl⟩;go_enter Tryz.func102, Tryz.ntmps102
 go_upto_region 2 with (fail)
 generalize hw7 : World.alloc _ _ = w7;have hO7 : OutQ (fun _ => False) w w7 o [] := by rw [← hw7, ← ho]; exact OutQ.start w
 have HO7 := Lib.hid hO7;clear hO7 hw7 ho;go_wp2_with fail
 refine (num_step l.length (by omega) (by simp) HO7.out).mono ?_;rintro e w8 ⟨rfl, h8⟩;rw [List.nil_append] at h8;have H8 := Lib.hid h8;clear h8;go_wp2_with fail
 go_loopw [5, 15] (fun _ u wr => ∃ k : Nat, k ≤ l.length ∧ u = .int .i64 (k : Int) ∧ OutQ (fun _ => False) w wr o (putN l.length ++ (l.take k).flatMap pairB)) (fun _ u _ => l.length - (intOf u).toNat)
 case atStart => exact ⟨0, by omega, rfl, by simpa using H8.out⟩
 case round =>
  obtain ⟨k, hk, rfl, hO⟩ := hrel;have hMl : (putN l.length ++ (l.take k).flatMap pairB).length ≤ 3500 := by
   rw [List.length_append, putN_len];have := HS.out.2 k;have := HN1.out;omega
  obtain ⟨M, hM⟩ : ∃ M, putN l.length ++ (l.take k).flatMap pairB = M := ⟨_, rfl⟩;rw [hM] at hO hMl;by_cases hlt : k < l.length
  ·obtain rfl := hA (by omega)
   have hrow := HB.out wr hO.upd k hlt;have hsm := HS.out.1 _ (List.getElem_mem hlt);have hnx : putN l.length ++ (l.take (k + 1)).flatMap pairB = M ++ pairB l[k] := by rw [pairB_take hlt, ← List.append_assoc, hM]
   obtain ⟨p, hp⟩ : ∃ p, l[k] = p := ⟨_, rfl⟩;rw [hp] at hrow hsm hnx;obtain ⟨P, hP⟩ : ∃ P, str p.1 = P := ⟨_, rfl⟩;obtain ⟨V, hV⟩ : ∃ P, str p.2 = P := ⟨_, rfl⟩;have hPl : P.data.toList = p.1 := by rw [← hP, str_list]
   have hVl : V.data.toList = p.2 := by rw [← hV, str_list]
   have hPs : P.size = p.1.length := by rw [← hP, str_size]
   have hVs : V.size = p.2.length := by rw [← hV, str_size]
   have hrw : pairRow p = [.string P, .string V] := by unfold pairRow; rw [hP, hV]
   rw [hrw] at hrow;have hpb : pairB p = textN P.data.toList ++ textN V.data.toList := by unfold pairB; rw [hPl, hVl]
   rw [hpb, ← List.append_assoc] at hnx;have tP : (textN P.data.toList).length ≤ 40 := by
    rw [textN_len, hPl];have := sizeN_small (n := p.1.length) (by omega);omega
   have HX := Lib.hid (And.intro hnx (And.intro hMl (And.intro hPs (And.intro hVs (And.intro hsm tP)))));have HR := Lib.hid hrow;have HO2 := Lib.hid hO;have j1 : (k : Int) < (l.length : Int) := by omega
   obtain ⟨g, hg⟩ : ∃ q, wr.heap.size = q := ⟨_, rfl⟩;have HQ := Lib.hid hg;clear hrow hsm hnx hp hP hV hPl hVl hPs hVs hrw hpb hO hM hMl tP;go_upto_region 6 with (first
    | (refine wpList_load_mid rfl _ _ rfl b (off + k * 2) rfl [.string P, .string V] _ HR.out Tryz.underlying55 rfl (by kernel_rfl) ?_))
   generalize hw11 : World.alloc _ _ = w11;have hB11 : Blk w11 g 55 #[.string P, .string V] := by rw [← hw11, ← HQ.out]; exact Blk.new wr _ _
   have h11 : OutQ (fun _ => False) w w11 o M := by rw [← hw11]; exact HO2.out.still ((Upd.refl _ wr).alloc _)
   obtain ⟨c0, c1⟩ := hB11.cells2;have H11 := Lib.hid (And.intro h11 hB11);clear h11 hB11 hw11 hg;obtain ⟨G, g1, g2, g3⟩ := H11.out.1.here;have HG := Lib.hid (And.intro g1 (And.intro g2 (g3 g _ _ H11.out.2 (by decide) (by decide))));clear g1 g2 g3;go_wp2_with fail
   refine (otext_q HG.out.1 P (by have := HX.out.2.2.1; have := HX.out.2.2.2.2.1; omega) (by have := HX.out.2.1; omega)).mono ?_;rintro e w13 ⟨rfl, h13⟩;obtain ⟨c0, c1⟩ := (H11.out.2.upd h13.upd HG.out.2.2).cells2;have H13 := Lib.hid h13;clear h13;go_wp2_with fail
   refine (otext_q H13.out V (by have := HX.out.2.2.2.1; have := HX.out.2.2.2.2.1; omega) (by rw [List.length_append]; have := HX.out.2.1; have := HX.out.2.2.2.2.2; omega)).mono ?_;rintro e w14 ⟨rfl, h14⟩;have H14 := Lib.hid (H11.out.1.back HG.out.2.1 h14);clear h14 c0 c1;go_wp2_with fail
   go_roundw
   case rel => exact ⟨k + 1, by omega, by go_num, by rw [HX.out.1]; exact H14.out⟩
   case measure => simp [intOf] <;> omega
  ·obtain rfl : k = l.length := by omega
   rw [← HF.out] at hM;subst hM;have hst := ostring_q hO;have HST := Lib.hid hst;have HU := Lib.hid hO.upd;clear hst hO hlt hk hMl;go_wp2_with fail
   refine HST.out.mono ?_;rintro e wz ⟨rfl, rfl⟩;go_wp2_with fail
   go_ret
   exact ⟨rfl, HU.out⟩
end
end Go.Proofs.YtbhjgfibhegddaaGreat
