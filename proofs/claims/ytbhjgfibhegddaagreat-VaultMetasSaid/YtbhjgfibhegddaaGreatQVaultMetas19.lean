/-
  Parts of the proof of VaultMetas: VatE, VatF, VatG, VatH, VatI, VatJ, VatK, VatL.
-/
import Derived.Test.YtbhjgfibhegddaaGreatQVaultMetas18
import Derived.Shelf.Strings.BuilderK
set_option maxRecDepth 100000
set_option maxHeartbeats 16000000
namespace Go.Proofs.YtbhjgfibhegddaaGreat
section
open Go Go.RowKit
theorem pairsB_drop_len {l : List PairM} (h : ∀ p ∈ l, p.1.length ≤ 33 ∧ p.2.length ≤ 32) (hl : l.length ≤ 48) (k : Nat) : ((l.drop k).flatMap pairB).length ≤ 3400 := by
 have := pairs_len (l := l.drop k) (a := 33) (b := 32) (by omega) (by omega) (fun p hp => h p (List.mem_of_mem_drop hp));rw [List.length_drop] at this;have h2 : (33 + 32 + 4) * (l.length - k) ≤ 69 * 48 := Nat.mul_le_mul_left _ (by omega);omega
theorem tpairs_c {w : World} (l : List PairM) (hs : ∀ p ∈ l, p.1.length ≤ 33 ∧ p.2.length ≤ 32) (hl : l.length ≤ 48) (txt : ByteArray) (htx : txt.data.toList = pairsB l) :
 Calls Tryz.prog 183 #[.string txt] w fun e w' => ∃ v, e = .returned (.tuple #[v, .int .i64 0]) ∧ Own w' 55 2 v l.length (pairsV l) ∧ (∀ q, v.ownBlock = some q → w.heap.size ≤ q) ∧ Upd (fun _ => False) w w' := by
 have hof := fun W => of_q txt W
 unfold pairsB at htx;rw [htx] at hof;have HOF := Lib.hid hof;have HM := Lib.hid (And.intro hs (pairsB_drop_len hs hl));have zL := size_u64 (n := l.length) (by omega);clear hof htx hs;go_enter Tryz.func183, Tryz.ntmps183
 go_wp2_with fail
 refine (HOF.out _).mono ?_;rintro e w3 ⟨y, rfl, h3⟩;have H3 := Lib.hid h3;clear h3;go_wp2_with fail
 refine (mosts 48 rfl l.length _ 0 hl (by omega) (by omega) H3.out).mono ?_;rintro e w4 ⟨rfl, h4⟩;have hr0 : 0 + sizeN l.length ≤ 10 := by omega
 obtain ⟨r0, hr⟩ : ∃ r, 0 + sizeN l.length = r := ⟨_, rfl⟩;rw [hr] at h4 hr0;have H4 := Lib.hid (And.intro h4 hr0);clear h4 hr0 hr zL;go_wp2_with fail
 go_loopw [5, 6] (fun v n wr => ∃ (k r : Nat), k ≤ l.length ∧ n = .int .i64 ((l.length - k : Nat) : Int) ∧ r ≤ 10 + 80 * k ∧ InQ (fun q => q = y) w4 wr y ⟨(l.drop k).flatMap pairB, r, 0⟩ ∧ Own wr 55 2 v k (pairsV (l.take k)) ∧ (∀ q, v.ownBlock = some q → w4.heap.size ≤ q)) (fun _ n _ => (intOf n).toNat)
 case atStart => exact ⟨0, r0, by omega, by simp, by have := H4.out.2; omega, ⟨H4.out.1.blk, .inl rfl, Upd.refl _ _⟩, Own.nil _ _ _, by simp [Value.ownBlock]⟩
 case round =>
  obtain ⟨k, r5, hk, rfl, hr, hI, hO, hv⟩ := hrel;have hyl : y < w4.heap.size := H4.out.1.blk.lt;by_cases hlt : k < l.length
  ·have hoe := HM.out.1 _ (List.getElem_mem hlt)
   have htk : pairsV (l.take (k + 1)) = pairsV (l.take k) ++ pairRow l[k] := by rw [List.take_succ_eq_append_getElem hlt, pairsV_snoc]
   have hdl := HM.out.2 (k + 1);rw [List.drop_eq_getElem_cons hlt, List.flatMap_cons] at hI;obtain ⟨rest, hrest⟩ : ∃ r, (l.drop (k + 1)).flatMap pairB = r := ⟨_, rfl⟩;rw [hrest] at hI hdl;obtain ⟨p, hp⟩ : ∃ p, l[k] = p := ⟨_, rfl⟩;rw [hp] at hoe htk hI;obtain ⟨P, V⟩ := p;simp only at hoe
   have hI2 : InQ (fun q => q = y) w4 wr y ⟨textN P ++ (textN V ++ rest), r5, 0⟩ := by
    have e : pairB (P, V) ++ rest = textN P ++ (textN V ++ rest) := by unfold pairB; simp [List.append_assoc]
    rw [e] at hI;exact hI
   have hsP := sizeN_small (n := P.length) (by omega);have hsV := sizeN_small (n := V.length) (by omega);obtain ⟨n, hn⟩ : ∃ n : Nat, l.length - k = n := ⟨_, rfl⟩;have j1 : (0 : Int) < (n : Int) := by omega
   have nle : (n : Int) ≤ 48 := by omega
   have hk48 : k < 48 := by omega
   obtain ⟨A, cap, rfl, -, -⟩ := hO.shape;have HN := Lib.hid (And.intro hn (And.intro hr (And.intro hdl (And.intro hrest (And.intro htk (And.intro hoe (And.intro hsP (And.intro hsV hyl))))))));have HK := Lib.hid (And.intro hO hv);have HI2 := Lib.hid hI2;clear hI hI2 hO hv hrest hdl htk hoe hp hr hsP hsV hyl;rw [hn];clear hn;go_wp2_with fail
   refine (texts 9223372036854775807 rfl P _ r5 (by have := HN.out.2.2.2.2.2.1; omega) (by omega) (by have := HN.out.2.1; omega) (by have := HN.out; rw [List.length_append, textN_len]; omega) HI2.out.here).mono ?_;rintro e w14 ⟨rfl, h14⟩;obtain ⟨S, hS⟩ : ∃ S, str P = S := ⟨_, rfl⟩;rw [hS];have H14 := Lib.hid h14;clear h14;go_wp2_with fail
   refine (texts 9223372036854775807 rfl V _ _ (by have := HN.out.2.2.2.2.2.1; omega) (by omega) (by have := HN.out; rw [textN_len]; omega) (by have := HN.out; omega) H14.out).mono ?_;rintro e w15 ⟨rfl, h15⟩;obtain ⟨T, hT⟩ : ∃ S, str V = S := ⟨_, rfl⟩;rw [hT];have HST := Lib.hid (And.intro hS hT);obtain ⟨r6, hr6⟩ : ∃ r6, r5 + (textN P).length + (textN V).length = r6 := ⟨_, rfl⟩;rw [hr6] at h15;have hr6b : r6 ≤ 10 + 80 * (k + 1) := by rw [← hr6, textN_len, textN_len]; have := HN.out; omega
   have hyne : ∀ q, (Value.slice A k cap).ownBlock = some q → ¬ q = y := fun q hq e => by have := HK.out.2 q hq; have := HN.out.2.2.2.2.2.2.2.2; omega
   have hUr : Upd (fun q => q = y) wr w15 := h15.upd;have H15 := Lib.hid (And.intro (HI2.out.back h15) (And.intro (HK.out.1.upd hUr hyne) hr6b));clear h15 hS hT hr6 hr6b hyne hUr;obtain ⟨ti, hi0, hz0, hz1, hz2⟩ := info_parts infoPair;go_wp2_with (first
    | (at_builtin; refine wpList_append_src rfl _ _ _ _ rfl 55 ti _ 2 32 Tryz.underlying56 hi0 hz0 hz1 hz2 rfl (.slice A k cap) k _ rfl (H15.out.2.1.alloc _) _ 1 [_, _] rfl (Src.of_news Tryz.underlying56 _ rfl) (by simp [Value.oneCell']) (by unfold maxLen; omega) (by omega) ?_; intro v2 w18 hO18 hU18 hl18 hs18
       have H18 := Lib.hid (And.intro hO18 (And.intro hU18 hl18));clear hO18 hU18 hl18 hs18))
   clear hi0 hz0 hz1 hz2;have hw15 : w4.heap.size ≤ w15.heap.size := H15.out.1.upd.size;have hU1518 : Upd (fun q => (Value.slice A k cap).ownBlock = some q) w15 w18 := ((Upd.refl _ w15).alloc _).then H18.out.2.1 (fun q e => .inl e);go_roundw
   case rel =>
    refine ⟨k + 1, r6, by omega, ?_, H15.out.2.2, ?_, ?_, fun q hq => ?_⟩
    ·have := HN.out.1
     congr 1
     omega
    ·rw [HN.out.2.2.2.1]
     exact H15.out.1.far hU1518 (fun e => by have := HK.out.2 y e; have := HN.out.2.2.2.2.2.2.2.2; omega) (fun q e => .inr (HK.out.2 q e))
    ·rw [HN.out.2.2.2.2.1]
     have := H18.out.1;rw [← HST.out.1, ← HST.out.2] at this;exact this
    ·rcases H18.out.2.2 with e | e
     ·exact HK.out.2 q (by rw [← e]; exact hq)
     ·rw [hq] at e
      have := Option.some.inj e;rw [World.size_alloc] at this;omega
   case measure => simp [intOf] <;> omega
  ·obtain rfl : k = l.length := by omega
   have hz : l.length - l.length = 0 := by omega
   rw [hz];rw [List.drop_of_length_le (Nat.le_refl _)] at hI;rw [List.take_of_length_le (Nat.le_refl _)] at hO;have hen := end_q hI;have HEN := Lib.hid hen;have HL := Lib.hid (And.intro hO (And.intro hv hI.upd));have hfz : (if (⟨([] : List PairM).flatMap pairB, r5, 0⟩ : InS).fail ≠ 0 then (⟨([] : List PairM).flatMap pairB, r5, 0⟩ : InS).fail else if (⟨([] : List PairM).flatMap pairB, r5, 0⟩ : InS).rest ≠ [] then 8 else 0) = 0 := rfl;obtain ⟨A, cap, rfl, -, -⟩ := hO.shape;clear hen hO hv hI hz hr hlt hk hyl;go_wp2_with fail
   refine HEN.out.mono ?_;rintro e wz ⟨rfl, hUz⟩;have HZ := Lib.hid hUz;clear hUz;go_wp2_with fail
   go_ret2
   refine ⟨.slice A l.length cap, rfl, HL.out.1.upd HZ.out (fun _ _ e => e), fun q hq => ?_, ?_⟩
   ·have := HL.out.2.1 q hq
    have := H4.out.1.upd.size;omega
   ·exact (H4.out.1.upd.then HL.out.2.2 (fun q e => .inr (by
     have e2 : q = y := e;rw [e2];rcases H3.out.new with e3 | e3
     ·exact e3.elim
     ·exact e3))).then HZ.out (fun _ e => e.elim)
end
section
open Go Go.RowKit
def badS (d : Dk) (k : Nat) : Bool := (List.range k).any fun i => decide ((lookL (d.now (340 + i)).data.toList).2 = 2)
theorem badS_succ (d : Dk) (k : Nat) : badS d (k + 1) = (badS d k || decide ((lookL (d.now (340 + k)).data.toList).2 = 2)) := by
 unfold badS;rw [List.range_succ, List.any_append];simp
theorem badS_mono {d : Dk} {k n : Nat} (h : badS d k = true) (hn : k ≤ n) : badS d n = true := by
 unfold badS at *;rw [List.any_eq_true] at *;obtain ⟨i, hi, h2⟩ := h;exact ⟨i, List.mem_range.2 (by have := List.mem_range.1 hi; omega), h2⟩
theorem spoilt_c {w : World} {p : Nat} {d : Dk} {F : List Nat} (hD : DiskAt w p d F) (ho : d.off = false) (hl : 500 ≤ d.lasts.length) (hs : ∀ i, i < 500 → (d.now i).size = 64) :
 Calls Tryz.prog 62 #[.pointer (some ⟨p, 0, none⟩)] w fun e w' => e = .returned (.tuple #[.bool (badS d 160), .int .i64 0]) ∧ Upd (fun _ => False) w w' := by
 obtain ⟨B, hB⟩ : ∃ B, badS d 160 = B := ⟨_, rfl⟩;rw [hB];have hrd : ∀ (W : World), Upd (fun _ => False) w W → ∀ k : Nat, k < 160 → Calls Tryz.prog 46 #[.pointer (some ⟨p, 0, none⟩), .int .i64 (340 + (k : Int))] W fun e w' => e = .returned (.tuple #[.string (d.now (340 + k)), .int .i64 0]) ∧ W = w' := fun W hW k hk => by
  have := read_c (hD.upd hW (fun _ _ e => e)) (340 + (k : Int));have e : d.read (340 + (k : Int)) = (d.now (340 + k), 0) := by
   unfold Dk.read Dk.there;rw [ho, if_neg (by simp), if_pos (by simp; omega)];congr 1
  rw [e] at this;refine this.mono ?_;rintro e w' ⟨rfl, rfl⟩;exact ⟨rfl, rfl⟩
 have HR := Lib.hid hrd;have HS := Lib.hid (And.intro hs hB);clear hrd hs hB hD;go_enter Tryz.func62, Tryz.ntmps62
 go_wp2_with fail
 go_loopw [4, 5, 6, 7, 8, 9] (fun _ _ _ _ _ u wr => ∃ k : Nat, k ≤ 160 ∧ u = .int .i64 (k : Int) ∧ Upd (fun _ => False) w wr ∧ badS d k = false) (fun _ _ _ _ _ u _ => 160 - (intOf u).toNat)
 case atStart => exact ⟨0, by omega, rfl, Upd.refl _ _, rfl⟩
 case round =>
  obtain ⟨k, hk, rfl, hU, hE⟩ := hrel;by_cases hlt : k < 160
  ·have hsz := HS.out.1 (340 + k) (by omega)
   have hst := badS_succ d k;rw [hE, Bool.false_or] at hst;have hmo := fun h : badS d (k + 1) = true => badS_mono h (show k + 1 ≤ 160 by omega)
   have hlk := fun W => look_s (d.now (340 + k)) W (by omega)
   obtain ⟨N, hN⟩ : ∃ N, d.now (340 + k) = N := ⟨_, rfl⟩;have hr := HR.out wr hU k hlt;rw [hN] at hst hlk hr;obtain ⟨a, ha⟩ : ∃ a, str (lookL N.data.toList).1 = a := ⟨_, rfl⟩;obtain ⟨z, hz⟩ : ∃ a, (lookL N.data.toList).2 = a := ⟨_, rfl⟩;rw [ha, hz] at hlk;rw [hz] at hst;have j1 : (k : Int) < 160 := by omega
   have HRD := Lib.hid hr;have HLK := Lib.hid hlk;have HX := Lib.hid (And.intro hst (And.intro hmo hU));clear hsz hst hmo hlk hr hU hE hN ha hz;go_wp2_with fail
   refine HRD.out.mono ?_;rintro e w1 ⟨rfl, rfl⟩;go_wp2_with fail
   refine (HLK.out _).mono ?_;rintro e w2 ⟨rfl, hU2⟩;have HU := Lib.hid (HX.out.2.2.then hU2 (fun _ e => e.elim));clear hU2;by_cases h2 : z = 2
   ·subst h2
    obtain rfl : true = B := by
     rw [← HS.out.2];exact (HX.out.2.1 (by rw [HX.out.1]; rfl)).symm
    go_wp2_with fail
    go_ret2
    exact ⟨rfl, HU.out⟩
   ·have h2b : (z == 2) = false := by simpa using h2
    go_wp2_with fail
    go_roundw
    case rel => exact ⟨k + 1, by omega, by go_num, HU.out, by rw [HX.out.1]; simpa using h2⟩
    case measure => simp [intOf] <;> omega
  ·obtain rfl : k = 160 := by omega
   obtain rfl : false = B := by rw [← HS.out.2, hE]
   have HU := Lib.hid hU;clear hU hE hlt hk;rw [show ((160 : Nat) : Int) = 160 from rfl];go_wp2_with fail
   go_ret2
   exact ⟨rfl, HU.out⟩
end
section
open Go Go.RowKit
theorem bsize : ∃ j, Tryz.prog.info? 139 = some j ∧ j.size = 2 := by
 obtain ⟨j, hj, hjs⟩ := Option.map_eq_some_iff.1 (show (Tryz.prog.info? 139).map (·.size) = some 2 by kernel_rfl);exact ⟨j, hj, hjs⟩
theorem blies : liesAt Tryz.prog Tryz.prog.depth 139 (2 / Tryz.prog.cellsOf 139) 0 139 1 = true := by kernel_rfl
theorem infoByte : (Tryz.prog.info? 5).map (fun i => (i.zero, i.size, i.bytes)) = some (some (.int .u8 0), 1, 1) := by kernel_rfl
theorem bcheck_used (b : Nat) (w : World) (h0 : w.cell? ⟨b, 0, none⟩ = some (.pointer (some ⟨b, 0, none⟩))) :
 Calls Tryz.prog 132 #[.pointer (some ⟨b, 0, none⟩)] w fun e w' => e = .returned (.tuple #[]) ∧ w' = w := by
 obtain ⟨j, hj, -⟩ := bsize;go_enter Tryz.func132, Tryz.ntmps132
 go_wp2
 rw [Lib.run_neq_ptr_same w _ Tryz.underlying137 hj];go_wp2
 go_end0
 exact ⟨rfl, rfl⟩
theorem bcheck_fresh (b : Nat) (w : World) (h0 : w.cell? ⟨b, 0, none⟩ = some (.pointer none)) (hsh : w.shape? b = some (139, 2)) (hfz : w.frozen? ⟨b, 0, none⟩ = false) :
 Calls Tryz.prog 132 #[.pointer (some ⟨b, 0, none⟩)] w fun e w' => e = .returned (.tuple #[]) ∧ w' = w.setCell ⟨b, 0, none⟩ (.pointer (some ⟨b, 0, none⟩)) := by
 obtain ⟨j, hj, hjs⟩ := bsize;go_enter Tryz.func132, Tryz.ntmps132
 go_wp2
 rw [Lib.run_to_unsafe w ⟨b, 0, none⟩ Tryz.underlying137 Tryz.underlying296 hj (by rw [hjs]; decide) hsh (Nat.zero_lt_succ 1)]
 simp only [Result.andThen];rw [Oper.upon_value];go_wp2
 rw [run_callFunc_extern Tryz.func187 (by kernel_rfl) (by kernel_rfl) (by kernel_rfl) (e := Extern.AbiNoEscape.same) (by kernel_rfl)];rw [Lib.run_noEscape];simp only [Result.andThen];rw [Oper.upon_value];go_wp2
 rw [Lib.run_from_unsafe w ⟨b, 0, none⟩ Tryz.underlying296 Tryz.underlying137 hj hsh blies];simp only [Result.andThen];rw [Oper.upon_value];go_wp2
 go_end0
 exact ⟨rfl, rfl⟩
theorem bcheck_c (B b : Nat) (bs : List Value) (w : World) (h : Lib.IsBuilder 139 5 B b bs w) :
 Calls Tryz.prog 132 #[.pointer (some ⟨b, 0, none⟩)] w fun e w' => e = .returned (.tuple #[]) ∧ (Lib.BuilderAt 139 5 B b (.pointer (some ⟨b, 0, none⟩)) bs w' ∧ Below B w w') := by
 rcases h with h | h
 ·refine (bcheck_fresh b w h.cell0 h.shape h.frozen0).mono ?_
  rintro e w' ⟨rfl, rfl⟩;exact ⟨rfl, h.used _, (Below.refl B w).setCell (p := ⟨b, 0, none⟩) h.1 _⟩
 ·refine (bcheck_used b w h.cell0).mono ?_
  rintro e w' ⟨rfl, rfl⟩;exact ⟨rfl, h, Below.refl B _⟩
theorem bwrite_c (B b : Nat) (bs : List Value) (s : ByteArray) (w : World) (h : Lib.IsBuilder 139 5 B b bs w) (hlen : bs.length + s.size ≤ 140737488355328) (hBw : B ≤ w.heap.size) :
 Calls Tryz.prog 72 #[.pointer (some ⟨b, 0, none⟩), .string s] w fun e w' => e = .returned (.tuple #[.int .i64 s.size, .nilIface]) ∧ (Lib.BuilderAt 139 5 B b (.pointer (some ⟨b, 0, none⟩)) (bs ++ Lib.strCells s) w' ∧ Below B w w') := by
 obtain ⟨i0, hi, hz0, hz1, hz2⟩ := info_parts infoByte;have HC := Lib.hid (bcheck_c B b bs w h);clear h;go_enter Tryz.func72, Tryz.ntmps72
 go_wp2_with fail
 refine HC.out.mono ?_;rintro e w1 ⟨rfl, h1, hb1⟩;obtain ⟨hB, v, hbk, hown, hne⟩ := h1;have c0 : w1.cell? ⟨b, 0, none⟩ = some (.pointer (some ⟨b, 0, none⟩)) := by rw [Lib.cell_of_heap hbk]; rfl
 have c1 : w1.cell? ⟨b, 1, none⟩ = some v := by rw [Lib.cell_of_heap hbk]; rfl
 go_wp2_with (at_builtin; refine Lib.wpList_append_own_string _ rfl _ _ 89 9 rfl B 5 i0 Tryz.underlying89 Tryz.underlying9 hi hz0 hz1 hz2 _ _ _ rfl hown s rfl ?c3 ?c4 ?c5 ?_)
 case c3 => unfold maxLen; omega
 case c4 => omega
 case c5 => have := hb1.size; omega
 intro v' w2 hown' hgrow _;have hlt : b < w1.heap.size := by
  rcases Nat.lt_or_ge b w1.heap.size with h' | h'
  ·exact h'
  ·simp [Array.getElem?_eq_none h'] at hbk
 have hb2 : w2.heap[b]? = some (.cells #[.pointer (some ⟨b, 0, none⟩), v] 139 (0, 0)) := by
  rw [hgrow.block b hlt (fun e => hne e.symm)];exact hbk
 have d0 : w2.cell? ⟨b, 0, none⟩ = some (.pointer (some ⟨b, 0, none⟩)) := by rw [Lib.cell_of_heap hb2]; rfl
 have d1 : w2.cell? ⟨b, 1, none⟩ = some v := by rw [Lib.cell_of_heap hb2]; rfl
 have f1 : w2.frozen? ⟨b, 1, none⟩ = false := Lib.frozen_of_heap hb2 1;obtain ⟨ao, n', cap, rfl⟩ : ∃ ao n' cap, v' = .slice ao n' cap := by
  rcases hown'.2 with ⟨hv, _⟩ | ⟨g, cap, cur, hv, _⟩
  ·exact ⟨_, _, _, hv⟩
  ·exact ⟨_, _, _, hv⟩
 go_wp2
 go_ret2
 refine ⟨rfl, ?_, ?_⟩
 ·exact Lib.BuilderAt.put (T := 139) (e := 5) hB hb2 (bs' := bs ++ Lib.strCells s) (by simpa [Lib.strCells_length] using hown') (by decide)
 ·exact (hb1.grown hgrow (by have := hb1.size; omega) (fun k hk => (hown.lt k hk).1)).setCell (p := ⟨b, 1, none⟩) hB _
end
section
open Go Go.RowKit
theorem strCells_is (s : ByteArray) : Lib.strCells s = Lib.byteCells s.data.toList := rfl
theorem pieces_take (t : List UInt8) (k : Nat) : (t.take (56 * k)) ++ pieceN t k = t.take (56 * (k + 1)) := by
 unfold pieceN;rw [Nat.mul_succ, List.take_add]
theorem BuilderAt.upd {T e : TypeId} {B b : Nat} {p : Value} {bs : List Value} {w w' : World} (h : Lib.BuilderAt T e B b p bs w) (hu : Upd (fun _ => False) w w') : Lib.BuilderAt T e B b p bs w' := by
 obtain ⟨h1, v, h2, h3, h4⟩ := h;have hbl : b < w.heap.size := (Array.getElem?_eq_some_iff.1 h2).1;refine ⟨h1, v, (hu.block b hbl (fun e => e)).trans h2, ⟨h3.1, ?_⟩, h4⟩;rcases h3.2 with ⟨e1, e2⟩ | ⟨g, cap, cur, e1, e2, e3, e4⟩
 ·exact .inl ⟨e1, e2⟩
 ·exact .inr ⟨g, cap, cur, e1, e2, (hu.block g (Array.getElem?_eq_some_iff.1 e3).1 (fun e => e)).trans e3, e4⟩
theorem IsBuilder.upd {T e : TypeId} {B b : Nat} {bs : List Value} {w w' : World} (h : Lib.IsBuilder T e B b bs w) (hu : Upd (fun _ => False) w w') : Lib.IsBuilder T e B b bs w' :=
 h.elim (fun x => .inl (BuilderAt.upd x hu)) (fun x => .inr (BuilderAt.upd x hu))
theorem rslot_c {w : World} {p : Nat} {d : Dk} {F : List Nat} (hD : DiskAt w p d F) (ho : d.off = false) (hl : d.lasts.length = 500) (slot : Nat) (h1 : 1 ≤ slot) (h2 : slot ≤ 2) (t : List UInt8) (ht : slotHas d slot t) (n1 : 1 ≤ slotN t) (n2 : slotN t ≤ 80) :
 Calls Tryz.prog 182 #[.pointer (some ⟨p, 0, none⟩), .int .i64 (slot : Int)] w fun e w' => e = .returned (.tuple #[.string (str t), .bool true]) ∧ Upd (fun _ => False) w w' := by
 have hpl : placeN slot + 80 ≤ 500 := by unfold placeN; omega
 have hrd : ∀ (W : World), Upd (fun _ => False) w W → ∀ k : Nat, k < slotN t → Calls Tryz.prog 46 #[.pointer (some ⟨p, 0, none⟩), .int .i64 ((placeN slot + k : Nat) : Int)] W fun e w' => e = .returned (.tuple #[.string (str (closeL (slotBody t k))), .int .i64 0]) ∧ W = w' := fun W hW k hk => by
  have := read_c (hD.upd hW (fun _ _ e => e)) ((placeN slot + k : Nat) : Int);have e : d.read ((placeN slot + k : Nat) : Int) = (d.now (placeN slot + k), 0) := by
   unfold Dk.read Dk.there;rw [ho, if_neg (by simp), if_pos (by simp; omega)];congr 1
  rw [e, ht k hk] at this;refine this.mono ?_;rintro e w' ⟨rfl, rfl⟩;exact ⟨rfl, rfl⟩
 have hlk : ∀ W k, Calls Tryz.prog 47 #[.string (str (closeL (slotBody t k)))] W fun e w' => e = .returned (.tuple #[.string (str (slotBody t k)), .int .i64 1]) ∧ Upd (fun _ => False) W w' := fun W k => by
  have := look_s (str (closeL (slotBody t k))) W (by rw [str_size, closeL, List.length_append, slotBody_len, leB_len]; omega);rw [look_slot t k n1 n2] at this;exact this
 have hpc := fun (W : World) (k : Nat) (hk : k ≤ 1000) => vplace_c slot k h1 (by omega) hk W
 have HR := Lib.hid hrd;have HL := Lib.hid hlk;have HP := Lib.hid hpc;have HN := Lib.hid (And.intro n1 n2);clear hrd hlk hpc hD ht ho hl hpl;obtain ⟨c, hc⟩ : ∃ c, w.heap.size = c := ⟨_, rfl⟩;go_enter Tryz.func182, Tryz.ntmps182
 go_upto_region 2 with fail
 generalize hw2 : World.alloc _ _ = w2;have hB2 : Lib.IsBuilder 139 5 c c (Lib.byteCells []) w2 := by
  refine .inl ⟨Nat.le_refl _, .slice none 0 0, ?_, ⟨rfl, .inl ⟨rfl, rfl⟩⟩, by simp [Value.ownBlock]⟩;rw [← hw2, ← hc];exact Blk.new w _ _
 have hU2 : Below c w w2 := by rw [← hw2, ← hc]; exact (Below.refl _ w).alloc (Nat.le_refl _) _
 have H2 := Lib.hid (And.intro hB2 hU2);have HC := Lib.hid hc;clear hB2 hU2 hw2 hc;go_wp2_with fail
 go_loopw [7, 8, 9, 10, 11, 12] (fun i n _ _ _ _ wr => ∃ k : Nat, k ≤ slotN t ∧ i = .int .i64 (k : Int) ∧ n = .int .i64 ((if k = 0 then 1 else slotN t : Nat) : Int) ∧ Lib.IsBuilder 139 5 c c (Lib.byteCells (t.take (56 * k))) wr ∧ Below c w wr) (fun i _ _ _ _ _ _ => 200 - (intOf i).toNat)
 case atStart => exact ⟨0, by omega, rfl, rfl, by simpa using H2.out.1, H2.out.2⟩
 case round =>
  obtain ⟨k, hk, rfl, rfl, hB, hU⟩ := hrel;by_cases hlt : k < slotN t
  ·have j1 : (k : Int) < ((if k = 0 then 1 else slotN t : Nat) : Int) := by split <;> omega
   obtain ⟨M, hM⟩ : ∃ M : Int, ((if k = 0 then 1 else slotN t : Nat) : Int) = M := ⟨_, rfl⟩;rw [hM] at j1 ⊢;have hUw : Upd (fun _ => False) w wr := Upd.of_below (by rw [HC.out]; exact hU) _;have hbody : slotBody t k = UInt8.ofNat k :: UInt8.ofNat (slotN t) :: UInt8.ofNat (pieceN t k).length :: 0 :: (pieceN t k ++ List.replicate (56 - (pieceN t k).length) 0) := rfl;have hpl := pieceN_len t k;have hbl := slotBody_len t k;obtain ⟨b, hb⟩ : ∃ b, str (slotBody t k) = b := ⟨_, rfl⟩;have hlk2 := HL.out;have hsz : b.size = 60 := by rw [← hb, str_size]; exact hbl
   have g0 : (b[0]'(by omega)).toNat = k := by
    have h := sget b 0 (by omega);rw [← h, ← hb, str_list, hbody];simp
    omega
   have g1 : (b[1]'(by omega)).toNat = slotN t := by
    have h := sget b 1 (by omega);rw [← h, ← hb, str_list, hbody];have := HN.out;simp
    omega
   have g2 : (b[2]'(by omega)).toNat = (pieceN t k).length := by
    have h := sget b 2 (by omega);rw [← h, ← hb, str_list, hbody];simp
    omega
   have hex : (b.extract 4 (4 + (pieceN t k).length)).data.toList = pieceN t k := by
    rw [extract_str_from, str_list, ← hb, str_list, hbody, Nat.add_sub_cancel_left];show List.take _ (pieceN t k ++ _) = _;rw [List.take_left]
   obtain ⟨PL, hPL⟩ : ∃ PL, (pieceN t k).length = PL := ⟨_, rfl⟩;obtain ⟨SN, hSN⟩ : ∃ SN, slotN t = SN := ⟨_, rfl⟩;rw [hPL] at g2 hex hpl;obtain ⟨X, hX⟩ : ∃ X, b.extract 4 (4 + PL) = X := ⟨_, rfl⟩;rw [hX] at hex;have hXs : X.size = PL := by
    have := congrArg List.length hex;rw [hPL] at this;simpa using this
   have hM0 : (Lib.byteCells (t.take (56 * k))).length + X.size ≤ 140737488355328 := by
    rw [Lib.byteCells_length, List.length_take];have := HN.out;omega
   have hcs : c ≤ wr.heap.size := by rw [← HC.out]; exact hUw.size
   have hrd2 := HR.out wr hUw k hlt;obtain ⟨s64, hs64⟩ : ∃ x, str (closeL (slotBody t k)) = x := ⟨_, rfl⟩;have hlk3 := fun W => HL.out W k
   rw [hs64] at hrd2 hlk3;rw [hb] at hlk3;have hpp := HP.out wr k (by have := HN.out.2; omega);have hnx : Lib.byteCells (t.take (56 * k)) ++ Lib.strCells X = Lib.byteCells (t.take (56 * (k + 1))) := by
    rw [strCells_is, hex, ← pieces_take];unfold Lib.byteCells;rw [List.map_append]
   have HXX := Lib.hid hX;have HLT := Lib.hid hlt;have HRD := Lib.hid hrd2;have HLK := Lib.hid hlk3;have HPP := Lib.hid hpp;have HX := Lib.hid (And.intro hB (And.intro hU (And.intro hUw (And.intro hnx (And.intro hM0 (And.intro hcs hSN))))));have k0 : (0 : Int) < (b.size : Int) := by omega
   have k60 : (b.size : Int) = 60 := by omega
   have i0 : 0 < b.size := by omega
   have i1 : 1 < b.size := by omega
   have i2 : 2 < b.size := by omega
   have hne : ((k : Int) != (k : Int)) = false := by simp
   rw [hSN] at g1;have hsn : SN ≤ 80 := by rw [← hSN]; exact HN.out.2
   clear hB hU hUw hnx hM0 hcs hrd2 hlk3 hpp hs64 hb hbody hbl hlk2 hX hXs hex hPL hSN hlt;go_wp2_with fail
   refine HPP.out.mono ?_;rintro e w3 ⟨rfl, rfl⟩;go_wp2_with fail
   refine HRD.out.mono ?_;rintro e w3 ⟨rfl, rfl⟩;go_wp2_with fail
   refine (HLK.out _).mono ?_;rintro e w4 ⟨rfl, hU4⟩;have H4 := Lib.hid hU4;clear hU4;go_wp2_with fail
   rw [HXX.out];refine (bwrite_c c c _ X w4 (IsBuilder.upd HX.out.1 H4.out) HX.out.2.2.2.2.1 (by have := HX.out.2.2.2.2.2.1; have := H4.out.size; omega)).mono ?_;rintro e w5 ⟨rfl, hB5, hU5⟩;have hU5' : Below c w w5 := (HX.out.2.1.trans (((H4.out.below (fun _ e => e.elim)).mono HX.out.2.2.2.2.2.1))).trans hU5;rw [HX.out.2.2.2.1] at hB5;have H5 := Lib.hid (And.intro hB5 hU5');clear hB5 hU5';go_wp2_with fail
   go_roundw
   case rel =>
    refine ⟨k + 1, HLT.out, by go_num, ?_, .inr H5.out.1, H5.out.2⟩;rw [if_neg (Nat.succ_ne_zero k), HX.out.2.2.2.2.2.2, show min (SN : Int) 80 = (SN : Int) by omega]
   case measure => simp [intOf] <;> omega
  ·obtain rfl : k = slotN t := by omega
   have hM : ((if slotN t = 0 then 1 else slotN t : Nat) : Int) = (slotN t : Int) := by rw [if_neg (by have := HN.out.1; omega)]
   rw [hM];have ht : t.take (56 * slotN t) = t := List.take_of_length_le (by unfold slotN; omega);rw [ht] at hB;have hst := Tryz.Builder_String_any c c t wr hB (by have := hU.size; have := (show c ≤ w.heap.size by rw [HC.out]; exact Nat.le_refl _); omega);have HST := Lib.hid hst;have HU := Lib.hid hU;clear hst hU hB hM ht hlt hk;go_wp2_with fail
   refine HST.out.mono ?_;rintro e w6 ⟨rfl, hU6⟩;have H6 := Lib.hid (HU.out.trans hU6);clear hU6;go_wp2_with fail
   go_ret2
   exact ⟨rfl, Upd.of_below (by rw [HC.out]; exact H6.out) _⟩
end
section
open Go Go.RowKit
theorem repB_list (c : UInt8) (n : Nat) : (repB c n).data.toList = List.replicate n c := by
 unfold repB;show Lib.repeatL [c] n = _;induction n with
 | zero => rfl
 | succ n ih => rw [List.replicate_succ, ← ih]; rfl
theorem slot_parts (t : List UInt8) (k : Nat) : str [UInt8.ofNat k, UInt8.ofNat (slotN t), UInt8.ofNat (pieceN t k).length, 0] ++ str (pieceN t k) ++ repB 0 (56 - (pieceN t k).length) = str (slotBody t k) := by
 have : repB 0 (56 - (pieceN t k).length) = str (List.replicate (56 - (pieceN t k).length) 0) := by rw [← repB_list, str_eta]
 rw [this, str_app, str_app];rfl
theorem wslot_c {w : World} {p : Nat} {d : Dk} {F : List Nat} (hD : DiskAt w p d F) (hp : d.pend + 200 < 1000000) (slot : Nat) (h1 : 1 ≤ slot) (h2 : slot ≤ 2) (s : ByteArray) (hs : s.size ≤ 4400) :
 Calls Tryz.prog 103 #[.pointer (some ⟨p, 0, none⟩), .int .i64 (slot : Int), .string s] w fun e w' => e = .returned (.int .i64 (writeSlotD d slot s.data.toList).2) ∧ ∃ F', Left w w' p (writeSlotD d slot s.data.toList).1 F F' := by
 have hlen : s.data.toList.length = s.size := by simp
 have hwf := hD.wf;obtain ⟨t, ht⟩ : ∃ t, s.data.toList = t := ⟨_, rfl⟩;rw [ht] at hlen ⊢;have n80 : slotN t ≤ 80 := slotN_le (by omega);have hsn : slotN t = (s.size + 55) / 56 := by unfold slotN; rw [hlen]
 have hdiv : ((s.size : Int) + 56 - 1) / 56 = (slotN t : Int) := by rw [hsn]; omega
 have hcell : Hid (∀ k, s.extract (k * 56) (min (((k : Int) + 1) * 56) (s.size : Int)).toNat = str (pieceN t k)) := fun k => by
  rw [extract_str_from, ht];unfold pieceN;rw [Nat.mul_comm k 56];congr 1
  by_cases hin : 56 * k + 56 ≤ s.size
  ·rw [show (min (((k : Int) + 1) * 56) (s.size : Int)).toNat - 56 * k = 56 by omega]
  ·rw [show (min (((k : Int) + 1) * 56) (s.size : Int)).toNat - 56 * k = s.size - 56 * k by omega, List.take_of_length_le (by rw [List.length_drop]; omega), List.take_of_length_le (by rw [List.length_drop]; omega)]
 have hWD : Hid (writeSlotD d slot t = if (writeB d (placeN slot) (slotSecs t) (slotN t)).2 ≠ 0 then writeB d (placeN slot) (slotSecs t) (slotN t) else (writeB d (placeN slot) (slotSecs t) (slotN t)).1.sync) := by
  show writeSlotD _ _ _ = _;unfold writeSlotD;rw [if_neg (by omega)]
 have hsame := Lib.hid (fun k => writeB_same d (placeN slot) (slotSecs t) hwf.len k);have HSZ := Lib.hid (And.intro hsn (And.intro n80 hlen));have HD := Lib.hid hD;have k80 : (slotN t : Int) ≤ 80 := by omega
 clear hwf hD hlen hsn ht;go_enter Tryz.func103, Tryz.ntmps103
 go_wp2_with fail
 rw [hdiv];go_loopw [8, 9, 10, 11, 12, 21] (fun _ _ _ _ _ u wr => ∃ (k : Nat) (Fk : List Nat), k ≤ slotN t ∧ u = .int .i64 (k : Int) ∧ (writeB d (placeN slot) (slotSecs t) k).2 = 0 ∧ Left w wr p (writeB d (placeN slot) (slotSecs t) k).1 F Fk) (fun _ _ _ _ _ u _ => slotN t - (intOf u).toNat)
 case atStart => exact ⟨0, F, by omega, rfl, rfl, Left.refl HD.out⟩
 case round =>
  obtain ⟨k, Fk, hk, rfl, hE, hL⟩ := hrel;by_cases hlt : k < slotN t
  ·have hps := HSZ.out.1
   have hk56 : 56 * k ≤ s.size := by omega
   have hpl := pieceN_len t k;have hps2 : (str (pieceN t k)).size = (pieceN t k).length := str_size _;have hsp := slot_parts t k;have hcl := hcell k;obtain ⟨P, hP⟩ : ∃ P, str (pieceN t k) = P := ⟨_, rfl⟩;obtain ⟨PL, hPL⟩ : ∃ n, (pieceN t k).length = n := ⟨_, rfl⟩;rw [hP, hPL] at hps2;rw [hP] at hcl;rw [hP, hPL] at hsp;rw [hPL] at hpl;obtain ⟨SN, hSN⟩ : ∃ n, slotN t = n := ⟨_, rfl⟩;rw [hSN] at hsp hk hlt k80 ⊢;obtain ⟨Z, hZ⟩ : ∃ Z, repB 0 (56 - PL) = Z := ⟨_, rfl⟩;obtain ⟨H4, hH4⟩ : ∃ H, str [UInt8.ofNat k, UInt8.ofNat SN, UInt8.ofNat PL, 0] = H := ⟨_, rfl⟩;rw [hZ, hH4] at hsp;have hZs : Z.size = 56 - PL := by
    rw [← hZ, show (repB 0 (56 - PL)).size = (repB 0 (56 - PL)).data.toList.length by simp, repB_list, List.length_replicate]
   have hHs : H4.size = 4 := by rw [← hH4, str_size]; rfl
   obtain ⟨BD, hBD⟩ : ∃ b, str (slotBody t k) = b := ⟨_, rfl⟩;rw [hBD] at hsp;have hBs : BD.size = 60 := by rw [← hBD, str_size, slotBody_len]
   have hclose := fun W => Close_c BD W hBs
   rw [← hBD, str_list, hBD] at hclose;obtain ⟨X, hX⟩ : ∃ x, str (closeL (slotBody t k)) = x := ⟨_, rfl⟩;rw [hX] at hclose;have hrep := fun W => rep_c 0 (56 - PL) W (by omega)
   rw [hZ] at hrep;have hsec : (slotSecs t).getD k ByteArray.empty = X := by rw [slotSecs_get t k (by omega), hX]
   have hpc := fun (W : World) => vplace_c slot k h1 (by omega) (by omega) W
   have ho4 := run_to_string (own_bytes wr [UInt8.ofNat k, UInt8.ofNat SN, UInt8.ofNat PL, 0] (by simp));rw [hH4] at ho4;have hcv : (convert 89 9 (.slice (some ⟨wr.heap.size, 0, none⟩) 4 4)).run Tryz.prog (wr.alloc (.cells #[.int .u8 (k : Int), .int .u8 (SN : Int), .int .u8 (PL : Int), .int .u8 0] 5)) = .ok (.string H4) (wr.alloc (.cells #[.int .u8 (k : Int), .int .u8 (SN : Int), .int .u8 (PL : Int), .int .u8 0] 5)) := by
    have e : (bytesV [UInt8.ofNat k, UInt8.ofNat SN, UInt8.ofNat PL, 0]).toArray = #[.int .u8 (k : Int), .int .u8 (SN : Int), .int .u8 (PL : Int), .int .u8 0] := by
     unfold bytesV;simp
     omega
    rw [e] at ho4;exact ho4
   have cs1 : (9223372036854775807 < H4.size + P.size) = False := eq_false (by omega);obtain ⟨Q, hQ⟩ : ∃ Q, H4 ++ P = Q := ⟨_, rfl⟩;have hQs : Q.size = 4 + PL := by rw [← hQ, ByteArray.size_append]; omega
   have cs2 : (9223372036854775807 < Q.size + Z.size) = False := eq_false (by omega);have e60 : (60 : Int) - (Q.size : Int) = ((56 - PL : Nat) : Int) := by omega
   rw [← e60] at hrep;rw [hQ] at hsp;have HCL := Lib.hid (And.intro hcl (And.intro hsp hsec));have HCLO := Lib.hid hclose;have HREP := Lib.hid hrep;have HPC := Lib.hid hpc;have HQ := Lib.hid hQ;have HQs := Lib.hid hQs;have HK := Lib.hid (And.intro hk (And.intro hlt (And.intro hSN (And.intro hE hL))));have j1 : (k : Int) < (SN : Int) := by omega
   have j2 : (PL : Int) ≤ 56 := by omega
   clear hQ hQs e60 hcl hsp hsec hclose hrep hpc hP hPL hZ hH4 hBD hX hZs ho4 hE hL hSN hps;go_upto_region 8 with fail
   rw [HCL.out.1];go_upto_region 9 with fail
   rw [HQ.out];have q60 : (Q.size : Int) ≤ 60 := by have := HQs.out; omega
   go_wp2_with fail
   refine (HREP.out _).mono ?_;rintro e w2 ⟨rfl, hU2⟩;have H2 := Lib.hid hU2;clear hU2;go_wp2_with fail
   rw [HCL.out.2.1];refine (HCLO.out _).mono ?_;rintro e w3 ⟨rfl, hB3⟩;have hL3 := ((HK.out.2.2.2.2.alloc (.cells #[.int .u8 (k : Int), .int .u8 (SN : Int), .int .u8 (PL : Int), .int .u8 0] 5)).below (Upd.below H2.out (fun _ e => e.elim))).below hB3;have H3 := Lib.hid hL3;clear hL3 hB3;go_wp2_with fail
   refine (HPC.out _).mono ?_;rintro e w4 ⟨rfl, rfl⟩;have hpd := (hsame k).2.2;have hw := write_c H3.out.disk ((placeN slot + k : Nat) : Int) X (by have := HSZ.out.2.1; omega);have hnx : writeB d (placeN slot) (slotSecs t) (k + 1) = (writeB d (placeN slot) (slotSecs t) k).1.write ((placeN slot + k : Nat) : Int) X := by
    conv => lhs; unfold writeB
    rw [if_neg (by rw [HK.out.2.2.2.1]; simp), HCL.out.2.2]
   rw [← hnx] at hw;have HW := Lib.hid hw;clear hw hnx hpd;obtain ⟨e', he'⟩ : ∃ e', (writeB d (placeN slot) (slotSecs t) (k + 1)).2 = e' := ⟨_, rfl⟩;rw [he'] at HW;go_wp2_with fail
   refine HW.out.mono ?_;rintro e w5 ⟨rfl, F5, hL5⟩;have H5 := Lib.hid (And.intro (H3.out.trans hL5) he');clear hL5 he';by_cases hz : e' = 0
   ·subst hz
    go_wp2_with fail
    go_roundw
    case rel => exact ⟨k + 1, F5, by have := HK.out.2.1; omega, by go_num, H5.out.2, H5.out.1⟩
    case measure => have := HK.out.2.1; simp [intOf] <;> omega
   ·have hzb : (e' != 0) = true := by simpa using hz
    have HZ := Lib.hid hz;clear hz;go_wp2_with fail
    go_ret
    have hstop := writeB_stop (d := d) (a := placeN slot) (l := slotSecs t) (j := k + 1) (m := SN) (by rw [H5.out.2]; exact HZ.out) (by have := HK.out.2.1; omega);have hfin : writeSlotD d slot t = writeB d (placeN slot) (slotSecs t) (k + 1) := by
     have h := hWD;rw [HK.out.2.2.1] at h;have h2 : writeSlotD d slot t = _ := h;rw [h2, hstop, if_pos (by rw [H5.out.2]; exact HZ.out)]
    rw [hfin, H5.out.2];exact ⟨rfl, F5, H5.out.1⟩
  ·obtain rfl : k = slotN t := by omega
   have hsy := sync_c hL.disk;have HSY := Lib.hid hsy;have HK := Lib.hid (And.intro hL hE);clear hsy hL hE hlt hk;go_wp2_with fail
   refine HSY.out.mono ?_;rintro e w5 ⟨rfl, F5, hL5⟩;have H5 := Lib.hid (HK.out.1.trans hL5);clear hL5;go_wp2_with fail
   go_ret
   have h2 : writeSlotD d slot t = _ := hWD;rw [h2, if_neg (by rw [HK.out.2]; simp)]
   exact ⟨rfl, F5, H5.out⟩
end
section
open Go Go.RowKit
def Ty (w : World) (t : TypeId) (b : Nat) : Prop := ∃ cur fr, w.heap[b]? = some (.cells cur t fr)
def Mp (w : World) (b : Nat) : Prop := ∃ es c, w.heap[b]? = some (.map es c)
theorem Ty.inj {w : World} {t t' : TypeId} {b : Nat} (h : Ty w t b) (h' : Ty w t' b) : t = t' := by
 obtain ⟨a, f, e⟩ := h;obtain ⟨a', f', e'⟩ := h';rw [e] at e';injection e' with e';injection e' with _ e'
theorem Ty.no_map {w : World} {t : TypeId} {b : Nat} (h : Ty w t b) (h' : Mp w b) : False := by
 obtain ⟨a, f, e⟩ := h;obtain ⟨a', f', e'⟩ := h';rw [e] at e';injection e' with e';cases e'
theorem Blk.ty {w : World} {t : TypeId} {b : Nat} {cs : Array Value} (h : Blk w b t cs) : Ty w t b := ⟨cs, (0, 0), h⟩
theorem MapB.mp {α : Type} {inj : α → Value} {w : World} {b : Nat} {m : List (α × Value)} (h : MapB inj w b m) : Mp w b := by
 obtain ⟨es, c, h1, -⟩ := h;exact ⟨es, c, h1⟩
theorem Own.ty {w : World} {e : TypeId} {size n : Nat} {v : Value} {xs : List Value} (h : Own w e size v n xs) {q : Nat} (hq : v.ownBlock = some q) : Ty w e q := by
 rcases h.2 with ⟨rfl, _⟩ | ⟨g, cap, cur, fr, rfl, hg, _⟩
 ·simp [Value.ownBlock] at hq
 ·have : g = q := by simpa [Value.ownBlock] using hq
  subst this;exact ⟨cur, fr, hg⟩
theorem DiskAt.kind {w : World} {p : Nat} {d : Dk} {F : List Nat} (h : DiskAt w p d F) {q : Nat} (hq : q ∈ F) : Ty w 151 q ∨ Ty w 9 q ∨ Mp w q := by
 obtain ⟨bl, cap, bm, m, g1, g2, g3, g4, g5, rfl, g7⟩ := h;simp only [List.mem_cons, List.mem_filterMap] at hq;rcases hq with rfl | rfl | rfl | ⟨x, hx, hk⟩
 ·exact .inl g1.ty
 ·exact .inr (.inl (g2.ty (by simp [Value.ownBlock])))
 ·exact .inr (.inr g3.mp)
 ·obtain ⟨i, _, _, _, h8⟩ := g4.each x hx
  exact .inr (.inl (h8.ty hk))
theorem RgE.kind {F : Nat → Prop} {w0 w : World} {r : Nat} {master : ByteArray} {cur boot n kb : Nat} {ents : List (Int × Nat)} (h : RgE F w0 w r master cur boot n kb ents) {q : Nat} (hq : ringOwn r kb ents q) : Ty w 186 q ∨ Ty w 269 q ∨ q = kb := by
 rcases hq with rfl | rfl | ⟨e, he, rfl⟩
 ·exact .inl h.blk.ty
 ·exact .inr (.inr rfl)
 ·exact .inr (.inl (h.slots e he).ty)
def anyT : TypeId := 99999999
def TRow (w : World) (t : TypeId) (k : Nat) (v : Value) (cs : List (List Value)) : Prop :=
 ∃ A cap, v = .slice A cs.length cap ∧ cs.length ≤ cap ∧ cs.length ≤ 1000000 ∧ (0 < cs.length → ∃ b off cur t' fr, A = some ⟨b, off, none⟩ ∧ w.heap[b]? = some (.cells cur t' fr) ∧ (t ≠ anyT → t' = t) ∧ ∀ i c, cs[i]? = some c → ∀ j u, c[j]? = some u → cur[off + i * k + j]? = some u)
theorem TRow.upd_ {w w' : World} {t : TypeId} {k : Nat} {v : Value} {cs : List (List Value)} {Z : Nat → Prop} (h : TRow w t k v cs) (hu : Upd Z w w') (hz : ∀ b, v.ownBlock = some b → (t ≠ anyT → Ty w t b) → ¬ Z b) : TRow w' t k v cs := by
 obtain ⟨A, cap, h1, h2, h3, h4⟩ := h;refine ⟨A, cap, h1, h2, h3, fun h0 => ?_⟩;obtain ⟨b, off, cur, t', fr, e1, e2, e4, e3⟩ := h4 h0;refine ⟨b, off, cur, t', fr, e1, (hu.block b (Array.getElem?_eq_some_iff.1 e2).1 (hz b (by rw [h1, e1]; rfl) (fun hn => ⟨cur, fr, ?_⟩))).trans e2, e4, e3⟩
 rw [← e4 hn];exact e2
theorem TRow.upd {w w' : World} {t : TypeId} {k : Nat} {v : Value} {cs : List (List Value)} {Z : Nat → Prop} (h : TRow w t k v cs) (hu : Upd Z w w') (hz : ∀ b, Ty w t b → ¬ Z b) (ht : t ≠ anyT := by decide) : TRow w' t k v cs :=
 h.upd_ hu fun b _ hb => hz b (hb ht)
theorem TRow.still {w w' : World} {t : TypeId} {k : Nat} {v : Value} {cs : List (List Value)} (h : TRow w t k v cs) (hu : Upd (fun _ => False) w w') : TRow w' t k v cs := h.upd_ hu (fun _ _ _ e => e)
theorem TRow.low {w w' : World} {t : TypeId} {k N : Nat} {v : Value} {cs : List (List Value)} {Z : Nat → Prop} (h : TRow w t k v cs) (hN : ∀ b, v.ownBlock = some b → b < N) (hu : Upd Z w w') (hz : ∀ q, Z q → N ≤ q) : TRow w' t k v cs :=
 h.upd_ hu fun b hb _ e => Nat.lt_irrefl b (Nat.lt_of_lt_of_le (hN b hb) (hz b e))
theorem TRow.open_ {w : World} {t : TypeId} {k : Nat} {v : Value} {cs : List (List Value)} (h : TRow w t k v cs) : ∃ A cap b off, v = .slice A cs.length cap ∧ cs.length ≤ cap ∧ cs.length ≤ 1000000 ∧ (0 < cs.length → A = some ⟨b, off, none⟩) ∧
 ∀ w' Z, Upd Z w w' → (∀ b, (t ≠ anyT → Ty w t b) → ¬ Z b) → ∀ i c, cs[i]? = some c → w'.rangeAt b (off + i * k) c := by
 have hh := h;obtain ⟨A, cap, h1, h2, h3, h4⟩ := h;by_cases h0 : 0 < cs.length
 ·obtain ⟨b, off, cur, t', fr, e1, e2, e4, e3⟩ := h4 h0
  refine ⟨A, cap, b, off, h1, h2, h3, fun _ => e1, fun w' Z hu hz i c hc j u hj => ?_⟩;have e5 := (hu.block b (Array.getElem?_eq_some_iff.1 e2).1 (hz b (fun hn => ⟨cur, fr, by rw [← e4 hn]; exact e2⟩))).trans e2;rw [cell_of_row w' b _ cur t' fr e5];exact e3 i c hc j u hj
 ·refine ⟨A, cap, 0, 0, h1, h2, h3, fun h => absurd h h0, fun w' Z hu hz i c hc => ?_⟩
  have := (List.getElem?_eq_some_iff.1 hc).1;omega
theorem TRow.of_own {w : World} {t : TypeId} {k n : Nat} {v : Value} {cs : List (List Value)} (h : Own w t k v n cs.flatten) (hn : cs.length = n) (hm : n ≤ 1000000) (hk : ∀ c ∈ cs, c.length = k) : TRow w t k v cs := by
 rcases h.2 with ⟨rfl, h0⟩ | ⟨g, cap, cur, fr, rfl, hg, hfr, hnc, hcm, hcs, htake⟩
 ·subst h0
  exact ⟨none, 0, by rw [hn], by omega, by omega, fun h => by omega⟩
 ·refine ⟨_, cap, by rw [hn], by omega, by omega, fun h0 => ⟨g, 0, cur, t, fr, rfl, hg, fun _ => rfl, fun i c hc j u hj => ?_⟩⟩
  have hfl : ∀ (l : List (List Value)), (∀ c ∈ l, c.length = k) → ∀ i c, l[i]? = some c → ∀ j u, c[j]? = some u → l.flatten[i * k + j]? = some u := by
   intro l;induction l with
   | nil => intro _ i c hc; simp at hc
   | cons x r ih =>
     intro hl i c hc j u hj;have hx := hl x (by simp);rw [List.flatten_cons];cases i with
     | zero =>
       have : x = c := by simpa using hc
       subst this;have hjl := (List.getElem?_eq_some_iff.1 hj).1;rw [List.getElem?_append_left (by omega)];simpa using hj
     | succ i =>
       rw [List.getElem?_append_right (by rw [hx, Nat.succ_mul]; omega)];have e : (i + 1) * k + j - x.length = i * k + j := by rw [hx, Nat.succ_mul]; omega
       rw [e];exact ih (fun c hc => hl c (by simp [hc])) i c (by simpa using hc) j u hj
  have h1 := hfl cs hk i c hc j u hj;rw [← htake, List.getElem?_take] at h1;split at h1
  ·rw [Nat.zero_add]
   simpa using h1
  ·cases h1
theorem TRow.mts {w : World} {t : TypeId} {v : Value} {l : List MtM} (h : TRow w t 2 v (l.map mtRow)) : ∃ A cap b off, v = .slice A l.length cap ∧ l.length ≤ cap ∧ l.length ≤ 1000000 ∧ (0 < l.length → A = some ⟨b, off, none⟩) ∧
 ∀ w' Z, Upd Z w w' → (∀ b, (t ≠ anyT → Ty w t b) → ¬ Z b) → MtsAt w' b off l := by
 obtain ⟨A, cap, b, off, h1, h2, h3, h4, h5⟩ := h.open_;rw [List.length_map] at h1 h2 h3 h4;refine ⟨A, cap, b, off, h1, h2, h3, h4, fun w' Z hu hz i hi => ?_⟩;exact h5 w' Z hu hz i (mtRow l[i]) (by simp [hi])
theorem TRow.ops {w : World} {t : TypeId} {v : Value} {l : List OpM} (h : TRow w t 3 v (l.map opRow)) : ∃ A cap b off, v = .slice A l.length cap ∧ l.length ≤ cap ∧ l.length ≤ 1000000 ∧ (0 < l.length → A = some ⟨b, off, none⟩) ∧
 ∀ w' Z, Upd Z w w' → (∀ b, (t ≠ anyT → Ty w t b) → ¬ Z b) → OpsAt w' b off l := by
 obtain ⟨A, cap, b, off, h1, h2, h3, h4, h5⟩ := h.open_;rw [List.length_map] at h1 h2 h3 h4;refine ⟨A, cap, b, off, h1, h2, h3, h4, fun w' Z hu hz i hi => ?_⟩;exact h5 w' Z hu hz i (opRow l[i]) (by simp [hi])
structure VtO where
 F : List Nat
 kb : Nat
 lb : Nat
 lv : Value
 rb : Nat
 rk : Nat
 ents : List (Int × Nat)
 m : Nat
 mb : Nat
 rv : Value
 ovs : List Value
 mv : Value
def vtRow (V : VtM) (p : Nat) (o : VtO) : Array Value :=
 #[.pointer (some ⟨o.m, 0, none⟩), .int .i64 V.at_, .int .i64 V.epoch, o.rv, .int .i64 V.prev, .pointer (some ⟨p, 0, none⟩), .pointer (some ⟨o.kb, 0, none⟩), .pointer (some ⟨o.lb, 0, none⟩), .pointer (some ⟨o.rb, 0, none⟩),
  .int .i64 V.st.m.role, .int .i64 V.st.m.seen, .int .i64 V.st.m.grant, o.mv, .string (str V.st.m.secret), .int .i64 V.st.at_, .int .i64 V.st.epoch, .int .i64 (V.st.slot : Int), .int .u64 (V.st.log : Int), .int .i64 (V.st.key : Int), .int .u32 (V.st.boot : Int), .bool V.down]
def rowsV : List BatM → List Value → List Value
 | b :: r, o :: s => .int .i64 b.index :: .int .i64 b.epoch :: o :: rowsV r s
 | _, _ => []
def VtO.mut (o : VtO) (v q : Nat) : Prop := q = v ∨ q ∈ o.F ∨ q = o.kb ∨ q = o.lb ∨ o.lv.ownBlock = some q ∨ ringOwn o.rb o.rk o.ents q ∨ o.rv.ownBlock = some q
structure VtAt (w : World) (p v : Nat) (d : Dk) (V : VtM) (o : VtO) : Prop where
 disk : DiskAt w p d o.F
 blk : Blk w v 117 (vtRow V p o)
 kept : Blk w o.kb 209 (V.kp.cells p)
 log : Blk w o.lb 199 (V.lg.cells p o.lv)
 recs : Own w 9 1 o.lv V.lg.l.length (strs V.lg.l)
 sep : ∀ q, o.lv.ownBlock = some q → q ∉ o.F
 ring : RgE (ringOwn o.rb o.rk o.ents) w w o.rb (str masterL) V.cur V.st.boot V.n o.rk o.ents
 rkF : o.rk ∉ o.F
 map : MapAt w o.m o.mb V.S
 mbF : o.mb ∉ o.F
 mbk : o.mb ≠ o.rk
 rows : Own w 35 3 o.rv V.rows.length (rowsV V.rows o.ovs)
 ovl : o.ovs.length = V.rows.length
 each : ∀ (i : Nat) (b : BatM) (ov : Value), V.rows[i]? = some b → o.ovs[i]? = some ov → TRow w 32 3 ov (b.ops.map opRow)
 mts : TRow w 46 2 o.mv (V.st.m.mounts.map mtRow)
structure VtStep (w w' : World) (v : Nat) (o o' : VtO) : Prop where
 upd : Upd (o.mut v) w w'
 sub : ∀ q, o'.mut v q → o.mut v q ∨ w.heap.size ≤ q
theorem VtStep.refl (w : World) (v : Nat) (o : VtO) : VtStep w w v o o := ⟨Upd.refl _ _, fun _ h => .inl h⟩
theorem VtStep.trans {w w1 w2 : World} {v : Nat} {o o1 o2 : VtO} (h : VtStep w w1 v o o1) (k : VtStep w1 w2 v o1 o2) : VtStep w w2 v o o2 :=
 ⟨h.upd.then k.upd h.sub, fun q hq => (k.sub q hq).elim (h.sub q) (fun e => .inr (Nat.le_trans h.upd.size e))⟩
theorem VtStep.still {w w1 w2 : World} {v : Nat} {o o1 : VtO} (h : VtStep w w1 v o o1) (hu : Upd (fun _ => False) w1 w2) : VtStep w w2 v o o1 := ⟨h.upd.then hu (fun _ e => e.elim), h.sub⟩
section
variable {w w' : World} {p v : Nat} {d d' : Dk} {V : VtM} {o : VtO}
theorem VtAt.kind (h : VtAt w p v d V o) {q : Nat} (hq : o.mut v q) : Ty w 117 q ∨ Ty w 151 q ∨ Ty w 9 q ∨ Ty w 209 q ∨ Ty w 199 q ∨ Ty w 186 q ∨ Ty w 269 q ∨ Ty w 35 q ∨ Mp w q ∧ (q ∈ o.F ∨ q = o.rk) := by
 rcases hq with rfl | hq | rfl | rfl | hq | hq | hq
 ·exact .inl h.blk.ty
 ·rcases h.disk.kind hq with e | e | e
  ·exact .inr (.inl e)
  ·exact .inr (.inr (.inl e))
  ·exact .inr (.inr (.inr (.inr (.inr (.inr (.inr (.inr ⟨e, .inl hq⟩)))))))
 ·exact .inr (.inr (.inr (.inl h.kept.ty)))
 ·exact .inr (.inr (.inr (.inr (.inl h.log.ty))))
 ·exact .inr (.inr (.inl (h.recs.ty hq)))
 ·rcases h.ring.kind hq with e | e | e
  ·exact .inr (.inr (.inr (.inr (.inr (.inl e)))))
  ·exact .inr (.inr (.inr (.inr (.inr (.inr (.inl e))))))
  ·exact .inr (.inr (.inr (.inr (.inr (.inr (.inr (.inr ⟨by rw [e]; exact h.ring.map.mp, .inr e⟩)))))))
 ·exact .inr (.inr (.inr (.inr (.inr (.inr (.inr (.inl (h.rows.ty hq))))))))
theorem VtAt.not_mut (h : VtAt w p v d V o) {t : TypeId} {q : Nat} (ht : Ty w t q) (hn : t ∉ [117, 151, 9, 209, 199, 186, 269, 35]) : ¬ o.mut v q := by
 intro hq;simp only [List.mem_cons, List.not_mem_nil, or_false, not_or] at hn;obtain ⟨n1, n2, n3, n4, n5, n6, n7, n8⟩ := hn;rcases h.kind hq with e | e | e | e | e | e | e | e | e
 ·exact n1 (ht.inj e)
 ·exact n2 (ht.inj e)
 ·exact n3 (ht.inj e)
 ·exact n4 (ht.inj e)
 ·exact n5 (ht.inj e)
 ·exact n6 (ht.inj e)
 ·exact n7 (ht.inj e)
 ·exact n8 (ht.inj e)
 ·exact ht.no_map e.1
theorem VtAt.mb_not (h : VtAt w p v d V o) : ¬ o.mut v o.mb := by
 intro hq;obtain ⟨ents, e1, -⟩ := h.map.map;have hm := e1.mp;rcases h.kind hq with e | e | e | e | e | e | e | e | e
 ·exact e.no_map hm
 ·exact e.no_map hm
 ·exact e.no_map hm
 ·exact e.no_map hm
 ·exact e.no_map hm
 ·exact e.no_map hm
 ·exact e.no_map hm
 ·exact e.no_map hm
 ·rcases e.2 with e | e
  ·exact h.mbF e
  ·exact h.mbk e
theorem VtAt.keep_map {Z : Nat → Prop} (h : VtAt w p v d V o) (hu : Upd Z w w') (hz : ∀ q, Z q → o.mut v q) : MapAt w' o.m o.mb V.S :=
 h.map.upd hu (fun e => h.not_mut h.map.blk.ty (by decide) (hz _ e)) (fun e => h.mb_not (hz _ e))
theorem VtAt.keep_each {Z : Nat → Prop} (h : VtAt w p v d V o) (hu : Upd Z w w') (hz : ∀ q, Z q → o.mut v q) : ∀ (i : Nat) (b : BatM) (ov : Value), V.rows[i]? = some b → o.ovs[i]? = some ov → TRow w' 32 3 ov (b.ops.map opRow) :=
 fun i b ov h1 h2 => (h.each i b ov h1 h2).upd hu (fun _ ht e => h.not_mut ht (by decide) (hz _ e))
theorem VtAt.keep_mts {Z : Nat → Prop} (h : VtAt w p v d V o) (hu : Upd Z w w') (hz : ∀ q, Z q → o.mut v q) : TRow w' 46 2 o.mv (V.st.m.mounts.map mtRow) :=
 h.mts.upd hu (fun _ ht e => h.not_mut ht (by decide) (hz _ e))
theorem RgE.move {F : Nat → Prop} {w0 w w' : World} {r : Nat} {master : ByteArray} {cur boot n kb : Nat} {ents : List (Int × Nat)} {Z : Nat → Prop} (h : RgE F w0 w r master cur boot n kb ents) (hu : Upd Z w w') (hz : ∀ q, ringOwn r kb ents q → ¬ Z q) : RgE (ringOwn r kb ents) w' w' r master cur boot n kb ents := by
 refine ⟨h.blk.upd hu (hz _ (.inl rfl)), h.map.upd hu (hz _ (.inr (.inl rfl))), fun e he => (h.slots e he).upd hu (hz _ (.inr (.inr ⟨e, he, rfl⟩))), .inl (.inl rfl), .inl (.inr (.inl rfl)), fun e he => .inl (.inr (.inr ⟨e, he, rfl⟩)), Upd.refl _ _⟩
theorem VtAt.still (h : VtAt w p v d V o) (hu : Upd (fun _ => False) w w') : VtAt w' p v d V o :=
 ⟨h.disk.upd hu (fun _ _ e => e), h.blk.upd hu (fun e => e), h.kept.upd hu (fun e => e), h.log.upd hu (fun e => e), h.recs.upd hu (fun _ _ e => e), h.sep, h.ring.move hu (fun _ _ e => e), h.rkF, h.map.still hu, h.mbF, h.mbk, h.rows.upd hu (fun _ _ e => e), h.ovl, fun i b ov h1 h2 => (h.each i b ov h1 h2).still hu, h.mts.still hu⟩
end
end
section
open Go Go.RowKit
def VtO.cl (o : VtO) (v : Nat) : Nat → Nat → Prop
 | 0, q => q = v
 | 1, q => q ∈ o.F
 | 2, q => q = o.kb
 | 3, q => q = o.lb
 | 4, q => o.lv.ownBlock = some q
 | 5, q => ringOwn o.rb o.rk o.ents q
 | _, q => o.rv.ownBlock = some q
def clT : Nat → List TypeId
 | 0 => [117]
 | 1 => [151, 9]
 | 2 => [209]
 | 3 => [199]
 | 4 => [9]
 | 5 => [186, 269]
 | _ => [35]
theorem VtO.mut_cl {o : VtO} {v q : Nat} (h : o.mut v q) : ∃ i, i ≤ 6 ∧ o.cl v i q := by
 rcases h with h | h | h | h | h | h | h
 ·exact ⟨0, by omega, h⟩
 ·exact ⟨1, by omega, h⟩
 ·exact ⟨2, by omega, h⟩
 ·exact ⟨3, by omega, h⟩
 ·exact ⟨4, by omega, h⟩
 ·exact ⟨5, by omega, h⟩
 ·exact ⟨6, by omega, h⟩
theorem VtO.cl_mut {o : VtO} {v q : Nat} {i : Nat} (h : o.cl v i q) : o.mut v q := by
 match i, h with
 | 0, h => exact .inl h
 | 1, h => exact .inr (.inl h)
 | 2, h => exact .inr (.inr (.inl h))
 | 3, h => exact .inr (.inr (.inr (.inl h)))
 | 4, h => exact .inr (.inr (.inr (.inr (.inl h))))
 | 5, h => exact .inr (.inr (.inr (.inr (.inr (.inl h)))))
 | n + 6, h => exact .inr (.inr (.inr (.inr (.inr (.inr h)))))
theorem clT_all : ∀ i : Fin 7, ∀ j : Fin 7, i ≠ j → (clT i.val).all (fun t => !(clT j.val).contains t) = true ∨ (i.val = 1 ∧ j.val = 4) ∨ (i.val = 4 ∧ j.val = 1) := by decide
theorem clT_apart (i : Nat) (hi : i < 7) (j : Nat) (hj : j < 7) (h : i ≠ j) (t : TypeId) (h1 : t ∈ clT i) (h2 : t ∈ clT j) : (i = 1 ∧ j = 4) ∨ (i = 4 ∧ j = 1) := by
 rcases clT_all ⟨i, hi⟩ ⟨j, hj⟩ (fun e => h (congrArg Fin.val e)) with e | e
 ·have := List.all_eq_true.1 e t h1
  simp [h2] at this
 ·exact e
section
variable {w w' : World} {p v : Nat} {d d' : Dk} {V V' : VtM} {o o' : VtO}
theorem VtAt.cl_kind (h : VtAt w p v d V o) {i q : Nat} (hi : i ≤ 6) (hq : o.cl v i q) : (∃ t ∈ clT i, Ty w t q) ∨ (Mp w q ∧ (i = 1 ∨ i = 5 ∧ q = o.rk)) := by
 match i, hi, hq with
 | 0, _, hq => exact .inl ⟨_, by simp [clT], hq ▸ h.blk.ty⟩
 | 1, _, hq =>
   rcases h.disk.kind hq with e | e | e
   ·exact .inl ⟨_, by simp [clT], e⟩
   ·exact .inl ⟨_, by simp [clT], e⟩
   ·exact .inr ⟨e, .inl rfl⟩
 | 2, _, hq => exact .inl ⟨_, by simp [clT], hq ▸ h.kept.ty⟩
 | 3, _, hq => exact .inl ⟨_, by simp [clT], hq ▸ h.log.ty⟩
 | 4, _, hq => exact .inl ⟨_, by simp [clT], h.recs.ty hq⟩
 | 5, _, hq =>
   rcases h.ring.kind hq with e | e | e
   ·exact .inl ⟨_, by simp [clT], e⟩
   ·exact .inl ⟨_, by simp [clT], e⟩
   ·exact .inr ⟨e ▸ h.ring.map.mp, .inr ⟨rfl, e⟩⟩
 | 6, _, hq => exact .inl ⟨_, by simp [clT], h.rows.ty hq⟩
theorem VtAt.apart (h : VtAt w p v d V o) {i j q : Nat} (hi : i ≤ 6) (hj : j ≤ 6) (hij : i ≠ j) (h1 : o.cl v i q) (h2 : o.cl v j q) : False := by
 rcases h.cl_kind hi h1 with ⟨t, e1, e2⟩ | ⟨e1, e2⟩ <;> rcases h.cl_kind hj h2 with ⟨t', f1, f2⟩ | ⟨f1, f2⟩
 ·obtain rfl := e2.inj f2
  rcases clT_apart i (by omega) j (by omega) hij t e1 f1 with ⟨rfl, rfl⟩ | ⟨rfl, rfl⟩
  ·exact h.sep q h2 h1
  ·exact h.sep q h1 h2
 ·exact e2.no_map f1
 ·exact f2.no_map e1
 ·rcases e2 with rfl | ⟨rfl, e⟩ <;> rcases f2 with rfl | ⟨rfl, f⟩
  ·exact hij rfl
  ·subst f; exact h.rkF h1
  ·subst e; exact h.rkF h2
  ·exact hij rfl
theorem VtAt.lt (h : VtAt w p v d V o) {i q : Nat} (hi : i ≤ 6) (hq : o.cl v i q) : q < w.heap.size := by
 rcases h.cl_kind hi hq with ⟨t, -, a, b, e⟩ | ⟨⟨a, b, e⟩, -⟩ <;> exact (Array.getElem?_eq_some_iff.1 e).1
theorem VtAt.off (h : VtAt w p v d V o) {Z : Nat → Prop} {i k m j : Nat} (hz : ∀ q, Z q → o.cl v i q ∨ o.cl v k q ∨ o.cl v m q) (hj : j ≤ 6 ∧ i ≤ 6 ∧ k ≤ 6 ∧ m ≤ 6 ∧ i ≠ j ∧ k ≠ j ∧ m ≠ j) {q : Nat} (hq : o.cl v j q) : ¬ Z q := by
 intro e;obtain ⟨a, b, c, f, g1, g2, g3⟩ := hj;rcases hz q e with e | e | e
 ·exact h.apart b a g1 e hq
 ·exact h.apart c a g2 e hq
 ·exact h.apart f a g3 e hq
theorem VtStep.mk_ (hu : Upd (o.mut v) w w') (n : Nat) (hn : n = w.heap.size) (h1 : ∀ q ∈ o'.F, q ∈ o.F ∨ n ≤ q) (h2 : o'.kb = o.kb ∨ n ≤ o'.kb) (h3 : o'.lb = o.lb ∨ n ≤ o'.lb) (h4 : ∀ q, o'.lv.ownBlock = some q → o.lv.ownBlock = some q ∨ n ≤ q)
 (h5 : ∀ q, ringOwn o'.rb o'.rk o'.ents q → ringOwn o.rb o.rk o.ents q ∨ n ≤ q) (h6 : ∀ q, o'.rv.ownBlock = some q → o.rv.ownBlock = some q ∨ n ≤ q) : VtStep w w' v o o' := by
 subst hn;refine ⟨hu, fun q hq => ?_⟩;rcases hq with h | h | h | h | h | h | h
 ·exact .inl (.inl h)
 ·exact (h1 q h).imp (fun e => .inr (.inl e)) id
 ·exact h2.imp (fun e => .inr (.inr (.inl (h.trans e)))) (fun e => h ▸ e)
 ·exact h3.imp (fun e => .inr (.inr (.inr (.inl (h.trans e))))) (fun e => h ▸ e)
 ·exact (h4 q h).imp (fun e => .inr (.inr (.inr (.inr (.inl e))))) id
 ·exact (h5 q h).imp (fun e => .inr (.inr (.inr (.inr (.inr (.inl e)))))) id
 ·exact (h6 q h).imp (fun e => .inr (.inr (.inr (.inr (.inr (.inr e)))))) id
theorem VtAt.kept_ {k' : Kp} (h : VtAt w p v d V o) (hP : PutLeft w w' p o.kb d' k' o.F) : ∃ F', VtAt w' p v d' { V with kp := k' } { o with F := F' } ∧ VtStep w w' v o { o with F := F' } := by
 obtain ⟨F', hD, hsub⟩ := hP.disk;have hu := hP.upd;have hz : ∀ q, (q = o.kb ∨ q ∈ o.F) → o.cl v 2 q ∨ o.cl v 1 q ∨ o.cl v 1 q := fun q e => e.elim .inl fun e => .inr (.inl e)
 have hm : ∀ q, (q = o.kb ∨ q ∈ o.F) → o.mut v q := fun q e => (hz q e).elim VtO.cl_mut fun e => e.elim VtO.cl_mut VtO.cl_mut
 have hs : ∀ {j q : Nat}, j ≤ 6 → o.cl v j q → j ≠ 1 → q ∉ F' := fun hj hq h1 hf => by
  rcases hsub _ hf with e | e
  ·exact h.apart (i := 1) (by omega) hj (fun e => h1 e.symm) e hq
  ·have := h.lt hj hq; omega
 refine ⟨F', ⟨hD, h.blk.upd hu (h.off hz (j := 0) (by decide) rfl), hP.kept, h.log.upd hu (h.off hz (j := 3) (by decide) rfl), h.recs.upd hu (fun q e => h.off hz (j := 4) (by decide) e), fun q e => hs (j := 4) (by omega) e (by omega), h.ring.move hu (fun q e => h.off hz (j := 5) (by decide) e), hs (j := 5) (by omega) (.inr (.inl rfl)) (by omega), h.keep_map hu hm, fun e => ?_, h.mbk, h.rows.upd hu (fun q e => h.off hz (j := 6) (by decide) e), h.ovl, h.keep_each hu hm, h.keep_mts hu hm⟩, VtStep.mk_ (hu.mono fun q e => .inl (hm q e)) _ rfl hsub (.inl rfl) (.inl rfl) (fun q e => .inl e) (fun q e => .inl e) (fun q e => .inl e)⟩;rcases hsub _ e with e | e
 ·exact h.mbF e
 ·exact absurd h.map.lt.2 (Nat.not_lt.2 e)
theorem VtAt.log_ {g' : Lg} (h : VtAt w p v d V o) (hP : AddLeft w w' p o.lb d' g' o.F o.lv) : ∃ F' lv', VtAt w' p v d' { V with lg := g' } { o with F := F', lv := lv' } ∧ VtStep w w' v o { o with F := F', lv := lv' } := by
 obtain ⟨F', lv', hD, hsub, hB, hO, hvs, hsep⟩ := hP.ex;have hu := hP.upd;have hz : ∀ q, (q = o.lb ∨ q ∈ o.F ∨ o.lv.ownBlock = some q) → o.cl v 3 q ∨ o.cl v 1 q ∨ o.cl v 4 q := fun q e => e
 have hm : ∀ q, (q = o.lb ∨ q ∈ o.F ∨ o.lv.ownBlock = some q) → o.mut v q := fun q e => (hz q e).elim VtO.cl_mut fun e => e.elim VtO.cl_mut VtO.cl_mut
 have hs : ∀ {j q : Nat}, j ≤ 6 → o.cl v j q → j ≠ 1 → q ∉ F' := fun hj hq h1 hf => by
  rcases hsub _ hf with e | e
  ·exact h.apart (i := 1) (by omega) hj (fun e => h1 e.symm) e hq
  ·have := h.lt hj hq; omega
 refine ⟨F', lv', ⟨hD, h.blk.upd hu (h.off hz (j := 0) (by decide) rfl), h.kept.upd hu (h.off hz (j := 2) (by decide) rfl), hB, hO, hsep, h.ring.move hu (fun q e => h.off hz (j := 5) (by decide) e), hs (j := 5) (by omega) (.inr (.inl rfl)) (by omega), h.keep_map hu hm, fun e => ?_, h.mbk, h.rows.upd hu (fun q e => h.off hz (j := 6) (by decide) e), h.ovl, h.keep_each hu hm, h.keep_mts hu hm⟩, VtStep.mk_ (hu.mono fun q e => .inl (hm q e)) _ rfl hsub (.inl rfl) (.inl rfl) hvs (fun q e => .inl e) (fun q e => .inl e)⟩;rcases hsub _ e with e | e
 ·exact h.mbF e
 ·exact absurd h.map.lt.2 (Nat.not_lt.2 e)
theorem VtAt.disk_ {F' : List Nat} (h : VtAt w p v d V o) (hL : Left w w' p d' o.F F') : VtAt w' p v d' V { o with F := F' } ∧ VtStep w w' v o { o with F := F' } := by
 have hsub := hL.sub;have hu := hL.upd;have hz : ∀ q, q ∈ o.F → o.cl v 1 q ∨ o.cl v 1 q ∨ o.cl v 1 q := fun q e => .inl e
 have hm : ∀ q, q ∈ o.F → o.mut v q := fun q e => .inr (.inl e)
 have hs : ∀ {j q : Nat}, j ≤ 6 → o.cl v j q → j ≠ 1 → q ∉ F' := fun hj hq h1 hf => by
  rcases hsub _ hf with e | e
  ·exact h.apart (i := 1) (by omega) hj (fun e => h1 e.symm) e hq
  ·have := h.lt hj hq; omega
 refine ⟨⟨hL.disk, h.blk.upd hu (h.off hz (j := 0) (by decide) rfl), h.kept.upd hu (h.off hz (j := 2) (by decide) rfl), h.log.upd hu (h.off hz (j := 3) (by decide) rfl), h.recs.upd hu (fun q e => h.off hz (j := 4) (by decide) e), fun q e => hs (j := 4) (by omega) e (by omega), h.ring.move hu (fun q e => h.off hz (j := 5) (by decide) e), hs (j := 5) (by omega) (.inr (.inl rfl)) (by omega), h.keep_map hu hm, fun e => ?_, h.mbk, h.rows.upd hu (fun q e => h.off hz (j := 6) (by decide) e), h.ovl, h.keep_each hu hm, h.keep_mts hu hm⟩, VtStep.mk_ (hu.mono fun q e => .inl (hm q e)) _ rfl hsub (.inl rfl) (.inl rfl) (fun q e => .inl e) (fun q e => .inl e) (fun q e => .inl e)⟩;rcases hsub _ e with e | e
 ·exact h.mbF e
 ·exact absurd h.map.lt.2 (Nat.not_lt.2 e)
theorem VtAt.ring_ {n' cur' : Nat} {ents' : List (Int × Nat)} (h : VtAt w p v d V o) (hR : RgE (ringOwn o.rb o.rk o.ents) w w' o.rb (str masterL) cur' V.st.boot n' o.rk ents') : VtAt w' p v d { V with n := n', cur := cur' } { o with ents := ents' } ∧ VtStep w w' v o { o with ents := ents' } := by
 have hu := hR.upd;have hz : ∀ q, ringOwn o.rb o.rk o.ents q → o.cl v 5 q ∨ o.cl v 5 q ∨ o.cl v 5 q := fun q e => .inl e
 have hm : ∀ q, ringOwn o.rb o.rk o.ents q → o.mut v q := fun q e => VtO.cl_mut (i := 5) e
 refine ⟨⟨h.disk.upd hu (fun q e => h.off hz (j := 1) (by decide) e), h.blk.upd hu (h.off hz (j := 0) (by decide) rfl), h.kept.upd hu (h.off hz (j := 2) (by decide) rfl), h.log.upd hu (h.off hz (j := 3) (by decide) rfl), h.recs.upd hu (fun q e => h.off hz (j := 4) (by decide) e), h.sep, hR.here, h.rkF, h.keep_map hu hm, h.mbF, h.mbk, h.rows.upd hu (fun q e => h.off hz (j := 6) (by decide) e), h.ovl, h.keep_each hu hm, h.keep_mts hu hm⟩, VtStep.mk_ (hu.mono fun q e => .inl (hm q e)) _ rfl (fun q e => .inl e) (.inl rfl) (.inl rfl) (fun q e => .inl e) (fun q e => hR.own_is q e) (fun q e => .inl e)⟩
theorem VtAt.cells_ (h : VtAt w p v d V o) (hu : Upd (· = v) w w') (hF : o'.F = o.F) (hkb : o'.kb = o.kb) (hrb : o'.rb = o.rb) (hrk : o'.rk = o.rk) (he : o'.ents = o.ents) (hB : Blk w' v 117 (vtRow V' p o')) (hk : V'.kp = V.kp) (hc : V'.cur = V.cur) (hn : V'.n = V.n) (hbt : V'.st.boot = V.st.boot)
 (hl : Blk w' o'.lb 199 (V'.lg.cells p o'.lv)) (hr : Own w' 9 1 o'.lv V'.lg.l.length (strs V'.lg.l)) (hs : ∀ q, o'.lv.ownBlock = some q → q ∉ o.F)
 (hm : MapAt w' o'.m o'.mb V'.S) (hmF : o'.mb ∉ o.F) (hmk : o'.mb ≠ o.rk) (hrows : Own w' 35 3 o'.rv V'.rows.length (rowsV V'.rows o'.ovs)) (hov : o'.ovs.length = V'.rows.length)
 (heach : ∀ (i : Nat) (b : BatM) (ov : Value), V'.rows[i]? = some b → o'.ovs[i]? = some ov → TRow w' 32 3 ov (b.ops.map opRow)) (hmts : TRow w' 46 2 o'.mv (V'.st.m.mounts.map mtRow)) : VtAt w' p v d V' o' := by
 have hz : ∀ q, q = v → o.cl v 0 q ∨ o.cl v 0 q ∨ o.cl v 0 q := fun q e => .inl e
 refine ⟨hF ▸ h.disk.upd hu (fun q e => h.off hz (j := 1) (by decide) e), hB, ?_, hl, hr, by rw [hF]; exact hs, ?_, by rw [hF, hrk]; exact h.rkF, hm, by rw [hF]; exact hmF, by rw [hrk]; exact hmk, hrows, hov, heach, hmts⟩
 ·rw [hkb, hk]; exact h.kept.upd hu (h.off hz (j := 2) (by decide) rfl)
 ·rw [hrb, hrk, he, hc, hn, hbt]; exact h.ring.move hu (fun q e => h.off hz (j := 5) (by decide) e)
theorem VtAt.not_v (h : VtAt w p v d V o) {j q : Nat} (hj : j ≤ 6 ∧ 0 ≠ j) (hq : o.cl v j q) : ¬ q = v := fun e => h.apart (i := 0) (by omega) hj.1 hj.2 e hq
theorem upd_cell {w : World} {b n : Nat} {x : Value} : Upd (· = b) w (w.setCell ⟨b, n, none⟩ x) := (Upd.refl (fun q => q = b) w).setCell (p := ⟨b, n, none⟩) (.inl rfl) _
theorem VtAt.nums_ (h : VtAt w p v d V o) (hu : Upd (· = v) w w') {mv' : Value} (hB : Blk w' v 117 (vtRow V' p { o with mv := mv' })) (hk : V'.kp = V.kp) (hl : V'.lg = V.lg) (hS : V'.S = V.S) (hr : V'.rows = V.rows) (hc : V'.cur = V.cur) (hn : V'.n = V.n) (hbt : V'.st.boot = V.st.boot)
 (hmts : TRow w' 46 2 mv' (V'.st.m.mounts.map mtRow)) : VtAt w' p v d V' { o with mv := mv' } ∧ VtStep w w' v o { o with mv := mv' } := by
 have hm : ∀ q, q = v → o.mut v q := fun q e => .inl e
 refine ⟨h.cells_ hu rfl rfl rfl rfl rfl hB hk hc hn hbt ?_ ?_ h.sep ?_ h.mbF h.mbk ?_ (by rw [hr]; exact h.ovl) ?_ hmts, VtStep.mk_ (hu.mono fun q e => .inl (hm q e)) _ rfl (fun q e => .inl e) (.inl rfl) (.inl rfl) (fun q e => .inl e) (fun q e => .inl e) (fun q e => .inl e)⟩
 ·rw [hl]; exact h.log.upd hu (h.not_v (j := 3) (by decide) rfl)
 ·rw [hl]; exact h.recs.upd hu (fun q e => h.not_v (j := 4) (by decide) e)
 ·rw [hS]; exact h.keep_map hu hm
 ·rw [hr]; exact h.rows.upd hu (fun q e => h.not_v (j := 6) (by decide) e)
 ·rw [hr]; exact h.keep_each hu hm
end
end
section
open Go Go.RowKit
theorem Blk.cells21 {w : World} {g : Nat} {t : TypeId} {a b c d e f h i j k l m n o p q r s u v x : Value} (z : Blk w g t #[a, b, c, d, e, f, h, i, j, k, l, m, n, o, p, q, r, s, u, v, x]) :
 w.cell? ⟨g, 0, none⟩ = some a ∧ w.cell? ⟨g, 1, none⟩ = some b ∧ w.cell? ⟨g, 2, none⟩ = some c ∧ w.cell? ⟨g, 3, none⟩ = some d ∧ w.cell? ⟨g, 4, none⟩ = some e ∧ w.cell? ⟨g, 5, none⟩ = some f ∧ w.cell? ⟨g, 6, none⟩ = some h ∧ w.cell? ⟨g, 7, none⟩ = some i ∧ w.cell? ⟨g, 8, none⟩ = some j ∧ w.cell? ⟨g, 20, none⟩ = some x :=
 ⟨z.cell 0, z.cell 1, z.cell 2, z.cell 3, z.cell 4, z.cell 5, z.cell 6, z.cell 7, z.cell 8, z.cell 20⟩
section
variable {w w' : World} {p v : Nat} {d d' : Dk} {V V' : VtM} {o o' : VtO}
theorem VtAt.down_ (h : VtAt w p v d V o) : VtAt (w.setCell ⟨v, 20, none⟩ (.bool true)) p v d { V with down := true } o ∧ VtStep w (w.setCell ⟨v, 20, none⟩ (.bool true)) v o o := by
 have hu : Upd (· = v) w (w.setCell ⟨v, 20, none⟩ (.bool true)) := upd_cell;exact h.nums_ (V' := { V with down := true }) (mv' := o.mv) hu (by
  have := h.blk.set_ 20 (.bool true);simpa [vtRow] using this) rfl rfl rfl rfl rfl rfl rfl (h.keep_mts hu (fun q e => .inl e))
theorem told_c (h : VtAt w p v d V o) (x : Int) : Calls Tryz.prog 59 #[.pointer (some ⟨v, 0, none⟩), .int .i64 x] w fun e w' => e = .returned (.int .i64 x) ∧ VtAt w' p v d (V.told x) o ∧ VtStep w w' v o o := by
 have hB := h.blk;unfold vtRow at hB;have hc := hB.cells21;have hz := hB.frozen 20;have H := Lib.hid h;clear h hB;by_cases hx : x = 14
 ·subst hx
  go_enter Tryz.func59, Tryz.ntmps59
  go_wp2
  go_ret
  refine ⟨rfl, ?_⟩;rw [show V.told 14 = { V with down := true } by unfold VtM.told; simp]
  exact H.out.down_
 ·have hx' : (x == 14) = false := by simpa using hx
  go_enter Tryz.func59, Tryz.ntmps59
  go_wp2
  go_ret
  refine ⟨rfl, ?_⟩;rw [show V.told x = V by unfold VtM.told; simp [hx]]
  exact ⟨H.out, VtStep.refl _ _ _⟩
theorem off_c (h : VtAt w p v d V o) : Calls Tryz.prog 53 #[.pointer (some ⟨v, 0, none⟩)] w fun e w' => e = .returned (.int .i64 (if offV d V then 14 else 0)) ∧ VtAt w' p v d (if offV d V then { V with down := true } else V) o ∧ VtStep w w' v o o ∧ (offV d V = false → w = w') := by
 have hB := h.blk;unfold vtRow at hB;have hc := hB.cells21;have hz := hB.frozen 20;have HD := Lib.hid (down_c h.disk);have H := Lib.hid h;clear h hB;cases hd : V.down
 ·rw [hd] at hc
  cases ho : d.off
  ·rw [ho] at HD
   have e : offV d V = false := by unfold offV; rw [hd, ho]; rfl
   rw [e];clear e ho hd;go_enter Tryz.func53, Tryz.ntmps53
   go_wp2_with (go_at_call 33; refine HD.out.mono ?_; rintro e w' ⟨rfl, rfl⟩);go_ret
   exact ⟨rfl, H.out, VtStep.refl _ _ _, rfl⟩
  ·rw [ho] at HD
   have e : offV d V = true := by unfold offV; rw [hd, ho]; rfl
   rw [e];clear e ho hd;go_enter Tryz.func53, Tryz.ntmps53
   go_wp2_with (go_at_call 33; refine HD.out.mono ?_; rintro e w' ⟨rfl, rfl⟩);go_ret
   exact ⟨rfl, H.out.down_.1, H.out.down_.2⟩
 ·rw [hd] at hc
  have e : offV d V = true := by unfold offV; rw [hd]; rfl
  rw [e];clear e hd;go_enter Tryz.func53, Tryz.ntmps53
  go_wp2_with fail
  go_ret
  exact ⟨rfl, H.out.down_.1, H.out.down_.2⟩
end
end
end Go.Proofs.YtbhjgfibhegddaaGreat
