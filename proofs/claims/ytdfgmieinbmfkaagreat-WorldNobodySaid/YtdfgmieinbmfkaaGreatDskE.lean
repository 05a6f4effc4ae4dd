/-
  A disk by its cells alone: what is read.
-/
import Derived.Test.YtdfgmieinbmfkaaGreatDiskA
namespace Go.Proofs.YtdfgmieinbmfkaaGreat
open Go Go.RowKit

set_option maxRecDepth 100000 in
theorem none_e {w : World} {P q bm : Nat} (hc : w.cell? ⟨P, q + 1, none⟩ = some (.map (some bm))) :
    Calls Tryz.prog 103 #[.pointer (some ⟨P, q, none⟩)] w fun e w' => e = .returned (.bool false) ∧ w = w' := by
  have hm := neqMapNil w (some bm)
  go_enter Tryz.func103, Tryz.ntmps103
  go_wp2
  go_ret
  exact ⟨rfl, rfl⟩
set_option maxRecDepth 100000 in
theorem out_e {w : World} {P q bm : Nat} (hc : w.cell? ⟨P, q + 1, none⟩ = some (.map (some bm))) (hc3 : w.cell? ⟨P, q + 3, none⟩ = some (.bool false)) :
    Calls Tryz.prog 392 #[.pointer (some ⟨P, q, none⟩)] w fun e w' => e = .returned (.int .i64 0) ∧ w = w' := by
  have Hn := Lib.hid (none_e hc)
  go_enter Tryz.func392, Tryz.ntmps392
  go_wp2_with (go_at_call 103; refine Hn.out.mono ?_; rintro e w' ⟨rfl, rfl⟩)
  go_ret
  exact ⟨rfl, rfl⟩
set_option maxRecDepth 100000 in
theorem there_e {w : World} {P q bl lo ll cap i : Nat} (hc : w.cell? ⟨P, q, none⟩ = some (.slice (some ⟨bl, lo, none⟩) ll cap)) (hi : i < ll) :
    Calls Tryz.prog 393 #[.pointer (some ⟨P, q, none⟩), .int .i64 (i : Int)] w fun e w' => e = .returned (.bool true) ∧ w = w' := by
  have h0 : (0 : Int) ≤ i := by omega
  have h1 : (i : Int) < ll := by omega
  go_enter Tryz.func393, Tryz.ntmps393
  go_wp2
  go_ret
  exact ⟨by simp, rfl⟩
set_option maxRecDepth 100000 in
theorem burns_e {w : World} {P q : Nat} {f : Int} (hc : w.cell? ⟨P, q + 2, none⟩ = some (.int .i64 f)) (hf : f < 0) :
    Calls Tryz.prog 394 #[.pointer (some ⟨P, q, none⟩)] w fun e w' => e = .returned (.int .i64 0) ∧ w = w' := by
  have h1 : ¬ (0 < f) := by omega
  have hz : (f == 0) = false := by simp; omega
  go_enter Tryz.func394, Tryz.ntmps394
  go_wp2
  go_ret
  exact ⟨rfl, rfl⟩
set_option maxRecDepth 100000 in
theorem read_e1 {w : World} {P q bl lo ll cap bm i : Nat} {x : ByteArray} (hc : w.cell? ⟨P, q, none⟩ = some (.slice (some ⟨bl, lo, none⟩) ll cap)) (hc1 : w.cell? ⟨P, q + 1, none⟩ = some (.map (some bm)))
    (hc3 : w.cell? ⟨P, q + 3, none⟩ = some (.bool false)) (hi : i < ll) (hk : (Instr.lookup 170 (.map (some bm)) (.int .i64 (i : Int)) false).run Tryz.prog w = .ok (.slice none 0 0) w)
    (hx : w.cell? ⟨bl, lo + i, none⟩ = some (.string x)) :
    Calls Tryz.prog 338 #[.pointer (some ⟨P, q, none⟩), .int .i64 (i : Int)] w fun e w' => e = .returned (.tuple #[.string x, .int .i64 0]) ∧ w = w' := by
  have Ho := Lib.hid (out_e hc1 hc3)
  have Ht := Lib.hid (there_e hc hi)
  clear hc3
  go_enter Tryz.func338, Tryz.ntmps338
  go_wp2_with (first | (go_at_call 392; refine Ho.out.mono ?_; rintro e w' ⟨rfl, rfl⟩) | (go_at_call 393; refine Ht.out.mono ?_; rintro e w' ⟨rfl, rfl⟩))
  go_ret2
  exact ⟨rfl, rfl⟩
set_option maxRecDepth 100000 in
theorem read_e2 {w : World} {P q bl lo ll cap bm i g o n c : Nat} {x : ByteArray} (hc : w.cell? ⟨P, q, none⟩ = some (.slice (some ⟨bl, lo, none⟩) ll cap)) (hc1 : w.cell? ⟨P, q + 1, none⟩ = some (.map (some bm)))
    (hc3 : w.cell? ⟨P, q + 3, none⟩ = some (.bool false)) (hi : i < ll) (hk : (Instr.lookup 170 (.map (some bm)) (.int .i64 (i : Int)) false).run Tryz.prog w = .ok (.slice (some ⟨g, o, none⟩) (n + 1) c) w)
    (hn : n < 1000000) (hx : w.cell? ⟨g, o + n, none⟩ = some (.string x)) :
    Calls Tryz.prog 338 #[.pointer (some ⟨P, q, none⟩), .int .i64 (i : Int)] w fun e w' => e = .returned (.tuple #[.string x, .int .i64 0]) ∧ w = w' := by
  have Ho := Lib.hid (out_e hc1 hc3)
  have Ht := Lib.hid (there_e hc hi)
  have hx' : w.cell? ⟨g, o + ((n + 1) - 1), none⟩ = some (.string x) := by rw [show n + 1 - 1 = n by omega]; exact hx
  generalize hm : n + 1 = m at *
  have hm0 : 0 < m := by omega
  have hm1 : m ≤ 1000000 := by omega
  clear hc3 hx hm hn
  go_enter Tryz.func338, Tryz.ntmps338
  go_wp2_with (first | (go_at_call 392; refine Ho.out.mono ?_; rintro e w' ⟨rfl, rfl⟩) | (go_at_call 393; refine Ht.out.mono ?_; rintro e w' ⟨rfl, rfl⟩))
  go_ret2
  exact ⟨rfl, rfl⟩
/-- A disk in the midst of a Sync: S tells what each sector that waits gets. -/
structure SyE (w wr : World) (bl bm r lo : Nat) (cs : Array Value) (e : TypeId) (fz : Nat × Nat) (S : Nat → ByteArray) (m left : List (Int × Value)) : Prop where
  row : ∃ cs', wr.heap[bl]? = some (.cells cs' e fz) ∧ cs'.size = cs.size ∧ ∀ j, cs'[j]? = if lo ≤ j ∧ ((j - lo : Nat) : Int) ∈ m.map (·.1) ∧ ((j - lo : Nat) : Int) ∉ left.map (·.1) then some (.string (S (j - lo))) else cs[j]?
  rng : Rng intKey wr r bm left left
  sub : ∀ q ∈ left, q ∈ m
  upd : Upd (fun b => b = bl ∨ b = bm) w wr
  new : w.heap.size ≤ r
theorem frozen_e {w : World} {r : Nat} {cs : Array Value} {e : TypeId} {fz : Nat × Nat} (h : w.heap[r]? = some (.cells cs e fz)) (hf : fz.1 = fz.2 ∨ cs.size ≤ fz.1) {i : Nat} (hi : i < cs.size) : w.frozen? ⟨r, i, none⟩ = false := by
  obtain ⟨a, b⟩ := fz
  unfold World.frozen?
  rw [h]
  rcases hf with hf | hf
  · have hf : a = b := hf
    subst hf
    simp
  · have hf : cs.size ≤ a := hf
    simp
    intro h
    omega
theorem cell_e {w : World} {r : Nat} {cs : Array Value} {e : TypeId} {fz : Nat × Nat} (h : w.heap[r]? = some (.cells cs e fz)) (i : Nat) : w.cell? ⟨r, i, none⟩ = cs[i]? := by
  unfold World.cell?; rw [h]; rfl
theorem cellU_e {w w' : World} {F : Nat → Prop} (hu : Upd F w w') {b : Nat} (hb : b < w.heap.size) (hn : ¬ F b) (o : Nat) : w'.cell? ⟨b, o, none⟩ = w.cell? ⟨b, o, none⟩ := World.cell?_of_block (w := w) (a := ⟨b, o, none⟩) (hu.block b hb hn)
theorem cell_lt_e {w : World} {a : Addr} {v : Value} (h : w.cell? a = some v) : a.block < w.heap.size := by
  unfold World.cell? at h
  cases hh : w.heap[a.block]? with
  | none => simp [hh] at h
  | some o => exact (Array.getElem?_eq_some_iff.1 hh).1
theorem cell_map_e {w : World} {g o : Nat} {v : Value} {es : Array MapEntry} {ck : Nat} (h : w.cell? ⟨g, o, none⟩ = some v) (h' : w.heap[g]? = some (.map es ck)) : False := by
  unfold World.cell? at h
  rw [h'] at h
  cases h
set_option maxRecDepth 100000 in
theorem burns_e2 {w : World} {P q : Nat} {f : Int} (hc : w.cell? ⟨P, q + 2, none⟩ = some (.int .i64 f)) (hz : w.frozen? ⟨P, q + 2, none⟩ = false) (hf : 0 < f) (hf2 : f ≤ 1000000) :
    Calls Tryz.prog 394 #[.pointer (some ⟨P, q, none⟩)] w fun e w' => e = .returned (.int .i64 0) ∧ w' = w.setCell ⟨P, q + 2, none⟩ (.int .i64 (f - 1)) := by
  have h0 : (f == 0) = false := by simp; omega
  have hw : IntKind.i64.wrap (f - 1) = f - 1 := IntWalk.i64_in _ (by omega)
  go_enter Tryz.func394, Tryz.ntmps394
  go_wp2
  go_ret
  exact ⟨rfl, rfl⟩
set_option maxRecDepth 100000 in
set_option maxHeartbeats 800000 in
theorem sync_g {w0 w : World} {P q bl lo ll cap bm : Nat} {cs : Array Value} {e : TypeId} {fz : Nat × Nat} {S : Nat → ByteArray} {m : List (Int × Value)}
    (hc : w.cell? ⟨P, q, none⟩ = some (.slice (some ⟨bl, lo, none⟩) ll cap)) (hc1 : w.cell? ⟨P, q + 1, none⟩ = some (.map (some bm)))
    (Ho0 : Calls Tryz.prog 392 #[.pointer (some ⟨P, q, none⟩)] w0 fun e w' => e = .returned (.int .i64 0) ∧ w0 = w') (Hb0 : Calls Tryz.prog 394 #[.pointer (some ⟨P, q, none⟩)] w0 fun e w' => e = .returned (.int .i64 0) ∧ w' = w) (hl : ll ≤ 1000000) (hPl : P ≠ bl) (hPm : P ≠ bm)
    (hb : w.heap[bl]? = some (.cells cs e fz)) (hsz : lo + ll ≤ cs.size) (hfz : fz.1 = fz.2 ∨ cs.size ≤ fz.1) (hM : MapB intKey w bm m)
    (hV : ∀ x ∈ m, ∃ i g o n c : Nat, x = ((i : Int), .slice (some ⟨g, o, none⟩) (n + 1) c) ∧ i < ll ∧ n < 1000000 ∧ g ≠ bl ∧ w.cell? ⟨g, o + n, none⟩ = some (.string (S i))) :
    Calls Tryz.prog 312 #[.pointer (some ⟨P, q, none⟩)] w0 fun e' w' => e' = .returned (.int .i64 0) ∧ Upd (fun b => b = bl ∨ b = bm) w w' ∧ MapB intKey w' bm [] ∧
      ∃ cs', w'.heap[bl]? = some (.cells cs' e fz) ∧ cs'.size = cs.size ∧ ∀ j, cs'[j]? = if lo ≤ j ∧ ((j - lo : Nat) : Int) ∈ m.map (·.1) then some (.string (S (j - lo))) else cs[j]? := by
  have hlm : bl ≠ bm := fun e => by
    obtain ⟨es, ck, h1, _⟩ := hM
    rw [e, h1] at hb; cases hb
  have hPs : P < w.heap.size := cell_lt_e hc
  have hls : bl < w.heap.size := (Array.getElem?_eq_some_iff.1 hb).1
  have hms := hM.lt
  have Ho := Lib.hid Ho0
  have Hb := Lib.hid Hb0
  obtain ⟨w2, hr2, hR2, hU2, hs2⟩ := hM.run_range (P := Tryz.prog) Tryz.underlying170
  have hstart : SyE w w2 bl bm w.heap.size lo cs e fz S m m := by
    refine ⟨⟨cs, (hU2.block bl hls id).trans hb, rfl, fun j => ?_⟩, hR2, fun _ h => h, hU2.mono (fun _ e => e.elim), Nat.le_refl _⟩
    rw [if_neg (fun h => h.2.2 h.2.1)]
  have hnd := hM.nodup
  have hgm : ∀ x ∈ m, ∀ g o n c, x.2 = .slice (some ⟨g, o, none⟩) n c → g ≠ bm := fun x hx g o n c e1 e2 => by
    obtain ⟨i, g', o', n', c', rfl, _, _, _, hcell⟩ := hV x hx
    obtain ⟨es, ck, h1, _⟩ := hM
    injection e1 with e3 e4 e5
    injection e3 with e3
    injection e3 with e3 e6 e7
    subst e3
    rw [← e2] at h1
    exact cell_map_e hcell h1
  have HG := Lib.hid hgm
  have HX := Lib.hid (And.intro hV (And.intro hPl (And.intro hPm (And.intro hlm (And.intro hnd (And.intro hsz hfz))))))
  have HW := Lib.hid (And.intro hc (And.intro hc1 (And.intro hPs (And.intro hls hms))))
  have HB := Lib.hid hb
  clear hV hPl hPm hlm hsz hfz hM hR2 hU2 hs2 hb Ho0 Hb0 hPs hls hms hnd hgm
  go_enter Tryz.func312, Tryz.ntmps312
  go_wp2_with (first
    | (go_at_call 392; refine Ho.out.mono ?_; rintro e w' ⟨rfl, rfl⟩)
    | (go_at_call 394; refine Hb.out.mono ?_; rintro e w1 ⟨rfl, hw1⟩; rw [hw1]; clear hw1 w1))
  clear Ho Hb hr2 hc hc1
  go_loopw [5] (fun _ wr => ∃ left, SyE w wr bl bm w.heap.size lo cs e fz S m left) (fun _ wr => rngLeft wr w.heap.size bm)
  case atStart => exact ⟨m, hstart⟩
  case round =>
    obtain ⟨left, hS⟩ := hrel
    clear hstart
    have HS := Lib.hid hS
    have hmu := Lib.hid (hS.rng.left_eq)
    rcases hS.rng.run_next (P := Tryz.prog) keyI.inj 0 with ⟨h0, hrun⟩ | ⟨k, v, l1, l2, w3, hleft, hmem, hrun, hR3, hen, hU3, hs3⟩
    · clear hS hmu
      subst h0
      go_wp2
      go_ret
      have hx := HS.out
      obtain ⟨cs', x1, x2, x3⟩ := hx.row
      exact ⟨rfl, hx.upd, hx.rng.map, cs', x1, x2, fun j => by
        rw [x3 j]
        by_cases h : lo ≤ j ∧ ((j - lo : Nat) : Int) ∈ m.map (·.1)
        · rw [if_pos h, if_pos ⟨h.1, h.2, fun h => by cases h⟩]
        · rw [if_neg h, if_neg (fun h' => h ⟨h'.1, h'.2.1⟩)]⟩
    · obtain ⟨i, g, o, n, c, hkv, hi, hn, hgl, hcell⟩ := HX.out.1 _ (hS.sub (k, v) (by rw [hleft]; simp))
      obtain ⟨rfl, rfl⟩ : k = (i : Int) ∧ v = .slice (some ⟨g, o, none⟩) (n + 1) c := by injection hkv with a b; exact ⟨a, b⟩
      obtain ⟨cs', x1, x2, x3⟩ := hS.row
      have hgw := cell_lt_e hcell
      have hgm := HG.out ((i : Int), Value.slice (some ⟨g, o, none⟩) (n + 1) c) (hS.sub _ (by rw [hleft]; simp)) g o (n + 1) c rfl
      obtain ⟨hc, hc1, hPs, hls, hms⟩ := HW.out
      obtain ⟨-, hPl, hPm, hlm, hnd, hsz, hfz⟩ := HX.out
      have hUw := hS.upd
      have far : ∀ b o, b < w.heap.size → b ≠ bl → b ≠ bm → w3.cell? ⟨b, o, none⟩ = w.cell? ⟨b, o, none⟩ := fun b o h1 h2 h3 => by
        rw [cellU_e hU3 (Nat.lt_of_lt_of_le h1 hUw.size) (by have := hS.new; omega), cellU_e hUw h1 (fun e => e.elim h2 h3)]
      have d0 := (far P q hPs hPl hPm).trans hc
      have d1 := (far P (q + 1) hPs hPl hPm).trans hc1
      have hlast : w3.cell? ⟨g, o + ((n + 1) - 1), none⟩ = some (.string (S i)) := by
        rw [show n + 1 - 1 = n by omega]; exact (far g (o + n) hgw hgl hgm).trans hcell
      have hb3 : w3.heap[bl]? = some (.cells cs' e fz) := (hU3.block bl (Nat.lt_of_lt_of_le hls hUw.size) (by omega)).trans x1
      obtain ⟨y, hy⟩ : ∃ y, cs'[lo + i]? = some y := ⟨_, Array.getElem?_eq_getElem (by omega)⟩
      have hold : w3.cell? ⟨bl, lo + i, none⟩ = some y := by rw [cell_e hb3, hy]
      have hzz : w3.frozen? ⟨bl, lo + i, none⟩ = false := frozen_e hb3 (by rw [x2]; exact hfz) (by omega)
      generalize hm1 : n + 1 = n1 at *
      have hn0 : 0 < n1 := by omega
      have hn9 : n1 ≤ 1000000 := by omega
      have HU := Lib.hid (And.intro hb3 (And.intro hR3 (And.intro hU3 (And.intro x2 x3))))
      have HN := Lib.hid (And.intro hPs (And.intro hls (And.intro hms (And.intro hPl (And.intro hPm (And.intro hlm (And.intro hnd (And.intro hsz hy))))))))
      have Hleft := Lib.hid hleft
      clear hS hleft hU3 hR3 hb3 x1 x2 x3 hUw far hcell hgw hgl hgm hPs hls hms hPl hPm hlm hnd hsz hfz hy hmem hc hc1 hkv
      go_wp2_with fail
      go_region
      obtain ⟨hb3, hR3, hU3, x2, x3⟩ := HU.out
      obtain ⟨hPs, hls, hms, hPl, hPm, hlm, hnd, hsz, hy⟩ := HN.out
      have hlr : bl ≠ w.heap.size := by omega
      have hR4 := (hR3.far (p := ⟨bl, lo + i, none⟩) (Ne.symm hlr) (Ne.symm hlm) (.string (S i))).drew
      obtain ⟨w4, hrun4, hR5, hU5, hs5⟩ := hR4.run_delete (P := Tryz.prog) (ty := 0) keyI Tryz.underlying170 Tryz.underlying3 (i : Int)
      have HV := Lib.hid (And.intro hR5 hU5)
      have hc4 : (w3.setCell ⟨bl, lo + i, none⟩ (.string (S i))).cell? ⟨P, q + 1, none⟩ = some (.map (some bm)) := by
        rw [World.cell?_setCell_other _ _ _ _ (fun e => hPl (by injection e with e1; exact e1.symm))]; exact d1
      have hc0 : (w3.setCell ⟨bl, lo + i, none⟩ (.string (S i))).cell? ⟨P, q, none⟩ = some (.slice (some ⟨bl, lo, none⟩) ll cap) := by
        rw [World.cell?_setCell_other _ _ _ _ (fun e => hPl (by injection e with e1; exact e1.symm))]; exact d0
      clear d0 d1 hb3 hR3 hU3 x2 x3 hPs hls hms hPl hPm hlm hnd hsz hy hlr hR4 hR5 hU5 hs5 hen hrun hlast hold hzz
      go_wp2_with (refine wpList_delete_run rfl _ _ _ _ rfl rfl rfl hrun4 ?_; go_frame)
      have hround : SyE w w4 bl bm w.heap.size lo cs e fz S m (l1 ++ l2) := by
        obtain ⟨hb3, hR3, hU3, x2, x3⟩ := HU.out
        obtain ⟨hPs, hls, hms, hPl, hPm, hlm, hnd, hsz, hy⟩ := HN.out
        obtain ⟨hR5, hU5⟩ := HV.out
        have hS := HS.out
        have hln := hS.rng.map.nodup
        rw [Hleft.out] at hln
        have hd := delA_split hln
        rw [Hleft.out, hd.1, hd.2] at hR5
        have hU4 : Upd (· = bl) w3 (w3.setCell ⟨bl, lo + i, none⟩ (.string (S i))).drew := ((Upd.refl (· = bl) w3).setCell (p := ⟨bl, lo + i, none⟩) (.inl rfl) _).drew
        have hU34 : Upd (fun b => b = bl ∨ b = bm) w3 w4 := hU4.trans hU5 (fun b h => .inl h) (fun b h => .inl (.inr h))
        have hUr : Upd (fun b => b = bl ∨ b = bm ∨ b = w.heap.size) wr w4 := hU3.trans hU34 (fun b h => .inr (.inr h)) (fun b h => .inl (h.elim .inl (fun h => .inr (.inl h))))
        refine ⟨⟨cs'.setIfInBounds (lo + i) (.string (S i)), ?_, by simpa using x2, fun j => ?_⟩, hR5, fun x hx => hS.sub x (by
            rw [Hleft.out]
            simp only [List.mem_append, List.mem_cons] at hx ⊢
            exact hx.elim .inl (fun h => .inr (.inr h))), hS.upd.then hUr (fun b h => ?_), Nat.le_refl _⟩
        · rw [hU5.block bl (by show bl < (w3.setCell _ _).heap.size; simp [World.setCell]; exact (Array.getElem?_eq_some_iff.1 hb3).1) hlm]
          show (w3.setCell ⟨bl, lo + i, none⟩ (.string (S i))).heap[bl]? = _
          simp [World.setCell, Array.getElem?_modify, hb3]
        · rw [Array.getElem?_setIfInBounds]
          have hmi : (i : Int) ∈ m.map (·.1) := List.mem_map.2 ⟨((i : Int), .slice (some ⟨g, o, none⟩) n1 c), hS.sub _ (by rw [Hleft.out]; simp), rfl⟩
          have hkl : ∀ k : Int, k ∈ left.map (·.1) ↔ k = i ∨ k ∈ (l1 ++ l2).map (·.1) := fun k => by
            rw [Hleft.out]; simp only [List.map_append, List.map_cons, List.mem_append, List.mem_cons]
            exact ⟨fun h => h.elim (fun h => .inr (.inl h)) fun h => h.elim .inl fun h => .inr (.inr h), fun h => h.elim (fun h => .inr (.inl h)) fun h => h.elim .inl fun h => .inr (.inr h)⟩
          have hni : (i : Int) ∉ (l1 ++ l2).map (·.1) := fun h => by
            simp only [List.map_append, List.map_cons, List.mem_append] at h hln
            have h1 := List.nodup_append.1 hln
            have h2 := List.nodup_cons.1 h1.2.1
            rcases h with h | h
            · exact h1.2.2 _ h _ (.head _) rfl
            · exact h2.1 h
          by_cases hj : lo + i = j
          · subst hj
            rw [if_pos rfl, if_pos (Array.getElem?_eq_some_iff.1 hy).1, if_pos]
            · rw [show lo + i - lo = i by omega]
            · rw [show lo + i - lo = i by omega]
              exact ⟨by omega, hmi, hni⟩
          · rw [if_neg hj, x3]
            by_cases hlo : lo ≤ j
            · have hne : ((j - lo : Nat) : Int) ≠ (i : Int) := by omega
              have : ((j - lo : Nat) : Int) ∈ left.map (·.1) ↔ ((j - lo : Nat) : Int) ∈ (l1 ++ l2).map (·.1) := by
                rw [hkl]; exact ⟨fun h => h.resolve_left hne, .inr⟩
              simp only [this]
            · rw [if_neg (fun h => hlo h.1), if_neg (fun h => hlo h.1)]
        · rcases h with h | h | h
          · exact .inl (.inl h)
          · exact .inl (.inr h)
          · exact .inr (by omega)
      go_roundw
      case rel => exact ⟨_, hround⟩
      case measure =>
        rw [hround.rng.left_eq, HS.out.rng.left_eq, Hleft.out]
        simp
end Go.Proofs.YtdfgmieinbmfkaaGreat
