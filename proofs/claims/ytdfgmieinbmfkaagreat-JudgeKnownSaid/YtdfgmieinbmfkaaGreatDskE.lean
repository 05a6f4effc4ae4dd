/-
  The paths of a map, by its cells alone.
-/
import Derived.Test.YtdfgmieinbmfkaaGreatDiskA
import Derived.Test.YtdfgmieinbmfkaaGreatIterS
import Derived.Test.YtdfgmieinbmfkaaGreatShelf
import Derived.Shelf.SlIter.Nil
import Derived.StringKeys
import Derived.Test.YtdfgmieinbmfkaaGreatIter
import Derived.Shelf.SlIterI.Nil
import Derived.Shelf.SortM.Plain
import Derived.Shelf.SortM.SortNone
namespace Go.Proofs.YtdfgmieinbmfkaaGreat
open Go Go.RowKit Go.Maps Go.Sort Go.Shelf Go.WideShapes

/-- How an element reads here: not at all. -/
abbrev noEl : Value → Option (DataW Unit × List MemPlace) := fun _ => some (.nil, [])
abbrev strKy : ByteArray → Value := fun s => Value.string s
theorem mapB_owns_e {w : World} {bm : Nat} {m : List (ByteArray × Value)} (hM : MapB strKy w bm m) (hk : ∀ p ∈ m, p.1.size ≤ 1000) (hs : m.length ≤ 5000) :
    ∃ D0 : DataW Unit, w.ownsMap Tryz.prog 9 noEl bm m.length D0 ∧ (strKeys D0).Perm (m.map fun p => p.1.data.toList) ∧ Maps.size D0 = m.length := by
  obtain ⟨es, clock, hb, hst, hm⟩ := hM
  have hlen : es.toList.length = m.length := by have := congrArg List.length hm; simpa using this
  have hrd : ∀ x ∈ es.toList, ∃ a : ByteArray, x.key = strKy a ∧ Go.WideElems.rd Tryz.prog 9 noEl x = some (.string a.data.toList, .nil) := by
    intro x hx
    obtain ⟨j, hj⟩ := List.getElem?_of_mem hx
    obtain ⟨p, hp, h1, h2⟩ := at_place hm j x hj
    refine ⟨p.1, h1, ?_⟩
    have hko : keyOf Tryz.prog 9 x.key = some (.string p.1.data.toList) := by rw [h1]; exact Go.WideMaps.keyOf_string_mk Tryz.underlying9 (by have := hk p (List.mem_of_getElem? hp); unfold maxLen; omega)
    unfold Go.WideElems.rd
    rw [hko]
    rfl
  refine ⟨_, ⟨es, clock, hb, ⟨by unfold maxLen; simp at hlen; omega, hst, fun x hx => ?_⟩, by simp at hlen; omega, rfl⟩, ?_, ?_⟩
  · obtain ⟨a, -, h⟩ := hrd x hx
    exact ⟨_, h⟩
  · show List.Perm (((es.toList.map (Go.WideElems.rg Tryz.prog 9 noEl)).foldr DataW.insert []).map fun p => strOf p.1) _
    refine ((sorted_perm _).map _).trans ?_
    rw [List.map_map]
    have e1 : es.toList.map ((fun p : Lit × DataW Unit => strOf p.1) ∘ Go.WideElems.rg Tryz.prog 9 noEl) = es.toList.map ((fun v : Value => match v with | .string a => a.data.toList | _ => []) ∘ fun e : MapEntry => e.key) := by
      refine List.map_congr_left fun x hx => ?_
      obtain ⟨a, h1, h2⟩ := hrd x hx
      simp only [Function.comp, Go.WideElems.rg_of h2, h1, strOf]
    rw [e1, ← List.map_map, keys_of hm, List.map_map]
    have e2 : m.map ((fun v : Value => match v with | .string a => a.data.toList | _ => []) ∘ fun p : ByteArray × Value => strKy p.1) = m.map fun p => p.1.data.toList := rfl
    rw [e2]
  · show ((es.toList.map (Go.WideElems.rg Tryz.prog 9 noEl)).foldr DataW.insert []).length = m.length
    rw [(sorted_perm _).length_eq, List.length_map, hlen]
theorem sortsE (m : Nat) : AnyZ.SortsIn Tryz.prog Tryz.sortedB_ren Fence.wide m :=
  ⟨fun blk off cap ss W hH hblk hsz => callsIn_wide.2 (Tryz.slices_Sort_string blk off cap ss W hH hblk hsz),
   fun p cap W => callsIn_wide.2 (Tryz.slices_Sort_string_none p cap W)⟩
/-- maps.Keys. -/
theorem keys_e (mb : Option Nat) (W : World) : Calls Tryz.prog 212 #[.map mb] W fun e w' => e = .returned (.func (.func 331) #[] #[.pointer (some ⟨W.heap.size, 0, none⟩)]) ∧ w' = W.alloc (.cells #[.map mb] 160) :=
  (callsIn_wide (n := 5)).1 (AnyZ.keys_in Tryz.keysB Fence.wide 5 trivial rfl mb W)
set_option maxHeartbeats 1000000 in
theorem sorted_e {w : World} {g b : Nat} {m : List (ByteArray × Value)} (hg : g < w.heap.size) (hc : w.cell? ⟨g, 0, none⟩ = some (.map (some b))) (hM : MapB strKy w b m) (hk : ∀ p ∈ m, p.1.size ≤ 1000) (hs : m.length ≤ 5000) :
    Calls Tryz.prog 211 #[.func (.func 331) #[] #[.pointer (some ⟨g, 0, none⟩)]] w fun e w' => ∃ v, e = .returned v ∧ (v = .slice none 0 0 ↔ m = []) ∧
      w'.ownsRow w.heap.size 9 1 v m.length (((m.map fun p => p.1.data.toList).mergeSort fun x y => decide (x ≤ y)).map encStr) ∧ Upd (fun _ => False) w w' := by
  obtain ⟨D0, hown, hperm, hsize⟩ := mapB_owns_e hM hk hs
  have hseq : SeqGives Fence.wide 2 Tryz.prog 331 #[.pointer (some ⟨g, 0, none⟩)] encStr (fun ss => ss.Perm (strKeys D0)) (Maps.size D0) w :=
    AnyZ.keys_gives (ρ := Tryz.keysB_ren) { Tryz.keysB with } Fence.wide _ trivial rfl (by omega) g b m.length D0 _ hg hc hown
  have cS := AnyZ.sorted_in Tryz.sortedB Fence.wide 5 trivial trivial trivial trivial rfl (by omega) (sortsE _) (enters_of Tryz.func330 (by kernel_rfl) rfl) 331 #[.pointer (some ⟨g, 0, none⟩)] trivial (enters_of Tryz.func331 (by kernel_rfl) rfl) _ _ (by rw [hsize]; unfold maxLen; omega) (by rw [hsize]; omega) _ hseq
  refine ((callsIn_wide (n := 5)).1 cS).mono ?_
  rintro e w' ⟨v, ss, rfl, hS2, hrow, hnil, hb⟩
  have hp : ss.Perm (m.map fun p => p.1.data.toList) := hS2.trans hperm
  have hl : ss.length = m.length := by have := hp.length_eq; simpa using this
  rw [mergeSort_of_perm hp, hl] at hrow
  refine ⟨v, rfl, ?_, hrow, Upd.of_below hb _⟩
  rw [hnil]
  constructor
  · intro e; rw [e] at hl; exact List.length_eq_zero_iff.1 (by simpa using hl.symm)
  · intro e; rw [e] at hl; exact List.length_eq_zero_iff.1 (by simpa using hl)
set_option maxRecDepth 100000 in
theorem paths_e {w : World} {P q b : Nat} {m : List (ByteArray × Value)} (hc : w.cell? ⟨P, q, none⟩ = some (.map (some b))) (hM : MapB strKy w b m) (hk : ∀ p ∈ m, p.1.size ≤ 1000) (hs : m.length ≤ 5000) :
    Calls Tryz.prog 94 #[.pointer (some ⟨P, q, none⟩)] w fun e w' => ∃ v, e = .returned v ∧ (v = .slice none 0 0 ↔ m = []) ∧
      w'.ownsRow (w.heap.size + 1) 9 1 v m.length (((m.map fun p => p.1.data.toList).mergeSort fun x y => decide (x ≤ y)).map encStr) ∧ Upd (fun _ => False) w w' := by
  have hks := keys_e (some b) w
  have hso := sorted_e (w := w.alloc (.cells #[.map (some b)] 160)) (g := w.heap.size) (by simp) (by simp) (hM.alloc _) hk hs
  have e1 : (w.alloc (.cells #[.map (some b)] 160)).heap.size = w.heap.size + 1 := by simp
  rw [e1] at hso
  have HK := Lib.hid hks
  have HS := Lib.hid hso
  clear hks hso hM hk hs e1
  go_enter Tryz.func94, Tryz.ntmps94
  go_wp2_with fail
  refine HK.out.mono ?_
  rintro e w1 ⟨rfl, rfl⟩
  go_wp2_with fail
  refine HS.out.mono ?_
  rintro e w2 ⟨v, rfl, hnil, hrow, hU⟩
  have H2 := Lib.hid (And.intro hnil (And.intro hrow hU))
  clear hnil hrow hU
  go_wp2_with fail
  go_ret
  obtain ⟨a, b1, c⟩ := H2.out
  exact ⟨_, rfl, a, b1, ((Upd.refl _ w).alloc _).then c fun _ e => e.elim⟩
end Go.Proofs.YtdfgmieinbmfkaaGreat

/-
  A disk by its cells alone: what is read.
-/
namespace Go.Proofs.YtdfgmieinbmfkaaGreat
open Go Go.RowKit

set_option maxRecDepth 100000 in
theorem none_e {w : World} {P q bm : Nat} (hc : w.cell? ⟨P, q + 1, none⟩ = some (.map (some bm))) :
    Calls Tryz.prog 103 #[.pointer (some ⟨P, q, none⟩)] w fun e w' => e = .returned (.bool false) ∧ w = w' := by
  have hm := neqMapNil w (some bm)
  go_enter Tryz.func103, Tryz.ntmps103
  go_wp2
  go_ret
  exact ⟨rfl, rfl⟩
set_option maxRecDepth 100000 in
theorem out_e {w : World} {P q bm : Nat} (hc : w.cell? ⟨P, q + 1, none⟩ = some (.map (some bm))) (hc3 : w.cell? ⟨P, q + 3, none⟩ = some (.bool false)) :
    Calls Tryz.prog 392 #[.pointer (some ⟨P, q, none⟩)] w fun e w' => e = .returned (.int .i64 0) ∧ w = w' := by
  have Hn := Lib.hid (none_e hc)
  go_enter Tryz.func392, Tryz.ntmps392
  go_wp2_with (go_at_call 103; refine Hn.out.mono ?_; rintro e w' ⟨rfl, rfl⟩)
  go_ret
  exact ⟨rfl, rfl⟩
set_option maxRecDepth 100000 in
theorem there_e {w : World} {P q bl lo ll cap i : Nat} (hc : w.cell? ⟨P, q, none⟩ = some (.slice (some ⟨bl, lo, none⟩) ll cap)) (hi : i < ll) :
    Calls Tryz.prog 393 #[.pointer (some ⟨P, q, none⟩), .int .i64 (i : Int)] w fun e w' => e = .returned (.bool true) ∧ w = w' := by
  have h0 : (0 : Int) ≤ i := by omega
  have h1 : (i : Int) < ll := by omega
  go_enter Tryz.func393, Tryz.ntmps393
  go_wp2
  go_ret
  exact ⟨by simp, rfl⟩
set_option maxRecDepth 100000 in
theorem burns_e {w : World} {P q : Nat} {f : Int} (hc : w.cell? ⟨P, q + 2, none⟩ = some (.int .i64 f)) (hf : f < 0) :
    Calls Tryz.prog 394 #[.pointer (some ⟨P, q, none⟩)] w fun e w' => e = .returned (.int .i64 0) ∧ w = w' := by
  have h1 : ¬ (0 < f) := by omega
  have hz : (f == 0) = false := by simp; omega
  go_enter Tryz.func394, Tryz.ntmps394
  go_wp2
  go_ret
  exact ⟨rfl, rfl⟩
set_option maxRecDepth 100000 in
theorem read_e1 {w : World} {P q bl lo ll cap bm i : Nat} {x : ByteArray} (hc : w.cell? ⟨P, q, none⟩ = some (.slice (some ⟨bl, lo, none⟩) ll cap)) (hc1 : w.cell? ⟨P, q + 1, none⟩ = some (.map (some bm)))
    (hc3 : w.cell? ⟨P, q + 3, none⟩ = some (.bool false)) (hi : i < ll) (hk : (Instr.lookup 170 (.map (some bm)) (.int .i64 (i : Int)) false).run Tryz.prog w = .ok (.slice none 0 0) w)
    (hx : w.cell? ⟨bl, lo + i, none⟩ = some (.string x)) :
    Calls Tryz.prog 338 #[.pointer (some ⟨P, q, none⟩), .int .i64 (i : Int)] w fun e w' => e = .returned (.tuple #[.string x, .int .i64 0]) ∧ w = w' := by
  have Ho := Lib.hid (out_e hc1 hc3)
  have Ht := Lib.hid (there_e hc hi)
  clear hc3
  go_enter Tryz.func338, Tryz.ntmps338
  go_wp2_with (first | (go_at_call 392; refine Ho.out.mono ?_; rintro e w' ⟨rfl, rfl⟩) | (go_at_call 393; refine Ht.out.mono ?_; rintro e w' ⟨rfl, rfl⟩))
  go_ret2
  exact ⟨rfl, rfl⟩
set_option maxRecDepth 100000 in
theorem read_e2 {w : World} {P q bl lo ll cap bm i g o n c : Nat} {x : ByteArray} (hc : w.cell? ⟨P, q, none⟩ = some (.slice (some ⟨bl, lo, none⟩) ll cap)) (hc1 : w.cell? ⟨P, q + 1, none⟩ = some (.map (some bm)))
    (hc3 : w.cell? ⟨P, q + 3, none⟩ = some (.bool false)) (hi : i < ll) (hk : (Instr.lookup 170 (.map (some bm)) (.int .i64 (i : Int)) false).run Tryz.prog w = .ok (.slice (some ⟨g, o, none⟩) (n + 1) c) w)
    (hn : n < 1000000) (hx : w.cell? ⟨g, o + n, none⟩ = some (.string x)) :
    Calls Tryz.prog 338 #[.pointer (some ⟨P, q, none⟩), .int .i64 (i : Int)] w fun e w' => e = .returned (.tuple #[.string x, .int .i64 0]) ∧ w = w' := by
  have Ho := Lib.hid (out_e hc1 hc3)
  have Ht := Lib.hid (there_e hc hi)
  have hx' : w.cell? ⟨g, o + ((n + 1) - 1), none⟩ = some (.string x) := by rw [show n + 1 - 1 = n by omega]; exact hx
  generalize hm : n + 1 = m at *
  have hm0 : 0 < m := by omega
  have hm1 : m ≤ 1000000 := by omega
  clear hc3 hx hm hn
  go_enter Tryz.func338, Tryz.ntmps338
  go_wp2_with (first | (go_at_call 392; refine Ho.out.mono ?_; rintro e w' ⟨rfl, rfl⟩) | (go_at_call 393; refine Ht.out.mono ?_; rintro e w' ⟨rfl, rfl⟩))
  go_ret2
  exact ⟨rfl, rfl⟩
/-- A disk in the midst of a Sync: S tells what each sector that waits gets. -/
structure SyE (w wr : World) (bl bm r lo : Nat) (cs : Array Value) (e : TypeId) (fz : Nat × Nat) (S : Nat → ByteArray) (m left : List (Int × Value)) : Prop where
  row : ∃ cs', wr.heap[bl]? = some (.cells cs' e fz) ∧ cs'.size = cs.size ∧ ∀ j, cs'[j]? = if lo ≤ j ∧ ((j - lo : Nat) : Int) ∈ m.map (·.1) ∧ ((j - lo : Nat) : Int) ∉ left.map (·.1) then some (.string (S (j - lo))) else cs[j]?
  rng : Rng intKey wr r bm left left
  sub : ∀ q ∈ left, q ∈ m
  upd : Upd (fun b => b = bl ∨ b = bm) w wr
  new : w.heap.size ≤ r
theorem frozen_e {w : World} {r : Nat} {cs : Array Value} {e : TypeId} {fz : Nat × Nat} (h : w.heap[r]? = some (.cells cs e fz)) (hf : fz.1 = fz.2 ∨ cs.size ≤ fz.1) {i : Nat} (hi : i < cs.size) : w.frozen? ⟨r, i, none⟩ = false := by
  obtain ⟨a, b⟩ := fz
  unfold World.frozen?
  rw [h]
  rcases hf with hf | hf
  · have hf : a = b := hf
    subst hf
    simp
  · have hf : cs.size ≤ a := hf
    simp
    intro h
    omega
theorem cell_e {w : World} {r : Nat} {cs : Array Value} {e : TypeId} {fz : Nat × Nat} (h : w.heap[r]? = some (.cells cs e fz)) (i : Nat) : w.cell? ⟨r, i, none⟩ = cs[i]? := by
  unfold World.cell?; rw [h]; rfl
theorem cellU_e {w w' : World} {F : Nat → Prop} (hu : Upd F w w') {b : Nat} (hb : b < w.heap.size) (hn : ¬ F b) (o : Nat) : w'.cell? ⟨b, o, none⟩ = w.cell? ⟨b, o, none⟩ := World.cell?_of_block (w := w) (a := ⟨b, o, none⟩) (hu.block b hb hn)
theorem cell_lt_e {w : World} {a : Addr} {v : Value} (h : w.cell? a = some v) : a.block < w.heap.size := by
  unfold World.cell? at h
  cases hh : w.heap[a.block]? with
  | none => simp [hh] at h
  | some o => exact (Array.getElem?_eq_some_iff.1 hh).1
theorem cell_map_e {w : World} {g o : Nat} {v : Value} {es : Array MapEntry} {ck : Nat} (h : w.cell? ⟨g, o, none⟩ = some v) (h' : w.heap[g]? = some (.map es ck)) : False := by
  unfold World.cell? at h
  rw [h'] at h
  cases h
set_option maxRecDepth 100000 in
theorem burns_e2 {w : World} {P q : Nat} {f : Int} (hc : w.cell? ⟨P, q + 2, none⟩ = some (.int .i64 f)) (hz : w.frozen? ⟨P, q + 2, none⟩ = false) (hf : 0 < f) (hf2 : f ≤ 1000000) :
    Calls Tryz.prog 394 #[.pointer (some ⟨P, q, none⟩)] w fun e w' => e = .returned (.int .i64 0) ∧ w' = w.setCell ⟨P, q + 2, none⟩ (.int .i64 (f - 1)) := by
  have h0 : (f == 0) = false := by simp; omega
  have hw : IntKind.i64.wrap (f - 1) = f - 1 := IntWalk.i64_in _ (by omega)
  go_enter Tryz.func394, Tryz.ntmps394
  go_wp2
  go_ret
  exact ⟨rfl, rfl⟩
set_option maxRecDepth 100000 in
set_option maxHeartbeats 800000 in
theorem sync_g {w0 w : World} {P q bl lo ll cap bm : Nat} {cs : Array Value} {e : TypeId} {fz : Nat × Nat} {S : Nat → ByteArray} {m : List (Int × Value)}
    (hc : w.cell? ⟨P, q, none⟩ = some (.slice (some ⟨bl, lo, none⟩) ll cap)) (hc1 : w.cell? ⟨P, q + 1, none⟩ = some (.map (some bm)))
    (Ho0 : Calls Tryz.prog 392 #[.pointer (some ⟨P, q, none⟩)] w0 fun e w' => e = .returned (.int .i64 0) ∧ w0 = w') (Hb0 : Calls Tryz.prog 394 #[.pointer (some ⟨P, q, none⟩)] w0 fun e w' => e = .returned (.int .i64 0) ∧ w' = w) (hl : ll ≤ 1000000) (hPl : P ≠ bl) (hPm : P ≠ bm)
    (hb : w.heap[bl]? = some (.cells cs e fz)) (hsz : lo + ll ≤ cs.size) (hfz : fz.1 = fz.2 ∨ cs.size ≤ fz.1) (hM : MapB intKey w bm m)
    (hV : ∀ x ∈ m, ∃ i g o n c : Nat, x = ((i : Int), .slice (some ⟨g, o, none⟩) (n + 1) c) ∧ i < ll ∧ n < 1000000 ∧ g ≠ bl ∧ w.cell? ⟨g, o + n, none⟩ = some (.string (S i))) :
    Calls Tryz.prog 312 #[.pointer (some ⟨P, q, none⟩)] w0 fun e' w' => e' = .returned (.int .i64 0) ∧ Upd (fun b => b = bl ∨ b = bm) w w' ∧ MapB intKey w' bm [] ∧
      ∃ cs', w'.heap[bl]? = some (.cells cs' e fz) ∧ cs'.size = cs.size ∧ ∀ j, cs'[j]? = if lo ≤ j ∧ ((j - lo : Nat) : Int) ∈ m.map (·.1) then some (.string (S (j - lo))) else cs[j]? := by
  have hlm : bl ≠ bm := fun e => by
    obtain ⟨es, ck, h1, _⟩ := hM
    rw [e, h1] at hb; cases hb
  have hPs : P < w.heap.size := cell_lt_e hc
  have hls : bl < w.heap.size := (Array.getElem?_eq_some_iff.1 hb).1
  have hms := hM.lt
  have Ho := Lib.hid Ho0
  have Hb := Lib.hid Hb0
  obtain ⟨w2, hr2, hR2, hU2, hs2⟩ := hM.run_range (P := Tryz.prog) Tryz.underlying170
  have hstart : SyE w w2 bl bm w.heap.size lo cs e fz S m m := by
    refine ⟨⟨cs, (hU2.block bl hls id).trans hb, rfl, fun j => ?_⟩, hR2, fun _ h => h, hU2.mono (fun _ e => e.elim), Nat.le_refl _⟩
    rw [if_neg (fun h => h.2.2 h.2.1)]
  have hnd := hM.nodup
  have hgm : ∀ x ∈ m, ∀ g o n c, x.2 = .slice (some ⟨g, o, none⟩) n c → g ≠ bm := fun x hx g o n c e1 e2 => by
    obtain ⟨i, g', o', n', c', rfl, _, _, _, hcell⟩ := hV x hx
    obtain ⟨es, ck, h1, _⟩ := hM
    injection e1 with e3 e4 e5
    injection e3 with e3
    injection e3 with e3 e6 e7
    subst e3
    rw [← e2] at h1
    exact cell_map_e hcell h1
  have HG := Lib.hid hgm
  have HX := Lib.hid (And.intro hV (And.intro hPl (And.intro hPm (And.intro hlm (And.intro hnd (And.intro hsz hfz))))))
  have HW := Lib.hid (And.intro hc (And.intro hc1 (And.intro hPs (And.intro hls hms))))
  have HB := Lib.hid hb
  clear hV hPl hPm hlm hsz hfz hM hR2 hU2 hs2 hb Ho0 Hb0 hPs hls hms hnd hgm
  go_enter Tryz.func312, Tryz.ntmps312
  go_wp2_with (first
    | (go_at_call 392; refine Ho.out.mono ?_; rintro e w' ⟨rfl, rfl⟩)
    | (go_at_call 394; refine Hb.out.mono ?_; rintro e w1 ⟨rfl, hw1⟩; rw [hw1]; clear hw1 w1))
  clear Ho Hb hr2 hc hc1
  go_loopw [5] (fun _ wr => ∃ left, SyE w wr bl bm w.heap.size lo cs e fz S m left) (fun _ wr => rngLeft wr w.heap.size bm)
  case atStart => exact ⟨m, hstart⟩
  case round =>
    obtain ⟨left, hS⟩ := hrel
    clear hstart
    have HS := Lib.hid hS
    have hmu := Lib.hid (hS.rng.left_eq)
    rcases hS.rng.run_next (P := Tryz.prog) keyI.inj 0 with ⟨h0, hrun⟩ | ⟨k, v, l1, l2, w3, hleft, hmem, hrun, hR3, hen, hU3, hs3⟩
    · clear hS hmu
      subst h0
      go_wp2
      go_ret
      have hx := HS.out
      obtain ⟨cs', x1, x2, x3⟩ := hx.row
      exact ⟨rfl, hx.upd, hx.rng.map, cs', x1, x2, fun j => by
        rw [x3 j]
        by_cases h : lo ≤ j ∧ ((j - lo : Nat) : Int) ∈ m.map (·.1)
        · rw [if_pos h, if_pos ⟨h.1, h.2, fun h => by cases h⟩]
        · rw [if_neg h, if_neg (fun h' => h ⟨h'.1, h'.2.1⟩)]⟩
    · obtain ⟨i, g, o, n, c, hkv, hi, hn, hgl, hcell⟩ := HX.out.1 _ (hS.sub (k, v) (by rw [hleft]; simp))
      obtain ⟨rfl, rfl⟩ : k = (i : Int) ∧ v = .slice (some ⟨g, o, none⟩) (n + 1) c := by injection hkv with a b; exact ⟨a, b⟩
      obtain ⟨cs', x1, x2, x3⟩ := hS.row
      have hgw := cell_lt_e hcell
      have hgm := HG.out ((i : Int), Value.slice (some ⟨g, o, none⟩) (n + 1) c) (hS.sub _ (by rw [hleft]; simp)) g o (n + 1) c rfl
      obtain ⟨hc, hc1, hPs, hls, hms⟩ := HW.out
      obtain ⟨-, hPl, hPm, hlm, hnd, hsz, hfz⟩ := HX.out
      have hUw := hS.upd
      have far : ∀ b o, b < w.heap.size → b ≠ bl → b ≠ bm → w3.cell? ⟨b, o, none⟩ = w.cell? ⟨b, o, none⟩ := fun b o h1 h2 h3 => by
        rw [cellU_e hU3 (Nat.lt_of_lt_of_le h1 hUw.size) (by have := hS.new; omega), cellU_e hUw h1 (fun e => e.elim h2 h3)]
      have d0 := (far P q hPs hPl hPm).trans hc
      have d1 := (far P (q + 1) hPs hPl hPm).trans hc1
      have hlast : w3.cell? ⟨g, o + ((n + 1) - 1), none⟩ = some (.string (S i)) := by
        rw [show n + 1 - 1 = n by omega]; exact (far g (o + n) hgw hgl hgm).trans hcell
      have hb3 : w3.heap[bl]? = some (.cells cs' e fz) := (hU3.block bl (Nat.lt_of_lt_of_le hls hUw.size) (by omega)).trans x1
      obtain ⟨y, hy⟩ : ∃ y, cs'[lo + i]? = some y := ⟨_, Array.getElem?_eq_getElem (by omega)⟩
      have hold : w3.cell? ⟨bl, lo + i, none⟩ = some y := by rw [cell_e hb3, hy]
      have hzz : w3.frozen? ⟨bl, lo + i, none⟩ = false := frozen_e hb3 (by rw [x2]; exact hfz) (by omega)
      generalize hm1 : n + 1 = n1 at *
      have hn0 : 0 < n1 := by omega
      have hn9 : n1 ≤ 1000000 := by omega
      have HU := Lib.hid (And.intro hb3 (And.intro hR3 (And.intro hU3 (And.intro x2 x3))))
      have HN := Lib.hid (And.intro hPs (And.intro hls (And.intro hms (And.intro hPl (And.intro hPm (And.intro hlm (And.intro hnd (And.intro hsz hy))))))))
      have Hleft := Lib.hid hleft
      clear hS hleft hU3 hR3 hb3 x1 x2 x3 hUw far hcell hgw hgl hgm hPs hls hms hPl hPm hlm hnd hsz hfz hy hmem hc hc1 hkv
      go_wp2_with fail
      go_region
      obtain ⟨hb3, hR3, hU3, x2, x3⟩ := HU.out
      obtain ⟨hPs, hls, hms, hPl, hPm, hlm, hnd, hsz, hy⟩ := HN.out
      have hlr : bl ≠ w.heap.size := by omega
      have hR4 := (hR3.far (p := ⟨bl, lo + i, none⟩) (Ne.symm hlr) (Ne.symm hlm) (.string (S i))).drew
      obtain ⟨w4, hrun4, hR5, hU5, hs5⟩ := hR4.run_delete (P := Tryz.prog) (ty := 0) keyI Tryz.underlying170 Tryz.underlying3 (i : Int)
      have HV := Lib.hid (And.intro hR5 hU5)
      have hc4 : (w3.setCell ⟨bl, lo + i, none⟩ (.string (S i))).cell? ⟨P, q + 1, none⟩ = some (.map (some bm)) := by
        rw [World.cell?_setCell_other _ _ _ _ (fun e => hPl (by injection e with e1; exact e1.symm))]; exact d1
      have hc0 : (w3.setCell ⟨bl, lo + i, none⟩ (.string (S i))).cell? ⟨P, q, none⟩ = some (.slice (some ⟨bl, lo, none⟩) ll cap) := by
        rw [World.cell?_setCell_other _ _ _ _ (fun e => hPl (by injection e with e1; exact e1.symm))]; exact d0
      clear d0 d1 hb3 hR3 hU3 x2 x3 hPs hls hms hPl hPm hlm hnd hsz hy hlr hR4 hR5 hU5 hs5 hen hrun hlast hold hzz
      go_wp2_with (refine wpList_delete_run rfl _ _ _ _ rfl rfl rfl hrun4 ?_; go_frame)
      have hround : SyE w w4 bl bm w.heap.size lo cs e fz S m (l1 ++ l2) := by
        obtain ⟨hb3, hR3, hU3, x2, x3⟩ := HU.out
        obtain ⟨hPs, hls, hms, hPl, hPm, hlm, hnd, hsz, hy⟩ := HN.out
        obtain ⟨hR5, hU5⟩ := HV.out
        have hS := HS.out
        have hln := hS.rng.map.nodup
        rw [Hleft.out] at hln
        have hd := delA_split hln
        rw [Hleft.out, hd.1, hd.2] at hR5
        have hU4 : Upd (· = bl) w3 (w3.setCell ⟨bl, lo + i, none⟩ (.string (S i))).drew := ((Upd.refl (· = bl) w3).setCell (p := ⟨bl, lo + i, none⟩) (.inl rfl) _).drew
        have hU34 : Upd (fun b => b = bl ∨ b = bm) w3 w4 := hU4.trans hU5 (fun b h => .inl h) (fun b h => .inl (.inr h))
        have hUr : Upd (fun b => b = bl ∨ b = bm ∨ b = w.heap.size) wr w4 := hU3.trans hU34 (fun b h => .inr (.inr h)) (fun b h => .inl (h.elim .inl (fun h => .inr (.inl h))))
        refine ⟨⟨cs'.setIfInBounds (lo + i) (.string (S i)), ?_, by simpa using x2, fun j => ?_⟩, hR5, fun x hx => hS.sub x (by
            rw [Hleft.out]
            simp only [List.mem_append, List.mem_cons] at hx ⊢
            exact hx.elim .inl (fun h => .inr (.inr h))), hS.upd.then hUr (fun b h => ?_), Nat.le_refl _⟩
        · rw [hU5.block bl (by show bl < (w3.setCell _ _).heap.size; simp [World.setCell]; exact (Array.getElem?_eq_some_iff.1 hb3).1) hlm]
          show (w3.setCell ⟨bl, lo + i, none⟩ (.string (S i))).heap[bl]? = _
          simp [World.setCell, Array.getElem?_modify, hb3]
        · rw [Array.getElem?_setIfInBounds]
          have hmi : (i : Int) ∈ m.map (·.1) := List.mem_map.2 ⟨((i : Int), .slice (some ⟨g, o, none⟩) n1 c), hS.sub _ (by rw [Hleft.out]; simp), rfl⟩
          have hkl : ∀ k : Int, k ∈ left.map (·.1) ↔ k = i ∨ k ∈ (l1 ++ l2).map (·.1) := fun k => by
            rw [Hleft.out]; simp only [List.map_append, List.map_cons, List.mem_append, List.mem_cons]
            exact ⟨fun h => h.elim (fun h => .inr (.inl h)) fun h => h.elim .inl fun h => .inr (.inr h), fun h => h.elim (fun h => .inr (.inl h)) fun h => h.elim .inl fun h => .inr (.inr h)⟩
          have hni : (i : Int) ∉ (l1 ++ l2).map (·.1) := fun h => by
            simp only [List.map_append, List.map_cons, List.mem_append] at h hln
            have h1 := List.nodup_append.1 hln
            have h2 := List.nodup_cons.1 h1.2.1
            rcases h with h | h
            · exact h1.2.2 _ h _ (.head _) rfl
            · exact h2.1 h
          by_cases hj : lo + i = j
          · subst hj
            rw [if_pos rfl, if_pos (Array.getElem?_eq_some_iff.1 hy).1, if_pos]
            · rw [show lo + i - lo = i by omega]
            · rw [show lo + i - lo = i by omega]
              exact ⟨by omega, hmi, hni⟩
          · rw [if_neg hj, x3]
            by_cases hlo : lo ≤ j
            · have hne : ((j - lo : Nat) : Int) ≠ (i : Int) := by omega
              have : ((j - lo : Nat) : Int) ∈ left.map (·.1) ↔ ((j - lo : Nat) : Int) ∈ (l1 ++ l2).map (·.1) := by
                rw [hkl]; exact ⟨fun h => h.resolve_left hne, .inr⟩
              simp only [this]
            · rw [if_neg (fun h => hlo h.1), if_neg (fun h => hlo h.1)]
        · rcases h with h | h | h
          · exact .inl (.inl h)
          · exact .inl (.inr h)
          · exact .inr (by omega)
      go_roundw
      case rel => exact ⟨_, hround⟩
      case measure =>
        rw [hround.rng.left_eq, HS.out.rng.left_eq, Hleft.out]
        simp
end Go.Proofs.YtdfgmieinbmfkaaGreat

/-
  The keys of a map, rising, wherever the box lies that the iterator looks into: slices.Sorted at what maps.Keys handed back.
-/
namespace Go.Proofs.YtdfgmieinbmfkaaGreat
open Go Go.RowKit Go.Maps Go.Sort Go.Shelf Go.WideShapes

/-- How an element reads here: not at all. -/
abbrev noElq : Value → Option (DataW Unit × List MemPlace) := fun _ => some (.nil, [])
theorem mapB_owns_q {w : World} {bm : Nat} {m : List (Int × Value)} (hM : MapB intKey w bm m) (hk : ∀ p ∈ m, (Lit.int .i64 p.1).wf = true) (hs : m.length ≤ 5000) :
    ∃ D0 : DataW Unit, w.ownsMap Tryz.prog 3 noElq bm m.length D0 ∧ (intKeys D0).Perm (m.map (·.1)) ∧ Maps.size D0 = m.length := by
  obtain ⟨es, clock, hb, hst, hm⟩ := hM
  have hlen : es.toList.length = m.length := by have := congrArg List.length hm; simpa using this
  have hrd : ∀ x ∈ es.toList, ∃ a : Int, x.key = intKey a ∧ Go.WideElems.rd Tryz.prog 3 noElq x = some (Lit.int .i64 a, .nil) := by
    intro x hx
    obtain ⟨j, hj⟩ := List.getElem?_of_mem hx
    obtain ⟨p, hp, h1, h2⟩ := at_place hm j x hj
    refine ⟨p.1, h1, ?_⟩
    have hko : keyOf Tryz.prog 3 x.key = some (Lit.int .i64 p.1) := by rw [h1]; exact keyOf_int_mk Tryz.underlying3 (hk p (List.mem_of_getElem? hp))
    unfold Go.WideElems.rd
    rw [hko]
    rfl
  refine ⟨_, ⟨es, clock, hb, ⟨by unfold maxLen; simp at hlen; omega, hst, fun x hx => ?_⟩, by simp at hlen; omega, rfl⟩, ?_, ?_⟩
  · obtain ⟨a, -, h⟩ := hrd x hx
    exact ⟨_, h⟩
  · show List.Perm (((es.toList.map (Go.WideElems.rg Tryz.prog 3 noElq)).foldr DataW.insert []).map fun p => Go.intOf p.1) _
    refine ((sorted_perm _).map _).trans ?_
    rw [List.map_map]
    have e1 : es.toList.map ((fun p : Lit × DataW Unit => Go.intOf p.1) ∘ Go.WideElems.rg Tryz.prog 3 noElq) = es.toList.map ((fun v : Value => match v with | .int _ a => a | _ => 0) ∘ fun e : MapEntry => e.key) := by
      refine List.map_congr_left fun x hx => ?_
      obtain ⟨a, h1, h2⟩ := hrd x hx
      simp only [Function.comp, Go.WideElems.rg_of h2, h1, Go.intOf]
    rw [e1, ← List.map_map, keys_of hm, List.map_map]
    have e2 : m.map ((fun v : Value => match v with | .int _ a => a | _ => 0) ∘ fun p : Int × Value => intKey p.1) = m.map (·.1) := rfl
    rw [e2]
  · show ((es.toList.map (Go.WideElems.rg Tryz.prog 3 noElq)).foldr DataW.insert []).length = m.length
    rw [(sorted_perm _).length_eq, List.length_map, hlen]
theorem sortsQ (m : Nat) /- 363 -/ : AnyZI.SortsIn Tryz.prog Tryz.sortedA_ren Fence.wide m :=
  ⟨fun blk off cap ss W hH hblk hsz => callsIn_wide.2 (AnyM.slices_Sort_int Tryz.sortA blk off cap ss W hH hblk hsz),
   fun p cap W => callsIn_wide.2 (AnyM.slices_Sort_int_none Tryz.sortA p cap W)⟩
set_option maxRecDepth 100000 in
set_option maxHeartbeats 1000000 in
/-- The iterator over a map's keys, called with a loop's body. -/
theorem keysq_in {n : Nat} (hn : 1 ≤ n) {l Bm q b nn : Nat} {D0 : DataW Unit} {J : List Int → World → Prop}
    (hY : ∀ pre x W, J pre W → pre.length < Maps.size D0 → YieldAt Fence.wide (n - 1) Tryz.prog l #[encZ x] W fun e W' => e = .returned (.bool true) ∧ J (pre ++ [x]) W' ∧ KeepsWalks W W')
    {W : World} (hJ : AbidesFrom W.heap.size J) (hm : W.cell? ⟨Bm, q, none⟩ = some (.map (some b))) (hown : W.ownsMap Tryz.prog 3 noElq b nn D0) (h0 : J [] W) :
    CallsIn Fence.wide n Tryz.prog 444 #[.func (.yield l) #[] #[], .pointer (some ⟨Bm, q, none⟩)] W fun e W' => (∃ v, e = .returned v) ∧ ∃ ss : List Int, ss.Perm (intKeys D0) ∧ J ss W' := by
  refine callsIn_of_wp Tryz.func444 rfl trivial ?_ rfl
  simp only [Tryz.ntmps444, List.size_toArray, List.length_cons, List.length_nil, Nat.reduceAdd, Nat.reduceSub, Array.replicate_succ, Array.replicate_zero, List.push_toArray, List.append_toArray, List.nil_append, List.cons_append]
  gi_wp2_with (first
    | (gi_at_range; refine wpListIn_range_own _ rfl _ 170 rfl 3 50 (int_keyed Tryz.underlying3) Tryz.underlying170 _ b nn _ rfl hown ?_; intro w0 hrg0 hg0 hs0)
    | gi_in)
  go_frame
  gi_loopw [3] (fun _ wr => ∃ (left : Lit → Bool) (cnt : Nat) (ss : List Int), wr.ranges Tryz.prog 3 noElq b W.heap.size nn D0 left cnt ∧ ss.length + cnt ≤ Maps.size D0 ∧ CollectedI D0 left ss ∧ J ss wr) (fun _ wr => wr.rangeLeft b W.heap.size)
  case atStart => exact ⟨_, _, [], hrg0, by simp, CollectedI.start D0, hJ [] W w0 none h0 hg0 (fun r e => by cases e)⟩
  case round =>
    obtain ⟨left, cnt, ss, hrg, hcs, hC, hJs⟩ := hrel
    gi_wp2_with (first
      | (gi_at_next; refine wpListIn_next_ranges _ rfl _ rfl 3 (int_keyed Tryz.underlying3) noElq encZ id (fun key kl hk => by obtain ⟨x, hx, _⟩ := Maps.keyOf_i64 Tryz.underlying3 hk; exact ⟨x, hx⟩) (fun v _ _ => ⟨v, rfl⟩) b W.heap.size nn _ _ _ rfl hrg ?_ ?_)
      | gi_in)
    · intro _ hl0
      gi_wp2
      go_end0
      exact ⟨⟨_, rfl⟩, ss, hC.perm hown (int_keyed Tryz.underlying3) Tryz.underlying3 hl0, hJs⟩
    · intro x c kl yd yp w2 cnt2 hkey hlk hv hx hat hrg2 hlt hg2 hs2 hen
      obtain ⟨x', ex, rfl, _⟩ := Maps.keyOf_i64 Tryz.underlying3 hkey
      obtain rfl : x = x' := encZ_inj ex
      have hJ2 : J ss w2 := hJ ss wr w2 (some W.heap.size) hJs hg2 (fun r e => by cases e; exact ⟨Nat.le_refl _, hrg.iter_walk⟩)
      obtain ⟨fn, tmps, assign, body, hy, hR⟩ := hY ss x w2 hJ2 (by omega)
      clear hs2
      gi_wp2
      refine hR.mono ?_
      rintro e W3 ⟨rfl, hJ3, hk3⟩
      gi_wp2
      have hrg3 := hrg2.of_walks hk3
      go_roundw
      case rel => exact ⟨_, cnt2, ss ++ [x], hrg3, by simp; omega, hC.step hlk hat, hJ3⟩
      case measure => rw [hrg3.left_eq, hrg.left_eq]; exact hlt
theorem keysq_gives {g q b nn : Nat} {D0 : DataW Unit} {w : World} (hg : g < w.heap.size) (hm : w.cell? ⟨g, q, none⟩ = some (.map (some b))) (hown : w.ownsMap Tryz.prog 3 noElq b nn D0) :
    SeqGives Fence.wide 2 Tryz.prog 444 #[.pointer (some ⟨g, q, none⟩)] encZ (fun ss => ss.Perm (intKeys D0)) (Maps.size D0) w := fun l J W hW hJ hY h0 => by
  have hown' : W.ownsMap Tryz.prog 3 noElq b nn D0 := by
    have hbl := hown.lt
    obtain ⟨es, clock, hb, Ft, hs, hD⟩ := hown
    exact ⟨es, clock, (hW.block b hbl).trans hb, Ft, hs, hD⟩
  exact keysq_in (by omega) hY hJ ((hW.cell (p := ⟨g, q, none⟩) hg).trans hm) hown' h0
set_option maxHeartbeats 1000000 in
/-- slices.Sorted at the iterator: the keys, rising. -/
theorem sorted_q {w : World} {g q b : Nat} {m : List (Int × Value)} {K : List Int} (hg : g < w.heap.size) (hc : w.cell? ⟨g, q, none⟩ = some (.map (some b))) (hM : MapB intKey w b m) (hk : ∀ p ∈ m, (Lit.int .i64 p.1).wf = true) (hs : m.length ≤ 5000)
    (hK : K.Pairwise (· < ·)) (hKm : K.Perm (m.map (·.1))) :
    Calls Tryz.prog 363 #[.func (.func 444) #[] #[.pointer (some ⟨g, q, none⟩)]] w fun e w' => ∃ v, e = .returned v ∧ (v = .slice none 0 0 ↔ m = []) ∧
      w'.ownsRow w.heap.size 3 1 v K.length (K.map encZ) ∧ Upd (fun _ => False) w w' := by
  obtain ⟨D0, hown, hperm, hsize⟩ := mapB_owns_q hM hk hs
  have hseq := keysq_gives hg hc hown
  have cS := AnyZI.sorted_in Tryz.sortedA Fence.wide 5 trivial trivial trivial trivial rfl (by omega) (sortsQ _) (enters_of Tryz.func443 (by kernel_rfl) rfl) 444 #[.pointer (some ⟨g, q, none⟩)] trivial (enters_of Tryz.func444 (by kernel_rfl) rfl) _ _ (by rw [hsize]; unfold maxLen; omega) (by rw [hsize]; omega) _ hseq
  refine ((callsIn_wide (n := 5)).1 cS).mono ?_
  rintro e w' ⟨v, ss, rfl, hS2, hrow, hnil, hb⟩
  have hp : ss.Perm (m.map (·.1)) := hS2.trans hperm
  have hl : ss.length = m.length := by have := hp.length_eq; simpa using this
  have hKl : K.length = m.length := by have := hKm.length_eq; simpa using this
  rw [mergeSort_of_perm_i hp, hl] at hrow
  have hKs : ((m.map (·.1)).mergeSort leI) = K := by
    rw [← mergeSort_of_perm_i hKm]
    refine List.mergeSort_of_pairwise (hK.imp fun {a b} hab => ?_)
    simp [leI]; omega
  rw [hKs, ← hKl] at hrow
  refine ⟨v, rfl, ?_, hrow, Upd.of_below hb _⟩
  rw [hnil]
  constructor
  · intro e; rw [e] at hl; exact List.length_eq_zero_iff.1 (by simpa using hl.symm)
  · intro e; rw [e] at hl; exact List.length_eq_zero_iff.1 (by simpa using hl)
end Go.Proofs.YtdfgmieinbmfkaaGreat
