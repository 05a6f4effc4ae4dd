/-
  The paths of a map, by its cells alone.
-/
import Derived.Test.YtdfgmieinbmfkaaGreatDiskA
import Derived.Test.YtdfgmieinbmfkaaGreatIterS
import Derived.Test.YtdfgmieinbmfkaaGreatShelf
import Derived.Shelf.SlIter.Nil
import Derived.StringKeys
namespace Go.Proofs.YtdfgmieinbmfkaaGreat
open Go Go.RowKit Go.Maps Go.Sort Go.Shelf Go.WideShapes

/-- How an element reads here: not at all. -/
abbrev noEl : Value → Option (DataW Unit × List MemPlace) := fun _ => some (.nil, [])
abbrev strKy : ByteArray → Value := fun s => Value.string s
theorem mapB_owns_e {w : World} {bm : Nat} {m : List (ByteArray × Value)} (hM : MapB strKy w bm m) (hk : ∀ p ∈ m, p.1.size ≤ 1000) (hs : m.length ≤ 5000) :
    ∃ D0 : DataW Unit, w.ownsMap Tryz.prog 9 noEl bm m.length D0 ∧ (strKeys D0).Perm (m.map fun p => p.1.data.toList) ∧ Maps.size D0 = m.length := by
  obtain ⟨es, clock, hb, hst, hm⟩ := hM
  have hlen : es.toList.length = m.length := by have := congrArg List.length hm; simpa using this
  have hrd : ∀ x ∈ es.toList, ∃ a : ByteArray, x.key = strKy a ∧ Go.WideElems.rd Tryz.prog 9 noEl x = some (.string a.data.toList, .nil) := by
    intro x hx
    obtain ⟨j, hj⟩ := List.getElem?_of_mem hx
    obtain ⟨p, hp, h1, h2⟩ := at_place hm j x hj
    refine ⟨p.1, h1, ?_⟩
    have hko : keyOf Tryz.prog 9 x.key = some (.string p.1.data.toList) := by rw [h1]; exact Go.WideMaps.keyOf_string_mk Tryz.underlying9 (by have := hk p (List.mem_of_getElem? hp); unfold maxLen; omega)
    unfold Go.WideElems.rd
    rw [hko]
    rfl
  refine ⟨_, ⟨es, clock, hb, ⟨by unfold maxLen; simp at hlen; omega, hst, fun x hx => ?_⟩, by simp at hlen; omega, rfl⟩, ?_, ?_⟩
  · obtain ⟨a, -, h⟩ := hrd x hx
    exact ⟨_, h⟩
  · show List.Perm (((es.toList.map (Go.WideElems.rg Tryz.prog 9 noEl)).foldr DataW.insert []).map fun p => strOf p.1) _
    refine ((sorted_perm _).map _).trans ?_
    rw [List.map_map]
    have e1 : es.toList.map ((fun p : Lit × DataW Unit => strOf p.1) ∘ Go.WideElems.rg Tryz.prog 9 noEl) = es.toList.map ((fun v : Value => match v with | .string a => a.data.toList | _ => []) ∘ fun e : MapEntry => e.key) := by
      refine List.map_congr_left fun x hx => ?_
      obtain ⟨a, h1, h2⟩ := hrd x hx
      simp only [Function.comp, Go.WideElems.rg_of h2, h1, strOf]
    rw [e1, ← List.map_map, keys_of hm, List.map_map]
    have e2 : m.map ((fun v : Value => match v with | .string a => a.data.toList | _ => []) ∘ fun p : ByteArray × Value => strKy p.1) = m.map fun p => p.1.data.toList := rfl
    rw [e2]
  · show ((es.toList.map (Go.WideElems.rg Tryz.prog 9 noEl)).foldr DataW.insert []).length = m.length
    rw [(sorted_perm _).length_eq, List.length_map, hlen]
theorem sortsE (m : Nat) : AnyZ.SortsIn Tryz.prog Tryz.sortedB_ren Fence.wide m :=
  ⟨fun blk off cap ss W hH hblk hsz => callsIn_wide.2 (Tryz.slices_Sort_string blk off cap ss W hH hblk hsz),
   fun p cap W => callsIn_wide.2 (Tryz.slices_Sort_string_none p cap W)⟩
/-- maps.Keys. -/
theorem keys_e (mb : Option Nat) (W : World) : Calls Tryz.prog 212 #[.map mb] W fun e w' => e = .returned (.func (.func 331) #[] #[.pointer (some ⟨W.heap.size, 0, none⟩)]) ∧ w' = W.alloc (.cells #[.map mb] 160) :=
  (callsIn_wide (n := 5)).1 (AnyZ.keys_in Tryz.keysB Fence.wide 5 trivial rfl mb W)
set_option maxHeartbeats 1000000 in
theorem sorted_e {w : World} {g b : Nat} {m : List (ByteArray × Value)} (hg : g < w.heap.size) (hc : w.cell? ⟨g, 0, none⟩ = some (.map (some b))) (hM : MapB strKy w b m) (hk : ∀ p ∈ m, p.1.size ≤ 1000) (hs : m.length ≤ 5000) :
    Calls Tryz.prog 211 #[.func (.func 331) #[] #[.pointer (some ⟨g, 0, none⟩)]] w fun e w' => ∃ v, e = .returned v ∧ (v = .slice none 0 0 ↔ m = []) ∧
      w'.ownsRow w.heap.size 9 1 v m.length (((m.map fun p => p.1.data.toList).mergeSort fun x y => decide (x ≤ y)).map encStr) ∧ Upd (fun _ => False) w w' := by
  obtain ⟨D0, hown, hperm, hsize⟩ := mapB_owns_e hM hk hs
  have hseq : SeqGives Fence.wide 2 Tryz.prog 331 #[.pointer (some ⟨g, 0, none⟩)] encStr (fun ss => ss.Perm (strKeys D0)) (Maps.size D0) w :=
    AnyZ.keys_gives (ρ := Tryz.keysB_ren) { Tryz.keysB with } Fence.wide _ trivial rfl (by omega) g b m.length D0 _ hg hc hown
  have cS := AnyZ.sorted_in Tryz.sortedB Fence.wide 5 trivial trivial trivial trivial rfl (by omega) (sortsE _) (enters_of Tryz.func330 (by kernel_rfl) rfl) 331 #[.pointer (some ⟨g, 0, none⟩)] trivial (enters_of Tryz.func331 (by kernel_rfl) rfl) _ _ (by rw [hsize]; unfold maxLen; omega) (by rw [hsize]; omega) _ hseq
  refine ((callsIn_wide (n := 5)).1 cS).mono ?_
  rintro e w' ⟨v, ss, rfl, hS2, hrow, hnil, hb⟩
  have hp : ss.Perm (m.map fun p => p.1.data.toList) := hS2.trans hperm
  have hl : ss.length = m.length := by have := hp.length_eq; simpa using this
  rw [mergeSort_of_perm hp, hl] at hrow
  refine ⟨v, rfl, ?_, hrow, Upd.of_below hb _⟩
  rw [hnil]
  constructor
  · intro e; rw [e] at hl; exact List.length_eq_zero_iff.1 (by simpa using hl.symm)
  · intro e; rw [e] at hl; exact List.length_eq_zero_iff.1 (by simpa using hl)
set_option maxRecDepth 100000 in
theorem paths_e {w : World} {P q b : Nat} {m : List (ByteArray × Value)} (hc : w.cell? ⟨P, q, none⟩ = some (.map (some b))) (hM : MapB strKy w b m) (hk : ∀ p ∈ m, p.1.size ≤ 1000) (hs : m.length ≤ 5000) :
    Calls Tryz.prog 94 #[.pointer (some ⟨P, q, none⟩)] w fun e w' => ∃ v, e = .returned v ∧ (v = .slice none 0 0 ↔ m = []) ∧
      w'.ownsRow (w.heap.size + 1) 9 1 v m.length (((m.map fun p => p.1.data.toList).mergeSort fun x y => decide (x ≤ y)).map encStr) ∧ Upd (fun _ => False) w w' := by
  have hks := keys_e (some b) w
  have hso := sorted_e (w := w.alloc (.cells #[.map (some b)] 160)) (g := w.heap.size) (by simp) (by simp) (hM.alloc _) hk hs
  have e1 : (w.alloc (.cells #[.map (some b)] 160)).heap.size = w.heap.size + 1 := by simp
  rw [e1] at hso
  have HK := Lib.hid hks
  have HS := Lib.hid hso
  clear hks hso hM hk hs e1
  go_enter Tryz.func94, Tryz.ntmps94
  go_wp2_with fail
  refine HK.out.mono ?_
  rintro e w1 ⟨rfl, rfl⟩
  go_wp2_with fail
  refine HS.out.mono ?_
  rintro e w2 ⟨v, rfl, hnil, hrow, hU⟩
  have H2 := Lib.hid (And.intro hnil (And.intro hrow hU))
  clear hnil hrow hU
  go_wp2_with fail
  go_ret
  obtain ⟨a, b1, c⟩ := H2.out
  exact ⟨_, rfl, a, b1, ((Upd.refl _ w).alloc _).then c fun _ e => e.elim⟩
end Go.Proofs.YtdfgmieinbmfkaaGreat
