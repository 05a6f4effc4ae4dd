/-
  The keys of a disk's map of what waits, rising: slices.Sorted(maps.Keys(..)).
-/
import Derived.Test.YtpfbgmfkeofefaaGreatDiskA
import Derived.Test.YtpfbgmfkeofefaaGreatIter
import Derived.Shelf.SlIterI.Nil
import Derived.Shelf.SortM.Plain
import Derived.Shelf.SortM.SortNone
namespace Go.Proofs.YtpfbgmfkeofefaaGreat
open Go Go.RowKit Go.Maps Go.Sort Go.Shelf Go.WideShapes

/-- How an element reads here: not at all. -/
abbrev noElem : Value → Option (DataW Unit × List MemPlace) := fun _ => some (.nil, [])
theorem mapB_owns {w : World} {bm : Nat} {m : List (Int × Value)} (hM : MapB intKey w bm m) (hk : ∀ p ∈ m, (Lit.int .i64 p.1).wf = true) (hs : m.length ≤ 5000) :
    ∃ D0 : DataW Unit, w.ownsMap Tryz.prog 3 noElem bm m.length D0 ∧ (intKeys D0).Perm (m.map (·.1)) ∧ Maps.size D0 = m.length := by
  obtain ⟨es, clock, hb, hst, hm⟩ := hM
  have hlen : es.toList.length = m.length := by have := congrArg List.length hm; simpa using this
  have hrd : ∀ x ∈ es.toList, ∃ a : Int, x.key = intKey a ∧ Go.WideElems.rd Tryz.prog 3 noElem x = some (.int .i64 a, .nil) := by
    intro x hx
    obtain ⟨j, hj⟩ := List.getElem?_of_mem hx
    obtain ⟨p, hp, h1, h2⟩ := at_place hm j x hj
    refine ⟨p.1, h1, ?_⟩
    have hko : keyOf Tryz.prog 3 x.key = some (.int .i64 p.1) := by rw [h1]; exact keyOf_int_mk Tryz.underlying3 (hk p (List.mem_of_getElem? hp))
    unfold Go.WideElems.rd
    rw [hko]
    rfl
  refine ⟨_, ⟨es, clock, hb, ⟨by unfold maxLen; simp at hlen; omega, hst, fun x hx => ?_⟩, by simp at hlen; omega, rfl⟩, ?_, ?_⟩
  · obtain ⟨a, -, h⟩ := hrd x hx
    exact ⟨_, h⟩
  · show List.Perm (((es.toList.map (Go.WideElems.rg Tryz.prog 3 noElem)).foldr DataW.insert []).map fun p => Go.intOf p.1) _
    refine ((sorted_perm _).map _).trans ?_
    rw [List.map_map]
    have e1 : es.toList.map ((fun p : Lit × DataW Unit => Go.intOf p.1) ∘ Go.WideElems.rg Tryz.prog 3 noElem) = es.toList.map ((fun v : Value => match v with | .int _ a => a | _ => 0) ∘ fun e : MapEntry => e.key) := by
      refine List.map_congr_left fun x hx => ?_
      obtain ⟨a, h1, h2⟩ := hrd x hx
      simp only [Function.comp, Go.WideElems.rg_of h2, h1, Go.intOf]
    rw [e1, ← List.map_map, keys_of hm, List.map_map]
    have e2 : m.map ((fun v : Value => match v with | .int _ a => a | _ => 0) ∘ fun p : Int × Value => intKey p.1) = m.map (·.1) := rfl
    rw [e2]
  · show ((es.toList.map (Go.WideElems.rg Tryz.prog 3 noElem)).foldr DataW.insert []).length = m.length
    rw [(sorted_perm _).length_eq, List.length_map, hlen]

theorem sortsA (m : Nat) : AnyZI.SortsIn Tryz.prog Tryz.sortedA_ren Fence.wide m :=
  ⟨fun blk off cap ss W hH hblk hsz => callsIn_wide.2 (AnyM.slices_Sort_int Tryz.sortA blk off cap ss W hH hblk hsz),
   fun p cap W => callsIn_wide.2 (AnyM.slices_Sort_int_none Tryz.sortA p cap W)⟩
/-- maps.Keys. -/
theorem keys_c (mb : Option Nat) (W : World) : Calls Tryz.prog 74 #[.map mb] W fun e w' => e = .returned (.func (.func 105) #[] #[.pointer (some ⟨W.heap.size, 0, none⟩)]) ∧ w' = W.alloc (.cells #[.map mb] 91) :=
  (callsIn_wide (n := 5)).1 (AnyZI.keys_in Tryz.keysA Fence.wide 5 trivial rfl mb W)

set_option maxHeartbeats 1000000 in
/-- slices.Sorted, at what maps.Keys handed back. -/
theorem sorted_c {w : World} {b : Nat} {m : List (Int × Value)} (hM : MapB intKey w b m) (hk : ∀ p ∈ m, (Lit.int .i64 p.1).wf = true) (hs : m.length ≤ 5000) :
    Calls Tryz.prog 73 #[.func (.func 105) #[] #[.pointer (some ⟨w.heap.size, 0, none⟩)]] (w.alloc (.cells #[.map (some b)] 91)) fun e w' => ∃ v, e = .returned v ∧
      w'.ownsRow (w.heap.size + 1) 3 1 v m.length (((m.map (·.1)).mergeSort leI).map encZ) ∧ Upd (fun _ => False) w w' := by
  obtain ⟨D0, hown, hperm, hsize⟩ := mapB_owns hM hk hs
  have hbl := hown.lt
  have hseq : SeqGives Fence.wide 2 Tryz.prog 105 #[.pointer (some ⟨w.heap.size, 0, none⟩)] encZ (fun ss => ss.Perm (intKeys D0)) (Maps.size D0) (w.alloc (.cells #[.map (some b)] 91)) :=
    AnyZI.keys_gives (ρ := Tryz.keysA_ren) { Tryz.keysA with } Fence.wide _ trivial rfl (by omega) w.heap.size b m.length D0 _ (by simp) (by simp) (by
      obtain ⟨es, clock, hb, Ft, hs, hD⟩ := hown
      exact ⟨es, clock, (Below.heap_alloc _ _ b hbl).trans hb, Ft, hs, hD⟩)
  have cS := AnyZI.sorted_in Tryz.sortedA Fence.wide 5 trivial trivial trivial trivial rfl (by omega) (sortsA _) (enters_of Tryz.func104 (by kernel_rfl) rfl) 105 #[.pointer (some ⟨w.heap.size, 0, none⟩)] trivial (enters_of Tryz.func105 (by kernel_rfl) rfl) _ _ (by rw [hsize]; unfold maxLen; omega) (by rw [hsize]; omega) _ hseq
  refine ((callsIn_wide (n := 5)).1 cS).mono ?_
  rintro e w' ⟨v, ss, rfl, hS, hrow, -, hb⟩
  have hp := hS.trans hperm
  have hl : ss.length = m.length := by have := hp.length_eq; simpa using this
  rw [mergeSort_of_perm_i hp, hl] at hrow
  refine ⟨v, rfl, ?_, ((Upd.refl _ w).alloc _).then (Upd.of_below hb (fun _ => False)) (fun _ e => e.elim)⟩
  have e1 : (w.alloc (.cells #[.map (some b)] 91)).heap.size = w.heap.size + 1 := by simp
  rw [e1] at hrow
  exact hrow
end Go.Proofs.YtpfbgmfkeofefaaGreat
