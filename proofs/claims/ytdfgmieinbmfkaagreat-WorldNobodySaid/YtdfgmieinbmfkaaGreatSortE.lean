/-
  The keys of a map, rising, wherever the box lies that the iterator looks into: slices.Sorted at what maps.Keys handed back.
-/
import Derived.Test.YtdfgmieinbmfkaaGreatDiskA
import Derived.Test.YtdfgmieinbmfkaaGreatIter
import Derived.Shelf.SlIterI.Nil
import Derived.Shelf.SortM.Plain
import Derived.Shelf.SortM.SortNone
namespace Go.Proofs.YtdfgmieinbmfkaaGreat
open Go Go.RowKit Go.Maps Go.Sort Go.Shelf Go.WideShapes

/-- How an element reads here: not at all. -/
abbrev noElq : Value → Option (DataW Unit × List MemPlace) := fun _ => some (.nil, [])
theorem mapB_owns_q {w : World} {bm : Nat} {m : List (Int × Value)} (hM : MapB intKey w bm m) (hk : ∀ p ∈ m, (Lit.int .i64 p.1).wf = true) (hs : m.length ≤ 5000) :
    ∃ D0 : DataW Unit, w.ownsMap Tryz.prog 3 noElq bm m.length D0 ∧ (intKeys D0).Perm (m.map (·.1)) ∧ Maps.size D0 = m.length := by
  obtain ⟨es, clock, hb, hst, hm⟩ := hM
  have hlen : es.toList.length = m.length := by have := congrArg List.length hm; simpa using this
  have hrd : ∀ x ∈ es.toList, ∃ a : Int, x.key = intKey a ∧ Go.WideElems.rd Tryz.prog 3 noElq x = some (Lit.int .i64 a, .nil) := by
    intro x hx
    obtain ⟨j, hj⟩ := List.getElem?_of_mem hx
    obtain ⟨p, hp, h1, h2⟩ := at_place hm j x hj
    refine ⟨p.1, h1, ?_⟩
    have hko : keyOf Tryz.prog 3 x.key = some (Lit.int .i64 p.1) := by rw [h1]; exact keyOf_int_mk Tryz.underlying3 (hk p (List.mem_of_getElem? hp))
    unfold Go.WideElems.rd
    rw [hko]
    rfl
  refine ⟨_, ⟨es, clock, hb, ⟨by unfold maxLen; simp at hlen; omega, hst, fun x hx => ?_⟩, by simp at hlen; omega, rfl⟩, ?_, ?_⟩
  · obtain ⟨a, -, h⟩ := hrd x hx
    exact ⟨_, h⟩
  · show List.Perm (((es.toList.map (Go.WideElems.rg Tryz.prog 3 noElq)).foldr DataW.insert []).map fun p => Go.intOf p.1) _
    refine ((sorted_perm _).map _).trans ?_
    rw [List.map_map]
    have e1 : es.toList.map ((fun p : Lit × DataW Unit => Go.intOf p.1) ∘ Go.WideElems.rg Tryz.prog 3 noElq) = es.toList.map ((fun v : Value => match v with | .int _ a => a | _ => 0) ∘ fun e : MapEntry => e.key) := by
      refine List.map_congr_left fun x hx => ?_
      obtain ⟨a, h1, h2⟩ := hrd x hx
      simp only [Function.comp, Go.WideElems.rg_of h2, h1, Go.intOf]
    rw [e1, ← List.map_map, keys_of hm, List.map_map]
    have e2 : m.map ((fun v : Value => match v with | .int _ a => a | _ => 0) ∘ fun p : Int × Value => intKey p.1) = m.map (·.1) := rfl
    rw [e2]
  · show ((es.toList.map (Go.WideElems.rg Tryz.prog 3 noElq)).foldr DataW.insert []).length = m.length
    rw [(sorted_perm _).length_eq, List.length_map, hlen]
theorem sortsQ (m : Nat) /- 363 -/ : AnyZI.SortsIn Tryz.prog Tryz.sortedA_ren Fence.wide m :=
  ⟨fun blk off cap ss W hH hblk hsz => callsIn_wide.2 (AnyM.slices_Sort_int Tryz.sortA blk off cap ss W hH hblk hsz),
   fun p cap W => callsIn_wide.2 (AnyM.slices_Sort_int_none Tryz.sortA p cap W)⟩
set_option maxRecDepth 100000 in
set_option maxHeartbeats 1000000 in
/-- The iterator over a map's keys, called with a loop's body. -/
theorem keysq_in {n : Nat} (hn : 1 ≤ n) {l Bm q b nn : Nat} {D0 : DataW Unit} {J : List Int → World → Prop}
    (hY : ∀ pre x W, J pre W → pre.length < Maps.size D0 → YieldAt Fence.wide (n - 1) Tryz.prog l #[encZ x] W fun e W' => e = .returned (.bool true) ∧ J (pre ++ [x]) W' ∧ KeepsWalks W W')
    {W : World} (hJ : AbidesFrom W.heap.size J) (hm : W.cell? ⟨Bm, q, none⟩ = some (.map (some b))) (hown : W.ownsMap Tryz.prog 3 noElq b nn D0) (h0 : J [] W) :
    CallsIn Fence.wide n Tryz.prog 444 #[.func (.yield l) #[] #[], .pointer (some ⟨Bm, q, none⟩)] W fun e W' => (∃ v, e = .returned v) ∧ ∃ ss : List Int, ss.Perm (intKeys D0) ∧ J ss W' := by
  refine callsIn_of_wp Tryz.func444 rfl trivial ?_ rfl
  simp only [Tryz.ntmps444, List.size_toArray, List.length_cons, List.length_nil, Nat.reduceAdd, Nat.reduceSub, Array.replicate_succ, Array.replicate_zero, List.push_toArray, List.append_toArray, List.nil_append, List.cons_append]
  gi_wp2_with (first
    | (gi_at_range; refine wpListIn_range_own _ rfl _ 170 rfl 3 50 (int_keyed Tryz.underlying3) Tryz.underlying170 _ b nn _ rfl hown ?_; intro w0 hrg0 hg0 hs0)
    | gi_in)
  go_frame
  gi_loopw [3] (fun _ wr => ∃ (left : Lit → Bool) (cnt : Nat) (ss : List Int), wr.ranges Tryz.prog 3 noElq b W.heap.size nn D0 left cnt ∧ ss.length + cnt ≤ Maps.size D0 ∧ CollectedI D0 left ss ∧ J ss wr) (fun _ wr => wr.rangeLeft b W.heap.size)
  case atStart => exact ⟨_, _, [], hrg0, by simp, CollectedI.start D0, hJ [] W w0 none h0 hg0 (fun r e => by cases e)⟩
  case round =>
    obtain ⟨left, cnt, ss, hrg, hcs, hC, hJs⟩ := hrel
    gi_wp2_with (first
      | (gi_at_next; refine wpListIn_next_ranges _ rfl _ rfl 3 (int_keyed Tryz.underlying3) noElq encZ id (fun key kl hk => by obtain ⟨x, hx, _⟩ := Maps.keyOf_i64 Tryz.underlying3 hk; exact ⟨x, hx⟩) (fun v _ _ => ⟨v, rfl⟩) b W.heap.size nn _ _ _ rfl hrg ?_ ?_)
      | gi_in)
    · intro _ hl0
      gi_wp2
      go_end0
      exact ⟨⟨_, rfl⟩, ss, hC.perm hown (int_keyed Tryz.underlying3) Tryz.underlying3 hl0, hJs⟩
    · intro x c kl yd yp w2 cnt2 hkey hlk hv hx hat hrg2 hlt hg2 hs2 hen
      obtain ⟨x', ex, rfl, _⟩ := Maps.keyOf_i64 Tryz.underlying3 hkey
      obtain rfl : x = x' := encZ_inj ex
      have hJ2 : J ss w2 := hJ ss wr w2 (some W.heap.size) hJs hg2 (fun r e => by cases e; exact ⟨Nat.le_refl _, hrg.iter_walk⟩)
      obtain ⟨fn, tmps, assign, body, hy, hR⟩ := hY ss x w2 hJ2 (by omega)
      clear hs2
      gi_wp2
      refine hR.mono ?_
      rintro e W3 ⟨rfl, hJ3, hk3⟩
      gi_wp2
      have hrg3 := hrg2.of_walks hk3
      go_roundw
      case rel => exact ⟨_, cnt2, ss ++ [x], hrg3, by simp; omega, hC.step hlk hat, hJ3⟩
      case measure => rw [hrg3.left_eq, hrg.left_eq]; exact hlt
theorem keysq_gives {g q b nn : Nat} {D0 : DataW Unit} {w : World} (hg : g < w.heap.size) (hm : w.cell? ⟨g, q, none⟩ = some (.map (some b))) (hown : w.ownsMap Tryz.prog 3 noElq b nn D0) :
    SeqGives Fence.wide 2 Tryz.prog 444 #[.pointer (some ⟨g, q, none⟩)] encZ (fun ss => ss.Perm (intKeys D0)) (Maps.size D0) w := fun l J W hW hJ hY h0 => by
  have hown' : W.ownsMap Tryz.prog 3 noElq b nn D0 := by
    have hbl := hown.lt
    obtain ⟨es, clock, hb, Ft, hs, hD⟩ := hown
    exact ⟨es, clock, (hW.block b hbl).trans hb, Ft, hs, hD⟩
  exact keysq_in (by omega) hY hJ ((hW.cell (p := ⟨g, q, none⟩) hg).trans hm) hown' h0
set_option maxHeartbeats 1000000 in
/-- slices.Sorted at the iterator: the keys, rising. -/
theorem sorted_q {w : World} {g q b : Nat} {m : List (Int × Value)} {K : List Int} (hg : g < w.heap.size) (hc : w.cell? ⟨g, q, none⟩ = some (.map (some b))) (hM : MapB intKey w b m) (hk : ∀ p ∈ m, (Lit.int .i64 p.1).wf = true) (hs : m.length ≤ 5000)
    (hK : K.Pairwise (· < ·)) (hKm : K.Perm (m.map (·.1))) :
    Calls Tryz.prog 363 #[.func (.func 444) #[] #[.pointer (some ⟨g, q, none⟩)]] w fun e w' => ∃ v, e = .returned v ∧ (v = .slice none 0 0 ↔ m = []) ∧
      w'.ownsRow w.heap.size 3 1 v K.length (K.map encZ) ∧ Upd (fun _ => False) w w' := by
  obtain ⟨D0, hown, hperm, hsize⟩ := mapB_owns_q hM hk hs
  have hseq := keysq_gives hg hc hown
  have cS := AnyZI.sorted_in Tryz.sortedA Fence.wide 5 trivial trivial trivial trivial rfl (by omega) (sortsQ _) (enters_of Tryz.func443 (by kernel_rfl) rfl) 444 #[.pointer (some ⟨g, q, none⟩)] trivial (enters_of Tryz.func444 (by kernel_rfl) rfl) _ _ (by rw [hsize]; unfold maxLen; omega) (by rw [hsize]; omega) _ hseq
  refine ((callsIn_wide (n := 5)).1 cS).mono ?_
  rintro e w' ⟨v, ss, rfl, hS2, hrow, hnil, hb⟩
  have hp : ss.Perm (m.map (·.1)) := hS2.trans hperm
  have hl : ss.length = m.length := by have := hp.length_eq; simpa using this
  have hKl : K.length = m.length := by have := hKm.length_eq; simpa using this
  rw [mergeSort_of_perm_i hp, hl] at hrow
  have hKs : ((m.map (·.1)).mergeSort leI) = K := by
    rw [← mergeSort_of_perm_i hKm]
    refine List.mergeSort_of_pairwise (hK.imp fun {a b} hab => ?_)
    simp [leI]; omega
  rw [hKs, ← hKl] at hrow
  refine ⟨v, rfl, ?_, hrow, Upd.of_below hb _⟩
  rw [hnil]
  constructor
  · intro e; rw [e] at hl; exact List.length_eq_zero_iff.1 (by simpa using hl.symm)
  · intro e; rw [e] at hl; exact List.length_eq_zero_iff.1 (by simpa using hl)
end Go.Proofs.YtdfgmieinbmfkaaGreat
