/-
  The keys of a map over hashes are what a map over hashes wants.
-/
import Derived.Test.YtdfgmieinbmfkaaGreatColA
import Derived.WideKeyArr
namespace Go.Proofs.YtdfgmieinbmfkaaGreat
open Go Go.RowKit Go.MapKept Go.WideMaps

theorem arrKeyB : ArrKey Tryz.prog 70 5 32 := ⟨Tryz.underlying70, by kernel_rfl, by kernel_rfl, by kernel_rfl⟩
theorem typesB : ∃ m, (Tryz.prog).types.size = m + 1 := by
  have h : Nat.ble 1 (Tryz.prog).types.size = true := by kernel_rfl
  have h := Nat.le_of_ble_eq_true h
  exact ⟨(Tryz.prog).types.size - 1, by omega⟩
theorem mapM_exB {α β : Type} {f : α → Option β} : ∀ l : List α, (∀ a ∈ l, ∃ b, f a = some b) → ∃ bs, l.mapM f = some bs := by
  intro l
  induction l with
  | nil => intro _; exact ⟨[], rfl⟩
  | cons a l ih =>
    intro h
    obtain ⟨b, hb⟩ := h a List.mem_cons_self
    obtain ⟨bs, hbs⟩ := ih fun x hx => h x (List.mem_cons_of_mem _ hx)
    exact ⟨b :: bs, by rw [List.mapM_cons, hb, hbs]; rfl⟩
theorem keyOf_hash (t : ByteArray) : ∃ l, keyOf Tryz.prog 70 (hashV t) = some l := by
  have hl := shaL_len t.data.toList
  unfold hashV
  obtain ⟨O, hO⟩ : ∃ O, shaL t.data.toList = O := ⟨_, rfl⟩
  rw [hO] at hl ⊢
  have hkt := arrKeyB.keyType typesB
  obtain ⟨m, hm⟩ := typesB
  unfold keyOf
  simp only [arrKeyB.hu]
  rw [if_pos (by simp [hkt, Value.formed, arrKeyB.hu, arrKeyB.size, arrB_size, hl]), hm]
  unfold Program.keyLits
  simp only [arrKeyB.hu, Value.cells]
  rw [if_pos (by rw [arrKeyB.size, Array.length_toList, arrB_size, hl])]
  have key : ∃ ls, ((List.range 32).mapM fun i => (Tryz.prog).keyLits (m + 1) 5 (((arrB O).toList.drop (i * (Tryz.prog).cellsOf 5)).take ((Tryz.prog).cellsOf 5))) = some ls := by
    refine mapM_exB _ fun i hi => ?_
    have hi := List.mem_range.1 hi
    have h1 : ((arrB O).toList.drop (i * 1)).take 1 = [.int .u8 (((O.getD i 0).toNat : Nat) : Int)] := by
      have : (arrB O)[i]? = some (.int .u8 ((O.getD i 0).toNat : Int)) := by simp [arrB, bytesV, show i < O.length by omega]
      rw [Nat.mul_one, List.take_one, List.head?_drop, Array.getElem?_toList, this]; rfl
    rw [arrKeyB.one, h1]
    unfold Program.keyLits
    have hw : (Lit.int .u8 (((O.getD i 0).toNat : Nat) : Int)).wf = true := by
      have := (O.getD i 0).toNat_lt
      simp only [Lit.wf, Bool.and_eq_true, decide_eq_true_eq]
      have h1 : IntKind.u8.min = 0 := rfl
      have h2 : IntKind.u8.max = 255 := rfl
      omega
    rw [show (Tryz.prog).underlying 5 = some (.int .u8) from Tryz.underlying5]
    simp only [hw, and_self, if_true]
    exact ⟨_, rfl⟩
  obtain ⟨ls, hls⟩ := key
  rw [hls]
  exact ⟨_, rfl⟩
theorem keyLawB : KeyLawB where
  check := fun w em t => by obtain ⟨l, hl⟩ := keyOf_hash t; exact arrKeyB.law.check w em hl
  find := fun w t es h => by
    obtain ⟨l, hl⟩ := keyOf_hash t
    exact arrKeyB.law.find w hl es fun e he => by
      obtain ⟨t', ht⟩ := h e he
      rw [ht]
      exact keyOf_hash t'
  stays := fun w t => by obtain ⟨l, hl⟩ := keyOf_hash t; exact arrKeyB.law.stays w hl
end Go.Proofs.YtdfgmieinbmfkaaGreat
