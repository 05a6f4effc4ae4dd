/-
  The law ClusterNobody: the wakes by runs of the interpreter in the kernel, the rest by runs over cells that are not looked into.
-/
import Derived.Test.YtdfgmieinbmfkaaGreatEvTn
import Derived.Test.YtdfgmieinbmfkaaGreatEvRn9
import Derived.Test.YtdfgmieinbmfkaaGreatAct26
namespace Go.Ev
open Go Go.Proofs.YtdfgmieinbmfkaaGreat
theorem i33 : In1 33 := ⟨by kernel_rfl, by kernel_rfl, by kernel_rfl⟩
theorem i5 : In1 5 := ⟨by kernel_rfl, by kernel_rfl, by kernel_rfl⟩
theorem run5_all (β : Bool) (n : Int) : run5 β n = true := by
  cases β with
  | true => exact n5f n
  | false => cases n with
    | ofNat n => match n with
      | 0 => exact n5a
      | 1 => exact n5b
      | n + 2 => exact n5d n
    | negSucc n => exact n5e n
theorem len26 : L26.length = 113 := by kernel_rfl
noncomputable def okL26 : Nat → V → Bool
  | _, .u => true
  | i, .x k => Nat.beq k i && (Nat.beq i 1 || (Nat.beq i 2 || (Nat.beq i 3 || (Nat.beq i 4 || (Nat.beq i 12 || Nat.beq i 112)))))
  | _, _ => false
noncomputable def allL26 : Nat → Bool := @Nat.rec (fun _ => Bool) true (fun i ih => okL26 i ((L26[i]?).getD .u) && ih)
theorem all26 : allL26 113 = true := by kernel_rfl
theorem at26 : ∀ n i, allL26 n = true → i < n → okL26 i ((L26[i]?).getD .u) = true := by
  intro n
  induction n with
  | zero => intro i _ hi; omega
  | succ n ih =>
    intro i h hi
    have h : (okL26 n ((L26[n]?).getD .u) && allL26 n) = true := h
    rw [Bool.and_eq_true] at h
    by_cases e : i = n
    · rw [e]; exact h.1
    · exact ih i h.2 (by omega)
theorem nobody26 (W : World) {v : Value} {R : Array Value} {ov mv qv pv : Value} {P S : ByteArray} {lo lm lq lp : List (ByteArray × ByteArray)} (h : IsAct26 W v R ov mv qv pv P S lo lm lq lp) (n : Int) : Calls PP 5 #[.int .i64 n, v] W (Truth W) := by
  obtain ⟨ρ, hρ⟩ : ∃ ρ : Rho, ρ = ⟨fun i => if i = 1 then ov else if i = 2 then .string P else if i = 3 then mv else if i = 4 then .string S else if i = 12 then qv else if i = 112 then pv else .bool true, W⟩ := ⟨_, rfl⟩
  have r1 : ρ 1 = ov := by rw [hρ]; rfl
  have r2 : ρ 2 = .string P := by rw [hρ]; rfl
  have r3 : ρ 3 = mv := by rw [hρ]; rfl
  have r4 : ρ 4 = .string S := by rw [hρ]; rfl
  have r12 : ρ 12 = qv := by rw [hρ]; rfl
  have r112 : ρ 112 = pv := by rw [hρ]; rfl
  have hw0 : ρ.w0 = W := by rw [hρ]
  have all : ∀ i, (ρ i).oneCell' = true ∧ ρ i ≠ .nilIface := fun i => by
    rw [hρ]
    show (ite _ _ _ : Value).oneCell' = true ∧ (ite _ _ _ : Value) ≠ _
    split
    · exact slice_two h.ho
    · split
      · exact ⟨rfl, by simp⟩
      · split
        · exact slice_two h.hm
        · split
          · exact ⟨rfl, by simp⟩
          · split
            · exact slice_two h.hq
            · split
              · exact slice_two h.hp
              · exact ⟨rfl, by simp⟩
  have hO : Opq ρ := ⟨fun i => (all i).1, fun i => (all i).2⟩
  have asks : ∀ w b o, ρ.w0.heap.size ≤ w.heap.size → (∀ r, r < ρ.w0.heap.size → w.heap[r]? = ρ.w0.heap[r]?) → (∀ i, i < L26.length → ∃ x, w.cell? ⟨b, o + i, none⟩ = some x ∧ ∀ k, L26[i]? = some (.x k) → x = ρ k) →
      Calls PP 33 #[.slice (some ⟨b, o, none⟩) 1 1] w (Asks w (great26 P S lo lm lq lp)) ∧ CallsD PP 33 #[.slice (some ⟨b, o, none⟩) 1 1] .returning w (fun e u w' => u = .returning ∧ Asks w (great26 P S lo lm lq lp) e w') := by
    intro w b o hs ho hc
    rw [hw0] at hs ho
    rw [len26] at hc
    have at_ : ∀ i, i < 113 → L26[i]? = some (.x i) → w.cell? ⟨b, o + i, none⟩ = some (ρ i) := fun i hi hx => by
      obtain ⟨x, h1, h2⟩ := hc i hi
      rw [h1, h2 i hx]
    have c1 := at_ 1 (by omega) (by kernel_rfl)
    have c2 := at_ 2 (by omega) (by kernel_rfl)
    have c3 := at_ 3 (by omega) (by kernel_rfl)
    have c4 := at_ 4 (by omega) (by kernel_rfl)
    have c12 := at_ 12 (by omega) (by kernel_rfl)
    have c112 := at_ 112 (by omega) (by kernel_rfl)
    rw [r1] at c1
    rw [r2] at c2
    rw [r3] at c3
    rw [r4] at c4
    rw [r12] at c12
    rw [r112] at c112
    obtain ⟨RL, hl, hR⟩ := pick_26 (fun j x => w.cell? ⟨b, o + 6 + j, none⟩ = some x) 107 fun j hj => by
      obtain ⟨x, h1, _⟩ := hc (6 + j) (by omega)
      exact ⟨x, by rw [Nat.add_assoc]; exact h1⟩
    have g6 : RL[6]? = some qv := by
      have := hR 6 _ (List.getElem?_eq_getElem (by omega))
      rw [Nat.add_assoc, c12] at this
      rw [List.getElem?_eq_getElem (by omega)]; exact this.symm
    have g106 : RL[106]? = some pv := by
      have := hR 106 _ (List.getElem?_eq_getElem (by omega))
      rw [Nat.add_assoc, c112] at this
      rw [List.getElem?_eq_getElem (by omega)]; exact this.symm
    have ends : ∀ w', Upd (fun _ => False) w w' → w.heap.size ≤ w'.heap.size ∧ (∀ r, r < w.heap.size → w'.heap[r]? = w.heap[r]?) ∧ Env3 w w' := fun w' hu => ⟨hu.size, fun r hr => hu.block r hr id, hu.os, hu.tape, hu.output⟩
    refine ⟨(great26_c c1 c2 c3 c4 hR hl g6 g106 (h.ho.old ho hs) (h.hm.old ho hs) (h.hq.old ho hs) (h.hp.old ho hs)).mono fun e w' he => ?_,
      (great26_d c1 c2 c3 c4 hR hl g6 g106 (h.ho.old ho hs) (h.hm.old ho hs) (h.hq.old ho hs) (h.hp.old ho hs)).mono fun e u w' he => ⟨he.1, ?_⟩⟩
    · exact ⟨he.1, ends w' he.2⟩
    · exact ⟨he.2.1, ends w' he.2.2⟩
  have hc := law_run (ρ := ρ) (aa := [.i .i64 n, .g L26]) (callX_ok hO (fun _ hb => orL_ok i33 asks (nD_in hO (nV0_in hO (nV1_in hO (orc_ok i10 law_10 hb))))) 59) i5 (by kernel_rfl) (run5_all _ n) W hw0 #[.int .i64 n, v] (by
      rw [h.is]
      show VRs ρ _ [.i .i64 n, .g L26] [_, _]
      simp only [VRs, VR]
      refine ⟨_, _, rfl, rfl, _, _, rfl, ⟨R, rfl, VRs.of_get (by rw [len26, Array.length_toList, h.size]) fun i x hi hx => ?_⟩, rfl⟩
      rw [len26] at hi
      rw [Array.getElem?_toList] at hx
      have ok := at26 113 i all26 hi
      generalize hv : (L26[i]?).getD .u = y at ok ⊢
      cases y with
      | u => simp only [VR]
      | x k =>
        simp only [okL26, Bool.and_eq_true, Bool.or_eq_true] at ok
        obtain ⟨k1, k2⟩ := ok
        obtain rfl := Nat.eq_of_beq_eq_true k1
        simp only [VR]
        rcases k2 with q | q | q | q | q | q
        · obtain rfl := Nat.eq_of_beq_eq_true q; rw [r1]; exact Option.some.inj (hx.symm.trans h.ops)
        · obtain rfl := Nat.eq_of_beq_eq_true q; rw [r2]; exact Option.some.inj (hx.symm.trans h.path)
        · obtain rfl := Nat.eq_of_beq_eq_true q; rw [r3]; exact Option.some.inj (hx.symm.trans h.mts)
        · obtain rfl := Nat.eq_of_beq_eq_true q; rw [r4]; exact Option.some.inj (hx.symm.trans h.seed)
        · obtain rfl := Nat.eq_of_beq_eq_true q; rw [r12]; exact Option.some.inj (hx.symm.trans h.bat)
        · obtain rfl := Nat.eq_of_beq_eq_true q; rw [r112]; exact Option.some.inj (hx.symm.trans h.prs)
      | _ => simp only [okL26, Bool.false_eq_true] at ok)
  exact hc.1
end Go.Ev
namespace Go.Proofs.YtdfgmieinbmfkaaGreat
open Go
theorem walk_ClusterNobody (w : World) {n : Int} (_ : (Lit.int .i64 n).wf = true) {v : Value} {R : Array Value} {ov mv qv pv : Value} {P S : ByteArray} {lo lm lq lp : List (ByteArray × ByteArray)} (h : IsAct26 w v R ov mv qv pv P S lo lm lq lp) :
    Calls Tryz.prog 5 #[.int .i64 n, v] w fun e w' => e = .returned (.bool true) ∧ Upd (fun _ => False) w w' :=
  (Go.Ev.nobody26 w h n).mono fun _ _ he => ⟨he.1, he.2.2.2.1, he.2.2.2.2.1, he.2.2.2.2.2, he.2.1, fun r hr _ => he.2.2.1 r hr⟩
end Go.Proofs.YtdfgmieinbmfkaaGreat
