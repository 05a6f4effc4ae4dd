/-
  What a log tells: none, Room, Records.
-/
import Derived.Test.YtafgohnpnaiomaaLogG
import Derived.WalkSpells
import Derived.Outline
namespace Go.Proofs.Ytafgohnpnaiomaa
open Go Go.RowKit

/-- A log in memory. -/
structure LogAt (w : World) (p b : Nat) (g : Lg) : Prop where
  ex : ∃ v, Blk w b 132 (g.cells p v) ∧ Own w 9 1 v g.l.length (strs g.l)
section
variable {w w' : World} {p b : Nat} {g : Lg}
theorem LogAt.upd {G : Nat → Prop} (h : LogAt w p b g) (hu : Upd G w w') (hb : ¬ G b) (hn : ∀ v, Own w 9 1 v g.l.length (strs g.l) → Blk w b 132 (g.cells p v) → ∀ q, v.ownBlock = some q → ¬ G q) : LogAt w' p b g := by
  obtain ⟨v, h1, h2⟩ := h.ex
  exact ⟨v, h1.upd hu hb, h2.upd hu (hn v h2 h1)⟩
theorem LogAt.still (h : LogAt w p b g) (hu : Upd (fun _ => False) w w') : LogAt w' p b g := h.upd hu (fun e => e) (fun _ _ _ _ _ e => e)
theorem LogAt.lt (h : LogAt w p b g) : b < w.heap.size := by obtain ⟨v, h1, _⟩ := h.ex; exact h1.lt
end
theorem slice_some (A : Option Addr) (n c : Nat) (w : World) (T : TypeId) (t : TypeId) (hT : Try.prog.underlying T = some (.slice t)) : (binOp .eql T (.slice A n c) (.slice none 0 0)).run Try.prog w = .ok (.bool A.isNone) w :=
  Lib.run_eql_slice_nil w T t A n c 0 0 hT

set_option maxRecDepth 100000 in
theorem lnone_nil (w : World) :
    Calls Try.prog 87 #[.pointer none] w fun e w' => e = .returned (.bool true) ∧ w = w' := by
  go_enter Try.func87, Try.ntmps87
  go_wp2
  go_ret
  exact ⟨rfl, rfl⟩
set_option maxRecDepth 100000 in
theorem lnone_c {w : World} {p b : Nat} {g : Lg} (h : LogAt w p b g) :
    Calls Try.prog 87 #[.pointer (some ⟨b, 0, none⟩)] w fun e w' => e = .returned (.bool false) ∧ w = w' := by
  obtain ⟨v, h1, -⟩ := h.ex
  have hc := h1.cells9
  clear h h1
  go_enter Try.func87, Try.ntmps87
  go_wp2
  go_ret
  exact ⟨rfl, rfl⟩
set_option maxRecDepth 100000 in
theorem room_nil (w : World) :
    Calls Try.prog 39 #[.pointer none] w fun e w' => e = .returned (.int .i64 0) ∧ w = w' := by
  go_enter Try.func39, Try.ntmps39
  go_wp2_with (go_at_call 87; refine (lnone_nil _).mono ?_; rintro e w' ⟨rfl, rfl⟩)
  go_ret
  exact ⟨rfl, rfl⟩
set_option maxRecDepth 100000 in
set_option maxHeartbeats 800000 in
theorem room_c {w : World} {p b : Nat} {g : Lg} (h : LogAt w p b g) (hu : g.used ≤ g.sectors) (hs : g.sectors ≤ 5000) :
    Calls Try.prog 39 #[.pointer (some ⟨b, 0, none⟩)] w fun e w' => e = .returned (.int .i64 ((g.sectors - g.used : Nat) : Int)) ∧ w.drew = w' := by
  have HN := Lib.hid (lnone_c h)
  obtain ⟨v, h1, -⟩ := h.ex
  have hc := h1.cells9
  have hsub : (g.sectors : Int) - (g.used : Int) = ((g.sectors - g.used : Nat) : Int) := by omega
  have HS := Lib.hid hsub
  have hw : IntKind.i64.wrap ((g.sectors : Int) - (g.used : Int)) = (g.sectors : Int) - (g.used : Int) := IntWalk.i64_in _ (by omega)
  clear h h1 hsub
  go_enter Try.func39, Try.ntmps39
  go_wp2_with (go_at_call 87; refine HN.out.mono ?_; rintro e w' ⟨rfl, rfl⟩)
  go_region_held3 (fun w' => w'.cell? ⟨b, 2, none⟩ = some (.int .i64 (g.sectors : Int)) ∧ w'.cell? ⟨b, 5, none⟩ = some (.int .i64 (g.used : Int))) (go_keep) (first | fail)
  all_goals go_wp2_with fail
  all_goals
    go_ret
    exact ⟨by rw [← HS.out]; rfl, rfl⟩

set_option maxRecDepth 100000 in
set_option maxHeartbeats 800000 in
theorem clone_o {w : World} {v : Value} {l : List ByteArray} (h : Own w 9 1 v l.length (strs l)) (hl : l.length ≤ 5000) :
    Calls Try.prog 96 #[v] w fun e w' => ∃ v', e = .returned v' ∧ Own w' 9 1 v' l.length (strs l) ∧ Upd (fun _ => False) w w' ∧ (∀ q, v'.ownBlock = some q → w.heap.size ≤ q) := by
  obtain ⟨i0, hi0, hz0, hz1, hz2⟩ := info_parts infoStr
  have H := Lib.hid h
  obtain ⟨A, cap, e, h1, h2⟩ := h.shape
  subst e
  clear h
  cases A with
  | none =>
    have hnil := fun W => slice_some none l.length cap W 22 _ Try.underlying22
    simp only [Option.isNone_none] at hnil
    go_enter Try.func96, Try.ntmps96
    go_wp2_with fail
    go_ret
    refine ⟨_, rfl, ?_, Upd.refl _ _, by simp [Value.ownBlock]⟩
    rcases H.out.2 with ⟨e, h0⟩ | ⟨g, c, cur, fr, e, _⟩
    · have hl0 : l = [] := List.eq_nil_of_length_eq_zero h0
      subst hl0
      exact Own.nil _ _ _
    · simp at e
  | some a =>
    have hnil := fun W => slice_some (some a) l.length cap W 22 _ Try.underlying22
    simp only [Option.isNone_some] at hnil
    go_enter Try.func96, Try.ntmps96
    have hO0 : Own (w.alloc (.cells #[] 9)) 9 1 (.slice (some ⟨w.heap.size, 0, none⟩) 0 0) 0 [] := ⟨by simp, .inr ⟨w.heap.size, 0, #[], (0, 0), rfl, heap_alloc_new w _, .inl rfl, Nat.le_refl _, by simp, rfl, rfl⟩⟩
    have HO0 := Lib.hid hO0
    clear hO0
    go_wp2_with (at_builtin
                 refine wpList_append_src rfl _ _ _ _ rfl 9 i0 _ 1 16 Try.underlying22 hi0 hz0 hz1 hz2 rfl _ 0 _ rfl HO0.out _ l.length (strs l) rfl (Src.of_own Try.underlying22 (H.out.alloc _)) (strs_one l) (by unfold maxLen; omega) (by omega) ?_
                 intro v' w2 hO2 hU2 hl2 hs2
                 have H2 := Lib.hid (And.intro hO2 (And.intro hU2 hl2))
                 clear hO2 hU2 hl2 hs2)
    go_ret
    obtain ⟨hO2, hU2, hl2⟩ := H2.out
    refine ⟨v', rfl, by simpa using hO2, ((Upd.refl _ w).alloc _).then hU2 (fun b e => .inr (by have e2 := Option.some.inj (show some w.heap.size = some b from e); omega)), fun q hq => ?_⟩
    rcases hl2 with e | e
    · rw [e] at hq
      have := Option.some.inj (show some w.heap.size = some q from hq)
      omega
    · rw [e] at hq
      have := Option.some.inj hq
      simp at this
      omega
set_option maxRecDepth 100000 in
theorem records_nil (w : World) :
    Calls Try.prog 40 #[.pointer none] w fun e w' => e = .returned (.slice none 0 0) ∧ w = w' := by
  go_enter Try.func40, Try.ntmps40
  go_wp2_with (go_at_call 87; refine (lnone_nil _).mono ?_; rintro e w' ⟨rfl, rfl⟩)
  go_ret
  exact ⟨rfl, rfl⟩
set_option maxRecDepth 100000 in
theorem records_c {w : World} {p b : Nat} {g : Lg} (h : LogAt w p b g) (hl : g.l.length ≤ 5000) :
    Calls Try.prog 40 #[.pointer (some ⟨b, 0, none⟩)] w fun e w' => ∃ v', e = .returned v' ∧ Own w' 9 1 v' g.l.length (strs g.l) ∧ Upd (fun _ => False) w w' ∧ (∀ q, v'.ownBlock = some q → w.heap.size ≤ q) := by
  have HN := Lib.hid (lnone_c h)
  obtain ⟨v, h1, h2⟩ := h.ex
  have hc := h1.cells9
  have HC := Lib.hid (clone_o h2 hl)
  clear h h1 h2
  go_enter Try.func40, Try.ntmps40
  go_wp2_with (first
    | (go_at_call 87; refine HN.out.mono ?_; rintro e w' ⟨rfl, rfl⟩)
    | (go_at_call 96; refine HC.out.mono ?_; rintro e w' ⟨v', rfl, h3, h4, h5⟩; have H3 := Lib.hid (And.intro h3 (And.intro h4 h5)); clear h3 h4 h5))
  go_ret
  exact ⟨_, rfl, H3.out.1, H3.out.2.1, H3.out.2.2⟩
end Go.Proofs.Ytafgohnpnaiomaa
