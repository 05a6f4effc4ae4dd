/-
  DiskTwin: the walk.
-/
import Derived.Test.YtafgohnpnaiomaaRunW
import Derived.Test.YtafgohnpnaiomaaSame7
namespace Go.Proofs.Ytafgohnpnaiomaa
open Go Go.RowKit

theorem Dks.aside {w0 w w' : World} {l : List (Nat × Dk)} {g : Nat} {t : TypeId} {cs : Array Value} (h : Dks w0 w l) (hB : Blk w g t cs) (h1 : t ≠ 87) (h2 : t ≠ 9) (hg : w0.heap.size ≤ g) (hu : Upd (· = g) w w') : Dks w0 w' l := by
  obtain ⟨G, k1, k2⟩ := h.ex
  exact ⟨⟨G, fun i hi => ⟨(k1 i hi).1.upd hu (fun q hq e => (k1 i hi).1.not_mem hB h1 h2 (e ▸ hq)), (k1 i hi).2⟩, k2⟩, h.upd.then hu (fun b e => .inr (by rw [e]; exact hg))⟩
def ptrAt (ps : List Nat) (i : Nat) : Value := match ps[i]? with | some p => .pointer (some ⟨p, 0, none⟩) | none => .pointer none
/-- The law's first disks. -/
structure Make3 (w0 wr : World) (bx k : Nat) (D : Dk) (ps : List Nat) : Prop where
  len : ps.length = k
  disks : Dks w0 wr (ps.map fun p => (p, D))
  arr : Blk wr bx 89 #[ptrAt ps 0, ptrAt ps 1, ptrAt ps 2]
theorem arr_step {ps : List Nat} (h : ps.length < 3) (p : Nat) : (#[ptrAt ps 0, ptrAt ps 1, ptrAt ps 2] : Array Value).setIfInBounds ps.length (.pointer (some ⟨p, 0, none⟩)) = #[ptrAt (ps ++ [p]) 0, ptrAt (ps ++ [p]) 1, ptrAt (ps ++ [p]) 2] := by
  match ps, h with
  | [], _ => rfl
  | [a], _ => rfl
  | [a, b], _ => rfl
theorem foldl_take_succ {β : Type} {f : β → Act7 → β} (l : List Act7) (k : Nat) (hk : k < l.length) (D : β) : (l.take (k + 1)).foldl f D = f ((l.take k).foldl f D) l[k] := by
  rw [List.take_succ_eq_append_getElem hk, List.foldl_append]
  rfl
theorem foldl_take_same {β : Type} {f : β → Act7 → β} (l : List Act7) (k : Nat) (hk : ¬ k < l.length) (D : β) : (l.take (k + 1)).foldl f D = (l.take k).foldl f D := by
  rw [List.take_of_length_le (by omega), List.take_of_length_le (by omega)]
theorem crash_pend_of {d : Dk} (hl : d.waits.length = d.lasts.length) (keep : List Int) : (d.crash keep).pend = 0 := by
  unfold Dk.pend
  have : ∀ l ∈ (d.crash keep).waits, l = [] := by
    intro l hl2
    obtain ⟨i, hi, rfl⟩ := List.mem_iff_getElem.1 hl2
    have := Dk.crash_now hl keep i
    unfold Dk.at_ at this
    rw [List.getD_eq_getElem?_getD, List.getElem?_eq_getElem hi] at this
    exact this
  generalize (d.crash keep).waits = L at *
  induction L with
  | nil => rfl
  | cons x L ih => rw [List.map_cons, List.sum_cons, ih (fun l hl => this l (by simp [hl])), this x (by simp)]; rfl
theorem crash_lens (d : Dk) (keep : List Int) : (d.crash keep).lasts.length = d.lasts.length ∧ (d.crash keep).waits.length = d.waits.length := by
  refine ⟨Dk.part_len _ _ _, ?_⟩
  show ((List.range d.waits.length).map _).length = _
  rw [List.length_map, List.length_range]
theorem act_lens (d : Dk) (a : Act7) : (d.act a).lasts.length = d.lasts.length ∧ (d.act a).waits.length = d.waits.length := by
  unfold Dk.act
  split
  · exact ⟨by rw [write_lasts], write_waits _ _ _⟩
  · split
    · unfold Dk.sync
      split
      · exact ⟨rfl, rfl⟩
      · split
        · refine ⟨?_, ?_⟩
          · simp [Dk.flush, Dk.burn_lasts]
          · simp [Dk.flush, Dk.burn_waits]
        · exact ⟨by rw [Dk.burn_lasts], by rw [Dk.burn_waits]⟩
    · split
      · exact ⟨rfl, rfl⟩
      · split
        · exact crash_lens _ _
        · split
          · unfold Dk.spoil
            split
            · exact ⟨by simp, rfl⟩
            · exact ⟨rfl, rfl⟩
          · exact ⟨rfl, rfl⟩
theorem act_pend_of {d : Dk} (hl : d.waits.length = d.lasts.length) (a : Act7) : (d.act a).pend ≤ d.pend + 1 := by
  unfold Dk.act
  split
  · exact write_pend d a.i a.data hl
  · split
    · unfold Dk.sync
      split
      · exact Nat.le_succ _
      · split
        · rw [Dk.flush_pend]; exact Nat.zero_le _
        · rw [Dk.burn_pend]; exact Nat.le_succ _
    · split
      · exact Nat.le_succ _
      · split
        · rw [crash_pend_of hl]; exact Nat.zero_le _
        · split
          · unfold Dk.spoil
            split
            · exact Nat.le_succ _
            · exact Nat.le_succ _
          · exact Nat.le_succ _
theorem acts_pend (l : List Act7) (d : Dk) (hl : d.waits.length = d.lasts.length) : (l.foldl Dk.act d).pend ≤ d.pend + l.length := by
  induction l generalizing d with
  | nil => exact Nat.le_refl _
  | cons a l ih =>
    have h1 := ih (d.act a) (by rw [(act_lens d a).1, (act_lens d a).2, hl])
    have h2 := act_pend_of hl a
    rw [List.foldl_cons, List.length_cons]
    omega
theorem fresh_wf_of (n : Nat) (h1 : 1 ≤ n) (h2 : n ≤ 4096) : (Dk.fresh n).wf := Dk.fresh_wf n h1 h2
/-- The law's four disks, some acts behind the twin. -/
structure Four (w0 wr : World) (a b c t k : Nat) (D : Dk) (one two : List Act7) (A C : Dk) : Prop where
  disks : Dks w0 wr [(a, A), (b, A), (c, C), (t, C)]
  ea : A = (one.take k).foldl Dk.act D
  ec : C = (two.take k).foldl Dk.act D
  pa : A.pend ≤ 1000 + k
  pc : C.pend ≤ 1000 + k

set_option maxRecDepth 100000 in
set_option maxHeartbeats 3200000 in
theorem walk_DiskTwin {an : Int} {v0 v1 v2 : Value} {ahead one two : List Act7} (w : World) (h1 : (Lit.int .u8 an).wf = true) (hA0 : IsActs07 w v0 ahead) (hA1 : IsActs07 w v1 one) (hA2 : IsActs07 w v2 two) :
    Calls Try.prog 16 #[.int .u8 an, v0, v1, v2] w fun e w' => e = .returned (.bool true) ∧ Upd (fun _ => False) w w' := by
  obtain ⟨m, rfl, hm⟩ := u8_of h1
  have HW := Lib.hid (awake_07 w)
  have HA := Lib.hid (And.intro hA0 (And.intro hA1 hA2))
  obtain ⟨A1, cp1, b1, o1, rfl, m1, z1, -, -⟩ := hA1.open_
  obtain ⟨A2, cp2, b2, o2, rfl, m2, z2, -, -⟩ := hA2.open_
  have hcap1 := hA1.cap
  have hcap2 := hA2.cap
  clear hA0 hA1 hA2 h1
  obtain ⟨n, hn⟩ : ∃ n : Nat, n = 1 + m % 40 := ⟨_, rfl⟩
  have hn1 : 1 ≤ n ∧ n ≤ 40 := by omega
  have hn' : 1 + (m : Int) % 40 = (n : Int) := by omega
  clear hn
  go_enter Try.func16, Try.ntmps16
  go_wp2_with fail
  refine HW.out.mono ?_
  rintro e w1 ⟨rfl, hU1⟩
  have HU1 := Lib.hid hU1
  clear hU1 HW
  go_wp2_with fail
  refine (great_07 w w1 HA.out.1 HU1.out).mono ?_
  rintro e w' ⟨bg, rfl, rfl, hge⟩
  have HG0 := Lib.hid hge
  clear hge
  cases bg
  case true =>
    go_wp2_with fail
    go_ret
    exact ⟨rfl, HU1.out⟩
  go_wp2_with fail
  refine (great_07 w w1 HA.out.2.1 HU1.out).mono ?_
  rintro e w' ⟨bg, rfl, rfl, hge⟩
  have HG1 := Lib.hid hge
  clear hge
  cases bg
  case true =>
    go_wp2_with fail
    go_ret
    exact ⟨rfl, HU1.out⟩
  go_wp2_with fail
  refine (great_07 w w1 HA.out.2.2 HU1.out).mono ?_
  rintro e w' ⟨bg, rfl, rfl, hge⟩
  have HG2 := Lib.hid hge
  clear hge
  cases bg
  case true =>
    go_wp2_with fail
    go_ret
    exact ⟨rfl, HU1.out⟩
  obtain ⟨hl0, -⟩ := HG0.out.ok rfl
  obtain ⟨hl1, -⟩ := HG1.out.ok rfl
  obtain ⟨hl2, -⟩ := HG2.out.ok rfl
  obtain ⟨D, hD⟩ : ∃ D, ahead.foldl Dk.act (Dk.fresh n) = D := ⟨_, rfl⟩
  have HDd := Lib.hid hD
  clear hD HG0 HG1 HG2
  go_upto_region 6 with (first
    | (refine wpList_store_all rfl 89 _ _ rfl w1.heap.size #[.pointer none, .pointer none, .pointer none] rfl rfl _ _ (Blk.new w1 89 #[.pointer none, .pointer none, .pointer none]) rfl (by simp [Value.oneCell']) (by kernel_rfl) ?_
       intro w2 hB2 hU2 hs2
       have hU12 : Upd (fun _ => False) w1 w2 := ((Upd.refl _ w1).alloc _).then hU2 (fun b e => .inr (by rw [e]; exact Nat.le_refl _))
       have H2 : Hid (Make3 w1 w2 w1.heap.size 0 D []) := ⟨rfl, (Dks.none_ w1).still hU12, hB2⟩
       clear hB2 hU2 hs2 hU12))
  go_wp2_with fail
  go_loopw [10, 11, 12] (fun i _ _ wr => ∃ (k : Nat) (ps : List Nat), k ≤ 3 ∧ i = .int .i64 k ∧ Make3 w1 wr w1.heap.size k D ps) (fun i _ _ _ => 3 - (intOf i).toNat)
  case atStart => exact ⟨0, [], by omega, rfl, H2.out⟩
  case round =>
    obtain ⟨k, ps, hk, rfl, hM⟩ := hrel
    have HM := Lib.hid hM
    clear hM H2
    by_cases hlt : k < 3
    · have hlt' : (k : Int) < 3 := by omega
      have hlen := HM.out.len
      go_wp2_with fail
      refine (new_k HM.out.disks _ n rfl hn1.1 (by omega)).mono ?_
      rintro e w3 ⟨p, rfl, hD, hK3⟩
      have hip : (ps.map (fun p => (p, D)) ++ [(p, Dk.fresh n)])[ps.length]? = some (p, Dk.fresh n) := by
        rw [List.getElem?_append_right (by simp)]
        simp
      have H3 := Lib.hid (And.intro hD (And.intro hK3 hip))
      clear hD hK3 hip
      go_wp2_with fail
      refine (run_k H3.out.1 H3.out.2.2 (HA.out.1.still HU1.out) hl0 (by rw [fresh_pend7]; omega)).mono ?_
      rintro e w4 ⟨rfl, hD, hK4⟩
      rw [HDd.out] at hD
      have hset : (ps.map (fun p => (p, D)) ++ [(p, Dk.fresh n)]).set ps.length (p, D) = (ps ++ [p]).map fun p => (p, D) := by
        rw [List.set_append_right _ _ (by simp)]
        simp
      rw [hset] at hD
      have hB4 := hK4 _ _ _ (H3.out.2.1 _ _ _ HM.out.arr (by decide) (by decide)) (by decide) (by decide)
      have HBs := Lib.hid (arr_step (by omega : ps.length < 3) p)
      rw [hlen] at HBs
      have H4 := Lib.hid hD
      clear hD hK4 hset H3
      go_wp2_with (refine wpList_store_one rfl 24 _ _ rfl w1.heap.size k (.pointer (some ⟨p, 0, none⟩)) rfl rfl _ _ hB4 (by simp; omega) rfl (by kernel_rfl) ?_
                   intro w5 hB5 hU5 hs5
                   rw [HBs.out] at hB5
                   have H5 : Hid (Make3 w1 w5 w1.heap.size (k + 1) D (ps ++ [p])) := ⟨by rw [List.length_append, List.length_singleton, hlen], H4.out.aside hB4 (by decide) (by decide) (Nat.le_refl _) hU5, hB5⟩
                   clear hB5 hU5 hs5)
      go_roundw
      case rel => exact ⟨k + 1, ps ++ [p], by omega, by go_num, H5.out⟩
      case measure => simp [intOf] <;> omega
    · obtain rfl : k = 3 := by omega
      obtain ⟨a, b, c, rfl⟩ : ∃ a b c, ps = [a, b, c] := by
        have := HM.out.len
        match ps, this with
        | [a, b, c], _ => exact ⟨a, b, c, rfl⟩
      have hc0 : wr.cell? ⟨w1.heap.size, 0, none⟩ = some (.pointer (some ⟨a, 0, none⟩)) := HM.out.arr.cell 0
      have hc1 : wr.cell? ⟨w1.heap.size, 1, none⟩ = some (.pointer (some ⟨b, 0, none⟩)) := HM.out.arr.cell 1
      have hc2 : wr.cell? ⟨w1.heap.size, 2, none⟩ = some (.pointer (some ⟨c, 0, none⟩)) := HM.out.arr.cell 2
      have H3 : Hid (Dks w1 wr [(a, D), (b, D), (c, D)]) := HM.out.disks
      clear HM
      go_wp2_with fail
      go_region
      all_goals
        clear hc0 hc1 hc2
        have H4 : Hid (Dks w1 wr.drew [(a, D), (b, D), (c, D)]) := H3.out.still (Upd.refl _ _).drew
        go_wp2_with fail
        refine (twin_x (i := 0) H4.out rfl).mono ?_
        rintro e w5 ⟨t, rfl, hD⟩
        have hpD : D.pend ≤ 1000 := by
          have h1 := acts_pend ahead (Dk.fresh n) (by simp [Dk.fresh])
          rw [HDd.out, fresh_pend7] at h1
          omega
        have hpD' : D.pend ≤ 1000 + 0 := hpD
        have H5 : Hid (Four w1 w5 a b c t 0 D one two D D) := ⟨hD, rfl, rfl, hpD', hpD'⟩
        clear hD H4 H3 hpD hpD'
        go_wp2_with fail
        go_loopw [17] (fun x wr => ∃ (k : Nat) (A C : Dk), k ≤ max one.length two.length ∧ x = .int .i64 k ∧ Four w1 wr a b c t k D one two A C) (fun x _ => max one.length two.length - (intOf x).toNat)
        case atStart => exact ⟨0, D, D, by omega, rfl, H5.out⟩
        case round =>
          obtain ⟨k, A, C, hk, rfl, hF⟩ := hrel
          have HF := Lib.hid hF
          clear hF H5
          have hpa := HF.out.pa
          have hpc := HF.out.pc
          have hla := (HF.out.disks.one 0 rfl).wf.len
          have hlc := (HF.out.disks.one 2 rfl).wf.len
          have HF0 := Lib.hid HF.out.disks
          by_cases hc1 : k < one.length
          · have hc1' : (k : Int) < (one.length : Int) := by omega
            obtain rfl := z1 (by omega)
            go_wp2_with fail
            refine (run_c (i := 0) (d := A) HF0.out rfl ((HA.out.2.1.still HU1.out).sub hc1 (by omega)) (by simp) (by omega)).mono ?_
            rintro e v1 ⟨rfl, hD⟩
            have F1 : Hid (Dks w1 v1 [(a, A.act one[k]), (b, A), (c, C), (t, C)]) := hD
            clear hD
            go_wp2_with fail
            refine (run_c (i := 1) (d := A) F1.out rfl ((HA.out.2.1.still HU1.out).sub hc1 (by omega)) (by simp) (by omega)).mono ?_
            rintro e v2 ⟨rfl, hD⟩
            have F2 : Hid (Dks w1 v2 [(a, A.act one[k]), (b, A.act one[k]), (c, C), (t, C)]) := hD
            clear hD F1
            by_cases hc2 : k < two.length
            · have hc2' : (k : Int) < (two.length : Int) := by omega
              obtain rfl := z2 (by omega)
              go_wp2_with fail
              refine (run_c (i := 3) (d := C) F2.out rfl ((HA.out.2.2.still HU1.out).sub hc2 (by omega)) (by simp) (by omega)).mono ?_
              rintro e v3 ⟨rfl, hD⟩
              have F3 : Hid (Dks w1 v3 [(a, A.act one[k]), (b, A.act one[k]), (c, C), (t, C.act two[k])]) := hD
              clear hD
              go_wp2_with fail
              refine (run_c (i := 2) (d := C) F3.out rfl ((HA.out.2.2.still HU1.out).sub hc2 (by omega)) (by simp) (by omega)).mono ?_
              rintro e v4 ⟨rfl, hD⟩
              have F4 : Hid (Dks w1 v4 [(a, A.act one[k]), (b, A.act one[k]), (c, C.act two[k]), (t, C.act two[k])]) := hD
              clear hD F3
              go_wp2_with fail
              go_roundw
              case rel => exact ⟨k + 1, A.act one[k], C.act two[k], by omega, by go_num, F4.out, by rw [foldl_take_succ one k hc1, ← HF.out.ea], by rw [foldl_take_succ two k hc2, ← HF.out.ec], by have := act_pend_of hla one[k]; omega, by have := act_pend_of hlc two[k]; omega⟩
              case measure => simp [intOf] <;> omega
            · have hc2' : ¬ (k : Int) < (two.length : Int) := by omega
              go_wp2_with fail
              go_roundw
              case rel => exact ⟨k + 1, A.act one[k], C, by omega, by go_num, F2.out, by rw [foldl_take_succ one k hc1, ← HF.out.ea], by rw [foldl_take_same two k hc2, ← HF.out.ec], by have := act_pend_of hla one[k]; omega, by omega⟩
              case measure => simp [intOf] <;> omega
          · have hc1' : ¬ (k : Int) < (one.length : Int) := by omega
            by_cases hc2 : k < two.length
            · have hc2' : (k : Int) < (two.length : Int) := by omega
              obtain rfl := z2 (by omega)
              go_wp2_with fail
              refine (run_c (i := 3) (d := C) HF0.out rfl ((HA.out.2.2.still HU1.out).sub hc2 (by omega)) (by simp) (by omega)).mono ?_
              rintro e v3 ⟨rfl, hD⟩
              have F3 : Hid (Dks w1 v3 [(a, A), (b, A), (c, C), (t, C.act two[k])]) := hD
              clear hD
              go_wp2_with fail
              refine (run_c (i := 2) (d := C) F3.out rfl ((HA.out.2.2.still HU1.out).sub hc2 (by omega)) (by simp) (by omega)).mono ?_
              rintro e v4 ⟨rfl, hD⟩
              have F4 : Hid (Dks w1 v4 [(a, A), (b, A), (c, C.act two[k]), (t, C.act two[k])]) := hD
              clear hD F3
              go_wp2_with fail
              go_roundw
              case rel => exact ⟨k + 1, A, C.act two[k], by omega, by go_num, F4.out, by rw [foldl_take_same one k hc1, ← HF.out.ea], by rw [foldl_take_succ two k hc2, ← HF.out.ec], by omega, by have := act_pend_of hlc two[k]; omega⟩
              case measure => simp [intOf] <;> omega
            · have hc2' : ¬ (k : Int) < (two.length : Int) := by omega
              go_wp2_with fail
              refine (same7_c (i := 0) (j := 1) (d := A) HF0.out rfl rfl (by decide)).mono ?_
              rintro e v5 ⟨rfl, A', hD⟩
              have F5 : Hid (Dks w1 v5 [(a, A'), (b, A'), (c, C), (t, C)]) := hD
              clear hD
              go_wp2_with fail
              refine (same7_c (i := 3) (j := 2) (d := C) F5.out rfl rfl (by decide)).mono ?_
              rintro e v6 ⟨rfl, C', hD⟩
              have F6 := Lib.hid hD.upd
              clear hD
              go_wp2_with fail
              go_ret
              exact ⟨rfl, HU1.out.then F6.out (fun _ e => e.elim)⟩
end Go.Proofs.Ytafgohnpnaiomaa
