/-
  The disk's Read and Write.
-/
import Derived.Test.YtnmbhoidnbideaaDiskA
import Derived.Deep.RegionHeld3
namespace Go.Proofs.Ytnmbhoidnbideaa
open Go Go.RowKit

/-- append, as one step of a region that draws. -/
theorem step_append_src {P : Program} {ops : Array Oper} {o : Oper} {a : Act} {w : World} {K : Act → World → Prop} {Q : Exit → Act → World → Prop} {E : Prop}
    (hg : o.guard = none) (s x : Operand) (t xT : TypeId) (ho : o.op = .call { callee := .builtin .append, args := #[s, x], argTypes := #[t, xT] })
    (e : TypeId) (i : TypeInfo) (z : Value) (size bytes : Nat) (ht : P.underlying t = some (.slice e)) (hi : P.info? e = some i) (hz : i.zero = some z) (hsize : i.size = size) (hby : i.bytes = bytes) (hzs : z.cells.size = size)
    (v : Value) (n : Nat) (xs : List Value) (hs : a.eval s = v) (hown : Own w e size v n xs) (vx : Value) (m : Nat) (news : List Value) (hx : a.eval x = vx) (hsrc : Src P w xT size vx m news) (h1 : ∀ u ∈ news, u.oneCell' = true)
    (h63 : n + m ≤ maxLen) (hbytes : (n + m) * bytes ≤ 140737488355328)
    (h : ∀ v' w', Own w' e size v' (n + m) (xs ++ news) → Upd (fun k => v.ownBlock = some k) w w' → (v'.ownBlock = v.ownBlock ∨ v'.ownBlock = some w.heap.size) → w'.heap.size ≤ w.heap.size + 1 → K (a.put o.dst v') w') :
    if Region.wanted o (yielded ops a.tmps) = true then Oper.wp P o a w K Q else E := by
  have hw : Region.wanted o (yielded ops a.tmps) = true := by simp [Region.wanted, hg]
  rw [if_pos hw]
  obtain ⟨v', w', hrun, h2, h3, h4, h5⟩ := run_append_src (P := P) t o.type i z bytes ht hi hz hsize hby hzs hown hsrc h1 h63 hbytes
  exact wp_append_run s x t xT ho hs hx hrun (h v' w' h2 h3 h4 h5)

theorem infoStr : (Try.prog.info? 9).map (fun i => (i.zero, i.size, i.bytes)) = some (some (.string ByteArray.empty), 1, 16) := by kernel_rfl

theorem zeroStrs (w : World) : (zeroValue 63).run Try.prog w = .ok (.slice none 0 0) w := by kernel_rfl

/-- What the map of waiting writes has at a sector. -/
theorem look_at {w : World} {bm : Nat} {m : List (Int × Value)} {d : Dk} (h3 : MapB intKey w bm m) (h4 : WaitsAt w m d.waits) (i : Nat) :
    ∃ v, (getA m (i : Int)).getD (.slice none 0 0) = v ∧ (Instr.lookup 62 (.map (some bm)) (.int .i64 (i : Int)) false).run Try.prog w = .ok v w ∧ Own w 9 1 v (d.at_ i).length (strs (d.at_ i)) ∧ (d.at_ i = [] → v = .slice none 0 0) ∧ (d.at_ i ≠ [] → ((i : Int), v) ∈ m) := by
  refine ⟨_, rfl, h3.run_lookup keyI Try.underlying62 Try.underlying3 (i : Int) false (zeroStrs w), ?_⟩
  by_cases h0 : d.at_ i = []
  · have hn : getA m (i : Int) = none := by
      refine getA_none fun p hp hpi => ?_
      obtain ⟨j, e, _, hj, _⟩ := h4.each p hp
      have : j = i := by omega
      subst this
      exact hj h0
    rw [hn, h0]
    exact ⟨Own.nil _ _ _, fun _ => rfl, fun h => absurd rfl h⟩
  · obtain ⟨q, hq, hqi⟩ := List.mem_map.1 (h4.all i h0)
    obtain ⟨k, hk⟩ := List.getElem?_of_mem hq
    have hg : getA m (i : Int) = some q.2 := getA_some h3.nodup (j := k) (by rw [hk, ← hqi])
    obtain ⟨j, e, _, hj, hown⟩ := h4.each q hq
    have : j = i := by omega
    subst this
    rw [hg]
    refine ⟨hown, fun h => absurd h h0, fun _ => ?_⟩
    simp only [Option.getD_some]
    rw [← hqi]
    exact hq

theorem DiskAt.look {w : World} {p : Nat} {d : Dk} {F : List Nat} (hD : DiskAt w p d F) (i : Nat) (hi : i < d.lasts.length) :
    ∃ bl cap bm v, Blk w p 65 #[.slice (some ⟨bl, 0, none⟩) d.lasts.length cap, .map (some bm), .int .i64 d.fuse, .bool d.off] ∧ (Instr.lookup 62 (.map (some bm)) (.int .i64 (i : Int)) false).run Try.prog w = .ok v w ∧
      Own w 9 1 v (d.at_ i).length (strs (d.at_ i)) ∧ w.cell? ⟨bl, i, none⟩ = some (.string (d.last i)) ∧ (d.at_ i = [] → v = .slice none 0 0) := by
  obtain ⟨bl, cap, bm, m, h1, h2, h3, h4, _⟩ := hD
  obtain ⟨v, _, hrun, hown, hnil, _⟩ := look_at h3 h4 i
  refine ⟨bl, cap, bm, v, h1, hrun, hown, ?_, hnil⟩
  rw [h2.cellAt i (by omega), strs_get, Dk.last]
  simp [hi]

set_option maxRecDepth 100000 in
theorem read_c {w : World} {p : Nat} {d : Dk} {F : List Nat} (hD : DiskAt w p d F) (i : Int) :
    Calls Try.prog 50 #[.pointer (some ⟨p, 0, none⟩), .int .i64 i] w fun e w' => e = .returned (.tuple #[.string (d.read i).1, .int .i64 (d.read i).2]) ∧ w = w' := by
  have hwf := hD.wf
  cases hoff : d.off with
  | true =>
    have hr : d.read i = (ByteArray.empty, 14) := by simp [Dk.read, hoff]
    rw [hr]
    have Ho := Lib.hid (out_down hD hoff)
    clear hoff hr hwf hD
    go_enter Try.func50, Try.ntmps50
    go_wp2_with (go_at_call 53; refine Ho.out.mono ?_; rintro e w' ⟨rfl, rfl⟩)
    go_ret2
    exact ⟨rfl, rfl⟩
  | false =>
    have Ho := Lib.hid (out_up hD hoff)
    have Ht := Lib.hid (there_c hD i)
    cases ht : d.there i with
    | false =>
      have hr : d.read i = (ByteArray.empty, 1) := by simp [Dk.read, hoff, ht]
      rw [hr]
      rw [ht] at Ht
      clear hoff hr hwf hD ht
      go_enter Try.func50, Try.ntmps50
      go_wp2_with (first | (go_at_call 53; refine Ho.out.mono ?_; rintro e w' ⟨rfl, rfl⟩) | (go_at_call 54; refine Ht.out.mono ?_; rintro e w' ⟨rfl, rfl⟩))
      go_ret2
      exact ⟨rfl, rfl⟩
    | true =>
      have hi : 0 ≤ i ∧ i < d.lasts.length := by simpa [Dk.there] using ht
      obtain ⟨k, rfl⟩ := Int.eq_ofNat_of_zero_le hi.1
      have hk : k < d.lasts.length := by omega
      have hr : d.read (k : Int) = (d.now k, 0) := by simp [Dk.read, hoff, ht]
      rw [hr]
      rw [ht] at Ht
      have hmost := hwf.most
      have hroom := hwf.room
      have hal := Dk.at_len (d := d) k
      obtain ⟨bl, cap, bm, v, h1, hrun, hown, hcell, hnil⟩ := hD.look k hk
      have hc := h1.cells4
      clear h1 hoff hr ht hD hwf
      by_cases h0 : d.at_ k = []
      · have hnow : Hid (d.now k = d.last k) := by simp [Dk.now, h0, Hid]
        have hv : v = .slice none 0 0 := hnil h0
        subst hv
        generalize d.last k = x at *
        clear h0 hown hal hnil
        go_enter Try.func50, Try.ntmps50
        go_wp2_with (first | (go_at_call 53; refine Ho.out.mono ?_; rintro e w' ⟨rfl, rfl⟩) | (go_at_call 54; refine Ht.out.mono ?_; rintro e w' ⟨rfl, rfl⟩))
        go_ret2
        exact ⟨by rw [hnow.out]; rfl, rfl⟩
      · have hlen : 0 < (d.at_ k).length := List.length_pos_iff.2 h0
        obtain ⟨g, cap', rfl, hnc, hcm⟩ := hown.head hlen
        have hlast : w.cell? ⟨g, (d.at_ k).length - 1, none⟩ = some (.string (d.now k)) := by
          rw [hown.cellAt _ (by omega), strs_get, Dk.now, List.getLast?_eq_getElem?]
          rw [List.getElem?_eq_getElem (by omega)]
          rfl
        generalize d.now k = x at *
        generalize (d.at_ k).length = n at *
        clear h0 hown hcell hnil
        go_enter Try.func50, Try.ntmps50
        go_wp2_with (first | (go_at_call 53; refine Ho.out.mono ?_; rintro e w' ⟨rfl, rfl⟩) | (go_at_call 54; refine Ht.out.mono ?_; rintro e w' ⟨rfl, rfl⟩))
        go_ret2
        exact ⟨rfl, rfl⟩

set_option maxRecDepth 100000 in
theorem write_off {w : World} {p : Nat} {d : Dk} {F : List Nat} (hD : DiskAt w p d F) (i : Int) (b : ByteArray) (hoff : d.off = true) :
    Calls Try.prog 33 #[.pointer (some ⟨p, 0, none⟩), .int .i64 i, .string b] w fun e w' => e = .returned (.int .i64 14) ∧ w = w' := by
  have Ho := Lib.hid (out_down hD hoff)
  clear hoff hD
  go_enter Try.func33, Try.ntmps33
  go_wp2_with (go_at_call 53; refine Ho.out.mono ?_; rintro e w' ⟨rfl, rfl⟩)
  go_ret
  exact ⟨rfl, rfl⟩

set_option maxRecDepth 100000 in
theorem write_arg {w : World} {p : Nat} {d : Dk} {F : List Nat} (hD : DiskAt w p d F) (i : Int) (b : ByteArray) (hoff : d.off = false) (h : (d.there i && decide (b.size = 64)) = false) :
    Calls Try.prog 33 #[.pointer (some ⟨p, 0, none⟩), .int .i64 i, .string b] w fun e w' => e = .returned (.int .i64 1) ∧ w = w' := by
  have Ho := Lib.hid (out_up hD hoff)
  have Ht := Lib.hid (there_c hD i)
  clear hoff hD
  cases ht : d.there i with
  | false =>
    rw [ht] at Ht
    clear h ht
    go_enter Try.func33, Try.ntmps33
    go_wp2_with (first | (go_at_call 53; refine Ho.out.mono ?_; rintro e w' ⟨rfl, rfl⟩) | (go_at_call 54; refine Ht.out.mono ?_; rintro e w' ⟨rfl, rfl⟩))
    go_ret
    exact ⟨rfl, rfl⟩
  | true =>
    rw [ht] at Ht
    have hb : ((b.size : Int) != 64) = true := by rw [bne_iff_ne]; simp [ht] at h; omega
    clear h ht
    go_enter Try.func33, Try.ntmps33
    go_wp2_with (first | (go_at_call 53; refine Ho.out.mono ?_; rintro e w' ⟨rfl, rfl⟩) | (go_at_call 54; refine Ht.out.mono ?_; rintro e w' ⟨rfl, rfl⟩))
    go_ret
    exact ⟨rfl, rfl⟩

set_option maxRecDepth 100000 in
theorem write_no {w : World} {p : Nat} {d : Dk} {F : List Nat} (hD : DiskAt w p d F) (i : Int) (b : ByteArray) (hoff : d.off = false) (ht : d.there i = true) (hb : b.size = 64) (hn : d.burn.2 = false) :
    Calls Try.prog 33 #[.pointer (some ⟨p, 0, none⟩), .int .i64 i, .string b] w fun e w' => e = .returned (.int .i64 14) ∧ Left w w' p d.burn.1 F F := by
  have Ho := Lib.hid (out_up hD hoff)
  have Ht := Lib.hid (there_c hD i)
  have Hb := Lib.hid (burns_no hD hn)
  rw [ht] at Ht
  have hb' : ((b.size : Int) != 64) = false := by rw [hb]; rfl
  clear hoff hD ht hb hn
  go_enter Try.func33, Try.ntmps33
  go_wp2_with (first | (go_at_call 53; refine Ho.out.mono ?_; rintro e w' ⟨rfl, rfl⟩) | (go_at_call 54; refine Ht.out.mono ?_; rintro e w' ⟨rfl, rfl⟩) | (go_at_call 55; refine Hb.out.mono ?_; rintro e w1 ⟨rfl, hL⟩))
  go_ret
  exact ⟨rfl, hL⟩

set_option maxRecDepth 100000 in
set_option maxHeartbeats 800000 in
theorem write_yes {w : World} {p : Nat} {d : Dk} {F : List Nat} (hD : DiskAt w p d F) (k : Nat) (b : ByteArray) (hoff : d.off = false) (ht : d.there (k : Int) = true) (hb : b.size = 64) (hn : d.burn.2 = true) (hp : d.pend + 1 < 1000000) :
    Calls Try.prog 33 #[.pointer (some ⟨p, 0, none⟩), .int .i64 (k : Int), .string b] w fun e w' => e = .returned (.int .i64 0) ∧ ∃ F', Left w w' p (d.burn.1.push k b) F F' := by
  have Ho := Lib.hid (out_up hD hoff)
  have Ht := Lib.hid (there_c hD k)
  have Hb := Lib.hid (burns_yes hD hn)
  have hk : k < d.burn.1.lasts.length := by
    rw [Dk.burn_lasts]
    simp [Dk.there] at ht
    exact ht
  have hp' : d.burn.1.pend + 1 < 1000000 := by rw [Dk.burn_pend]; exact hp
  generalize d.burn.1 = d1 at *
  obtain ⟨i0, hi0, hz0, hz1, hz2⟩ := info_parts infoStr
  rw [ht] at Ht
  have hb' : ((b.size : Int) != 64) = false := by rw [hb]; rfl
  have HB := Lib.hid hb
  clear hoff hD ht hn hb hp
  go_enter Try.func33, Try.ntmps33
  go_wp2_with (first | (go_at_call 53; refine Ho.out.mono ?_; rintro e w' ⟨rfl, rfl⟩) | (go_at_call 54; refine Ht.out.mono ?_; rintro e w' ⟨rfl, rfl⟩) | (go_at_call 55; refine Hb.out.mono ?_; rintro e w1 ⟨rfl, hL⟩))
  clear Ho Ht Hb hb'
  have HL := Lib.hid hL
  obtain ⟨bl, cap, bm, m, g1, g2, g3, g4, g5, gF, g7⟩ := hL.disk
  clear hL
  subst gF
  obtain ⟨v0, hget, hrun0, hown0, hnil, hmem⟩ := look_at g3 g4 k
  obtain ⟨v1, hget1, hrun1, hx1⟩ := look_at (w := w1.drew) g3.drew (g4.upd (fun _ _ => rfl)) k
  obtain ⟨v2, hget2, hrun2, hx2⟩ := look_at (w := (w1.alloc (.cells #[.string b] 9)).drew) (g3.alloc _).drew (g4.upd (fun q hq => Below.heap_alloc _ _ _ (by
    have := HL.out.disk.lt q (by simp only [List.mem_cons]; exact .inr (.inr (.inr hq)))
    exact this))) k
  have e1 : v1 = v0 := hget1.symm.trans hget
  have e2 : v2 = v0 := hget2.symm.trans hget
  subst e1 e2
  clear hx1 hx2
  have hlen := Dk.at_len (d := d1) k
  have hcell : w1.cell? ⟨p, 1, none⟩ = some (.map (some bm)) := g1.cell 1
  have hlt1 := g1.lt
  have hmemO : ∀ q, v2.ownBlock = some q → ((k : Int), v2) ∈ m := fun q hq => hmem (fun h0 => by rw [hnil h0] at hq; simp [Value.ownBlock] at hq)
  have hpv : v2.ownBlock ≠ some p := fun e => by
    have := List.mem_filterMap (f := fun q : Int × Value => q.2.ownBlock).2 ⟨_, hmemO p e, e⟩
    simp only [List.nodup_cons, List.mem_cons] at g7
    exact g7.1 (.inr (.inr this))
  have hbv : v2.ownBlock ≠ some bm := fun e => by
    have := List.mem_filterMap (f := fun q : Int × Value => q.2.ownBlock).2 ⟨_, hmemO bm e, e⟩
    simp only [List.nodup_cons, List.mem_cons] at g7
    exact g7.2.2.1 this
  have hpb : p ≠ bm := fun e => by subst e; simp at g7
  have H7 := Lib.hid (And.intro g1 (And.intro g2 (And.intro g4 (And.intro g5 g7))))
  have Hm := Lib.hid (And.intro hpv (And.intro hbv hpb))
  have HO := Lib.hid hmemO
  clear hget hrun0 hnil hmem hget1 hget2 g1 g2 g4 g5 g7 hpv hbv hpb hmemO
  go_region_held3 (fun w' => w'.cell? ⟨p, 1, none⟩ = some (.map (some bm))) (first | assumption | go_keep)
    ((refine step_append_src (by rfl) _ _ _ _ (by rfl) 9 i0 _ 1 16 Try.underlying63 hi0 hz0 hz1 hz2 rfl v2 _ _ (by rfl) ((hown0.alloc _).drew) _ 1 [.string b] (by rfl) (Src.of_new_drew Try.underlying63 (.string b)) (by simp [Value.oneCell']) (by unfold maxLen; omega) (by omega) ?_
      intro v' w2 hown2 hU2 hloc2 hs2
      have hc2 : w2.cell? ⟨p, 1, none⟩ = some (.map (some bm)) := (World.cell?_of_block (w := w1) (a := ⟨p, 1, none⟩) ((hU2.block p (by simp; omega) Hm.out.1).trans (Below.heap_alloc w1 _ p hlt1))).trans hcell
      have hM2 : MapB intKey w2 bm m := (g3.alloc _).drew.upd hU2 Hm.out.2.1
      obtain ⟨w3, hrun3, hM3, hU3, hs3⟩ := hM2.run_update keyI Try.underlying62 Try.underlying3 (k : Int) v'
      have hrun4 : (Instr.mapUpdate 62 (.map (some bm)) (.int .i64 (k : Int)) v').run Try.prog w2 = .ok () w3 := hrun3
      clear hrun3
      have hc3 : w3.cell? ⟨p, 1, none⟩ = some (.map (some bm)) := (World.cell?_of_block (w := w2) (a := ⟨p, 1, none⟩) (hU3.block p (World.block_lt_of_cell? w2 _ hc2) Hm.out.2.2)).trans hc2
      have HX := Lib.hid (And.intro hown2 (And.intro hU2 (And.intro hloc2 (And.intro hM3 hU3))))
      clear hown2 hU2 hloc2 hs2 hM2 hM3 hU3 hs3))
  all_goals
    clear hcell hrun1 hrun2 hc2 hc3 hrun4
    go_wp2
    go_ret
    refine ⟨rfl, ?_⟩
    obtain ⟨x1, x2, x3, x4, x5⟩ := HX.out
    obtain ⟨g1, g2, g4, g5, g7⟩ := H7.out
    obtain ⟨F', hF'⟩ := left_push g1 g2 g3 g4 g5 g7 hk HB.out hp' HO.out (by simpa [strs] using x1) (((Upd.refl _ w1).alloc _).drew.then x2 (fun _ h => .inl h))
      (fun q hq => by
        rcases x3 with h | h
        · exact .inl (by rw [← h]; exact hq)
        · rw [h] at hq
          have := Option.some.inj hq
          simp at this
          exact .inr (by omega)) x4 x5
    exact ⟨F', HL.out.trans hF'⟩

theorem write_c {w : World} {p : Nat} {d : Dk} {F : List Nat} (hD : DiskAt w p d F) (i : Int) (b : ByteArray) (hp : d.pend + 1 < 1000000) :
    Calls Try.prog 33 #[.pointer (some ⟨p, 0, none⟩), .int .i64 i, .string b] w fun e w' => e = .returned (.int .i64 (d.write i b).2) ∧ ∃ F', Left w w' p (d.write i b).1 F F' := by
  cases hoff : d.off with
  | true =>
    refine (write_off hD i b hoff).mono ?_
    rintro e w' ⟨rfl, rfl⟩
    exact ⟨by simp [Dk.write, hoff], F, (Left.refl hD).eq (by simp [Dk.write, hoff])⟩
  | false =>
    cases h : (d.there i && decide (b.size = 64)) with
    | false =>
      refine (write_arg hD i b hoff h).mono ?_
      rintro e w' ⟨rfl, rfl⟩
      exact ⟨by rw [Dk.write, hoff, h]; rfl, F, (Left.refl hD).eq (by rw [Dk.write, hoff, h]; rfl)⟩
    | true =>
      have h' := h
      simp only [Bool.and_eq_true, decide_eq_true_eq] at h'
      cases hn : d.burn.2 with
      | false =>
        refine (write_no hD i b hoff h'.1 h'.2 hn).mono ?_
        rintro e w' ⟨rfl, hL⟩
        exact ⟨by rw [Dk.write, hoff, h, hn]; rfl, F, hL.eq (by rw [Dk.write, hoff, h, hn]; rfl)⟩
      | true =>
        have hi : 0 ≤ i := by have := h'.1; simp [Dk.there] at this; exact this.1
        obtain ⟨k, rfl⟩ := Int.eq_ofNat_of_zero_le hi
        refine (write_yes hD k b hoff h'.1 h'.2 hn hp).mono ?_
        rintro e w' ⟨rfl, F', hL⟩
        exact ⟨by rw [Dk.write, hoff, h, hn]; rfl, F', hL.eq (by rw [Dk.write, hoff, h, hn]; rfl)⟩
end Go.Proofs.Ytnmbhoidnbideaa
