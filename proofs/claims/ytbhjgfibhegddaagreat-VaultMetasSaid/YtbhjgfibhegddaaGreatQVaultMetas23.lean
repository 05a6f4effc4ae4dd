/-
  Parts of the proof of VaultMetas: InB, RefR, VatNil, WVaultMetas, Facts.
-/
import Derived.Test.YtbhjgfibhegddaaGreatQVaultMetas22
import Derived.ProofKit
import Derived.Test.YtbhjgfibhegddaaGreatRows
set_option maxRecDepth 100000
set_option maxHeartbeats 16000000
namespace Go.Proofs.YtbhjgfibhegddaaGreat
section
open Go Go.RowKit Go.ChangeShapes Go.WideShapes Go.ChangeAt Go.Deep
theorem len_str (s : ByteArray) : s.data.toList.length = s.size := by simp
section
variable {H : Type} {enc : TypeId × Value → H} {w : World} {base : Nat} {spare : Nat → Bool} {held : Bool}
theorem cell_block {b i : Nat} {u : Value} (h : w.cell? ⟨b, i, none⟩ = some u) : ∃ cur t fr, w.heap[b]? = some (.cells cur t fr) ∧ cur[i]? = some u := by
 unfold World.cell? at h;simp only at h
 split at h
 ·rename_i cs t fr hb
  exact ⟨cs, t, fr, hb, by simpa using h⟩
 ·simp at h
theorem rin_of {P : Program} {t e : TypeId} {k : Nat} {fuel : Nat} {v : Value} {x : DataW H × List MemPlace} (R : List Value → Prop) (ht : P.underlying t = some (.slice e)) (hk : P.cellsOf e = k) (hk0 : 0 < k)
 (hR : ∀ n cs y, DataW.trod enc P w base spare held n e cs = some y → R cs) (h : DataW.trod enc P w base spare held fuel t [v] = some x) : ∃ cs, RIn w k v cs ∧ ∀ c ∈ cs, R c := by
 rcases open_slice ht h with ⟨hcs, _⟩ | ⟨a, len, cap, m, n, D, Pl, hcs, _, hl, hm, hmm, _, hi⟩
 ·simp only [List.cons.injEq, and_true] at hcs
  subst hcs;exact ⟨[], ⟨none, 0, rfl, by simp, by simp, fun h => by simp at h⟩, by simp⟩
 ·simp only [List.cons.injEq, and_true] at hcs
  subst hcs;have hlm : len ≤ m := by rw [hmm]; split <;> omega
  have each : ∀ i, i < len → ∃ c : List Value, c.length = k ∧ R c ∧ ∀ j, j < k → w.cell? (a.add (i * k + j)) = c[j]? := by
   intro i hil;obtain ⟨cs', hc, hy⟩ := hi i (by omega);rw [hk] at hc;obtain ⟨_, hcl, hat⟩ := World.cells?_some hc;refine ⟨cs', hcl, hR _ _ _ hy, fun j hj => ?_⟩;rw [← Go.Deep.add_add];exact hat j hj
  obtain ⟨cs, h1, h2⟩ := pick_list (fun i (c : List Value) => c.length = k ∧ R c ∧ ∀ j, j < k → w.cell? (a.add (i * k + j)) = c[j]?) len each;refine ⟨cs, ⟨some a, cap, by rw [h1], by omega, by have : maxLen = 9223372036854775807 := rfl; omega, fun h0 => ?_⟩, fun c hc => ?_⟩
  ·obtain ⟨b, off, sp⟩ := a
   obtain ⟨l0, -, c0⟩ := h2 0 h0;have hc00 := c0 0 hk0;rw [List.getElem?_eq_getElem (by omega)] at hc00;have hsp : sp = none := by simpa [Addr.add] using World.cell?_spot hc00
   subst hsp;rw [add_plain2] at hc00;obtain ⟨cur, t', fr, hb, -⟩ := cell_block hc00;refine ⟨b, off, cur, t', fr, rfl, hb, fun i c hc j u hj => ?_⟩;have hil := (List.getElem?_eq_some_iff.1 hc).1;have hie := (List.getElem?_eq_some_iff.1 hc).2;obtain ⟨li, -, ci⟩ := h2 i hil;rw [hie] at li ci;have hjl := (List.getElem?_eq_some_iff.1 hj).1;have := ci j (by omega);rw [add_plain2, cell_of_row w b _ cur t' fr hb, hj] at this;rw [Nat.add_assoc];exact this
  ·obtain ⟨i, hi, rfl⟩ := List.mem_iff_getElem.1 hc
   exact (h2 i hi).2.1
theorem i64r_of {n : Int} (h : (Lit.int .i64 n).wf = true) : i64r n := i64ok_of h
theorem u8_is {n : Int} (h : (Lit.int .u8 n).wf = true) : ∃ k : UInt8, n = (k.toNat : Int) := by
 simp only [Lit.wf, Bool.and_eq_true, decide_eq_true_eq] at h;have h1 : IntKind.u8.min = 0 := rfl;have h2 : IntKind.u8.max = 255 := rfl;refine ⟨UInt8.ofNat n.toNat, ?_⟩;rw [UInt8.toNat_ofNat'];omega
theorem fields_of {P : Program} {t : TypeId} {fs : Array Field} {fuel : Nat} {cs : List Value} {x : DataW H × List MemPlace} (ht : P.underlying t = some (.struct fs)) (hone : oneCellFields P fs = true) (hC : P.cellsOf t = fs.size) (h : DataW.trod enc P w base spare held fuel t cs = some x) :
 cs.length = fs.size ∧ ∃ n, ∀ (j : Nat) (f : Field), fs[j]? = some f → ∃ u y, cs[j]? = some u ∧ DataW.trod enc P w base spare held n f.type [u] = some y := by
 obtain ⟨xs, n, _, _, hl, hlen, hf⟩ := DataW.trod_struct ht h;refine ⟨by rw [hl, hC], n, fun j f hj => ?_⟩;have hjl : j < fs.size := (Array.getElem?_eq_some_iff.1 hj).1;obtain ⟨ho, hk⟩ := hone_of hone j f hj;have h1 := hf j f hj;rw [ho, hk, List.drop_eq_getElem_cons (by omega)] at h1;rw [List.getElem?_eq_getElem (show j < xs.length by omega)] at h1;exact ⟨cs[j]'(by omega), _, List.getElem?_eq_getElem (by omega), h1⟩
theorem op_of {fuel : Nat} {cs : List Value} {x : DataW H × List MemPlace} (h : DataW.trod enc Tryz.prog w base spare held fuel 32 cs = some x) : ∃ o : OpM, cs = opRow o ∧ o.path.length ≤ 9223372036854775807 ∧ o.value.length ≤ 9223372036854775807 := by
 obtain ⟨hl, n, hf⟩ := fields_of Tryz.underlying32 (by kernel_rfl) (by kernel_rfl) h;obtain ⟨u0, y0, c0, t0⟩ := hf 0 _ rfl;obtain ⟨u1, y1, c1, t1⟩ := hf 1 _ rfl;obtain ⟨u2, y2, c2, t2⟩ := hf 2 _ rfl;obtain ⟨n0, q0, _, w0⟩ := DataW.trod_int Tryz.underlying5 t0;obtain ⟨s1, q1, _, w1⟩ := DataW.trod_string Tryz.underlying9 t1;obtain ⟨s2, q2, _, w2⟩ := DataW.trod_string Tryz.underlying9 t2;simp only [List.cons.injEq, and_true] at q0 q1 q2;subst q0 q1 q2;obtain ⟨k, rfl⟩ := u8_is w0;match cs, hl with
 | [a, b, c], _ =>
   simp only [List.getElem?_cons_zero, List.getElem?_cons_succ, Option.some.injEq] at c0 c1 c2;subst c0 c1 c2;refine ⟨⟨k, s1.data.toList, s2.data.toList⟩, ?_, by rw [len_str]; exact w1, by rw [len_str]; exact w2⟩;unfold opRow;rw [str_of, str_of]
theorem pair_of {fuel : Nat} {cs : List Value} {x : DataW H × List MemPlace} (h : DataW.trod enc Tryz.prog w base spare held fuel 55 cs = some x) : ∃ p : PairM, cs = pairRow p ∧ p.1.length ≤ 9223372036854775807 ∧ p.2.length ≤ 9223372036854775807 := by
 obtain ⟨hl, n, hf⟩ := fields_of Tryz.underlying55 (by kernel_rfl) (by kernel_rfl) h;obtain ⟨u1, y1, c1, t1⟩ := hf 0 _ rfl;obtain ⟨u2, y2, c2, t2⟩ := hf 1 _ rfl;obtain ⟨s1, q1, _, w1⟩ := DataW.trod_string Tryz.underlying9 t1;obtain ⟨s2, q2, _, w2⟩ := DataW.trod_string Tryz.underlying9 t2;simp only [List.cons.injEq, and_true] at q1 q2;subst q1 q2;match cs, hl with
 | [b, c], _ =>
   simp only [List.getElem?_cons_zero, List.getElem?_cons_succ, Option.some.injEq] at c1 c2;subst c1 c2;refine ⟨(s1.data.toList, s2.data.toList), ?_, by rw [len_str]; exact w1, by rw [len_str]; exact w2⟩;unfold pairRow;rw [str_of, str_of]
theorem mount_of {fuel : Nat} {cs : List Value} {x : DataW H × List MemPlace} (h : DataW.trod enc Tryz.prog w base spare held fuel 46 cs = some x) : ∃ m : MtM, cs = mtRow m ∧ m.name.length ≤ 9223372036854775807 := by
 obtain ⟨hl, n, hf⟩ := fields_of Tryz.underlying46 (by kernel_rfl) (by kernel_rfl) h;obtain ⟨u1, y1, c1, t1⟩ := hf 0 _ rfl;obtain ⟨u2, y2, c2, t2⟩ := hf 1 _ rfl;obtain ⟨s1, q1, _, w1⟩ := DataW.trod_string Tryz.underlying9 t1;obtain ⟨b2, q2, _⟩ := DataW.trod_bool Tryz.underlying4 t2;simp only [List.cons.injEq, and_true] at q1 q2;subst q1 q2;match cs, hl with
 | [b, c], _ =>
   simp only [List.getElem?_cons_zero, List.getElem?_cons_succ, Option.some.injEq] at c1 c2;subst c1 c2;refine ⟨⟨s1.data.toList, b2⟩, ?_, by rw [len_str]; exact w1⟩;unfold mtRow;rw [str_of]
theorem pick_rows {β : Type} {row : β → List Value} {Q : β → Prop} {cs : List (List Value)} (h : ∀ c ∈ cs, ∃ b, c = row b ∧ Q b) : ∃ l : List β, cs = l.map row ∧ ∀ b ∈ l, Q b := by
 induction cs with
 | nil => exact ⟨[], rfl, by simp⟩
 | cons c r ih =>
   obtain ⟨b, hb, hq⟩ := h c (by simp);obtain ⟨l, hl, hql⟩ := ih fun c hc => h c (by simp [hc])
   refine ⟨b :: l, by rw [hb, hl]; rfl, fun x hx => ?_⟩
   rcases List.mem_cons.1 hx with rfl | hx
   ·exact hq
   ·exact hql x hx
theorem ops_of {fuel : Nat} {v : Value} {x : DataW H × List MemPlace} (h : DataW.trod enc Tryz.prog w base spare held fuel 33 [v] = some x) : ∃ l, OpsIn w v l := by
 obtain ⟨cs, h1, h2⟩ := rin_of (k := 3) (fun c => ∃ o : OpM, c = opRow o ∧ o.path.length ≤ 9223372036854775807 ∧ o.value.length ≤ 9223372036854775807) Tryz.underlying33 (by kernel_rfl) (by omega) (fun n cs y hy => op_of hy) h;obtain ⟨l, rfl, hq⟩ := pick_rows h2;exact ⟨l, h1, hq⟩
theorem prs_of {fuel : Nat} {v : Value} {x : DataW H × List MemPlace} (h : DataW.trod enc Tryz.prog w base spare held fuel 56 [v] = some x) : ∃ l, PrsIn w v l := by
 obtain ⟨cs, h1, h2⟩ := rin_of (k := 2) (fun c => ∃ o : PairM, c = pairRow o ∧ o.1.length ≤ 9223372036854775807 ∧ o.2.length ≤ 9223372036854775807) Tryz.underlying56 (by kernel_rfl) (by omega) (fun n cs y hy => pair_of hy) h;obtain ⟨l, rfl, hq⟩ := pick_rows h2;exact ⟨l, h1, hq⟩
theorem mts_of {fuel : Nat} {v : Value} {x : DataW H × List MemPlace} (h : DataW.trod enc Tryz.prog w base spare held fuel 47 [v] = some x) : ∃ l : List MtM, RIn w 2 v (l.map mtRow) ∧ ∀ m ∈ l, m.name.length ≤ 9223372036854775807 := by
 obtain ⟨cs, h1, h2⟩ := rin_of (k := 2) (fun c => ∃ o : MtM, c = mtRow o ∧ o.name.length ≤ 9223372036854775807) Tryz.underlying47 (by kernel_rfl) (by omega) (fun n cs y hy => mount_of hy) h;obtain ⟨l, rfl, hq⟩ := pick_rows h2;exact ⟨l, h1, hq⟩
theorem meta_cells {fuel : Nat} {cs : List Value} {x : DataW H × List MemPlace} (h : DataW.trod enc Tryz.prog w base spare held fuel 50 cs = some x) : ∃ m mv, cs = (metaRow m mv).toList ∧ MetaIn w mv m := by
 obtain ⟨hl, n, hf⟩ := fields_of Tryz.underlying50 (by kernel_rfl) (by kernel_rfl) h;obtain ⟨u0, y0, c0, t0⟩ := hf 0 _ rfl;obtain ⟨u1, y1, c1, t1⟩ := hf 1 _ rfl;obtain ⟨u2, y2, c2, t2⟩ := hf 2 _ rfl;obtain ⟨u3, y3, c3, t3⟩ := hf 3 _ rfl;obtain ⟨u4, y4, c4, t4⟩ := hf 4 _ rfl;obtain ⟨n0, q0, _, w0⟩ := DataW.trod_int Tryz.underlying3 t0;obtain ⟨n1, q1, _, w1⟩ := DataW.trod_int Tryz.underlying3 t1;obtain ⟨n2, q2, _, w2⟩ := DataW.trod_int Tryz.underlying3 t2;obtain ⟨l, w3, w3b⟩ := mts_of t3;obtain ⟨s4, q4, _, w4⟩ := DataW.trod_string Tryz.underlying9 t4;simp only [List.cons.injEq, and_true] at q0 q1 q2 q4;subst q0 q1 q2 q4;match cs, hl with
 | [a, b, c, d, e], _ =>
   simp only [List.getElem?_cons_zero, List.getElem?_cons_succ, Option.some.injEq] at c0 c1 c2 c3 c4;subst c0 c1 c2 c3 c4;refine ⟨⟨n0, n1, n2, l, s4.data.toList⟩, d, ?_, w3, w3b, by rw [len_str]; exact w4, i64r_of w0, i64r_of w1, i64r_of w2⟩;unfold metaRow;simp only
   rw [str_of]
theorem bat_cells {fuel : Nat} {cs : List Value} {x : DataW H × List MemPlace} (h : DataW.trod enc Tryz.prog w base spare held fuel 35 cs = some x) : ∃ (b : BatM) (ov : Value), cs = [.int .i64 b.index, .int .i64 b.epoch, ov] ∧ BatIn w ov b := by
 obtain ⟨hl, n, hf⟩ := fields_of Tryz.underlying35 (by kernel_rfl) (by kernel_rfl) h;obtain ⟨u0, y0, c0, t0⟩ := hf 0 _ rfl;obtain ⟨u1, y1, c1, t1⟩ := hf 1 _ rfl;obtain ⟨u2, y2, c2, t2⟩ := hf 2 _ rfl;obtain ⟨n0, q0, _, w0⟩ := DataW.trod_int Tryz.underlying3 t0;obtain ⟨n1, q1, _, w1⟩ := DataW.trod_int Tryz.underlying3 t1;obtain ⟨l, w2⟩ := ops_of t2;simp only [List.cons.injEq, and_true] at q0 q1;subst q0 q1;match cs, hl with
 | [a, b, c], _ =>
   simp only [List.getElem?_cons_zero, List.getElem?_cons_succ, Option.some.injEq] at c0 c1 c2;subst c0 c1 c2;exact ⟨⟨n0, n1, l⟩, c, rfl, w2, i64r_of w0, i64r_of w1⟩
structure IsMeta (w : World) (v : Value) (x : MetaM × Value) : Prop where
 is : v = .agg (metaRow x.1 x.2)
 ok : MetaIn w x.2 x.1
structure IsBat (w : World) (v : Value) (x : BatM × Value) : Prop where
 is : v = .agg #[.int .i64 x.1.index, .int .i64 x.1.epoch, x.2]
 ok : BatIn w x.2 x.1
theorem meta_of {r : Reach} {b0 : Nat} {v : Value} {d : DataW H} {p : List MemPlace} (hv : Value.okWide Tryz.prog w r b0 50 v) (h : DataW.Trod enc Tryz.prog w base spare held 50 v d p) : ∃ x, IsMeta w v x := by
 obtain ⟨cs, rfl, -⟩ := okWide_struct Tryz.underlying50 hv;obtain ⟨fuel, hf⟩ := h;obtain ⟨m, mv, h1, h2⟩ := meta_cells (cs := cs.toList) hf;exact ⟨(m, mv), by rw [Array.toList_inj.1 h1], h2⟩
theorem bat_of {r : Reach} {b0 : Nat} {v : Value} {d : DataW H} {p : List MemPlace} (hv : Value.okWide Tryz.prog w r b0 35 v) (h : DataW.Trod enc Tryz.prog w base spare held 35 v d p) : ∃ x, IsBat w v x := by
 obtain ⟨cs, rfl, -⟩ := okWide_struct Tryz.underlying35 hv;obtain ⟨fuel, hf⟩ := h;obtain ⟨b, ov, h1, h2⟩ := bat_cells (cs := cs.toList) hf;refine ⟨(b, ov), ?_, h2⟩;have : cs = #[.int .i64 b.index, .int .i64 b.epoch, ov] := Array.toList_inj.1 h1;rw [this]
end
end
section
open Go Go.RowKit
theorem right17_r {w : World} {mv : Value} (m : MetaM) {ty : TypeId} (hmv : TRow w ty 2 mv (m.mounts.map mtRow)) (hs : ∀ x ∈ m.mounts, x.name.length ≤ 1000000) :
 Calls Tryz.prog 42 #[.agg (metaRow m mv)] w fun e w' => e = .returned (.bool (rightM m)) ∧ Upd (fun _ => False) w w' := by
 obtain ⟨A, cap, b, off, rfl, hcap, hl, hA, hat⟩ := hmv.mts;obtain ⟨B, hB⟩ : ∃ B, rightM m = B := ⟨_, rfl⟩;obtain ⟨O, hO⟩ : ∃ O, okMounts m.mounts = O := ⟨_, rfl⟩;obtain ⟨S, hS⟩ : ∃ S, str m.secret = S := ⟨_, rfl⟩;obtain ⟨n, hn⟩ : ∃ n, m.mounts.length = n := ⟨_, rfl⟩;have hSs : S.size = m.secret.length := by rw [← hS, str_size]
 rw [hB];have hri := fun W (hW : Upd (fun _ => False) w W) => right_r (cap := cap) hA (hat W (fun _ => False) hW (fun _ _ e => e)) hl hs
 rw [hO, hn] at hri;have hBd : B = ((decide (n = 0) || O) && decide (0 ≤ m.role ∧ m.role ≤ 3 ∧ 0 ≤ m.seen ∧ 0 ≤ m.grant ∧ S.size ≤ 64)) := by
  rw [← hB, ← hO, hSs, ← hn];unfold rightM;congr 2
  rw [decide_eq_decide];exact List.length_eq_zero_iff.symm
 obtain ⟨c, hc⟩ : ∃ c, w.heap.size = c := ⟨_, rfl⟩;obtain ⟨C, hC⟩ : ∃ C, metaRow m (.slice A m.mounts.length cap) = C := ⟨_, rfl⟩;rw [hC];have HRI := Lib.hid hri;have HB := Lib.hid hBd;have HCC := Lib.hid (And.intro hc (And.intro hC (And.intro hn hS)));clear hri hBd hB hO hat hA hmv hs hSs hc hC hn hS;go_enter Tryz.func42, Tryz.ntmps42
 go_upto_region 1 with fail
 rw [HCC.out.1];generalize hw1 : World.alloc _ _ = w1;have hB1 : Blk w1 c 79 (metaRow m (.slice A m.mounts.length cap)) := by rw [HCC.out.2.1, ← hw1, ← HCC.out.1]; exact Blk.new w _ _
 have hU1 : Upd (fun _ => False) w w1 := by rw [← hw1]; exact (Upd.refl _ w).alloc _
 unfold metaRow at hB1;rw [HCC.out.2.2.1, HCC.out.2.2.2] at hB1;have H1 := Lib.hid (And.intro hU1 hB1);have HRW := Lib.hid (HRI.out w1 hU1);have c3 : w1.cell? ⟨c, 3, none⟩ = some (.slice A n cap) := hB1.cell 3;clear hw1 hU1 hB1;by_cases h0 : n = 0
 ·subst h0
  have hBd : B = decide (0 ≤ m.role ∧ m.role ≤ 3 ∧ 0 ≤ m.seen ∧ 0 ≤ m.grant ∧ S.size ≤ 64) := by rw [HB.out]; simp
  have HB2 := Lib.hid hBd;have c0 : w1.cell? ⟨c, 0, none⟩ = some (.int .i64 m.role) := H1.out.2.cell 0;have c1 : w1.cell? ⟨c, 1, none⟩ = some (.int .i64 m.seen) := H1.out.2.cell 1;have c2 : w1.cell? ⟨c, 2, none⟩ = some (.int .i64 m.grant) := H1.out.2.cell 2;have c4 : w1.cell? ⟨c, 4, none⟩ = some (.string S) := H1.out.2.cell 4;clear hBd;by_cases r0 : (0 : Int) ≤ m.role <;> by_cases r3 : m.role ≤ 3 <;> by_cases rs : (0 : Int) ≤ m.seen <;> by_cases rg : (0 : Int) ≤ m.grant <;> by_cases rc : (S.size : Int) ≤ 64 <;>
   first | (exfalso; omega) | (go_wp2_with fail; go_ret; exact ⟨by rw [HB2.out]; congr 3; simp; omega, H1.out.1⟩)
 ·have hn0 : (0 : Int) < (n : Int) := by omega
  cases O
  ·have hBf : B = false := by rw [HB.out]; simp [h0]
   subst hBf;go_wp2_with (first
    | (go_at_call 85; refine HRW.out.mono ?_; rintro e w2 ⟨rfl, hU2⟩; have HU2 := Lib.hid hU2; clear hU2))
   go_ret
   exact ⟨rfl, H1.out.1.then HU2.out (fun _ e => e.elim)⟩
  ·have hBd : B = decide (0 ≤ m.role ∧ m.role ≤ 3 ∧ 0 ≤ m.seen ∧ 0 ≤ m.grant ∧ S.size ≤ 64) := by rw [HB.out]; simp
   have HB2 := Lib.hid hBd;clear hBd;go_upto_region 3 with (first
    | (go_at_call 85; refine HRW.out.mono ?_; rintro e w2 ⟨rfl, hU2⟩
       have hb2 := H1.out.2.upd hU2 (fun e => e);have c0 : w2.cell? ⟨c, 0, none⟩ = some (.int .i64 m.role) := hb2.cell 0;have c1 : w2.cell? ⟨c, 1, none⟩ = some (.int .i64 m.seen) := hb2.cell 1;have c2 : w2.cell? ⟨c, 2, none⟩ = some (.int .i64 m.grant) := hb2.cell 2;have c4 : w2.cell? ⟨c, 4, none⟩ = some (.string S) := hb2.cell 4;have HU2 := Lib.hid hU2;clear hU2 hb2))
   by_cases r0 : (0 : Int) ≤ m.role <;> by_cases r3 : m.role ≤ 3 <;> by_cases rs : (0 : Int) ≤ m.seen <;> by_cases rg : (0 : Int) ≤ m.grant <;> by_cases rc : (S.size : Int) ≤ 64 <;>
    first | (exfalso; omega) | (go_wp2_with fail; go_ret; exact ⟨by rw [HB2.out]; congr 3; simp; omega, H1.out.1.then HU2.out (fun _ e => e.elim)⟩)
theorem built_rm (a b c : Int) (A : Option Addr) (n cap : Nat) (S : ByteArray) : Tryz.prog.built 79 [(0, .int .i64 a), (1, .int .i64 b), (2, .int .i64 c), (3, .slice A n cap), (4, .string S)] = some #[.int .i64 a, .int .i64 b, .int .i64 c, .slice A n cap, .string S] := by kernel_rfl
theorem given_c {w : World} (m : MetaM) {ty : TypeId} {mv : Value} (hmv : TRow w ty 2 mv (m.mounts.map mtRow)) :
 Calls Tryz.prog 43 #[.agg (metaRow m mv)] w fun e w' => e = .returned (.agg (metaRow m mv)) ∧ Upd (fun _ => False) w w' := by
 obtain ⟨A, cap, b, off, rfl, -⟩ := hmv.open_;obtain ⟨c, hc⟩ : ∃ c, w.heap.size = c := ⟨_, rfl⟩;have Hc := Lib.hid hc;clear hc hmv;unfold metaRow;obtain ⟨S, hS⟩ : ∃ S, str m.secret = S := ⟨_, rfl⟩;obtain ⟨n, hn⟩ : ∃ n, (m.mounts.map mtRow).length = n := ⟨_, rfl⟩;rw [hS, hn];clear hS hn;have HB := Lib.hid (built_rm m.role m.seen m.grant A n cap S);go_enter Tryz.func43, Tryz.ntmps43
 go_upto_region 1 with fail
 rw [Hc.out];generalize hw2 : World.alloc (World.alloc _ _) _ = w2;have hB2 : Blk w2 c 50 #[.int .i64 m.role, .int .i64 m.seen, .int .i64 m.grant, .slice A n cap, .string S] := by rw [← hw2, ← Hc.out]; exact (Blk.new w _ _).alloc _
 have hZ2 : ∃ z, z.size = 5 ∧ Blk w2 (c + 1) 79 z := by
  rw [← hw2, ← Hc.out];have := Blk.new (w.alloc (.cells #[.int .i64 m.role, .int .i64 m.seen, .int .i64 m.grant, .slice A n cap, .string S] 50)) 79 #[.int .i64 0, .int .i64 0, .int .i64 0, .slice none 0 0, .string ByteArray.empty];rw [World.size_alloc] at this;exact ⟨_, rfl, this⟩
 have hU2 : Upd (fun _ => False) w w2 := by rw [← hw2]; exact ((Upd.refl _ w).alloc _).alloc _
 clear hw2;obtain ⟨z, hzs, hZ2⟩ := hZ2;have c0 : w2.cell? ⟨c, 0, none⟩ = some (.int .i64 m.role) := hB2.cell 0;have c1 : w2.cell? ⟨c, 1, none⟩ = some (.int .i64 m.seen) := hB2.cell 1;have c2 : w2.cell? ⟨c, 2, none⟩ = some (.int .i64 m.grant) := hB2.cell 2;have c3 : w2.cell? ⟨c, 3, none⟩ = some (.slice A n cap) := hB2.cell 3;have c4 : w2.cell? ⟨c, 4, none⟩ = some (.string S) := hB2.cell 4;have H2 := Lib.hid (And.intro hZ2 (And.intro hU2 hzs));clear hB2 hZ2 hU2 hzs;go_wp2_with (first
  | (refine wpList_build_is rfl _ _ rfl [(0, .int .i64 m.role), (1, .int .i64 m.seen), (2, .int .i64 m.grant), (3, .slice A n cap), (4, .string S)] _ (by first | rfl | kernel_rfl) HB.out ?_)
  | (refine wpList_store_all rfl 79 _ _ rfl (c + 1) #[.int .i64 m.role, .int .i64 m.seen, .int .i64 m.grant, .slice A n cap, .string S] rfl rfl _ _ H2.out.1 ?_ ?_ ?_ ?_))
 ·rw [H2.out.2.2]; rfl
 ·exact metaCells_one _ _ _ rfl rfl
 ·kernel_rfl
 intro w5 hB5 hU5 hs5;go_wp2_with fail
 refine bodyPost_ret (results_cell_row rfl _ _ (c + 1) _ _ _ _ rfl hB5 Tryz.underlying79 rfl (by kernel_rfl)) rfl ⟨rfl, H2.out.2.1.then hU5 (fun q e => .inr ?_)⟩;have e2 : q = c + 1 := e;have := Hc.out;omega
end
section
open Go Go.RowKit
theorem off_nil (w : World) : Calls Tryz.prog 53 #[.pointer none] w fun e w' => e = .returned (.int .i64 2) ∧ w = w' := by
 go_enter Tryz.func53, Tryz.ntmps53
 go_wp2_with fail
 go_ret
 exact ⟨rfl, rfl⟩
theorem commit_nil (w : World) (i ep : Int) (ov : Value) : Calls Tryz.prog 15 #[.pointer none, .agg #[.int .i64 i, .int .i64 ep, ov]] w fun e w' => e = .returned (.int .i64 2) ∧ Upd (fun _ => False) w w' := by
 go_enter Tryz.func15, Tryz.ntmps15
 go_upto_region 1 with fail
 generalize hw1 : World.alloc _ _ = w1;have hU1 : Upd (fun _ => False) w w1 := by rw [← hw1]; exact (Upd.refl _ w).alloc _
 have H := Lib.hid (And.intro hU1 (off_nil w1));clear hU1 hw1;go_wp2_with (first | (go_at_call 53; refine H.out.2.mono ?_; rintro e w2 ⟨rfl, rfl⟩));go_ret
 exact ⟨rfl, H.out.1⟩
theorem set_nil (w : World) (C : Array Value) : Calls Tryz.prog 24 #[.pointer none, .agg C] w fun e w' => e = .returned (.int .i64 2) ∧ Upd (fun _ => False) w w' := by
 go_enter Tryz.func24, Tryz.ntmps24
 go_upto_region 1 with fail
 generalize hw1 : World.alloc _ _ = w1;have hU1 : Upd (fun _ => False) w w1 := by rw [← hw1]; exact (Upd.refl _ w).alloc _
 have H := Lib.hid (And.intro hU1 (off_nil w1));clear hU1 hw1;go_wp2_with (first | (go_at_call 53; refine H.out.2.mono ?_; rintro e w2 ⟨rfl, rfl⟩));go_ret
 exact ⟨rfl, H.out.1⟩
theorem install_nil (w : World) (C : Array Value) (lv : Value) (a ep : Int) : Calls Tryz.prog 21 #[.pointer none, .agg C, lv, .int .i64 a, .int .i64 ep] w fun e w' => e = .returned (.int .i64 2) ∧ Upd (fun _ => False) w w' := by
 go_enter Tryz.func21, Tryz.ntmps21
 go_upto_region 1 with fail
 generalize hw1 : World.alloc _ _ = w1;have hU1 : Upd (fun _ => False) w w1 := by rw [← hw1]; exact (Upd.refl _ w).alloc _
 have H := Lib.hid (And.intro hU1 (off_nil w1));clear hU1 hw1;go_wp2_with (first | (go_at_call 53; refine H.out.2.mono ?_; rintro e w2 ⟨rfl, rfl⟩));go_ret
 exact ⟨rfl, H.out.1⟩
theorem rotate_nil (w : World) : Calls Tryz.prog 34 #[.pointer none] w fun e w' => e = .returned (.int .i64 2) ∧ Upd (fun _ => False) w w' := by
 have H := Lib.hid (off_nil w);go_enter Tryz.func34, Tryz.ntmps34
 go_wp2_with (first | (go_at_call 53; refine H.out.mono ?_; rintro e w2 ⟨rfl, rfl⟩));go_ret
 exact ⟨rfl, Upd.refl _ _⟩
theorem place_nil (w : World) : Calls Tryz.prog 12 #[.pointer none] w fun e w' => e = .returned (.tuple #[.int .i64 0, .int .i64 0]) ∧ Upd (fun _ => False) w w' := by
 go_enter Tryz.func12, Tryz.ntmps12
 go_wp2_with fail
 go_ret2
 exact ⟨rfl, Upd.refl _ _⟩
theorem batches_nil (w : World) : Calls Tryz.prog 17 #[.pointer none] w fun e w' => e = .returned (.tuple #[.slice none 0 0, .int .i64 0]) ∧ Upd (fun _ => False) w w' := by
 go_enter Tryz.func17, Tryz.ntmps17
 go_wp2_with fail
 go_ret2
 exact ⟨rfl, Upd.refl _ _⟩
theorem map_nil (w : World) : Calls Tryz.prog 18 #[.pointer none] w fun e w' => e = .returned (.pointer none) ∧ Upd (fun _ => False) w w' := by
 go_enter Tryz.func18, Tryz.ntmps18
 go_wp2_with fail
 go_ret
 exact ⟨rfl, Upd.refl _ _⟩
theorem key_nil (w : World) : Calls Tryz.prog 14 #[.pointer none] w fun e w' => e = .returned (.int .i64 0) ∧ Upd (fun _ => False) w w' := by
 go_enter Tryz.func14, Tryz.ntmps14
 go_wp2_with fail
 go_ret
 exact ⟨rfl, Upd.refl _ _⟩
theorem boot_nil (w : World) : Calls Tryz.prog 13 #[.pointer none] w fun e w' => e = .returned (.int .i64 0) ∧ Upd (fun _ => False) w w' := by
 go_enter Tryz.func13, Tryz.ntmps13
 go_wp2_with fail
 go_ret
 exact ⟨rfl, Upd.refl _ _⟩
theorem meta_nil (w : World) : Calls Tryz.prog 22 #[.pointer none] w fun e w' => e = .returned (.agg #[.int .i64 0, .int .i64 0, .int .i64 0, .slice none 0 0, .string ⟨#[]⟩]) ∧ Upd (fun _ => False) w w' := by
 go_enter Tryz.func22, Tryz.ntmps22
 go_wp2_with fail
 exact bodyPost_ret (results_cell_row rfl _ _ w.heap.size _ _ _ _ rfl (Blk.new w 50 #[.int .i64 0, .int .i64 0, .int .i64 0, .slice none 0 0, .string ⟨#[]⟩]) Tryz.underlying50 rfl (by kernel_rfl)) rfl ⟨rfl, (Upd.refl _ w).alloc _⟩
end
section
open Go Go.RowKit
theorem walk_VaultMetas' {m : MetaM} {mv : Value} {b : BatM} {ov : Value} {l : List PairM} {lv : Value} (w : World) (hm : MetaIn w mv m) (hb : BatIn w ov b) (hl : PrsIn w lv l) :
 Calls Tryz.prog 7 #[.agg (metaRow m mv), .agg #[.int .i64 b.index, .int .i64 b.epoch, ov], lv] w fun e w' => e = .returned (.bool true) ∧ Upd (fun _ => False) w w' := by
 obtain ⟨c, hc⟩ : ∃ c, w.heap.size = c := ⟨_, rfl⟩;have H := Lib.hid (And.intro hm (And.intro hb (And.intro hl hc)));clear hm hb hl hc;go_enter Tryz.func7, Tryz.ntmps7
 go_upto_region 1 with fail
 rw [H.out.2.2.2];generalize hw1 : World.alloc (World.alloc _ _) _ = w1;have HW : Hid (Blk w1 c 50 (metaRow m mv) ∧ Blk w1 (c + 1) 35 #[.int .i64 b.index, .int .i64 b.epoch, ov] ∧ Upd (fun _ => False) w w1) := by
  rw [← hw1, ← H.out.2.2.2];have h2 := Blk.new (w.alloc (.cells (metaRow m mv) 50)) 35 #[.int .i64 b.index, .int .i64 b.epoch, ov];rw [World.size_alloc] at h2;exact Lib.hid ⟨(Blk.new w _ _).alloc _, h2, ((Upd.refl _ w).alloc _).alloc _⟩
 clear hw1;have HG1 := Lib.hid (fun W (hU : Upd (fun _ => False) w W) => greatmeta_c (H.out.1.still hU));have HG2 := Lib.hid (fun W (hU : Upd (fun _ => False) w W) => greatops_c (H.out.2.1.ops.still hU));have HG3 := Lib.hid (fun W (hU : Upd (fun _ => False) w W) => greatprs_c (H.out.2.2.1.still hU));go_wp2_with (first
  | (refine wpList_load_all rfl _ _ rfl c rfl _ _ _ HW.out.1 Tryz.underlying50 rfl (by kernel_rfl) ?_)
)
 refine (HG1.out _ HW.out.2.2).mono ?_;rintro e w2 ⟨b1, rfl, hU, hq1⟩;have HW := Lib.hid (And.intro (HW.out.1.upd hU (fun e => e)) (And.intro (HW.out.2.1.upd hU (fun e => e)) (HW.out.2.2.then hU (fun _ e => e.elim))));have c2 : w2.cell? ⟨c + 1, 2, none⟩ = some ov := HW.out.2.1.cell 2;clear hU;cases b1
 rotate_left 1
 ·clear hq1
  go_wp2_with (first
   | (go_at_call 26; refine (wakes_17 _).mono ?_; rintro e w9 ⟨rfl, hU⟩; have HE := Lib.hid (HW.out.2.2.then hU (fun _ e => e.elim)); clear hU))
  go_ret
  exact ⟨rfl, HE.out⟩
 have HF := Lib.hid (hq1 rfl);clear hq1;go_wp2_with fail
 refine (HG2.out _ HW.out.2.2).mono ?_;rintro e w3 ⟨b2, rfl, hU, hq2⟩;have HW := Lib.hid (And.intro (HW.out.1.upd hU (fun e => e)) (And.intro (HW.out.2.1.upd hU (fun e => e)) (HW.out.2.2.then hU (fun _ e => e.elim))));clear hU c2 hq2;cases b2
 rotate_left 1
 ·go_wp2_with (first
   | (go_at_call 26; refine (wakes_17 _).mono ?_; rintro e w9 ⟨rfl, hU⟩; have HE := Lib.hid (HW.out.2.2.then hU (fun _ e => e.elim)); clear hU))
  go_ret
  exact ⟨rfl, HE.out⟩
 go_wp2_with fail
 refine (HG3.out _ HW.out.2.2).mono ?_;rintro e w4 ⟨b3, rfl, hU, hq3⟩;have HW := Lib.hid (And.intro (HW.out.1.upd hU (fun e => e)) (And.intro (HW.out.2.1.upd hU (fun e => e)) (HW.out.2.2.then hU (fun _ e => e.elim))));clear hU hq3;cases b3
 rotate_left 1
 ·go_wp2_with (first
   | (go_at_call 26; refine (wakes_17 _).mono ?_; rintro e w9 ⟨rfl, hU⟩; have HE := Lib.hid (HW.out.2.2.then hU (fun _ e => e.elim)); clear hU))
  go_ret
  exact ⟨rfl, HE.out⟩
 have hfld : ∀ W : World, Sem.run Tryz.prog (Instr.field 50 (.agg #[.int .i64 0, .int .i64 0, .int .i64 0, .slice none 0 0, .string ⟨#[]⟩]) 0) W = .ok (.int .i64 0) W := fun W => by kernel_rfl
 go_upto_region 7 with (first
  | (refine wpList_load_all rfl _ _ rfl c rfl _ _ _ HW.out.1 Tryz.underlying50 rfl (by kernel_rfl) ?_)
  | (refine wpList_load_all rfl _ _ rfl (c + 1) rfl _ _ _ HW.out.2.1 Tryz.underlying35 rfl (by kernel_rfl) ?_)
  | (go_at_call 12; refine (place_nil _).mono ?_; rintro e w5 ⟨rfl, hU⟩
     have HW := Lib.hid (And.intro (HW.out.1.upd hU (fun e => e)) (And.intro (HW.out.2.1.upd hU (fun e => e)) (HW.out.2.2.then hU (fun _ e => e.elim))));have m0 : w5.cell? ⟨c, 0, none⟩ = some (.int .i64 m.role) := HW.out.1.cell 0;have m1 : w5.cell? ⟨c, 1, none⟩ = some (.int .i64 m.seen) := HW.out.1.cell 1;have m2 : w5.cell? ⟨c, 2, none⟩ = some (.int .i64 m.grant) := HW.out.1.cell 2;have m3 : w5.cell? ⟨c, 3, none⟩ = some mv := HW.out.1.cell 3;have m4 : w5.cell? ⟨c, 4, none⟩ = some (.string (str m.secret)) := HW.out.1.cell 4;clear hU)
  | (go_at_call 17; refine (batches_nil _).mono ?_; rintro e w5 ⟨rfl, hU⟩
     have HW := Lib.hid (And.intro (HW.out.1.upd hU (fun e => e)) (And.intro (HW.out.2.1.upd hU (fun e => e)) (HW.out.2.2.then hU (fun _ e => e.elim))));have m0 : w5.cell? ⟨c, 0, none⟩ = some (.int .i64 m.role) := HW.out.1.cell 0;have m1 : w5.cell? ⟨c, 1, none⟩ = some (.int .i64 m.seen) := HW.out.1.cell 1;have m2 : w5.cell? ⟨c, 2, none⟩ = some (.int .i64 m.grant) := HW.out.1.cell 2;have m3 : w5.cell? ⟨c, 3, none⟩ = some mv := HW.out.1.cell 3;have m4 : w5.cell? ⟨c, 4, none⟩ = some (.string (str m.secret)) := HW.out.1.cell 4;clear hU)
  | (go_at_call 15; refine (commit_nil _ _ _ _).mono ?_; rintro e w5 ⟨rfl, hU⟩
     have HW := Lib.hid (And.intro (HW.out.1.upd hU (fun e => e)) (And.intro (HW.out.2.1.upd hU (fun e => e)) (HW.out.2.2.then hU (fun _ e => e.elim))));have m0 : w5.cell? ⟨c, 0, none⟩ = some (.int .i64 m.role) := HW.out.1.cell 0;have m1 : w5.cell? ⟨c, 1, none⟩ = some (.int .i64 m.seen) := HW.out.1.cell 1;have m2 : w5.cell? ⟨c, 2, none⟩ = some (.int .i64 m.grant) := HW.out.1.cell 2;have m3 : w5.cell? ⟨c, 3, none⟩ = some mv := HW.out.1.cell 3;have m4 : w5.cell? ⟨c, 4, none⟩ = some (.string (str m.secret)) := HW.out.1.cell 4;clear hU)
  | (go_at_call 24; refine (set_nil _ _).mono ?_; rintro e w5 ⟨rfl, hU⟩
     have HW := Lib.hid (And.intro (HW.out.1.upd hU (fun e => e)) (And.intro (HW.out.2.1.upd hU (fun e => e)) (HW.out.2.2.then hU (fun _ e => e.elim))));have m0 : w5.cell? ⟨c, 0, none⟩ = some (.int .i64 m.role) := HW.out.1.cell 0;have m1 : w5.cell? ⟨c, 1, none⟩ = some (.int .i64 m.seen) := HW.out.1.cell 1;have m2 : w5.cell? ⟨c, 2, none⟩ = some (.int .i64 m.grant) := HW.out.1.cell 2;have m3 : w5.cell? ⟨c, 3, none⟩ = some mv := HW.out.1.cell 3;have m4 : w5.cell? ⟨c, 4, none⟩ = some (.string (str m.secret)) := HW.out.1.cell 4;clear hU)
  | (go_at_call 21; refine (install_nil _ _ _ _ _).mono ?_; rintro e w5 ⟨rfl, hU⟩
     have HW := Lib.hid (And.intro (HW.out.1.upd hU (fun e => e)) (And.intro (HW.out.2.1.upd hU (fun e => e)) (HW.out.2.2.then hU (fun _ e => e.elim))));have m0 : w5.cell? ⟨c, 0, none⟩ = some (.int .i64 m.role) := HW.out.1.cell 0;have m1 : w5.cell? ⟨c, 1, none⟩ = some (.int .i64 m.seen) := HW.out.1.cell 1;have m2 : w5.cell? ⟨c, 2, none⟩ = some (.int .i64 m.grant) := HW.out.1.cell 2;have m3 : w5.cell? ⟨c, 3, none⟩ = some mv := HW.out.1.cell 3;have m4 : w5.cell? ⟨c, 4, none⟩ = some (.string (str m.secret)) := HW.out.1.cell 4;clear hU)
  | (go_at_call 34; refine (rotate_nil _).mono ?_; rintro e w5 ⟨rfl, hU⟩
     have HW := Lib.hid (And.intro (HW.out.1.upd hU (fun e => e)) (And.intro (HW.out.2.1.upd hU (fun e => e)) (HW.out.2.2.then hU (fun _ e => e.elim))));have m0 : w5.cell? ⟨c, 0, none⟩ = some (.int .i64 m.role) := HW.out.1.cell 0;have m1 : w5.cell? ⟨c, 1, none⟩ = some (.int .i64 m.seen) := HW.out.1.cell 1;have m2 : w5.cell? ⟨c, 2, none⟩ = some (.int .i64 m.grant) := HW.out.1.cell 2;have m3 : w5.cell? ⟨c, 3, none⟩ = some mv := HW.out.1.cell 3;have m4 : w5.cell? ⟨c, 4, none⟩ = some (.string (str m.secret)) := HW.out.1.cell 4;clear hU)
  | (go_at_call 18; refine (map_nil _).mono ?_; rintro e w5 ⟨rfl, hU⟩
     have HW := Lib.hid (And.intro (HW.out.1.upd hU (fun e => e)) (And.intro (HW.out.2.1.upd hU (fun e => e)) (HW.out.2.2.then hU (fun _ e => e.elim))));have m0 : w5.cell? ⟨c, 0, none⟩ = some (.int .i64 m.role) := HW.out.1.cell 0;have m1 : w5.cell? ⟨c, 1, none⟩ = some (.int .i64 m.seen) := HW.out.1.cell 1;have m2 : w5.cell? ⟨c, 2, none⟩ = some (.int .i64 m.grant) := HW.out.1.cell 2;have m3 : w5.cell? ⟨c, 3, none⟩ = some mv := HW.out.1.cell 3;have m4 : w5.cell? ⟨c, 4, none⟩ = some (.string (str m.secret)) := HW.out.1.cell 4;clear hU)
  | (go_at_call 14; refine (key_nil _).mono ?_; rintro e w5 ⟨rfl, hU⟩
     have HW := Lib.hid (And.intro (HW.out.1.upd hU (fun e => e)) (And.intro (HW.out.2.1.upd hU (fun e => e)) (HW.out.2.2.then hU (fun _ e => e.elim))));have m0 : w5.cell? ⟨c, 0, none⟩ = some (.int .i64 m.role) := HW.out.1.cell 0;have m1 : w5.cell? ⟨c, 1, none⟩ = some (.int .i64 m.seen) := HW.out.1.cell 1;have m2 : w5.cell? ⟨c, 2, none⟩ = some (.int .i64 m.grant) := HW.out.1.cell 2;have m3 : w5.cell? ⟨c, 3, none⟩ = some mv := HW.out.1.cell 3;have m4 : w5.cell? ⟨c, 4, none⟩ = some (.string (str m.secret)) := HW.out.1.cell 4;clear hU)
  | (go_at_call 13; refine (boot_nil _).mono ?_; rintro e w5 ⟨rfl, hU⟩
     have HW := Lib.hid (And.intro (HW.out.1.upd hU (fun e => e)) (And.intro (HW.out.2.1.upd hU (fun e => e)) (HW.out.2.2.then hU (fun _ e => e.elim))));have m0 : w5.cell? ⟨c, 0, none⟩ = some (.int .i64 m.role) := HW.out.1.cell 0;have m1 : w5.cell? ⟨c, 1, none⟩ = some (.int .i64 m.seen) := HW.out.1.cell 1;have m2 : w5.cell? ⟨c, 2, none⟩ = some (.int .i64 m.grant) := HW.out.1.cell 2;have m3 : w5.cell? ⟨c, 3, none⟩ = some mv := HW.out.1.cell 3;have m4 : w5.cell? ⟨c, 4, none⟩ = some (.string (str m.secret)) := HW.out.1.cell 4;clear hU)
  | (go_at_call 22; refine (meta_nil _).mono ?_; rintro e w5 ⟨rfl, hU⟩
     have HW := Lib.hid (And.intro (HW.out.1.upd hU (fun e => e)) (And.intro (HW.out.2.1.upd hU (fun e => e)) (HW.out.2.2.then hU (fun _ e => e.elim))));have m0 : w5.cell? ⟨c, 0, none⟩ = some (.int .i64 m.role) := HW.out.1.cell 0;have m1 : w5.cell? ⟨c, 1, none⟩ = some (.int .i64 m.seen) := HW.out.1.cell 1;have m2 : w5.cell? ⟨c, 2, none⟩ = some (.int .i64 m.grant) := HW.out.1.cell 2;have m3 : w5.cell? ⟨c, 3, none⟩ = some mv := HW.out.1.cell 3;have m4 : w5.cell? ⟨c, 4, none⟩ = some (.string (str m.secret)) := HW.out.1.cell 4;clear hU))
 have hrow := H.out.1.rows.row (by rw [List.length_map]; have := HF.out.1; omega);have hsm : ∀ x ∈ m.mounts, x.name.length ≤ 1000000 := fun x hx => by have := HF.out.2.2 x hx; omega
 obtain ⟨A, cap, bb, off, hmv1, hmv2, hmv3, hmv4, hmv5⟩ := hrow.mts;have hri := fun (W : World) (hU : Upd (fun _ => False) w W) => vright_c (w := W) (cap := cap) m hmv4 (fun w' hu => hmv5 w' (fun _ => False) (hU.then hu (fun _ e => .inl e)) (fun _ _ e => e)) hmv3 hmv2 hsm
 rw [← hmv1] at hri;have hgv := fun (W : World) (hU : Upd (fun _ => False) w W) => given_c m (hrow.still hU)
 have hrr := fun (W : World) (hU : Upd (fun _ => False) w W) => right17_r m (hrow.still hU) hsm
 obtain ⟨B, hB⟩ : ∃ B, rightM m = B := ⟨_, rfl⟩;rw [hB] at hri hrr;have HRI := Lib.hid hri;have HGV := Lib.hid hgv;have HRR := Lib.hid hrr;clear hrow hsm hmv1 hmv2 hmv3 hmv4 hmv5 hri hgv hrr hB;refine wp_region_noPanic ?_;refine wp_region_T (S := fun w' => Blk w' c 50 (metaRow m mv)) (T := fun _ => false) (by kernel_rfl) ?_;have hS0 : Blk w5.drew c 50 (metaRow m mv) := HW.out.1.drew;refine wpAnyT_take8 (i := 0) (v := .agg (metaRow m mv)) rfl (by kernel_rfl) (by kernel_rfl) (by kernel_rfl) (by kernel_rfl) (fun _ _ _ h => h) (takes_load_all rfl (by rfl) _ _ rfl c (by rfl) _ _ _ (fun w' hSw => hSw) Tryz.underlying50 rfl (by kernel_rfl)) (by assumption) (by kernel_rfl) ?_;simp only [tkS];refine wpAnyT_take8 (i := 2) (v := .agg (metaRow m mv)) rfl (by kernel_rfl) (by kernel_rfl) (by kernel_rfl) (by kernel_rfl) (fun _ _ _ h => h) (takes_load_all rfl (by rfl) _ _ rfl c (by rfl) _ _ _ (fun w' hSw => hSw) Tryz.underlying50 rfl (by kernel_rfl)) (by assumption) (by kernel_rfl) ?_;simp only [tkS];refine wpAnyT_one (i := 1) (by kernel_rfl) rfl (fun KK hKK => ?_);go_simp
 refine (HRI.out _ HW.out.2.2.drew).mono ?_;rintro e w6 ⟨rfl, hU⟩;have hS6 : Blk w6 c 50 (metaRow m mv) := hS0.upd hU (fun e => e);have H6 := Lib.hid (HW.out.2.2.drew.then hU (fun _ e => e.elim));refine hKK.out _ _ hS6 ?_;clear hKK hU;refine wpAnyT_one (i := 3) (by kernel_rfl) rfl (fun KK hKK => ?_);go_simp
 refine (HGV.out _ H6.out).mono ?_;rintro e w7 ⟨rfl, hU⟩;have hS7 : Blk w7 c 50 (metaRow m mv) := hS6.upd hU (fun e => e);have H7 := Lib.hid (H6.out.then hU (fun _ e => e.elim));refine hKK.out _ _ hS7 ?_;clear hKK hU;refine wpAnyT_one (i := 4) (by kernel_rfl) rfl (fun KK hKK => ?_);go_simp
 refine (HRR.out _ H7.out).mono ?_;rintro e w8 ⟨rfl, hU⟩;have hS8 : Blk w8 c 50 (metaRow m mv) := hS7.upd hU (fun e => e);have H8 := Lib.hid (H7.out.then hU (fun _ e => e.elim));refine hKK.out _ _ hS8 ?_;clear hKK hU;refine tk8 5 ?_;simp only [tkS];refine tk8 6 ?_;simp only [tkS];refine tk8 7 ?_;simp only [tkS];refine tk8 8 ?_;simp only [tkS];refine tk8 9 ?_;simp only [tkS];refine wpAnyT_one (i := 10) (by kernel_rfl) rfl (fun KK hKK => ?_);go_simp
 refine (wakes_17 _).mono ?_;rintro e w9 ⟨rfl, hU⟩;have hS9 : Blk w9 c 50 (metaRow m mv) := hS8.upd hU (fun e => e);have H9 := Lib.hid (H8.out.then hU (fun _ e => e.elim));refine hKK.out _ _ hS9 ?_;clear hKK hU;refine tk8 11 ?_;simp only [tkS];refine tk8 12 ?_;simp only [tkS];refine wpAnyT_done (by kernel_rfl) ?_ _;refine NoPanic.normal ?_;clear hS0 hS6 hS7 hS8 hS9;go_wp2_with fail
 go_ret
 exact ⟨rfl, H9.out⟩
theorem walk_VaultMetas {v0 v1 v2 : Value} {x : MetaM × Value} {y : BatM × Value} {l : List PairM} (w : World) (hm : IsMeta w v0 x) (hb : IsBat w v1 y) (hl : PrsIn w v2 l) :
 Calls Tryz.prog 7 #[v0, v1, v2] w fun e w' => e = .returned (.bool true) ∧ Upd (fun _ => False) w w' := by
 obtain ⟨rfl, hm⟩ := hm;obtain ⟨rfl, hb⟩ := hb;exact walk_VaultMetas' w hm hb hl
end
section
open Go Go.ChangeShapes Go.WideShapes Go.ChangeAt Go.RowKit Go.Proofs.YtbhjgfibhegddaaGreat
theorem common1 : laidOutB Tryz.pinned.checked.prog = true := by kernel_rfl
theorem common2 : mapsRowed Tryz.pinned.checked.prog = true := by kernel_rfl
theorem common6 : (Tryz.pinned.checked.prog.stops == []) = true := by kernel_rfl
theorem common8 : (Tryz.pinned.checked.prog.stopKnobs == []) = true := by kernel_rfl
theorem common22 : (Rows.vaultMetasRow.plainKeys == Tryz.pinned.checked.prog.plainKeys) = true := by kernel_rfl
theorem common24 : Tryz.pinned.checked.prog.stopsHeard = true := by kernel_rfl
theorem common25 : Tryz.pinned.checked.prog.mayEnter = true := by kernel_rfl
theorem common26 : (Rows.vaultMetasRow.lifted == Tryz.pinned.checked.prog.liftsFinal) = true := by kernel_rfl
theorem common27 : (Tryz.pinned.checked.prog.make == some Rows.vaultMetasRow.make) = true := by kernel_rfl
theorem and_mk {a b : Bool} (ha : a = true) (hb : b = true) : (a && b) = true := by rw [ha, hb]; rfl
end
end Go.Proofs.YtbhjgfibhegddaaGreat
