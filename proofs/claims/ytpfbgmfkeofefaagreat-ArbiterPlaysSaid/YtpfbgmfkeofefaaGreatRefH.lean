/-
  What the documents' records need: two boxes, sectors as texts, a growing slice.
-/
import Derived.Test.YtpfbgmfkeofefaaGreatKeptA
import Derived.Test.YtpfbgmfkeofefaaGreatClose
import Derived.Test.YtpfbgmfkeofefaaGreatOpen9
import Derived.Test.YtpfbgmfkeofefaaGreatArgs
import Derived.BigQuiet
import Derived.Test.YtpfbgmfkeofefaaGreatRef07
import Derived.Test.YtpfbgmfkeofefaaGreatPart
import Derived.Test.YtpfbgmfkeofefaaGreatPlayD
namespace Go.Proofs.YtpfbgmfkeofefaaGreat
open Go Go.RowKit

theorem leN_drop (l : List UInt8) (m : Nat) (h : m < l.length) : leN (l.drop m) = l[m].toNat + 256 * leN (l.drop (m + 1)) := by
  rw [List.drop_eq_getElem_cons h]
  rfl
theorem byte_nat {n : Nat} (h : n < 256) : (n : Int) = ((UInt8.ofNat n).toNat : Int) := by
  rw [UInt8.toNat_ofNat']
  omega
def lenS : Value → Nat
  | .string s => s.size
  | _ => 0
/-- Where the texts of a list lie that grows. -/
structure Grows (w wr : World) (v : Value) (n : Nat) (l : List ByteArray) : Prop where
  own : Own wr 9 1 v n (strs l)
  upd : Upd (fun _ => False) w wr
  new : ∀ q, v.ownBlock = some q → w.heap.size ≤ q
theorem Grows.nil (w : World) : Grows w w (.slice none 0 0) 0 [] := ⟨Own.nil _ _ _, Upd.refl _ _, by simp [Value.ownBlock]⟩
theorem Grows.still {w wr wx : World} {v : Value} {n : Nat} {l : List ByteArray} (h : Grows w wr v n l) (hu : Upd (fun _ => False) wr wx) : Grows w wx v n l :=
  ⟨h.own.upd hu (fun _ _ e => e), h.upd.then hu (fun _ e => e.elim), h.new⟩
theorem Grows.app {w wr w2 : World} {v v2 : Value} {n : Nat} {l : List ByteArray} {b : ByteArray} (h : Grows w wr v n l) (hO : Own w2 9 1 v2 (n + 1) (strs l ++ [.string b])) (hU : Upd (fun q => v.ownBlock = some q) wr w2)
    (hl : v2.ownBlock = v.ownBlock ∨ v2.ownBlock = some wr.heap.size) : Grows w w2 v2 (n + 1) (l ++ [b]) := by
  refine ⟨by simpa [strs] using hO, h.upd.then hU (fun q hq => .inr (h.new q hq)), fun q hq => ?_⟩
  rcases hl with e | e
  · exact h.new q (by rw [← e]; exact hq)
  · rw [e] at hq
    have := Option.some.inj hq
    have := h.upd.size
    omega
theorem two_new {w : World} {a b : Array Value} {ta tb : TypeId} (w3 : World) (h : (w.alloc (.cells a ta)).alloc (.cells b tb) = w3) :
    Upd (fun _ => False) w w3 ∧ Blk w3 w.heap.size ta a ∧ Blk w3 (w.heap.size + 1) tb b ∧ w3.heap.size = w.heap.size + 2 := by
  subst h
  refine ⟨((Upd.refl _ w).alloc _).alloc _, (Blk.new w _ _).alloc _, ?_, by simp⟩
  have := Blk.new (w.alloc (.cells a ta)) tb b
  simpa using this
/-- The sectors of a disk from one on, as texts. -/
def secsB (d : Dk) (f n : Nat) : List ByteArray := (List.range n).map fun i => d.now (f + i)
theorem secsB_len (d : Dk) (f n : Nat) : (secsB d f n).length = n := by simp [secsB]
theorem secsB_succ (d : Dk) (f n : Nat) : secsB d f (n + 1) = secsB d f n ++ [d.now (f + n)] := by
  unfold secsB
  rw [List.range_succ, List.map_append]
  rfl
theorem secsB_lists (d : Dk) (f n : Nat) : ((secsB d f n).map fun s => s.data.toList) = secsL d f n := by
  unfold secsB secsL
  rw [List.map_map]
  rfl
theorem Src.of_new_at {P : Program} {w : World} {xT t e : TypeId} {b : Nat} (ht : P.underlying xT = some (.slice t)) (x : Value) (hb : w.heap.size = b) : Src P (w.alloc (.cells #[x] e)) xT 1 (.slice (some ⟨b, 0, none⟩) 1 1) 1 [x] := by
  subst hb
  exact Src.of_new ht x
theorem results_cells2_slot {P : Program} {fn : Func} {p p2 q : Tmp} {ty ty2 : TypeId} (h : fn.results = #[.cell p ty, .cell p2 ty2, .tmp q]) (tmps : Array Value) (w : World) (g g2 : Nat) (t t2 : TypeId) (cs cs2 : Array Value) (fr fr2 : Nat × Nat) (d d2 : TypeDesc)
    (hp : tmps.getD p undef = .pointer (some ⟨g, 0, none⟩)) (hg : w.heap[g]? = some (.cells cs t fr)) (hp2 : tmps.getD p2 undef = .pointer (some ⟨g2, 0, none⟩)) (hg2 : w.heap[g2]? = some (.cells cs2 t2 fr2))
    (hu : P.underlying ty = some d) (hd : (match d with | .struct _ | .array _ _ => true | _ => false) = true) (hi : (P.info? ty).map (·.size) = some cs.size)
    (hu2 : P.underlying ty2 = some d2) (hd2 : (match d2 with | .struct _ | .array _ _ => true | _ => false) = true) (hi2 : (P.info? ty2).map (·.size) = some cs2.size) (v : Value) (hv : tmps.getD q undef = v) :
    (results fn tmps).run P w = .ok (.tuple #[.agg cs, .agg cs2, v]) w := by
  subst hv
  have hp' : tmps[p]?.getD undef = .pointer (some ⟨g, 0, none⟩) := by simpa using hp
  have hp2' : tmps[p2]?.getD undef = .pointer (some ⟨g2, 0, none⟩) := by simpa using hp2
  simp [results, h, hp', hp2', asAddr, run_loadVar_row w g t ty cs fr d hg hu hd hi, run_loadVar_row w g2 t2 ty2 cs2 fr2 d2 hg2 hu2 hd2 hi2]
theorem four_new {w : World} {a b c d : Array Value} {ta tb tc td : TypeId} (w3 : World) (h : (((w.alloc (.cells a ta)).alloc (.cells b tb)).alloc (.cells c tc)).alloc (.cells d td) = w3) :
    Upd (fun _ => False) w w3 ∧ Blk w3 w.heap.size ta a ∧ Blk w3 (w.heap.size + 1) tb b ∧ Blk w3 (w.heap.size + 1 + 1) tc c ∧ Blk w3 (w.heap.size + 1 + 1 + 1) td d ∧ w3.heap.size = w.heap.size + 4 := by
  subst h
  obtain ⟨h1, h2, h3, h4, h5⟩ := three_new _ (rfl : ((w.alloc (.cells a ta)).alloc (.cells b tb)).alloc (.cells c tc) = _)
  refine ⟨h1.alloc _, h2.alloc _, h3.alloc _, h4.alloc _, ?_, by simp⟩
  have := Blk.new (((w.alloc (.cells a ta)).alloc (.cells b tb)).alloc (.cells c tc)) td d
  rw [h5] at this
  exact this
theorem RdLeft.trans {w w1 w2 : World} {vl vw vl1 vw1 vl2 vw2 : Value} {r1 r2 : Rd} (h : RdLeft w w1 vl vw vl1 vw1 r1) (k : RdLeft w1 w2 vl1 vw1 vl2 vw2 r2) : RdLeft w w2 vl vw vl2 vw2 r2 :=
  ⟨k.at_, h.upd.then k.upd (fun _ e => e.elim), fun q hq => (k.loc q hq).elim (fun e => h.loc q e) (fun e => .inr (Nat.le_trans h.upd.size e))⟩
theorem rdrow_one (r : Rd) {vl vw : Value} {w : World} (h : RdAt w vl vw r) : (#[vl, vw, .int .i64 r.fuse, .bool r.off] : Array Value).all (·.oneCell') = true := row_one _ _ h.lasts.one h.ws.one _ _
theorem Rd.fits.write {r : Rd} (h : r.fits) (i : Int) (b : ByteArray) (hp : r.ws.length + 1 ≤ 1000000) : (r.write i b).1.fits ∧ (r.write i b).1.ws.length ≤ r.ws.length + 1 := by
  unfold Rd.write
  split
  · exact ⟨h, by simp⟩
  · split
    · exact ⟨h, by simp⟩
    · rename_i h2
      have ha : r.act.1.fits ∧ r.act.1.ws = r.ws ∧ r.act.1.lasts = r.lasts := by
        have hfu := h.fuse
        unfold Rd.act
        split
        · exact ⟨⟨h.pos, h.lasts, h.ws, h.fuse, h.low, h.size⟩, rfl, rfl⟩
        · split
          · exact ⟨⟨h.pos, h.lasts, h.ws, by show _ ∧ _; constructor <;> (simp only; omega), h.low, h.size⟩, rfl, rfl⟩
          · exact ⟨h, rfl, rfl⟩
      obtain ⟨a1, a2, a3⟩ := ha
      split
      · unfold Rd.push
        refine ⟨⟨a1.pos, a1.lasts, by simp only [List.length_append, List.length_singleton, a2]; exact hp, a1.fuse, fun x hx => ?_, a1.size⟩, by simp [a2]⟩
        simp only [List.mem_append, List.mem_singleton] at hx
        rcases hx with hx | rfl
        · exact a1.low x hx
        · simp only [Bool.or_eq_true, not_or, Bool.not_eq_true] at h2
          have h3 := h2.1
          unfold Rd.out at h3
          have h4 := of_decide_eq_false h3
          show 0 ≤ i ∧ i < (r.act.1.lasts.length : Int)
          rw [a3]
          omega
      · exact ⟨a1, by simp [a2]⟩
/-- What a region of a Put leaves that writes one sector. -/
structure Wrote9 (wa wx : World) (vl vw vw2 : Value) (r2 : Rd) (g2 : Nat) : Prop where
  blk : Blk wx g2 33 #[vl, vw2, .int .i64 r2.fuse, .bool r2.off]
  left : RdLeft wa wx vl vw vl vw2 r2
end Go.Proofs.YtpfbgmfkeofefaaGreat
