/-
  Package sha: a hash as the program reckons it.
-/
import Derived.Test.YtdfgmieinbmfkaaGreatBig
import Derived.Test.YtdfgmieinbmfkaaGreatSteps
import Derived.BigQuiet
import Derived.Deep.RegionHeld3
import Derived.IntWalk
import Derived.Laws.Bits64b
import Derived.Laws.Tables
import Derived.KernelRfl
import Derived.StillTailTactics
import Derived.Laws.Closers25b
namespace Go.Proofs.YtdfgmieinbmfkaaGreat
open Go Go.RowKit

theorem arrU_one (l : List Int) : (arrU l).all (·.oneCell') = true := by simp [arrU, Value.oneCell']
theorem Blk.cellU {w : World} {g : Nat} {t : TypeId} {l : List Int} (h : Blk w g t (arrU l)) (i : Nat) (hi : i < l.length) : w.cell? ⟨g, i, none⟩ = some (.int .u32 (l.getD i 0)) := (h.cell i).trans (arrU_get l i hi)
/-- A slice that reads as these bytes, wherever it lies. -/
def BytesAt (w : World) (v : Value) (l : List UInt8) : Prop :=
  ∃ A cap, v = .slice A l.length cap ∧ l.length ≤ cap ∧ cap ≤ maxLen ∧ (0 < l.length → ∃ b off, A = some ⟨b, off, none⟩ ∧ b < w.heap.size ∧ ∀ i, i < l.length → w.cell? ⟨b, off + i, none⟩ = some (.int .u8 ((l.getD i 0).toNat : Int)))

set_option maxRecDepth 100000 in
theorem rot32_c (x k : Int) (r : Nat) (w : World) (h : U32 x) (hr : r < 32) (hk : bits .and .u64 (IntKind.u64.wrap k) 31 = (r : Int)) :
    Calls Tryz.prog 446 #[.int .u32 x, .int .i64 k] w fun e w' => e = .returned (.int .u32 (rotl x r)) ∧ w = w' := by
  obtain ⟨h0, h1⟩ := h
  have hk2 : IntKind.u64.wrap (32 - (r : Int)) = ((32 - r : Nat) : Int) := by
    simp only [IntKind.wrap, IntKind.bits, IntKind.signed]
    simp
    omega
  go_enter Tryz.func446, Tryz.ntmps446
  go_wp2_with fail
  go_ret
  exact ⟨rfl, rfl⟩
theorem rotA_c (x k : Int) (w : World) (h : U32 x) : Calls Tryz.prog 446 #[.int .u32 x, .int .i64 k] w fun e w' => e = .returned (.int .u32 (rotl x (amt k))) ∧ w' = w := by
  have h1 : IntKind.u64.wrap k = ((IntKind.u64.wrap k).toNat : Int) := by
    rw [IntKind.wrap_u64]; omega
  have h2 : (IntKind.u64.wrap k).toNat < 18446744073709551616 := by
    rw [IntKind.wrap_u64]; omega
  refine (rot32_c x k (amt k) w h (by unfold amt; omega) ?_).mono fun _ _ ⟨a, b⟩ => ⟨a, b.symm⟩
  unfold amt
  rw [h1]
  generalize (IntKind.u64.wrap k).toNat = m at *
  have := bits_and_u64_nat m 31 h2 (by omega)
  rw [show (31 : Int) = ((31 : Nat) : Int) from rfl, this, Int.toNat_natCast, show (31 : Nat) = 2 ^ 5 - 1 from rfl, Nat.and_two_pow_sub_one_eq_mod]
theorem wpList_build_is {P : Program} {ops : Array Oper} {rest : List Oper} {o : Oper} {a : Act} {w : World} {Q : Exit → Act → World → Prop} (hg : o.guard = none) (t : TypeId) (parts : Array (Nat × Operand)) (ho : o.op = .build t parts)
    (vs : List (Nat × Value)) (cells : Array Value) (hv : (parts.map fun (i, x) => (i, a.eval x)).toList = vs) (hb : P.built t vs = some cells)
    (h : wpList P ops Q rest (a.put o.dst (.agg cells)) w) : wpList P ops Q (o :: rest) a w := by
  refine wpList_build hg t parts ho (by rw [hv, hb]; rfl) ?_
  rw [hv, hb]
  exact h
theorem built8 (x0 x1 x2 x3 x4 x5 x6 x7 : Int) : Tryz.prog.built 353 [(0, .int .u32 x0), (1, .int .u32 x1), (2, .int .u32 x2), (3, .int .u32 x3), (4, .int .u32 x4), (5, .int .u32 x5), (6, .int .u32 x6), (7, .int .u32 x7)] = some (arrU [x0, x1, x2, x3, x4, x5, x6, x7]) := by kernel_rfl
/-- A block is being turned: the blocks of the call. -/
structure TurnW (w wr : World) (n : Nat) (h b r wl : List Int) : Prop where
  bh : Blk wr n 353 (arrU h)
  bb : Blk wr (n + 1) 353 (arrU b)
  br : Blk wr (n + 1 + 1) 353 (arrU r)
  bw : Blk wr (n + 1 + 1 + 1) 352 (arrU wl)
  upd : Upd (fun _ => False) w wr
  new : w.heap.size ≤ n
theorem TurnW.setw {w wr : World} {n : Nat} {h b r wl : List Int} (t : TurnW w wr n h b r wl) (i : Nat) (z : Int) : TurnW w (wr.setCell ⟨n + 1 + 1 + 1, i, none⟩ (.int .u32 z)) n h b r (wl.set i z) :=
  ⟨t.bh.far (by simp; omega) _, t.bb.far (by simp) _, t.br.far (by simp) _, by rw [← arrU_set]; exact t.bw.set_ i _, t.upd.setCell (.inr (by have := t.new; simp; omega)) _, t.new⟩
theorem TurnW.seth {w wr : World} {n : Nat} {h b r wl : List Int} (t : TurnW w wr n h b r wl) (i : Nat) (z : Int) : TurnW w (wr.setCell ⟨n, i, none⟩ (.int .u32 z)) n (h.set i z) b r wl :=
  ⟨by rw [← arrU_set]; exact t.bh.set_ i _, t.bb.far (by simp) _, t.br.far (by simp; omega) _, t.bw.far (by simp; omega) _, t.upd.setCell (.inr t.new) _, t.new⟩
theorem TurnW.setb {w wr w2 : World} {n : Nat} {h b r wl b2 : List Int} (t : TurnW w wr n h b r wl) (hb : Blk w2 (n + 1) 353 (arrU b2)) (hu : Upd (· = n + 1) wr w2) : TurnW w w2 n h b2 r wl :=
  ⟨t.bh.upd hu (by omega), hb, t.br.upd hu (by omega), t.bw.upd hu (by omega), t.upd.then hu (fun q hq => .inr (by have := t.new; omega)), t.new⟩
theorem TurnW.b8 {w wr : World} {n : Nat} {h r wl : List Int} {b0 b1 b2 b3 b4 b5 b6 b7 : Int} (t : TurnW w wr n h [b0, b1, b2, b3, b4, b5, b6, b7] r wl) :
    wr.cell? ⟨n + 1, 0, none⟩ = some (.int .u32 b0) ∧ wr.cell? ⟨n + 1, 1, none⟩ = some (.int .u32 b1) ∧ wr.cell? ⟨n + 1, 2, none⟩ = some (.int .u32 b2) ∧ wr.cell? ⟨n + 1, 3, none⟩ = some (.int .u32 b3) ∧
    wr.cell? ⟨n + 1, 4, none⟩ = some (.int .u32 b4) ∧ wr.cell? ⟨n + 1, 5, none⟩ = some (.int .u32 b5) ∧ wr.cell? ⟨n + 1, 6, none⟩ = some (.int .u32 b6) ∧ wr.cell? ⟨n + 1, 7, none⟩ = some (.int .u32 b7) :=
  ⟨t.bb.cell 0, t.bb.cell 1, t.bb.cell 2, t.bb.cell 3, t.bb.cell 4, t.bb.cell 5, t.bb.cell 6, t.bb.cell 7⟩
theorem TurnW.drew {w wr : World} {n : Nat} {h b r wl : List Int} (t : TurnW w wr n h b r wl) : TurnW w wr.drew n h b r wl := ⟨t.bh, t.bb, t.br, t.bw, t.upd.drew, t.new⟩
theorem TurnW.drewN {w wr : World} {n : Nat} {h b r wl : List Int} (t : TurnW w wr n h b r wl) (k : Nat) : TurnW w (wr.drewN k) n h b r wl := ⟨t.bh, t.bb, t.br, t.bw, t.upd.drewN k, t.new⟩
theorem cell_upd {w w' : World} {F : Nat → Prop} (hu : Upd F w w') {b : Nat} (hb : b < w.heap.size) (hn : ¬ F b) (o : Nat) : w'.cell? ⟨b, o, none⟩ = w.cell? ⟨b, o, none⟩ := World.cell?_of_block (w := w) (a := ⟨b, o, none⟩) (hu.block b hb hn)
theorem conv_at (w : World) (b off n cap : Nat) (l : List UInt8) (hl : l.length = n) (hc : ∀ i, i < n → w.cell? ⟨b, off + i, none⟩ = some (.int .u8 ((l.getD i 0).toNat : Int))) :
    (convert 223 9 (.slice (some ⟨b, off, none⟩) n cap)).run Tryz.prog w = .ok (.string (str l)) w := by
  rw [← strOfNums_bytes]
  refine run_convert_bytes_arg w _ _ Tryz.underlying223 Tryz.underlying5 b off n cap _ (by simpa using hl) (fun i hi => ?_) _ Tryz.underlying9
  rw [hc i hi]
  simp [show i < l.length by omega]
set_option maxRecDepth 100000 in
set_option maxHeartbeats 4000000 in
theorem turn_c (hv bv K : List Int) (l : List UInt8) (kb ko b off cap : Nat) (w : World) (h8 : hv.length = 8) (b8 : bv.length = 8) (k64 : K.length = 64) (hH : AllU hv) (hB : AllU bv) (hK : AllU K)
    (hk : ∀ i, i < 64 → w.cell? ⟨kb, ko + i, none⟩ = some (.int .u32 (K.getD i 0))) (hkb : kb < w.heap.size) (hl : l.length = 64) (hc : 64 ≤ cap) (hcm : cap ≤ 9223372036854775807) (hb : b < w.heap.size)
    (hs : ∀ i, i < 64 → w.cell? ⟨b, off + i, none⟩ = some (.int .u8 ((l.getD i 0).toNat : Int))) :
    Calls Tryz.prog 369 #[.agg (arrU hv), .agg (arrU bv), .pointer (some ⟨kb, ko, none⟩), .slice (some ⟨b, off, none⟩) 64 cap] w fun e w' => e = .returned (.agg (arrU (turnL hv bv K l))) ∧ Upd (fun _ => False) w w' := by
  have HK := Lib.hid hk
  have HS := Lib.hid hs
  have HL := Lib.hid hl
  have H8 := Lib.hid (And.intro h8 (And.intro b8 k64))
  have HA := Lib.hid (And.intro hH (And.intro hB hK))
  clear hk hs hl h8 b8 k64 hH hB hK
  go_enter Tryz.func369, Tryz.ntmps369
  go_wp2_with fail
  obtain ⟨n, hn⟩ : ∃ n, w.heap.size = n := ⟨_, rfl⟩
  have HN := Lib.hid hn
  have hbn : b < n := by omega
  have hkn : kb < n := by omega
  clear hb hkb
  rw [hn]
  clear hn
  go_loopw [10, 22] (fun _ i wr => ∃ k : Nat, k ≤ 16 ∧ i = .int .i64 (k : Int) ∧ TurnW w wr n hv bv (List.replicate 8 0) (wIn l k)) (fun _ i _ => 16 - (intOf i).toNat)
  case atStart =>
    have e := HN.out
    refine ⟨0, by omega, rfl, ?_⟩
    subst e
    refine ⟨(((Blk.new w _ _).alloc _).alloc _).alloc _, ?_, ?_, ?_, ((((Upd.refl _ w).alloc _).alloc _).alloc _).alloc _, Nat.le_refl _⟩
    · have h := ((Blk.new (w.alloc (.cells (arrU hv) 353)) 353 (arrU bv)).alloc (.cells (arrU (List.replicate 8 0)) 353)).alloc (.cells (arrU (wIn l 0)) 352)
      rw [World.size_alloc] at h
      exact h
    · have h := (Blk.new ((w.alloc (.cells (arrU hv) 353)).alloc (.cells (arrU bv) 353)) 353 (arrU (List.replicate 8 0))).alloc (.cells (arrU (wIn l 0)) 352)
      rw [World.size_alloc, World.size_alloc] at h
      exact h
    · have h := Blk.new (((w.alloc (.cells (arrU hv) 353)).alloc (.cells (arrU bv) 353)).alloc (.cells (arrU (List.replicate 8 0)) 353)) 352 (arrU (wIn l 0))
      rw [World.size_alloc, World.size_alloc, World.size_alloc] at h
      exact h
  case round =>
    obtain ⟨k, hk, rfl, hT⟩ := hrel
    by_cases hlt : k < 16
    ·
      --#a {
      have HT := Lib.hid hT
      have hcv := conv_at wr b (off + 4 * k) 4 (cap - 4 * k) ((l.drop (4 * k)).take 4) (by have := HL.out; simp; omega) (fun i hi => by
        rw [cell_upd hT.upd (by have := HN.out; omega) (fun e => e), show off + 4 * k + i = off + (4 * k + i) by omega, HS.out (4 * k + i) (by omega)]
        have := HL.out
        simp [List.getD_eq_getElem?_getD, hi])
      have hcw := hT.bw.cellU k (by rw [wIn_len]; omega)
      have hfw := hT.bw.frozen k
      clear hT
      go_wp2_with fail
      refine (getBig_c (str ((l.drop (4 * k)).take 4)) 4 _ (by omega) (by have := HL.out; rw [str_size]; simp; omega)).mono ?_
      rintro e w' ⟨rfl, rfl⟩
      rw [str_list, List.take_take, Nat.min_self]
      go_wp2_with fail
      go_roundw
      case rel =>
        refine ⟨k + 1, by omega, by go_num, ?_⟩
        have e : (beN (List.take 4 (List.drop (4 * k) l)) : Int) % 4294967296 = wordAt l k := Int.emod_eq_of_lt (wordU l k).1 (wordU l k).2
        rw [e, wIn_succ]
        exact HT.out.setw k _
      case measure => simp [intOf] <;> omega
      --#a }
    · obtain rfl : k = 16 := by omega
      have e16 : ((16 : Nat) : Int) = 16 := rfl
      rw [e16]
      clear e16
      have HA1 := Lib.hid (And.intro (wIn_all l 16) (wIn_len l 16))
      have HT := Lib.hid hT
      obtain ⟨W0, hW0⟩ : ∃ W0, wIn l 16 = W0 := ⟨_, rfl⟩
      rw [hW0] at HT HA1
      have HW0 := Lib.hid hW0
      clear hW0 hT hk hlt
      go_wp2_with fail
      go_loopw [11, 12, 13, 14, 15] (fun i _ _ _ _ wr => ∃ k : Nat, k ≤ 64 ∧ 16 ≤ k ∧ i = .int .i64 (k : Int) ∧ TurnW w wr n hv bv (List.replicate 8 0) (wOn W0 (k - 16))) (fun i _ _ _ _ _ => 64 - (intOf i).toNat)
      case atStart => exact ⟨16, by omega, by omega, rfl, HT.out⟩
      case round =>
        clear HT
        obtain ⟨k, hk, hk2, rfl, hT⟩ := hrel
        have HT := Lib.hid hT
        by_cases hlt : k < 64
        ·
          --#b {
          have hln := wOn_len W0 (k - 16)
          have hal := wOn_all HA1.out.1 (k - 16)
          have h64 := HA1.out.2
          obtain ⟨L, hL⟩ : ∃ L, wOn W0 (k - 16) = L := ⟨_, rfl⟩
          have HL1 := Lib.hid hL
          rw [hL] at hT hln hal
          have c15 := hT.bw.cellU (k - 15) (by omega)
          have c2 := hT.bw.cellU (k - 2) (by omega)
          have u15 := hal.get (k - 15)
          have u2 := hal.get (k - 2)
          obtain ⟨x15, hx15⟩ : ∃ x, L.getD (k - 15) 0 = x := ⟨_, rfl⟩
          obtain ⟨x2, hx2⟩ : ∃ x, L.getD (k - 2) 0 = x := ⟨_, rfl⟩
          rw [hx15] at c15 u15
          rw [hx2] at c2 u2
          have HX1 := Lib.hid (And.intro hx15 hx2)
          have U15 := Lib.hid u15
          have U2 := Lib.hid u2
          obtain ⟨m15, m15b⟩ := u15
          obtain ⟨m2, m2b⟩ := u2
          have e15 : IntKind.i64.wrap ((k : Int) - 15) = ((k - 15 : Nat) : Int) := by rw [IntWalk.i64_in _ (by omega)]; omega
          have e2 : IntKind.i64.wrap ((k : Int) - 2) = ((k - 2 : Nat) : Int) := by rw [IntWalk.i64_in _ (by omega)]; omega
          have b15 : ((k - 15 : Nat) : Int) < 64 := by omega
          have b2 : ((k - 2 : Nat) : Int) < 64 := by omega
          clear hT hln hal h64 hL hx15 hx2
          go_wp2_with fail
          go_quiet (fail)
          clear c15 c2 e15 e2 b15 b2
          go_wp2_with fail
          refine (rot32_c _ _ 25 _ U15.out (by omega) (by decide +kernel)).mono ?_
          rintro e w' ⟨rfl, rfl⟩
          go_wp2_with fail
          refine (rot32_c _ _ 14 _ U15.out (by omega) (by decide +kernel)).mono ?_
          rintro e w' ⟨rfl, rfl⟩
          go_wp2_with fail
          refine (rot32_c _ _ 15 _ U2.out (by omega) (by decide +kernel)).mono ?_
          rintro e w' ⟨rfl, rfl⟩
          go_wp2_with fail
          refine (rot32_c _ _ 13 _ U2.out (by omega) (by decide +kernel)).mono ?_
          rintro e w' ⟨rfl, rfl⟩
          go_wp2_with fail
          have hT := HT.out.drewN nq
          rw [HL1.out] at hT
          have hln := wOn_len W0 (k - 16)
          rw [HL1.out, HA1.out.2] at hln
          have c16 := hT.bw.cellU (k - 16) (by omega)
          have c7 := hT.bw.cellU (k - 7) (by omega)
          have c0 := hT.bw.cellU k (by omega)
          have f0 := hT.bw.frozen k
          obtain ⟨x16, hx16⟩ : ∃ x, L.getD (k - 16) 0 = x := ⟨_, rfl⟩
          obtain ⟨x7, hx7⟩ : ∃ x, L.getD (k - 7) 0 = x := ⟨_, rfl⟩
          rw [hx16] at c16
          rw [hx7] at c7
          have HX2 := Lib.hid (And.intro hx16 hx7)
          have HT2 := Lib.hid hT
          clear hT HT hln hx16 hx7
          obtain ⟨a1, ha1⟩ : ∃ x, bits BinOp.xor IntKind.u32 (bits BinOp.xor IntKind.u32 (rotl x15 25) (rotl x15 14)) (x15 / 8) = x := ⟨_, rfl⟩
          obtain ⟨a2, ha2⟩ : ∃ x, bits BinOp.xor IntKind.u32 (bits BinOp.xor IntKind.u32 (rotl x2 15) (rotl x2 13)) (x2 / 1024) = x := ⟨_, rfl⟩
          rw [ha1, ha2]
          have HY := Lib.hid (And.intro (show sg0 x15 = a1 from ha1) (show sg1 x2 = a2 from ha2))
          clear ha1 ha2
          have e16 : IntKind.i64.wrap ((k : Int) - 16) = ((k - 16 : Nat) : Int) := by rw [IntWalk.i64_in _ (by omega)]; omega
          have e7 : IntKind.i64.wrap ((k : Int) - 7) = ((k - 7 : Nat) : Int) := by rw [IntWalk.i64_in _ (by omega)]; omega
          have b16 : ((k - 16 : Nat) : Int) < 64 := by omega
          have b7 : ((k - 7 : Nat) : Int) < 64 := by omega
          have b0 : (k : Int) < 64 := by omega
          generalize wr.drewN nq = w1 at c16 c7 c0 f0 HT2 ⊢
          have HS1 : Hid (∀ v, (w1.setCell ⟨n + 1 + 1 + 1, k, none⟩ v).drew.cell? ⟨n + 1 + 1 + 1, k - 16, none⟩ = some (.int .u32 x16) ∧ (w1.setCell ⟨n + 1 + 1 + 1, k, none⟩ v).drew.cell? ⟨n + 1 + 1 + 1, k - 7, none⟩ = some (.int .u32 x7)) := Lib.hid fun v => by
            rw [World.cell?_drew, World.cell?_drew]
            exact ⟨(World.cell?_setCell_other _ _ _ _ (by simp <;> omega)).trans c16, (World.cell?_setCell_other _ _ _ _ (by simp <;> omega)).trans c7⟩
          go_region_held3 (fun w' => w'.cell? ⟨n + 1 + 1 + 1, k - 16, none⟩ = some (.int .u32 x16) ∧ w'.cell? ⟨n + 1 + 1 + 1, k - 7, none⟩ = some (.int .u32 x7)) (first | exact HS1.out _ | go_keep) (first | fail)
          go_wp2_with fail
          go_roundw
          case rel =>
            refine ⟨k + 1, by omega, by omega, by go_num, ?_⟩
            have e2 : nextW L k = (((x16 + a1) % 4294967296 + x7) % 4294967296 + a2) % 4294967296 := by unfold nextW; rw [HX2.out.1, HX1.out.1, HX2.out.2, HX1.out.2, HY.out.1, HY.out.2]
            have e3 : wOn W0 (k + 1 - 16) = L.set k ((((x16 + a1) % 4294967296 + x7) % 4294967296 + a2) % 4294967296) := by rw [show k + 1 - 16 = (k - 16) + 1 by omega, wOn_succ, HL1.out, show 16 + (k - 16) = k by omega, e2]
            rw [e3]
            exact (HT2.out.setw k _).drew
          case measure => simp [intOf] <;> omega
          --#b }
        · obtain rfl : k = 64 := by omega
          have e64 : ((64 : Nat) : Int) = 64 := rfl
          rw [e64]
          have HW1 := Lib.hid (And.intro (wOn_all HA1.out.1 48) (wOn_len W0 48))
          have HT := Lib.hid hT
          obtain ⟨W1, hW1⟩ : ∃ W1, wOn W0 48 = W1 := ⟨_, rfl⟩
          rw [show 64 - 16 = 48 from rfl, hW1] at HT
          rw [hW1] at HW1
          have HE1 := Lib.hid hW1
          clear hW1 hT hk hk2 hlt e64
          go_wp2_with fail
          go_loopw [16, 17, 18, 19, 20, 81] (fun _ _ _ _ _ i wr => ∃ k : Nat, k ≤ 64 ∧ i = .int .i64 (k : Int) ∧ TurnW w wr n hv (rounds K W1 bv k) (List.replicate 8 0) W1) (fun _ _ _ _ _ i _ => 64 - (intOf i).toNat)
          case atStart => exact ⟨0, by omega, rfl, HT.out⟩
          case round =>
            clear HT
            obtain ⟨k, hk, rfl, hT⟩ := hrel
            have HT := Lib.hid hT
            by_cases hlt : k < 64
            ·
              --#c {
              have hr := rounds_ok (K := K) (W := W1) H8.out.2.1 HA.out.2.1 k
              obtain ⟨b0, b1, b2, b3, b4, b5, b6, b7, hbl⟩ := eight hr.1
              have hal := hr.2
              rw [hbl] at hT hal
              have HB1 := Lib.hid hbl
              obtain ⟨q0, q1, q2, q3, q4, q5, q6, q7⟩ := hT.b8
              have cw := hT.bw.cellU k (by have := HW1.out.2; have := HA1.out.2; omega)
              have ck := HK.out k hlt
              rw [← cell_upd hT.upd (by have := HN.out; omega) (fun e => e)] at ck
              obtain ⟨xk, hxk⟩ : ∃ x, K.getD k 0 = x := ⟨_, rfl⟩
              obtain ⟨xw, hxw⟩ : ∃ x, W1.getD k 0 = x := ⟨_, rfl⟩
              rw [hxk] at ck
              rw [hxw] at cw
              have HX := Lib.hid (And.intro hxk hxw)
              have U0 := Lib.hid (hal b0 (by simp))
              have U4 := Lib.hid (hal b4 (by simp))
              obtain ⟨m4, m4b⟩ := hal b4 (by simp)
              have bk : (k : Int) < 64 := by omega
              clear hal hbl hxk hxw hr cw ck q1 q2 q3 q5 q6 q7
              have HT2 := Lib.hid hT
              clear hT HT
              go_wp2_with fail
              go_quiet (fail)
              have hT := HT2.out.drewN nq
              clear q0 q4 HT2
              generalize wr.drewN nq = w1 at hT ⊢
              obtain ⟨q0, q1, q2, q3, q4, q5, q6, q7⟩ := hT.b8
              have cw := hT.bw.cellU k (by have := HW1.out.2; have := HA1.out.2; omega)
              have ck := HK.out k hlt
              rw [← cell_upd hT.upd (by have := HN.out; omega) (fun e => e), HX.out.1] at ck
              rw [HX.out.2] at cw
              have HT2 := Lib.hid hT
              clear hT
              go_wp2_with fail
              go_quiet ((go_at_call 446; exact Calls.quiet_of_same (rotA_c _ _ _ U4.out)))
              have hT := HT2.out.drewN nq
              rw [show (if IntKind.u32.signed = true then (-1 : Int) else IntKind.u32.max) = 4294967295 from rfl]
              obtain ⟨T, hTT⟩ : ∃ T, ((b7 + bits .xor .u32 (bits .xor .u32 (rotl b4 (amt (-6))) (rotl b4 (amt (-11)))) (rotl b4 (amt (-25))) + bits .xor .u32 (bits .and .u32 b4 b5) (bits .and .u32 (bits .xor .u32 4294967295 b4) b6) + xk) % 4294967296 + xw) % 4294967296 = T := ⟨_, rfl⟩
              rw [hTT]
              have HTT := Lib.hid (show roundT b4 b5 b6 b7 xk xw = T from hTT)
              clear hTT
              clear q0 q1 q2 q3 q4 q5 q6 q7 cw ck HT2
              generalize w1.drewN nq = w2 at hT ⊢
              obtain ⟨q0, q1, q2, q3, q4, q5, q6, q7⟩ := hT.b8
              have HT2 := Lib.hid hT
              clear hT
              go_wp2_with fail
              go_quiet ((go_at_call 446; exact Calls.quiet_of_same (rotA_c _ _ _ U0.out)))
              have hT := HT2.out.drewN nq
              clear q0 q1 q2 q3 q4 q5 q6 q7 HT2
              generalize w2.drewN nq = w3 at hT ⊢
              obtain ⟨q0, q1, q2, q3, q4, q5, q6, q7⟩ := hT.b8
              obtain ⟨U, hUU⟩ : ∃ U, (bits .xor .u32 (bits .xor .u32 (rotl b0 (amt (-2))) (rotl b0 (amt (-13)))) (rotl b0 (amt (-22))) + bits .xor .u32 (bits .xor .u32 (bits .and .u32 b0 b1) (bits .and .u32 b0 b2)) (bits .and .u32 b1 b2)) % 4294967296 = U := ⟨_, rfl⟩
              rw [hUU]
              have HUU := Lib.hid (show roundU b0 b1 b2 = U from hUU)
              clear hUU
              have HT2 := Lib.hid hT
              clear hT
              go_upto_region 20 with (fail)
              go_wp2_with (first
                | (show wpList _ _ _ (⟨_, Op.build _ _, _, _, _, _⟩ :: _) _ _
                   refine wpList_build_is rfl _ _ rfl [(0, .int .u32 ((T + U) % 4294967296)), (1, .int .u32 b0), (2, .int .u32 b1), (3, .int .u32 b2), (4, .int .u32 ((b3 + T) % 4294967296)), (5, .int .u32 b4), (6, .int .u32 b5), (7, .int .u32 b6)] _ rfl (built8 _ _ _ _ _ _ _ _) ?_)
                | (show wpList _ _ _ (⟨none, _, _, _, _, _⟩ :: _) _ _
                   refine wpList_store_all rfl 353 _ _ rfl (n + 1) _ rfl rfl 353 _ HT2.out.bb rfl (by simp [Value.oneCell']) (by kernel_rfl) ?_
                   intro w4 hB4 hU4 hz4))
              go_roundw
              case rel =>
                refine ⟨k + 1, by omega, by go_num, ?_⟩
                have e : rounds K W1 bv (k + 1) = [(T + U) % 4294967296, b0, b1, b2, (b3 + T) % 4294967296, b4, b5, b6] := by
                  rw [rounds_succ, HB1.out, HX.out.1, HX.out.2]
                  show [_, _, _, _, _, _, _, _] = _
                  rw [HTT.out, HUU.out]
                rw [e]
                exact HT2.out.setb hB4 hU4
              case measure => simp [intOf] <;> omega
              --#c }
            · obtain rfl : k = 64 := by omega
              have e64 : ((64 : Nat) : Int) = 64 := rfl
              rw [e64]
              have hr := rounds_ok (K := K) (W := W1) H8.out.2.1 HA.out.2.1 64
              obtain ⟨bl, hbl⟩ : ∃ bl, rounds K W1 bv 64 = bl := ⟨_, rfl⟩
              rw [hbl] at hr hT
              have HBL := Lib.hid hbl
              have HR := Lib.hid hr
              clear HT
              have HT := Lib.hid hT
              clear hbl hr hT hk hlt e64
              go_wp2_with fail
              go_loopw [21, 165] (fun _ i wr => ∃ k : Nat, k ≤ 8 ∧ i = .int .i64 (k : Int) ∧ TurnW w wr n (addH hv bl k) bl (List.replicate 8 0) W1) (fun _ i _ => 8 - (intOf i).toNat)
              case atStart => exact ⟨0, by omega, rfl, HT.out⟩
              case round =>
                clear HT
                obtain ⟨k, hk, rfl, hT⟩ := hrel
                have HT := Lib.hid hT
                by_cases hlt : k < 8
                ·
                  --#d {
                  have hl := addH_len hv bl k
                  have ch := hT.bh.cellU k (by have := H8.out.1; omega)
                  have cb := hT.bb.cellU k (by have := HR.out.1; omega)
                  have fh := hT.bh.frozen k
                  obtain ⟨xh, hxh⟩ : ∃ x, (addH hv bl k).getD k 0 = x := ⟨_, rfl⟩
                  obtain ⟨xb, hxb⟩ : ∃ x, bl.getD k 0 = x := ⟨_, rfl⟩
                  rw [hxh] at ch
                  rw [hxb] at cb
                  have HX := Lib.hid (And.intro hxh hxb)
                  have bk : (k : Int) < 8 := by omega
                  have HS1 : Hid (∀ v, (wr.setCell ⟨n, k, none⟩ v).drew.cell? ⟨n + 1, k, none⟩ = some (.int .u32 xb)) := Lib.hid fun v => by
                    rw [World.cell?_drew]
                    exact (World.cell?_setCell_other _ _ _ _ (by simp)).trans cb
                  clear hT hl hxh hxb
                  go_wp2_with fail
                  go_still_tail 8, (by kernel_rfl)
                  change wpList _ _ _ _ _ wr.drew
                  go_wp2_with fail
                  go_roundw
                  case rel =>
                    refine ⟨k + 1, by omega, by go_num, ?_⟩
                    rw [addH_succ, HX.out.1, HX.out.2]
                    exact HT.out.drew.seth k _
                  case measure => simp [intOf] <;> omega
                  --#d }
                · obtain rfl : k = 8 := by omega
                  have e8 : ((8 : Nat) : Int) = 8 := rfl
                  rw [e8]
                  obtain ⟨rl, hrl⟩ : ∃ rl, addH hv bl 8 = rl := ⟨_, rfl⟩
                  have hrl2 : rl.length = 8 := by rw [← hrl, addH_len]; exact H8.out.1
                  rw [hrl] at HT
                  obtain ⟨r0, r1, r2, r3, r4, r5, r6, r7, rfl⟩ := eight hrl2
                  have HRL := Lib.hid hrl
                  have hone : (arrU [r0, r1, r2, r3, r4, r5, r6, r7]).all (·.oneCell') = true := arrU_one _
                  have HONE := Lib.hid hone
                  clear hrl hrl2 hT hk hlt e8 hone
                  go_wp2_with (first
                    | (refine wpList_load_all rfl _ _ rfl n rfl _ _ _ HT.out.bh Tryz.underlying353 rfl rfl ?_)
                    | (show wpList _ _ _ (⟨none, _, _, _, _, _⟩ :: _) _ _
                       refine wpList_store_all rfl 353 _ _ rfl (n + 1 + 1) _ rfl rfl 353 _ HT.out.br rfl HONE.out (by kernel_rfl) ?_
                       intro w4 hB4 hU4 hz4))
                  have hfin : [r0, r1, r2, r3, r4, r5, r6, r7] = turnL hv bv K l := by
                    unfold turnL
                    rw [HW0.out, HE1.out, HBL.out, HRL.out]
                  refine bodyPost_ret (results_cell_row rfl _ _ (n + 1 + 1) _ _ _ _ rfl hB4 Tryz.underlying353 rfl rfl) rfl ⟨by rw [← hfin], HT.out.upd.then hU4 (fun q hq => .inr (by have := HT.out.new; omega))⟩
end Go.Proofs.YtdfgmieinbmfkaaGreat

/-
  Package sha: New, Write, Sum: a text's hash.
-/

namespace Go.Proofs.YtdfgmieinbmfkaaGreat
open Go Go.RowKit

theorem built_begin : Tryz.prog.built 353 [(0, .int .u32 0x6a09e667), (1, .int .u32 0xbb67ae85), (2, .int .u32 0x3c6ef372), (3, .int .u32 0xa54ff53a), (4, .int .u32 0x510e527f), (5, .int .u32 0x9b05688c), (6, .int .u32 0x1f83d9ab), (7, .int .u32 0x5be0cd19)] = some (arrU hash0) := by kernel_rfl
theorem built_numbers : Tryz.prog.built 352 [(0, .int .u32 0x428a2f98), (1, .int .u32 0x71374491), (2, .int .u32 0xb5c0fbcf), (3, .int .u32 0xe9b5dba5), (4, .int .u32 0x3956c25b), (5, .int .u32 0x59f111f1), (6, .int .u32 0x923f82a4), (7, .int .u32 0xab1c5ed5), (8, .int .u32 0xd807aa98), (9, .int .u32 0x12835b01), (10, .int .u32 0x243185be), (11, .int .u32 0x550c7dc3), (12, .int .u32 0x72be5d74), (13, .int .u32 0x80deb1fe), (14, .int .u32 0x9bdc06a7), (15, .int .u32 0xc19bf174), (16, .int .u32 0xe49b69c1), (17, .int .u32 0xefbe4786), (18, .int .u32 0x0fc19dc6), (19, .int .u32 0x240ca1cc), (20, .int .u32 0x2de92c6f), (21, .int .u32 0x4a7484aa), (22, .int .u32 0x5cb0a9dc), (23, .int .u32 0x76f988da), (24, .int .u32 0x983e5152), (25, .int .u32 0xa831c66d), (26, .int .u32 0xb00327c8), (27, .int .u32 0xbf597fc7), (28, .int .u32 0xc6e00bf3), (29, .int .u32 0xd5a79147), (30, .int .u32 0x06ca6351), (31, .int .u32 0x14292967), (32, .int .u32 0x27b70a85), (33, .int .u32 0x2e1b2138), (34, .int .u32 0x4d2c6dfc), (35, .int .u32 0x53380d13), (36, .int .u32 0x650a7354), (37, .int .u32 0x766a0abb), (38, .int .u32 0x81c2c92e), (39, .int .u32 0x92722c85), (40, .int .u32 0xa2bfe8a1), (41, .int .u32 0xa81a664b), (42, .int .u32 0xc24b8b70), (43, .int .u32 0xc76c51a3), (44, .int .u32 0xd192e819), (45, .int .u32 0xd6990624), (46, .int .u32 0xf40e3585), (47, .int .u32 0x106aa070), (48, .int .u32 0x19a4c116), (49, .int .u32 0x1e376c08), (50, .int .u32 0x2748774c), (51, .int .u32 0x34b0bcb5), (52, .int .u32 0x391c0cb3), (53, .int .u32 0x4ed8aa4a), (54, .int .u32 0x5b9cca4f), (55, .int .u32 0x682e6ff3), (56, .int .u32 0x748f82ee), (57, .int .u32 0x78a5636f), (58, .int .u32 0x84c87814), (59, .int .u32 0x8cc70208), (60, .int .u32 0x90befffa), (61, .int .u32 0xa4506ceb), (62, .int .u32 0xbef9a3f7), (63, .int .u32 0xc67178f2)] = some (arrU hashK) := by kernel_rfl
/-- A text that is written: its cells. -/
def shaRow (h : List Int) (rest : Value) (n : Nat) : Array Value := ((h ++ hashK).map (Value.int .u32) ++ [rest, .int .i64 (n : Int), .bool true]).toArray
theorem built_sha : Tryz.prog.built 474 [(0, .agg (arrU hash0)), (1, .agg (arrU hashK)), (4, .bool true)] = some (shaRow hash0 (.slice none 0 0) 0) := by kernel_rfl
set_option maxRecDepth 100000 in
theorem begin_c (w : World) : Calls Tryz.prog 366 #[] w fun e w' => e = .returned (.agg (arrU hash0)) ∧ Upd (fun _ => False) w w' := by
  go_enter Tryz.func366, Tryz.ntmps366
  go_wp2_with fail
  refine bodyPost_ret (results_cell_row rfl _ _ w.heap.size _ _ _ _ rfl (Blk.new w _ _) Tryz.underlying353 rfl rfl) rfl ⟨rfl, (Upd.refl _ w).alloc _⟩
set_option maxRecDepth 100000 in
set_option maxHeartbeats 2000000 in
theorem numbers_c (w : World) : Calls Tryz.prog 367 #[] w fun e w' => e = .returned (.agg (arrU hashK)) ∧ Upd (fun _ => False) w w' := by
  go_enter Tryz.func367, Tryz.ntmps367
  go_wp2_with (first
    | (show wpList _ _ _ (⟨_, Op.build _ _, _, _, _, _⟩ :: _) _ _
       refine wpList_build rfl _ _ rfl (by kernel_rfl) ?_
       rw [show ((Program.built _ _ _).getD #[]) = arrU hashK from by kernel_rfl])
    | (show wpList _ _ _ (⟨none, _, _, _, _, _⟩ :: _) _ _
       refine wpList_store_all rfl 352 _ _ rfl w.heap.size (arrU hashK) rfl rfl 352 _ (Blk.new w _ _) rfl (arrU_one _) (by kernel_rfl) ?_
       intro w4 hB4 hU4 hz4))
  refine bodyPost_ret (results_cell_row rfl _ _ w.heap.size _ _ _ _ rfl hB4 Tryz.underlying352 rfl rfl) rfl ⟨rfl, ((Upd.refl _ w).alloc _).then hU4 (fun q hq => .inr (by omega))⟩
/-- A text is being written: the blocks of the call. -/
structure ShaS (w0 w : World) (x : Nat) (h : List Int) (rest : Value) (n : Nat) : Prop where
  blk : Blk w x 474 (shaRow h rest n)
  len : h.length = 8
  all : AllU h
  new : w0.heap.size ≤ x
  upd : Upd (fun _ => False) w0 w
theorem shaRow_len {h : List Int} (h8 : h.length = 8) : ((h ++ hashK).map (Value.int .u32)).length = 72 := by rw [List.length_map, List.length_append, h8, hashK_ok.1]
theorem shaRow_72 {h : List Int} (h8 : h.length = 8) (rest : Value) (n : Nat) : (shaRow h rest n)[72]? = some rest ∧ (shaRow h rest n)[73]? = some (.int .i64 (n : Int)) ∧ (shaRow h rest n)[74]? = some (.bool true) := by
  have hl := shaRow_len h8
  unfold shaRow
  refine ⟨?_, ?_, ?_⟩ <;> rw [List.getElem?_toArray, List.getElem?_append_right (by omega), hl] <;> rfl
theorem shaRow_h {h : List Int} (h8 : h.length = 8) (rest : Value) (n : Nat) (j : Nat) (v : Value) (hv : (arrU h).toList[j]? = some v) : (shaRow h rest n)[0 + j]? = some v := by
  have hl := shaRow_len h8
  have hv2 : (h.map (Value.int .u32))[j]? = some v := by simpa [arrU] using hv
  have hj : j < h.length := by have := (List.getElem?_eq_some_iff.1 hv2).1; rwa [List.length_map] at this
  unfold shaRow
  rw [List.getElem?_toArray, List.getElem?_append_left (by omega), Nat.zero_add, List.map_append, List.getElem?_append_left (by rw [List.length_map]; exact hj)]
  exact hv2
theorem shaRow_k {h : List Int} (h8 : h.length = 8) (rest : Value) (n : Nat) (j : Nat) (hj : j < 64) : (shaRow h rest n)[8 + j]? = some (.int .u32 (hashK.getD j 0)) := by
  have hl := shaRow_len h8
  have hk : j < hashK.length := by rw [hashK_ok.1]; exact hj
  unfold shaRow
  rw [List.getElem?_toArray, List.getElem?_append_left (by omega), List.getElem?_map, List.getElem?_append_right (by omega), h8, Nat.add_sub_cancel_left, List.getElem?_eq_getElem hk, List.getD_eq_getElem?_getD, List.getElem?_eq_getElem hk]
  rfl
theorem shaRow_set72 {h : List Int} (h8 : h.length = 8) (rest r : Value) (n : Nat) : (shaRow h rest n).setIfInBounds 72 r = shaRow h r n := by
  have hl := shaRow_len h8
  unfold shaRow
  rw [List.setIfInBounds_toArray, List.set_append_right _ _ (by omega), hl]
  rfl
theorem shaRow_set73 {h : List Int} (h8 : h.length = 8) (rest : Value) (n m : Nat) : (shaRow h rest n).setIfInBounds 73 (.int .i64 (m : Int)) = shaRow h rest m := by
  have hl := shaRow_len h8
  unfold shaRow
  rw [List.setIfInBounds_toArray, List.set_append_right _ _ (by omega), hl]
  rfl
theorem shaRow_put {h h' : List Int} (h8 : h.length = 8) (h8' : h'.length = 8) (rest : Value) (n : Nat) : (shaRow h rest n).toList.take 0 ++ (arrU h').toList ++ (shaRow h rest n).toList.drop (0 + (arrU h').size) = (shaRow h' rest n).toList := by
  unfold shaRow
  rw [List.take_zero, List.nil_append, Nat.zero_add, arrU_size, h8']
  simp only [arrU]
  rw [List.map_append, List.map_append, List.append_assoc, List.drop_left' (by rw [List.length_map, h8]), List.append_assoc]
section
variable {w0 w : World} {x : Nat} {h : List Int} {rest : Value} {n : Nat}
theorem ShaS.k_ (s : ShaS w0 w x h rest n) (i : Nat) (hi : i < 64) : w.cell? ⟨x, 8 + i, none⟩ = some (.int .u32 (hashK.getD i 0)) := (s.blk.cell (8 + i)).trans (shaRow_k s.len rest n i hi)
theorem ShaS.c8 {a0 a1 a2 a3 a4 a5 a6 a7 : Int} (s : ShaS w0 w x [a0, a1, a2, a3, a4, a5, a6, a7] rest n) : w.cell? ⟨x, 0, none⟩ = some (.int .u32 a0) ∧ w.cell? ⟨x, 1, none⟩ = some (.int .u32 a1) ∧ w.cell? ⟨x, 2, none⟩ = some (.int .u32 a2) ∧ w.cell? ⟨x, 3, none⟩ = some (.int .u32 a3) ∧ w.cell? ⟨x, 4, none⟩ = some (.int .u32 a4) ∧ w.cell? ⟨x, 5, none⟩ = some (.int .u32 a5) ∧ w.cell? ⟨x, 6, none⟩ = some (.int .u32 a6) ∧ w.cell? ⟨x, 7, none⟩ = some (.int .u32 a7) := by
  refine ⟨?_, ?_, ?_, ?_, ?_, ?_, ?_, ?_⟩ <;> (rw [s.blk.cell]; unfold shaRow; rw [List.getElem?_toArray]; rfl)
theorem ShaS.c72 (s : ShaS w0 w x h rest n) : w.cell? ⟨x, 72, none⟩ = some rest ∧ w.cell? ⟨x, 73, none⟩ = some (.int .i64 (n : Int)) ∧ w.cell? ⟨x, 74, none⟩ = some (.bool true) := by
  obtain ⟨a, b, c⟩ := shaRow_72 s.len rest n
  exact ⟨(s.blk.cell 72).trans a, (s.blk.cell 73).trans b, (s.blk.cell 74).trans c⟩
theorem ShaS.still (s : ShaS w0 w x h rest n) {w' : World} (hu : Upd (fun _ => False) w w') : ShaS w0 w' x h rest n :=
  ⟨s.blk.upd hu (fun e => e), s.len, s.all, s.new, s.upd.then hu (fun _ e => e.elim)⟩
theorem ShaS.rest_ (s : ShaS w0 w x h rest n) (r : Value) : ShaS w0 (w.setCell ⟨x, 72, none⟩ r) x h r n := by
  refine ⟨?_, s.len, s.all, s.new, s.upd.setCell (.inr s.new) _⟩
  have := s.blk.set_ 72 r
  rw [shaRow_set72 s.len] at this
  exact this
theorem ShaS.n_ (s : ShaS w0 w x h rest n) (m : Nat) : ShaS w0 (w.setCell ⟨x, 73, none⟩ (.int .i64 (m : Int))) x h rest m := by
  refine ⟨?_, s.len, s.all, s.new, s.upd.setCell (.inr s.new) _⟩
  have := s.blk.set_ 73 (.int .i64 (m : Int))
  rw [shaRow_set73 s.len] at this
  exact this
theorem ShaS.h_ (s : ShaS w0 w x h rest n) {h' : List Int} (h8 : h'.length = 8) (hh : AllU h') {w' : World} (hb : Blk w' x 474 (shaRow h' rest n)) (hu : Upd (· = x) w w') : ShaS w0 w' x h' rest n :=
  ⟨hb, h8, hh, s.new, s.upd.then hu (fun q hq => .inr (by have := s.new; omega))⟩
/-- Its words, as they are loaded. -/
theorem ShaS.loads (s : ShaS w0 w x h rest n) : (Instr.loadAt 353 (.pointer (some ⟨x, 0, none⟩))).run Tryz.prog w = .ok (.agg (arrU h)) w := by
  have := run_loadAt_mid (P := Tryz.prog) w x 0 353 (arrU h).toList _ (s.blk.range 0 _ (fun j v hv => shaRow_h s.len rest n j v hv)) Tryz.underlying353 rfl (by rw [Array.length_toList, arrU_size, s.len]; kernel_rfl)
  exact this
set_option maxRecDepth 100000 in
theorem shanone_c (s : ShaS w0 w x h rest n) : Calls Tryz.prog 368 #[.pointer (some ⟨x, 0, none⟩)] w fun e w' => e = .returned (.bool false) ∧ w = w' := by
  obtain ⟨-, -, hc⟩ := s.c72
  clear s
  go_enter Tryz.func368, Tryz.ntmps368
  go_wp2_with fail
  go_ret
  exact ⟨rfl, rfl⟩
end
set_option maxRecDepth 100000 in
theorem shanew_c (w : World) : Calls Tryz.prog 268 #[] w fun e w' => ∃ x, e = .returned (.pointer (some ⟨x, 0, none⟩)) ∧ ShaS w w' x hash0 (.slice none 0 0) 0 := by
  go_enter Tryz.func268, Tryz.ntmps268
  go_wp2_with fail
  refine (begin_c _).mono ?_
  rintro e w1 ⟨rfl, hU1⟩
  have H1 := Lib.hid hU1
  clear hU1
  go_wp2_with fail
  refine (numbers_c _).mono ?_
  rintro e w2 ⟨rfl, hU2⟩
  have H2 := Lib.hid hU2
  clear hU2
  go_wp2_with (first
    | (show wpList _ _ _ (⟨_, Op.build _ _, _, _, _, _⟩ :: _) _ _
       refine wpList_build_is rfl _ _ rfl [(0, .agg (arrU hash0)), (1, .agg (arrU hashK)), (4, .bool true)] _ rfl built_sha ?_))
  go_ret
  have hu := H1.out.then H2.out (fun _ e => e.elim)
  exact ⟨_, rfl, Blk.new w2 _ _, hash0_ok.1, hash0_ok.2, hu.size, hu.alloc _⟩
theorem BytesAt.upd {w w' : World} {v : Value} {l : List UInt8} {F : Nat → Prop} (h : BytesAt w v l) (hu : Upd F w w') (hF : ∀ k, v.ownBlock = some k → ¬ F k) : BytesAt w' v l := by
  obtain ⟨A, cap, rfl, h1, h2, h3⟩ := h
  refine ⟨A, cap, rfl, h1, h2, fun hl => ?_⟩
  obtain ⟨b, off, rfl, hb, hc⟩ := h3 hl
  exact ⟨b, off, rfl, Nat.lt_of_lt_of_le hb hu.size, fun i hi => (cell_upd hu hb (hF b rfl) _).trans (hc i hi)⟩
theorem BytesAt.far {w : World} {v : Value} {l : List UInt8} (h : BytesAt w v l) {p : Addr} (hp : v.ownBlock ≠ some p.block) (u : Value) : BytesAt (w.setCell p u) v l :=
  h.upd ((Upd.refl (· = p.block) w).setCell (.inl rfl) u) (fun k hk e => hp (by rw [hk, e]))
theorem BytesAt.of_own {w : World} {v : Value} {l : List UInt8} {n : Nat} (h : Own w 5 1 v n (bytesV l)) : BytesAt w v l := by
  have hn : l.length = n := by have := h.len; simp [bytesV] at this; omega
  subst hn
  obtain ⟨A, cap, rfl, h1, h2⟩ := h.shape
  refine ⟨A, cap, rfl, h1, h2, fun hl => ?_⟩
  obtain ⟨g, cap', e, _, _⟩ := h.head hl
  injection e with e1 e2 e3
  subst e1
  refine ⟨g, 0, rfl, h.lt rfl, fun i hi => ?_⟩
  rw [Nat.zero_add, h.cellAt i (by omega)]
  simp [bytesV, hi]
/-- Its first bytes are left behind. -/
theorem BytesAt.drop {w : World} {b off n cap k : Nat} {l : List UInt8} (h : BytesAt w (.slice (some ⟨b, off, none⟩) n cap) l) (hk : k < n) : BytesAt w (.slice (some ⟨b, off + k, none⟩) (n - k) (cap - k)) (l.drop k) := by
  obtain ⟨A, c2, e, h1, h2, h3⟩ := h
  injection e with e1 e2 e3
  subst e1 e2 e3
  refine ⟨_, _, by rw [List.length_drop], by rw [List.length_drop]; omega, by omega, fun hl => ?_⟩
  obtain ⟨b', off', e, hb, hc⟩ := h3 (by omega)
  injection e with e
  injection e with e1 e2
  subst e1 e2
  refine ⟨b, off + k, rfl, hb, fun i hi => ?_⟩
  rw [List.length_drop] at hi
  rw [Nat.add_assoc, hc (k + i) (by omega)]
  simp [List.getD_eq_getElem?_getD]
theorem BytesAt.none {w : World} (A : Option Addr) (cap : Nat) (hc : cap ≤ maxLen) : BytesAt w (.slice A 0 cap) [] := ⟨A, cap, rfl, Nat.zero_le _, hc, fun h => absurd h (by simp)⟩
/-- How much is left: a loop's measure. -/
def restLen (w : World) (x : Nat) : Nat := match w.cell? ⟨x, 72, none⟩ with | some (.slice _ n _) => n | _ => 0
set_option maxRecDepth 100000 in
set_option maxHeartbeats 2000000 in
theorem shawrite_c {w0 w : World} {x : Nat} (s : ShaS w0 w x hash0 (.slice none 0 0) 0) (t : ByteArray) (ht : t.size ≤ 1000000) :
    Calls Tryz.prog 269 #[.pointer (some ⟨x, 0, none⟩), .string t] w fun e w' => ∃ r, e = .returned (.int .i64 (t.size : Int)) ∧ ShaS w0 w' x (hashN (t.size / 64) hash0 t.data.toList) r t.size ∧ BytesAt w' r (t.data.toList.drop (64 * (t.size / 64))) := by
  obtain ⟨i0, hi0, hz0, hz1, hz2⟩ := info_parts infoU8
  have HS := Lib.hid s
  have H0 := Lib.hid (shanone_c s)
  obtain ⟨c72, c73, -⟩ := s.c72
  have f72 := s.blk.frozen 72
  have f73 := s.blk.frozen 73
  clear s
  go_enter Tryz.func269, Tryz.ntmps269
  go_wp2_with fail
  refine H0.out.mono ?_
  rintro e w' ⟨rfl, rfl⟩
  go_wp2_with (at_builtin
               refine wpList_append_src rfl _ _ _ _ rfl 5 i0 _ 1 1 Tryz.underlying223 hi0 hz0 hz1 hz2 rfl (.slice none 0 0) 0 [] rfl (Own.nil _ _ _) _ t.size (bytesV t.data.toList) rfl (Src.of_string Tryz.underlying9 t) (bytesV_one _) (by unfold maxLen; omega) (by omega) ?_
               intro v2 w2 ho2 hU2 hl2 hs2
               rw [Nat.zero_add, List.nil_append] at ho2
               obtain ⟨A2, cap2, rfl, hA1, hA2⟩ := ho2.shape
               have hS2 := (HS.out.n_ t.size).still (hU2.mono (fun b hb => by simp [Value.ownBlock] at hb))
               have HS2 := Lib.hid (And.intro hS2 ho2)
               have c72 := hS2.c72.1
               have f72 := hS2.blk.frozen 72
               clear hS2 ho2 hU2 hl2 hs2)
  go_loopw [] (fun wr => ∃ (j : Nat) (A : Option Addr) (cap : Nat), 64 * j ≤ t.size ∧ ShaS w0 wr x (hashN j hash0 t.data.toList) (.slice A (t.size - 64 * j) cap) t.size ∧ BytesAt wr (.slice A (t.size - 64 * j) cap) (t.data.toList.drop (64 * j)) ∧ (Value.slice A (t.size - 64 * j) cap).ownBlock ≠ some x) (fun wr => restLen wr x)
  case atStart =>
    have hne := HS2.out.2.ne_blk HS2.out.1.blk (by decide)
    refine ⟨0, A2, cap2, by omega, HS2.out.1.rest_ _, (BytesAt.of_own HS2.out.2).far hne _, hne⟩
  case round =>
    obtain ⟨j, A, cap, hj, hS, hB, hne⟩ := hrel
    have HX := Lib.hid (And.intro hS (And.intro hB hne))
    obtain ⟨c72, c73, -⟩ := hS.c72
    have f72 := hS.blk.frozen 72
    clear HS2 HS H0 hA1 hA2
    by_cases hlt : 64 ≤ t.size - 64 * j
    · obtain ⟨A', cap', e, hcap1, hcap2, hby⟩ := hB
      injection e with e1 e2 e3
      subst e1 e3
      have hl : (t.data.toList.drop (64 * j)).length = t.size - 64 * j := by rw [List.length_drop]; rfl
      rw [hl] at hcap1
      obtain ⟨b, off, rfl, hb, hby⟩ := hby (by omega)
      obtain ⟨L, hL⟩ : ∃ L, t.size - 64 * j = L := ⟨_, rfl⟩
      have HLj := Lib.hid (And.intro hL hj)
      obtain ⟨h, hh⟩ : ∃ h, hashN j hash0 t.data.toList = h := ⟨_, rfl⟩
      have HH := Lib.hid hh
      rw [hL] at c72 HX hlt hl hS hcap1
      rw [hh] at HX hS
      obtain ⟨a0, a1, a2, a3, a4, a5, a6, a7, rfl⟩ := eight hS.len
      have hSd := hS.still (Upd.refl (fun _ => False) wr).drew
      have HSd := Lib.hid hSd
      obtain ⟨q0, q1, q2, q3, q4, q5, q6, q7⟩ := hS.c8
      have HBY := Lib.hid (And.intro hl hby)
      have i1 : (64 : Int) ≤ (L : Int) := by omega
      have i2 : (64 : Int) ≤ (cap : Int) := by omega
      unfold maxLen at hcap2
      clear hS hSd hby e2 hl hL hj hh hne
      go_wp2_with fail
      clear q0 q1 q2 q3 q4 q5 q6 q7
      refine wp_region_noPanic ?_
      refine wp_region_T (S := fun w' => ShaS w0 w' x [a0, a1, a2, a3, a4, a5, a6, a7] (.slice (some ⟨b, off, none⟩) L cap) t.size) (T := fun k => k == 20) (by kernel_rfl) ?_
      have hS0 := HSd.out
      refine wpAnyT_take (i := 0) (v := ?_) rfl (by kernel_rfl) (by kernel_rfl) (by kernel_rfl) (by kernel_rfl) (fun _ _ _ h => h) (takes_yield rfl (Or.inl ⟨by rfl, ?_⟩)) (by assumption) (by kernel_rfl) ?_
      rotate_left 1
      · intro w' hSw; have hq1 := hSw.c72.1; have hq2 := hSw.c8; go_split_ands; first | (go_simp; done) | (go_simp; rfl) | rfl
      simp only [Act.put, List.getElem_toArray, List.getElem_cons_zero, List.setIfInBounds_toArray, List.set_cons_zero, List.set_cons_succ]
      refine wpAnyT_take (i := 1) (v := ?_) rfl (by kernel_rfl) (by kernel_rfl) (by kernel_rfl) (by kernel_rfl) (fun _ _ _ h => h) (takes_yield rfl (Or.inl ⟨by rfl, ?_⟩)) (by assumption) (by kernel_rfl) ?_
      rotate_left 1
      · intro w' hSw; have hq1 := hSw.c72.1; have hq2 := hSw.c8; go_split_ands; first | (go_simp; done) | (go_simp; rfl) | rfl
      simp only [Act.put, List.getElem_toArray, List.getElem_cons_zero, List.getElem_cons_succ, List.setIfInBounds_toArray, List.set_cons_zero, List.set_cons_succ]
      refine wpAnyT_take (i := 2) (v := ?_) rfl (by kernel_rfl) (by kernel_rfl) (by kernel_rfl) (by kernel_rfl) (fun _ _ _ h => h) (takes_yield rfl (Or.inl ⟨by rfl, ?_⟩)) (by assumption) (by kernel_rfl) ?_
      rotate_left 1
      · intro w' hSw; have hq1 := hSw.c72.1; have hq2 := hSw.c8; go_split_ands; first | (go_simp; done) | (go_simp; rfl) | rfl
      simp only [Act.put, List.getElem_toArray, List.getElem_cons_zero, List.getElem_cons_succ, List.setIfInBounds_toArray, List.set_cons_zero, List.set_cons_succ]
      refine wpAnyT_take (i := 3) (v := ?_) rfl (by kernel_rfl) (by kernel_rfl) (by kernel_rfl) (by kernel_rfl) (fun _ _ _ h => h) (takes_yield rfl (Or.inl ⟨by rfl, ?_⟩)) (by assumption) (by kernel_rfl) ?_
      rotate_left 1
      · intro w' hSw; have hq1 := hSw.c72.1; have hq2 := hSw.c8; go_split_ands; first | (go_simp; done) | (go_simp; rfl) | rfl
      simp only [Act.put, List.getElem_toArray, List.getElem_cons_zero, List.getElem_cons_succ, List.setIfInBounds_toArray, List.set_cons_zero, List.set_cons_succ]
      refine wpAnyT_take (i := 4) (v := ?_) rfl (by kernel_rfl) (by kernel_rfl) (by kernel_rfl) (by kernel_rfl) (fun _ _ _ h => h) (takes_yield rfl (Or.inl ⟨by rfl, ?_⟩)) (by assumption) (by kernel_rfl) ?_
      rotate_left 1
      · intro w' hSw; have hq1 := hSw.c72.1; have hq2 := hSw.c8; go_split_ands; first | (go_simp; done) | (go_simp; rfl) | rfl
      simp only [Act.put, List.getElem_toArray, List.getElem_cons_zero, List.getElem_cons_succ, List.setIfInBounds_toArray, List.set_cons_zero, List.set_cons_succ]
      refine wpAnyT_take (i := 5) (v := ?_) rfl (by kernel_rfl) (by kernel_rfl) (by kernel_rfl) (by kernel_rfl) (fun _ _ _ h => h) (takes_yield rfl (Or.inl ⟨by rfl, ?_⟩)) (by assumption) (by kernel_rfl) ?_
      rotate_left 1
      · intro w' hSw; have hq1 := hSw.c72.1; have hq2 := hSw.c8; go_split_ands; first | (go_simp; done) | (go_simp; rfl) | rfl
      simp only [Act.put, List.getElem_toArray, List.getElem_cons_zero, List.getElem_cons_succ, List.setIfInBounds_toArray, List.set_cons_zero, List.set_cons_succ]
      refine wpAnyT_take (i := 6) (v := ?_) rfl (by kernel_rfl) (by kernel_rfl) (by kernel_rfl) (by kernel_rfl) (fun _ _ _ h => h) (takes_yield rfl (Or.inl ⟨by rfl, ?_⟩)) (by assumption) (by kernel_rfl) ?_
      rotate_left 1
      · intro w' hSw; have hq1 := hSw.c72.1; have hq2 := hSw.c8; go_split_ands; first | (go_simp; done) | (go_simp; rfl) | rfl
      simp only [Act.put, List.getElem_toArray, List.getElem_cons_zero, List.getElem_cons_succ, List.setIfInBounds_toArray, List.set_cons_zero, List.set_cons_succ]
      refine wpAnyT_take (i := 7) (v := ?_) rfl (by kernel_rfl) (by kernel_rfl) (by kernel_rfl) (by kernel_rfl) (fun _ _ _ h => h) (takes_yield rfl (Or.inl ⟨by rfl, ?_⟩)) (by assumption) (by kernel_rfl) ?_
      rotate_left 1
      · intro w' hSw; have hq1 := hSw.c72.1; have hq2 := hSw.c8; go_split_ands; first | (go_simp; done) | (go_simp; rfl) | rfl
      simp only [Act.put, List.getElem_toArray, List.getElem_cons_zero, List.getElem_cons_succ, List.setIfInBounds_toArray, List.set_cons_zero, List.set_cons_succ]
      refine wpAnyT_take (i := 8) (v := ?_) rfl (by kernel_rfl) (by kernel_rfl) (by kernel_rfl) (by kernel_rfl) (fun _ _ _ h => h) (takes_yield rfl (Or.inl ⟨by rfl, ?_⟩)) (by assumption) (by kernel_rfl) ?_
      rotate_left 1
      · intro w' hSw; have hq1 := hSw.c72.1; have hq2 := hSw.c8; go_split_ands; first | (go_simp; done) | (go_simp; rfl) | rfl
      simp only [Act.put, List.getElem_toArray, List.getElem_cons_zero, List.getElem_cons_succ, List.setIfInBounds_toArray, List.set_cons_zero, List.set_cons_succ]
      refine wpAnyT_take (i := 9) (v := ?_) rfl (by kernel_rfl) (by kernel_rfl) (by kernel_rfl) (by kernel_rfl) (fun _ _ _ h => h) (takes_yield rfl (Or.inl ⟨by rfl, ?_⟩)) (by assumption) (by kernel_rfl) ?_
      rotate_left 1
      · intro w' hSw; have hq1 := hSw.c72.1; have hq2 := hSw.c8; go_split_ands; first | (go_simp; done) | (go_simp; rfl) | rfl
      simp only [Act.put, List.getElem_toArray, List.getElem_cons_zero, List.getElem_cons_succ, List.setIfInBounds_toArray, List.set_cons_zero, List.set_cons_succ]
      refine wpAnyT_take (i := 10) (v := ?_) rfl (by kernel_rfl) (by kernel_rfl) (by kernel_rfl) (by kernel_rfl) (fun _ _ _ h => h) (takes_yield rfl (Or.inl ⟨by rfl, ?_⟩)) (by assumption) (by kernel_rfl) ?_
      rotate_left 1
      · intro w' hSw; have hq1 := hSw.c72.1; have hq2 := hSw.c8; go_split_ands; first | (go_simp; done) | (go_simp; rfl) | rfl
      simp only [Act.put, List.getElem_toArray, List.getElem_cons_zero, List.getElem_cons_succ, List.setIfInBounds_toArray, List.set_cons_zero, List.set_cons_succ]
      refine wpAnyT_take (i := 11) (v := ?_) rfl (by kernel_rfl) (by kernel_rfl) (by kernel_rfl) (by kernel_rfl) (fun _ _ _ h => h) (takes_yield rfl (Or.inl ⟨by rfl, ?_⟩)) (by assumption) (by kernel_rfl) ?_
      rotate_left 1
      · intro w' hSw; have hq1 := hSw.c72.1; have hq2 := hSw.c8; go_split_ands; first | (go_simp; done) | (go_simp; rfl) | rfl
      simp only [Act.put, List.getElem_toArray, List.getElem_cons_zero, List.getElem_cons_succ, List.setIfInBounds_toArray, List.set_cons_zero, List.set_cons_succ]
      refine wpAnyT_take (i := 12) (v := ?_) rfl (by kernel_rfl) (by kernel_rfl) (by kernel_rfl) (by kernel_rfl) (fun _ _ _ h => h) (takes_yield rfl (Or.inl ⟨by rfl, ?_⟩)) (by assumption) (by kernel_rfl) ?_
      rotate_left 1
      · intro w' hSw; have hq1 := hSw.c72.1; have hq2 := hSw.c8; go_split_ands; first | (go_simp; done) | (go_simp; rfl) | rfl
      simp only [Act.put, List.getElem_toArray, List.getElem_cons_zero, List.getElem_cons_succ, List.setIfInBounds_toArray, List.set_cons_zero, List.set_cons_succ]
      refine wpAnyT_take (i := 13) (v := ?_) rfl (by kernel_rfl) (by kernel_rfl) (by kernel_rfl) (by kernel_rfl) (fun _ _ _ h => h) (takes_yield rfl (Or.inl ⟨by rfl, ?_⟩)) (by assumption) (by kernel_rfl) ?_
      rotate_left 1
      · intro w' hSw; have hq1 := hSw.c72.1; have hq2 := hSw.c8; go_split_ands; first | (go_simp; done) | (go_simp; rfl) | rfl
      simp only [Act.put, List.getElem_toArray, List.getElem_cons_zero, List.getElem_cons_succ, List.setIfInBounds_toArray, List.set_cons_zero, List.set_cons_succ]
      refine wpAnyT_take (i := 14) (v := ?_) rfl (by kernel_rfl) (by kernel_rfl) (by kernel_rfl) (by kernel_rfl) (fun _ _ _ h => h) (takes_yield rfl (Or.inl ⟨by rfl, ?_⟩)) (by assumption) (by kernel_rfl) ?_
      rotate_left 1
      · intro w' hSw; have hq1 := hSw.c72.1; have hq2 := hSw.c8; go_split_ands; first | (go_simp; done) | (go_simp; rfl) | rfl
      simp only [Act.put, List.getElem_toArray, List.getElem_cons_zero, List.getElem_cons_succ, List.setIfInBounds_toArray, List.set_cons_zero, List.set_cons_succ]
      refine wpAnyT_take (i := 15) (v := ?_) rfl (by kernel_rfl) (by kernel_rfl) (by kernel_rfl) (by kernel_rfl) (fun _ _ _ h => h) (takes_yield rfl (Or.inl ⟨by rfl, ?_⟩)) (by assumption) (by kernel_rfl) ?_
      rotate_left 1
      · intro w' hSw; have hq1 := hSw.c72.1; have hq2 := hSw.c8; go_split_ands; first | (go_simp; done) | (go_simp; rfl) | rfl
      simp only [Act.put, List.getElem_toArray, List.getElem_cons_zero, List.getElem_cons_succ, List.setIfInBounds_toArray, List.set_cons_zero, List.set_cons_succ]
      refine wpAnyT_take (i := 16) (v := ?_) rfl (by kernel_rfl) (by kernel_rfl) (by kernel_rfl) (by kernel_rfl) (fun _ _ _ h => h) (takes_yield rfl (Or.inl ⟨by rfl, ?_⟩)) (by assumption) (by kernel_rfl) ?_
      rotate_left 1
      · intro w' hSw; have hq1 := hSw.c72.1; have hq2 := hSw.c8; go_split_ands; first | (go_simp; done) | (go_simp; rfl) | rfl
      simp only [Act.put, List.getElem_toArray, List.getElem_cons_zero, List.getElem_cons_succ, List.setIfInBounds_toArray, List.set_cons_zero, List.set_cons_succ]
      refine wpAnyT_one (i := 17) (by kernel_rfl) rfl (fun K hK => ?_)
      go_simp
      refine (turn_c [a0, a1, a2, a3, a4, a5, a6, a7] [a0, a1, a2, a3, a4, a5, a6, a7] hashK ((t.data.toList.drop (64 * j)).take 64) x 8 b off cap _ HSd.out.len HSd.out.len hashK_ok.1 HSd.out.all HSd.out.all hashK_ok.2 HSd.out.k_ HSd.out.blk.lt (by rw [List.length_take, HBY.out.1]; omega) (by omega) (by omega) hb (fun i hi => by
        rw [World.cell?_drew, HBY.out.2 i (by rw [HBY.out.1]; omega)]; simp [List.getD_eq_getElem?_getD, hi])).mono ?_
      rintro e w3 ⟨rfl, hU3⟩
      have hS3 := HSd.out.still hU3
      refine hK.out _ _ hS3 ?_
      clear hK
      refine wpAnyT_take (i := 18) (v := ?_) rfl (by kernel_rfl) (by kernel_rfl) (by kernel_rfl) (by kernel_rfl) (fun _ _ _ h => h) (takes_yield rfl (Or.inl ⟨by rfl, ?_⟩)) (by assumption) (by kernel_rfl) ?_
      rotate_left 1
      · intro w' hSw; have hq1 := hSw.c72.1; go_split_ands; first | (go_simp; done) | (go_simp; rfl) | rfl
      simp only [Act.put, List.getElem_toArray, List.getElem_cons_zero, List.getElem_cons_succ, List.setIfInBounds_toArray, List.set_cons_zero, List.set_cons_succ]
      refine wpAnyT_take (i := 19) (v := ?_) rfl (by kernel_rfl) (by kernel_rfl) (by kernel_rfl) (by kernel_rfl) (fun _ _ _ h => h) (takes_yield rfl (Or.inl ⟨by rfl, ?_⟩)) (by assumption) (by kernel_rfl) ?_
      rotate_left 1
      · intro w' hSw; have hq1 := hSw.c72.1; go_split_ands; first | (go_simp; done) | (go_simp; rfl) | rfl
      simp only [Act.put, List.getElem_toArray, List.getElem_cons_zero, List.getElem_cons_succ, List.setIfInBounds_toArray, List.set_cons_zero, List.set_cons_succ]
      refine wpAnyT_oneT (i := 20) (by kernel_rfl) rfl (by kernel_rfl) (fun K hK => ?_)
      obtain ⟨h', hh'⟩ : ∃ h', turnL [a0, a1, a2, a3, a4, a5, a6, a7] [a0, a1, a2, a3, a4, a5, a6, a7] hashK ((t.data.toList.drop (64 * j)).take 64) = h' := ⟨_, rfl⟩
      have h8' : h'.length = 8 := by rw [← hh', turnL_len]; rfl
      have hall' : AllU h' := by rw [← hh']; exact turnL_all HSd.out.all
      rw [hh']
      refine step_store_part (by rfl) 353 _ _ (by rfl) x 0 (arrU h') (by rfl) (by rfl) _ _ _ hS3.blk (by rw [arrU_size, h8']; have := shaRow_len hS3.len; simp [shaRow]) (shaRow_put hS3.len h8' _ _) (arrU_one _) (by rw [arrU_size, h8']; kernel_rfl) ?_
      intro w4 hB4 hU4 hz4
      refine hK.out _ _ ?_
      have hS4 := hS3.h_ h8' hall' hB4 hU4
      have HS4 := Lib.hid (And.intro hS4 (And.intro (hU3.trans hU4 (H := (· = x)) (fun _ e => e.elim) (fun _ e => .inl e)) hh'))
      have c72 := hS4.c72.1
      have f72 := hS4.blk.frozen 72
      clear hK hS3 hS4 hB4 hU4 hz4 hh' h8' hall' hU3 hS0
      refine wpAnyT_done (by kernel_rfl) ?_ _
      refine NoPanic.normal ?_
      have hfin : ∀ (A' : Option Addr) (cap' : Nat), BytesAt w4 (.slice A' (L - 64) cap') ((t.data.toList.drop (64 * j)).drop 64) → (Value.slice A' (L - 64) cap').ownBlock ≠ some x →
          (∃ (j : Nat) (A : Option Addr) (cap : Nat), 64 * j ≤ t.size ∧ ShaS w0 (w4.setCell ⟨x, 72, none⟩ (.slice A' (L - 64) cap')) x (hashN j hash0 t.data.toList) (.slice A (t.size - 64 * j) cap) t.size ∧ BytesAt (w4.setCell ⟨x, 72, none⟩ (.slice A' (L - 64) cap')) (.slice A (t.size - 64 * j) cap) (t.data.toList.drop (64 * j)) ∧ (Value.slice A (t.size - 64 * j) cap).ownBlock ≠ some x) ∧
          restLen (w4.setCell ⟨x, 72, none⟩ (.slice A' (L - 64) cap')) x < restLen wr x := by
        intro A' cap' h1 h2
        have hS5 := HS4.out.1.rest_ (.slice A' (L - 64) cap')
        have hm1 : restLen (w4.setCell ⟨x, 72, none⟩ (.slice A' (L - 64) cap')) x = L - 64 := by unfold restLen; rw [hS5.c72.1]
        have hm2 : restLen wr x = L := by unfold restLen; rw [HX.out.1.c72.1]
        refine ⟨⟨j + 1, A', cap', by have := HLj.out.1; omega, ?_, ?_, ?_⟩, by omega⟩
        · rw [hashN_snoc, HH.out, HS4.out.2.2, show t.size - 64 * (j + 1) = L - 64 by have := HLj.out.1; omega]
          exact hS5
        · rw [show t.size - 64 * (j + 1) = L - 64 by have := HLj.out.1; omega, show 64 * (j + 1) = 64 * j + 64 by omega, ← List.drop_drop]
          exact h1.far h2 _
        · rw [show t.size - 64 * (j + 1) = L - 64 by have := HLj.out.1; omega]
          exact h2
      have hB4 : BytesAt w4 (.slice (some ⟨b, off, none⟩) L cap) (t.data.toList.drop (64 * j)) := HX.out.2.1.upd ((Upd.refl (fun _ => False) wr).drew.trans HS4.out.2.1 (H := (· = x)) (fun _ e => e.elim) (fun _ e => .inl e)) (fun k hk e => HX.out.2.2 (by rw [hk, e]))
      have HF := Lib.hid hfin
      have HB4 := Lib.hid (And.intro hB4 HX.out.2.2)
      clear hfin hB4
      by_cases hcapL : cap = 64
      · subst hcapL
        obtain rfl : L = 64 := by omega
        go_wp2_with fail
        refine HF.out _ _ ?_ HB4.out.2
        rw [List.drop_of_length_le (by rw [HBY.out.1]; omega)]
        exact BytesAt.none _ _ (by unfold maxLen; omega)
      · go_wp2_with fail
        refine HF.out _ _ ?_ HB4.out.2
        by_cases hL64 : L = 64
        · subst hL64
          rw [List.drop_of_length_le (by rw [HBY.out.1]; omega)]
          exact BytesAt.none _ _ (by unfold maxLen; omega)
        · exact HB4.out.1.drop (by omega)
    · have hl := Lib.hid (show t.size / 64 = j by omega)
      have hlt' : t.size - 64 * j < 64 := by omega
      go_wp2_with fail
      go_ret
      rw [hl.out]
      exact ⟨_, rfl, HX.out.1, HX.out.2.1⟩
end Go.Proofs.YtdfgmieinbmfkaaGreat

/-
  Package sha: Sum: a text's hash.
-/
namespace Go.Proofs.YtdfgmieinbmfkaaGreat
open Go Go.RowKit

/-- Bytes as the values of an array. -/
def arrB (l : List UInt8) : Array Value := (bytesV l).toArray
theorem arrB_size (l : List UInt8) : (arrB l).size = l.length := by simp [arrB, bytesV]
theorem arrB_one (l : List UInt8) : (arrB l).all (·.oneCell') = true := by simp [arrB, bytesV, Value.oneCell']
theorem BytesAt.src {w : World} {v : Value} {l : List UInt8} (h : BytesAt w v l) : Src Tryz.prog w 223 1 v l.length (bytesV l) := by
  obtain ⟨A, cap, rfl, h1, h2, h3⟩ := h
  by_cases h0 : l = []
  · subst h0
    cases A with
    | none => exact Src.of_nil Tryz.underlying223 _
    | some a => exact Src.of_addr Tryz.underlying223 a 0 cap rfl (fun j u e => by simp [bytesV] at e)
  · obtain ⟨b, off, rfl, hb, hc⟩ := h3 (List.length_pos_iff.2 h0)
    refine Src.of_addr Tryz.underlying223 _ _ _ (by simp [bytesV]) (fun j u e => ?_)
    have hj : j < l.length := by have := (List.getElem?_eq_some_iff.1 e).1; simpa [bytesV] using this
    rw [Addr.add_mid, hc j hj, ← e]
    simp [bytesV, hj]
def lenSl : Value → Nat
  | .slice _ n _ => n
  | _ => 0
/-- A slice that the call made behind the world w1. -/
structure SumS (w1 wr : World) (v : Value) (ls : List UInt8) : Prop where
  own : Own wr 5 1 v ls.length (bytesV ls)
  upd : Upd (fun _ => False) w1 wr
  far : ∀ q, v.ownBlock = some q → w1.heap.size ≤ q
theorem SumS.next {w1 wr w2 w3 : World} {v v' : Value} {ls l2 : List UInt8} {m : Nat} {xs : List Value} (s : SumS w1 wr v ls) (ha : Upd (fun _ => False) wr w2) (ho : Own w3 5 1 v' m xs) (hm : m = (ls ++ l2).length) (hx : xs = bytesV (ls ++ l2)) (hU : Upd (fun k => v.ownBlock = some k) w2 w3)
    (hl : v'.ownBlock = v.ownBlock ∨ v'.ownBlock = some w2.heap.size) : SumS w1 w3 v' (ls ++ l2) := by
  subst hm hx
  refine ⟨ho, (s.upd.then ha (fun _ e => e.elim)).then hU (fun q hq => .inr (s.far q hq)), fun q hq => ?_⟩
  rcases hl with e | e
  · rw [e] at hq; exact s.far q hq
  · rw [e] at hq
    have := Option.some.inj hq
    have h1 := s.upd.size
    have h2 := ha.size
    omega
set_option maxRecDepth 100000 in
theorem run_index8 (w : World) (l : List Int) (hl : l.length = 8) (k : Nat) (hk : k < 8) : (Instr.index 353 (.agg (arrU l)) (.int .i64 (k : Int))).run Tryz.prog w = .ok (.int .u32 (l.getD k 0)) w := by
  obtain ⟨a, b, c, d, e, f, g, i, rfl⟩ := eight hl
  have h : k = 0 ∨ k = 1 ∨ k = 2 ∨ k = 3 ∨ k = 4 ∨ k = 5 ∨ k = 6 ∨ k = 7 := by omega
  rcases h with rfl | rfl | rfl | rfl | rfl | rfl | rfl | rfl <;> rfl
/-- copy of bytes into a row of bytes. -/
theorem copy_bytes {w : World} {g off n cap : Nat} {T : TypeId} {l0 l : List UInt8} {v : Value} (hB : Blk w g T (arrB l0)) (hs : BytesAt w v l) (hn : l.length ≤ n) (hf : off + l.length ≤ l0.length) :
    ∃ W r, (Builtin.copy_ #[223, 223] 3 #[.slice (some ⟨g, off, none⟩) n cap, v]).run Tryz.prog w = .ok r W ∧ Blk W g T (arrB (l0.take off ++ l ++ l0.drop (off + l.length))) ∧ Upd (· = g) w W ∧ W.heap.size = w.heap.size := by
  obtain ⟨A, c, rfl, h1, h2, h3⟩ := hs
  by_cases h0 : l = []
  · subst h0
    refine ⟨w, goInt 0, run_copy_none w _ _ _ 5 _ _ _ _ _ _ Tryz.underlying223 (by kernel_rfl) (by simp), ?_, Upd.refl _ _, rfl⟩
    simpa using hB
  · obtain ⟨b, o, rfl, hb, hc⟩ := h3 (List.length_pos_iff.2 h0)
    have hrun := run_copy_row (P := Tryz.prog) w 223 223 3 5 g off n cap ⟨b, o, none⟩ l.length c (arrB l0) T (bytesV l) Tryz.underlying223 (by kernel_rfl) hB (by rw [bytesV_len]; exact (Nat.min_eq_left hn).symm) (fun j u e => by
      have hj : j < l.length := by have := (List.getElem?_eq_some_iff.1 e).1; simpa [bytesV] using this
      rw [Addr.add_mid, hc j hj, ← e]
      simp [bytesV, hj]) (by rw [bytesV_len, arrB_size]; exact hf) (bytesV_one _)
    refine ⟨_, _, hrun, ?_, Upd.setRow_ _ _ _, by simp [World.setRow]⟩
    have e : ((arrB l0).toList.take off ++ bytesV l ++ (arrB l0).toList.drop (off + (bytesV l).length)).toArray = arrB (l0.take off ++ l ++ l0.drop (off + l.length)) := by
      simp [arrB, bytesV, List.map_take, List.map_drop]
    rw [e]
    exact hB.setRow _
theorem step_copy_run {P : Program} {ops : Array Oper} {o : Oper} {a : Act} {w w' : World} {K : Act → World → Prop} {Q : Exit → Act → World → Prop} {E : Prop} (hgd : o.guard = none) (d s : Operand) (dT sT : TypeId)
    (ho : o.op = .call { callee := .builtin .copy, args := #[d, s], argTypes := #[dT, sT] }) {vd vs r : Value} (hd : a.eval d = vd) (hs : a.eval s = vs) (hrun : (Builtin.copy_ #[dT, sT] o.type #[vd, vs]).run P w = .ok r w')
    (h : K (a.put o.dst r) w') : if Region.wanted o (yielded ops a.tmps) = true then Oper.wp P o a w K Q else E := by
  have hw : Region.wanted o (yielded ops a.tmps) = true := by simp [Region.wanted, hgd]
  rw [if_pos hw]
  subst hd hs
  unfold Oper.wp
  simp [execOp, ho, resolve, invoke, builtin, hrun, Result.andThen]
  exact h
theorem wpList_copy_run {P : Program} {ops : Array Oper} {rest : List Oper} {o : Oper} {a : Act} {w w' : World} {Q : Exit → Act → World → Prop} (hgd : o.guard = none) (d s : Operand) (dT sT : TypeId)
    (ho : o.op = .call { callee := .builtin .copy, args := #[d, s], argTypes := #[dT, sT] }) {vd vs r : Value} (hd : a.eval d = vd) (hs : a.eval s = vs) (hrun : (Builtin.copy_ #[dT, sT] o.type #[vd, vs]).run P w = .ok r w')
    (h : wpList P ops Q rest (a.put o.dst r) w') : wpList P ops Q (o :: rest) a w := by
  refine wpList_plain hgd fun K hK => ?_
  subst hd hs
  unfold Oper.wp
  simp [execOp, ho, resolve, invoke, builtin, hrun, Result.andThen]
  exact hK _ _ h
theorem outL_pad {l : List Int} (hl : l.length = 8) (k : Nat) (hk : k ≤ 8) : (outL (l.take k) ++ List.replicate (32 - 4 * k) 0).length = 32 := by
  rw [List.length_append, outL_len, List.length_take, List.length_replicate]
  omega
theorem outL_step {l : List Int} (k : Nat) (hk : k < l.length) (hl : l.length = 8) : (outL (l.take k) ++ List.replicate (32 - 4 * k) 0).take (4 * k) ++ beB (l.getD k 0).toNat 4 ++ (outL (l.take k) ++ List.replicate (32 - 4 * k) 0).drop (4 * k + 4) = outL (l.take (k + 1)) ++ List.replicate (32 - 4 * (k + 1)) 0 := by
  have h1 : (outL (l.take k)).length = 4 * k := by rw [outL_len, List.length_take]; omega
  have h2 : outL (l.take (k + 1)) = outL (l.take k) ++ beB (l.getD k 0).toNat 4 := by
    rw [List.take_succ_eq_append_getElem hk]
    unfold outL
    rw [List.flatMap_append, List.getD_eq_getElem?_getD, List.getElem?_eq_getElem hk]
    simp
  rw [List.take_append_of_le_length (by omega), List.take_of_length_le (by omega), ← h1, List.drop_length_add_append, List.drop_replicate, h2]
  congr 2
  omega
set_option maxRecDepth 100000 in
set_option maxHeartbeats 4000000 in
theorem shasum_c {w0 w : World} {x : Nat} {h : List Int} {r : Value} {n : Nat} {l : List UInt8} (s : ShaS w0 w x h r n) (hb : BytesAt w r l) (hl : l.length < 64) (hn : n ≤ 1000000) :
    Calls Tryz.prog 270 #[.pointer (some ⟨x, 0, none⟩)] w fun e w' => e = .returned (.agg (arrB (outL (hashN ((padB l n).length / 64) h (padB l n))))) ∧ Upd (fun _ => False) w w' := by
  obtain ⟨i0, hi0, hz0, hz1, hz2⟩ := info_parts infoU8
  have HB0 := Lib.hid hb
  obtain ⟨A, cap, rfl, hcap1, hcap2, hby⟩ := hb
  have HS := Lib.hid (And.intro s hby)
  have H0 := Lib.hid (fun W (hu : Upd (fun _ => False) w W) => shanone_c (s.still hu))
  obtain ⟨P, hP⟩ : ∃ P, padB l n = P := ⟨_, rfl⟩
  rw [hP]
  have HPP := Lib.hid hP
  clear s hby hP
  go_enter Tryz.func270, Tryz.ntmps270
  go_wp2_with fail
  refine (H0.out _ ((Upd.refl _ w).alloc _)).mono ?_
  rintro e w' ⟨rfl, rfl⟩
  generalize hw1 : w.alloc (Obj.cells _ _) = w1
  have hU1 : Upd (fun _ => False) w w1 := by rw [← hw1]; exact (Upd.refl _ w).alloc _
  have hO1 : Blk w1 w.heap.size 70 (arrB (List.replicate 32 0)) := by rw [← hw1]; exact Blk.new w _ _
  have c72 := (HS.out.1.still hU1).c72.1
  have hxl : x < w1.heap.size := (HS.out.1.still hU1).blk.lt
  have HW1 := Lib.hid (And.intro hU1 hO1)
  clear hw1 hU1 hO1
  obtain ⟨g, hg⟩ : ∃ g, w.heap.size = g := ⟨_, rfl⟩
  rw [hg]
  have HG := Lib.hid hg
  clear hg
  have HSZ := Lib.hid (show w.heap.size < w1.heap.size from by have := HW1.out.2.lt; omega)
  go_wp2_with (first
    | (at_builtin
       refine wpList_append_src rfl _ _ _ _ rfl 5 i0 _ 1 1 Tryz.underlying223 hi0 hz0 hz1 hz2 rfl (.slice A2 l.length cap2) l.length (bytesV l) rfl (HO2.out.1.alloc _) _ 1 [.int .u8 128] rfl (Src.of_new Tryz.underlying223 _) (by simp [Value.oneCell']) (by unfold maxLen; omega) (by omega) ?_
       intro v3 w3 ho3 hU3 hl3 hs3
       obtain ⟨A3, cap3, rfl, hA3, hA4⟩ := ho3.shape
       have HO3 := Lib.hid (And.intro ho3 (And.intro hU3 hl3))
       clear ho3 hU3 hl3 hs3 hA3 hA4)
    | (at_builtin
       refine wpList_append_src rfl _ _ _ _ rfl 5 i0 _ 1 1 Tryz.underlying223 hi0 hz0 hz1 hz2 rfl (.slice (some ⟨w1.heap.size, 0, none⟩) 0 0) 0 (bytesV []) rfl (own_bytes w1 [] (by simp)) _ l.length (bytesV l) rfl ((HB0.out.upd (HW1.out.1.alloc _) (fun _ _ e => e)).src) (bytesV_one _) (by unfold maxLen; omega) (by omega) ?_
       intro v2 w2 ho2 hU2 hl2 hs2
       rw [Nat.zero_add, show bytesV [] = [] from rfl, List.nil_append] at ho2
       obtain ⟨A2, cap2, rfl, hA1, hA2⟩ := ho2.shape
       have HO2 := Lib.hid (And.intro ho2 (And.intro hU2 hl2))
       clear ho2 hU2 hl2 hs2 c72 hA1 hA2))
  have hS2 : SumS w1 w2 (.slice A2 l.length cap2) l := by
    refine ⟨HO2.out.1, ((Upd.refl _ w1).alloc _).then HO2.out.2.1 (fun q hq => .inr (by have e : w1.heap.size = q := Option.some.inj hq; omega)), fun q hq => ?_⟩
    rcases HO2.out.2.2 with e | e
    · rw [e] at hq; have e2 : w1.heap.size = q := Option.some.inj hq; omega
    · rw [e] at hq; have e2 := Option.some.inj hq; simp at e2; omega
  have hS3 : SumS w1 w3 (.slice A3 (l.length + 1) cap3) (l ++ [128]) := hS2.next ((Upd.refl _ w2).alloc _) HO3.out.1 (by simp) (by rw [bytesV_app]; rfl) HO3.out.2.1 HO3.out.2.2
  have HS3 := Lib.hid hS3
  obtain ⟨K, hK⟩ : ∃ K, (119 - l.length % 64) % 64 = K := ⟨_, rfl⟩
  have HK := Lib.hid (show K ≤ 63 ∧ ∀ k, k ≤ K → ((l.length + 1 + k) % 64 = 56 ↔ k = K) from ⟨by omega, fun k hk => by omega⟩)
  have HK2 := Lib.hid hK
  clear hS2 hS3 HO2 HO3 HSZ hK
  go_loopw [3] (fun u wr => ∃ k : Nat, k ≤ K ∧ SumS w1 wr u (l ++ 128 :: List.replicate k 0)) (fun u _ => 200 - lenSl u)
  case atStart => exact ⟨0, by omega, HS3.out⟩
  case round =>
    clear HS3
    obtain ⟨k, hk, hS⟩ := hrel
    have hls : (l ++ 128 :: List.replicate k 0).length = l.length + 1 + k := by simp; omega
    have ho := hS.own
    rw [hls] at ho
    obtain ⟨A5, cap5, rfl, hA5, hA6⟩ := ho.shape
    have HS5 := Lib.hid (And.intro hS (And.intro ho hls))
    obtain ⟨m, hm⟩ : ∃ m, l.length + 1 + k = m := ⟨_, rfl⟩
    rw [hm] at HS5 hA5 ⊢
    have HM := Lib.hid hm
    by_cases hlt : k < K
    · have h56 : ((m : Int) % 64 != 56) = true := by have := (HK.out.2 k hk); simp; omega
      clear hS ho hls hm hA5 hA6
      have hA7 : m ≤ 190 := by have := HM.out; have := HK.out.1; omega
      go_wp2_with (at_builtin
                   refine wpList_append_src rfl _ _ _ _ rfl 5 i0 _ 1 1 Tryz.underlying223 hi0 hz0 hz1 hz2 rfl (.slice A5 m cap5) m _ rfl (HS5.out.2.1.alloc _) _ 1 [.int .u8 0] rfl (Src.of_new Tryz.underlying223 _) (by simp [Value.oneCell']) (by unfold maxLen; omega) (by omega) ?_
                   intro v3 w3 ho3 hU3 hl3 hs3
                   obtain ⟨A3, cap3, rfl, hA3, hA4⟩ := ho3.shape
                   have hS6 : SumS w1 w3 (.slice A3 (m + 1) cap3) (l ++ 128 :: List.replicate k 0 ++ [0]) := HS5.out.1.next (l2 := [0]) ((Upd.refl _ wr).alloc _) ho3 (by rw [List.length_append, HS5.out.2.2]; rfl) (by rw [bytesV_app (l ++ 128 :: List.replicate k 0) [0]]; rfl) hU3 hl3
                   have HS6 := Lib.hid hS6
                   clear hS6 ho3 hU3 hl3 hs3 hA3 hA4)
      go_roundw
      case rel =>
        refine ⟨k + 1, by omega, ?_⟩
        have e : l ++ 128 :: List.replicate (k + 1) 0 = l ++ 128 :: List.replicate k 0 ++ [0] := by rw [List.replicate_succ', List.append_assoc]; rfl
        rw [e]
        exact HS6.out
      case measure => simp [lenSl]; omega
    · obtain rfl : k = K := by omega
      have h56 : ((m : Int) % 64 != 56) = false := by have := (HK.out.2 k hk); simp; omega
      have hS7 := HW1.out.1.then HS5.out.1.upd (fun _ e => e.elim)
      have hS8 := HS.out.1.still hS7
      obtain ⟨c72, c73, -⟩ := hS8.c72
      obtain ⟨a0, a1, a2, a3, a4, a5, a6, a7, rfl⟩ := eight hS8.len
      have hn8 : (n : Int) * 8 = ((8 * n : Nat) : Int) := by omega
      clear hS ho hls hm hA5 hA6 hS7 hS8
      go_wp2_with fail
      rw [show (8 * (n : Int)) = ((8 * n : Nat) : Int) by omega]
      refine (putBig_sha _ m _ (8 * n) 8 wr HS5.out.2.1 (by omega) (by have := HM.out; have := HK.out.1; omega)).mono ?_
      rintro e w8 ⟨v8, rfl, ho8, hU8, hl8⟩
      have hP := HPP.out
      have hpe : l ++ 128 :: List.replicate k 0 ++ beB (8 * n) 8 = P := by
        rw [← hP]
        unfold padB
        rw [HK2.out, List.append_assoc]
        rfl
      have hpl : P.length = m + 8 := by rw [← hpe, List.length_append, HS5.out.2.2, beB_len]
      have hpd := padB_len l n hl
      rw [hP] at hpd
      have hu8 : Upd (fun _ => False) w1 w8 := HS5.out.1.upd.then hU8 (fun q hq => .inr (HS5.out.1.far q hq))
      have hfar : ∀ q, v8.ownBlock = some q → w1.heap.size ≤ q := by
        intro q hq
        rcases hl8 with e | ⟨q2, e, h2⟩
        · rw [e] at hq; exact HS5.out.1.far q hq
        · rw [e] at hq; have := Option.some.inj hq; have := HS5.out.1.upd.size; omega
      rw [← bytesV_app, hpe, ← hpl] at ho8
      have hby := BytesAt.of_own ho8
      obtain ⟨A8, cap8, rfl, hA8, hA9⟩ := ho8.shape
      have HPL := Lib.hid hpl
      have HP := Lib.hid (And.intro hP (And.intro hpd (And.intro hu8 (And.intro hfar hby))))
      have hc8 := ((HW1.out.1.then hu8 (fun _ e => e.elim)))
      have hS8 := HS.out.1.still hc8
      obtain ⟨c72, c73, -⟩ := hS8.c72
      obtain ⟨q0, q1, q2, q3, q4, q5, q6, q7⟩ := hS8.c8
      have HS8 := Lib.hid hS8
      clear hP hpe hpl hpd hu8 hfar hby ho8 hU8 hl8 hc8 hS8
      go_wp2_with fail
      clear q0 q1 q2 q3 q4 q5 q6 q7 c72 c73
      obtain ⟨hb, hhb⟩ : ∃ hb, w8.heap.size = hb := ⟨_, rfl⟩
      rw [hhb]
      have hstart : ∃ (j : Nat) (A : Option Addr) (cap : Nat), Value.slice A8 P.length cap8 = .slice A (P.length - 64 * j) cap ∧ 64 * j ≤ P.length ∧ Upd (fun _ => False) w8 (w8.alloc (.cells #[Value.int IntKind.u32 a0, Value.int IntKind.u32 a1, Value.int IntKind.u32 a2, Value.int IntKind.u32 a3, Value.int IntKind.u32 a4, Value.int IntKind.u32 a5, Value.int IntKind.u32 a6, Value.int IntKind.u32 a7] 353)) ∧ Blk (w8.alloc (.cells #[Value.int IntKind.u32 a0, Value.int IntKind.u32 a1, Value.int IntKind.u32 a2, Value.int IntKind.u32 a3, Value.int IntKind.u32 a4, Value.int IntKind.u32 a5, Value.int IntKind.u32 a6, Value.int IntKind.u32 a7] 353)) hb 353 (arrU (hashN j [a0, a1, a2, a3, a4, a5, a6, a7] P)) ∧
          BytesAt (w8.alloc (.cells #[Value.int IntKind.u32 a0, Value.int IntKind.u32 a1, Value.int IntKind.u32 a2, Value.int IntKind.u32 a3, Value.int IntKind.u32 a4, Value.int IntKind.u32 a5, Value.int IntKind.u32 a6, Value.int IntKind.u32 a7] 353)) (.slice A (P.length - 64 * j) cap) (P.drop (64 * j)) ∧ (Value.slice A (P.length - 64 * j) cap).ownBlock ≠ some hb := by
        subst hhb
        refine ⟨0, A8, cap8, rfl, by omega, (Upd.refl _ w8).alloc _, Blk.new w8 _ _, HP.out.2.2.2.2.upd ((Upd.refl (fun _ => False) w8).alloc _) (fun _ _ e => e), fun e => ?_⟩
        obtain ⟨A', cap', e1, -, -, h3⟩ := HP.out.2.2.2.2
        injection e1 with e1 e2 e3
        subst e1
        by_cases h0 : 0 < P.length
        · obtain ⟨b, off, rfl, hlt, -⟩ := h3 h0
          have := Option.some.inj e
          simp at this
          omega
        · have := HP.out.2.1
          have h9 : P.length = m + 8 := HPL.out
          omega
      have HST := Lib.hid hstart
      have HHB := Lib.hid hhb
      clear hstart hhb
      generalize (w8.alloc (Obj.cells _ _)) = w9 at HST ⊢
      go_loopw [3] (fun u wr => ∃ (j : Nat) (A : Option Addr) (cap : Nat), u = .slice A (P.length - 64 * j) cap ∧ 64 * j ≤ P.length ∧ Upd (fun _ => False) w8 wr ∧ Blk wr hb 353 (arrU (hashN j [a0, a1, a2, a3, a4, a5, a6, a7] P)) ∧ BytesAt wr (.slice A (P.length - 64 * j) cap) (P.drop (64 * j)) ∧ (Value.slice A (P.length - 64 * j) cap).ownBlock ≠ some hb) (fun u _ => lenSl u)
      case atStart => exact HST.out
      case round =>
        clear HST
        obtain ⟨j, A, cap, rfl, hj, hu, hB, hby, hne⟩ := hrel
        have hok := hashN_ok HS8.out.len HS8.out.all j P
        obtain ⟨h9, hh9⟩ : ∃ h9, hashN j [a0, a1, a2, a3, a4, a5, a6, a7] P = h9 := ⟨_, rfl⟩
        rw [hh9] at hB hok
        by_cases hlt : 64 ≤ P.length - 64 * j
        · obtain ⟨d0, d1, d2, d3, d4, d5, d6, d7, rfl⟩ := eight hok.1
          obtain ⟨A', cap', e, hcap1, hcap2, hbz⟩ := hby
          injection e with e1 e2 e3
          subst e1 e3
          have hl : (P.drop (64 * j)).length = P.length - 64 * j := by rw [List.length_drop]
          rw [hl] at hcap1
          obtain ⟨b, off, rfl, hbl, hbz⟩ := hbz (by omega)
          obtain ⟨L, hL⟩ : ∃ L, P.length - 64 * j = L := ⟨_, rfl⟩
          have HLj := Lib.hid (And.intro hL hj)
          rw [hL] at hlt hl hcap1 hne ⊢
          have HBY := Lib.hid (And.intro hl hbz)
          have hBd := hB.drew
          have HU := Lib.hid (And.intro hu (And.intro hB (And.intro hh9 hok.2)))
          obtain ⟨q0, q1, q2, q3, q4, q5, q6, q7⟩ : wr.cell? ⟨hb, 0, none⟩ = some (.int .u32 d0) ∧ wr.cell? ⟨hb, 1, none⟩ = some (.int .u32 d1) ∧ wr.cell? ⟨hb, 2, none⟩ = some (.int .u32 d2) ∧ wr.cell? ⟨hb, 3, none⟩ = some (.int .u32 d3) ∧ wr.cell? ⟨hb, 4, none⟩ = some (.int .u32 d4) ∧ wr.cell? ⟨hb, 5, none⟩ = some (.int .u32 d5) ∧ wr.cell? ⟨hb, 6, none⟩ = some (.int .u32 d6) ∧ wr.cell? ⟨hb, 7, none⟩ = some (.int .u32 d7) := ⟨hB.cell 0, hB.cell 1, hB.cell 2, hB.cell 3, hB.cell 4, hB.cell 5, hB.cell 6, hB.cell 7⟩
          have i1 : (64 : Int) ≤ (L : Int) := by omega
          have i2 : (64 : Int) ≤ (cap : Int) := by omega
          have HNE := Lib.hid hne
          unfold maxLen at hcap2
          clear hu hB hh9 hok hbz e2 hl hL hj hne hBd
          go_wp2_with fail
          go_still_tail 7, (by kernel_rfl)
          change wpList _ _ _ _ _ wr.drew
          clear q0 q1 q2 q3 q4 q5 q6 q7
          go_wp2_with (first
            | (go_at_call 369
               refine (turn_c [d0, d1, d2, d3, d4, d5, d6, d7] [d0, d1, d2, d3, d4, d5, d6, d7] hashK ((P.drop (64 * j)).take 64) x 8 b off cap _ rfl rfl hashK_ok.1 HU.out.2.2.2 HU.out.2.2.2 hashK_ok.2 (HS8.out.still HU.out.1.drew).k_ (HS8.out.still HU.out.1.drew).blk.lt (by rw [List.length_take, HBY.out.1]; omega) (by omega) (by omega) hbl (fun i hi => by
                 rw [World.cell?_drew, HBY.out.2 i (by rw [HBY.out.1]; omega)]; simp [List.getD_eq_getElem?_getD, hi])).mono ?_
               rintro e w10 ⟨rfl, hU10⟩
               obtain ⟨h', hh'⟩ : ∃ h', turnL [d0, d1, d2, d3, d4, d5, d6, d7] [d0, d1, d2, d3, d4, d5, d6, d7] hashK ((P.drop (64 * j)).take 64) = h' := ⟨_, rfl⟩
               have h8' : h'.length = 8 := by rw [← hh', turnL_len]; rfl
               rw [hh']
               have HU10 := Lib.hid (And.intro hU10 (And.intro h8' hh'))
               clear hU10 h8' hh')
            | (show wpList _ _ _ (⟨none, _, _, _, _, _⟩ :: _) _ _
               refine wpList_store_all rfl 353 _ _ rfl hb (arrU h') rfl rfl 353 _ (HU.out.2.1.upd (Upd.drew (Upd.refl (fun _ => False) wr) |>.then HU10.out.1 (fun _ e => e.elim)) (fun e => e)) (by rw [arrU_size, arrU_size, HU10.out.2.1]; rfl) (arrU_one _) (by rw [arrU_size, HU10.out.2.1]; kernel_rfl) ?_
               intro w11 hB11 hU11 hz11))
          have hfin : ∀ (A' : Option Addr) (cap' : Nat), BytesAt w11 (.slice A' (L - 64) cap') ((P.drop (64 * j)).drop 64) → (Value.slice A' (L - 64) cap').ownBlock ≠ some hb →
              (∃ (j : Nat) (A : Option Addr) (cap : Nat), Value.slice A' (L - 64) cap' = .slice A (P.length - 64 * j) cap ∧ 64 * j ≤ P.length ∧ Upd (fun _ => False) w8 w11 ∧ Blk w11 hb 353 (arrU (hashN j [a0, a1, a2, a3, a4, a5, a6, a7] P)) ∧ BytesAt w11 (.slice A (P.length - 64 * j) cap) (P.drop (64 * j)) ∧ (Value.slice A (P.length - 64 * j) cap).ownBlock ≠ some hb) := by
            intro A' cap' h1 h2
            have e64 : P.length - 64 * (j + 1) = L - 64 := by have := HLj.out.1; omega
            refine ⟨j + 1, A', cap', by rw [e64], by have := HLj.out.1; omega, (HU.out.1.drew.then HU10.out.1 (fun _ e => e.elim)).then hU11 (fun q hq => .inr (by have := HHB.out; omega)), ?_, ?_, ?_⟩
            · rw [hashN_snoc, HU.out.2.2.1, HU10.out.2.2]
              exact hB11
            · rw [e64, show 64 * (j + 1) = 64 * j + 64 by omega, ← List.drop_drop]
              exact h1
            · rw [e64]; exact h2
          have hby2 : BytesAt w11 (.slice (some ⟨b, off, none⟩) L cap) (P.drop (64 * j)) := by
            have h1 : BytesAt wr (.slice (some ⟨b, off, none⟩) L cap) (P.drop (64 * j)) := ⟨_, cap, by rw [HBY.out.1], by rw [HBY.out.1]; exact hcap1, by unfold maxLen; exact hcap2, fun _ => ⟨b, off, rfl, hbl, HBY.out.2⟩⟩
            exact h1.upd (((Upd.refl (fun _ => False) wr).drew.then HU10.out.1 (fun _ e => e.elim)).trans hU11 (H := (· = hb)) (fun _ e => e.elim) (fun _ e => .inl e)) (fun k hk e => HNE.out (by rw [hk, e]))
          go_roundw
          case rel =>
            by_cases hcapL : cap = 64
            · rw [if_pos hcapL, hcapL]
              obtain rfl : L = 64 := by omega
              refine hfin _ _ ?_ HNE.out
              rw [List.drop_of_length_le (by rw [HBY.out.1]; omega)]
              exact BytesAt.none _ _ (by unfold maxLen; omega)
            · rw [if_neg hcapL]
              refine hfin _ _ ?_ HNE.out
              by_cases hL64 : L = 64
              · subst hL64
                rw [List.drop_of_length_le (by rw [HBY.out.1]; omega)]
                exact BytesAt.none _ _ (by unfold maxLen; omega)
              · exact hby2.drop (by omega)
          case measure => simp [lenSl]; omega
        · have hP64 := HP.out.2.1.1
          have hj0 : P.length - 64 * j = 0 := by omega
          have hjq : P.length / 64 = j := by omega
          rw [hj0] at hne hby ⊢
          obtain ⟨d0, d1, d2, d3, d4, d5, d6, d7, rfl⟩ := eight hok.1
          have HU := Lib.hid (And.intro hu (And.intro hB (And.intro hh9 (And.intro hok.2 hjq))))
          have HOB : Hid (Blk wr g 70 (arrB (List.replicate 32 0))) := Lib.hid (by
            rw [← HG.out]
            exact HW1.out.2.upd (HP.out.2.2.1.then hu (fun _ e => e.elim)) (fun e => e))
          clear hP64 hj0 hjq hu hB hh9 hok hne hby hlt hj
          go_wp2_with (first
            | (refine wpList_load_all rfl _ _ rfl hb rfl _ _ _ HU.out.2.1 Tryz.underlying353 rfl rfl ?_))
          go_loopw [51] (fun u wr => ∃ k : Nat, k ≤ 8 ∧ u = .int .i64 (k : Int) ∧ Upd (fun q => q = g) w1 wr ∧ Blk wr g 70 (arrB (outL ([d0, d1, d2, d3, d4, d5, d6, d7].take k) ++ List.replicate (32 - 4 * k) 0))) (fun u _ => 8 - (intOf u).toNat)
          case atStart => exact ⟨0, by omega, rfl, (HP.out.2.2.1.then HU.out.1 (fun _ e => e.elim)).mono (fun _ e => e.elim), HOB.out⟩
          case round =>
            clear HOB
            obtain ⟨k, hk, rfl, hu, hB⟩ := hrel
            have HB := Lib.hid (And.intro hu hB)
            clear hu hB
            by_cases hlt : k < 8
            · have hd : [d0, d1, d2, d3, d4, d5, d6, d7].length = 8 := rfl
              obtain ⟨zk, hzk⟩ : ∃ z, [d0, d1, d2, d3, d4, d5, d6, d7].getD k 0 = z := ⟨_, rfl⟩
              have hix := run_index8 wr [d0, d1, d2, d3, d4, d5, d6, d7] rfl k hlt
              have hzu := HU.out.2.2.2.1.get k
              rw [hzk] at hix hzu
              obtain ⟨z, rfl⟩ : ∃ z : Nat, zk = (z : Int) := ⟨zk.toNat, by have := hzu.1; omega⟩
              have hz1' : z < 4294967296 := by have := hzu.2; omega
              have hstep := outL_step (l := [d0, d1, d2, d3, d4, d5, d6, d7]) k (by simp; omega) rfl
              rw [hzk, Int.toNat_natCast] at hstep
              have HZ := Lib.hid hstep
              have hBd := HB.out.2.drew
              have HBD := Lib.hid hBd
              obtain ⟨q, hq⟩ : ∃ q, 4 * k = q := ⟨_, rfl⟩
              have HQ := Lib.hid hq
              have i1 : (q : Int) ≤ 32 := by omega
              have i0 : (0 : Int) ≤ (q : Int) := by omega
              have i2 : q < 32 := by omega
              have i3 : ¬ 32 = q := by omega
              have i4 : IntKind.i64.wrap (4 * (k : Int)) = (q : Int) := by rw [IntWalk.i64_in _ (by omega)]; omega
              clear hzk hd hzu hstep hBd hq
              go_wp2_with fail
              refine wp_region_noPanic ?_
              refine wp_region_T (S := fun w' => Upd (fun _ => False) wr w') (T := fun k => k == 6) (by kernel_rfl) ?_
              have hS0 := (Upd.refl (fun _ => False) wr).drew
              refine wpAnyT_take (i := 0) (v := ?_) rfl (by kernel_rfl) (by kernel_rfl) (by kernel_rfl) (by kernel_rfl) (fun _ _ _ h => h) (takes_yield rfl (Or.inl ⟨by rfl, ?_⟩)) (by assumption) (by kernel_rfl) ?_
              rotate_left 1
              · intro w' hSw; go_split_ands; first | (go_simp; done) | (go_simp; rfl) | rfl
              simp only [Act.put, List.getElem_toArray, List.getElem_cons_zero, List.setIfInBounds_toArray, List.set_cons_zero, List.set_cons_succ]
              refine wpAnyT_take (i := 1) (v := ?_) rfl (by kernel_rfl) (by kernel_rfl) (by kernel_rfl) (by kernel_rfl) (fun _ _ _ h => h) (takes_yield rfl (Or.inl ⟨by rfl, ?_⟩)) (by assumption) (by kernel_rfl) ?_
              rotate_left 1
              · intro w' hSw; go_split_ands; first | (go_simp; done) | (go_simp; rfl) | rfl
              simp only [Act.put, List.getElem_toArray, List.getElem_cons_zero, List.getElem_cons_succ, List.setIfInBounds_toArray, List.set_cons_zero, List.set_cons_succ]
              refine wpAnyT_take (i := 2) (v := ?_) rfl (by kernel_rfl) (by kernel_rfl) (by kernel_rfl) (by kernel_rfl) (fun _ _ _ h => h) (takes_yield rfl (Or.inl ⟨by rfl, ?_⟩)) (by assumption) (by kernel_rfl) ?_
              rotate_left 1
              · intro w' hSw; go_split_ands; first | (go_simp; done) | (go_simp; rfl) | rfl
              simp only [Act.put, List.getElem_toArray, List.getElem_cons_zero, List.getElem_cons_succ, List.setIfInBounds_toArray, List.set_cons_zero, List.set_cons_succ]
              refine wpAnyT_take (i := 3) (v := ?_) rfl (by kernel_rfl) (by kernel_rfl) (by kernel_rfl) (by kernel_rfl) (fun _ _ _ h => h) (takes_yield rfl (Or.inl ⟨by rfl, ?_⟩)) (by assumption) (by kernel_rfl) ?_
              rotate_left 1
              · intro w' hSw; go_split_ands; first | (go_simp; done) | (go_simp; rfl) | rfl
              simp only [Act.put, List.getElem_toArray, List.getElem_cons_zero, List.getElem_cons_succ, List.setIfInBounds_toArray, List.set_cons_zero, List.set_cons_succ]
              refine wpAnyT_take (i := 4) (v := ?_) rfl (by kernel_rfl) (by kernel_rfl) (by kernel_rfl) (by kernel_rfl) (fun _ _ _ h => h) (takes_yield rfl (Or.inl ⟨by rfl, ?_⟩)) (by assumption) (by kernel_rfl) ?_
              rotate_left 1
              · intro w' hSw; go_split_ands; first | (go_simp; done) | (go_simp; rfl) | rfl
              simp only [Act.put, List.getElem_toArray, List.getElem_cons_zero, List.getElem_cons_succ, List.setIfInBounds_toArray, List.set_cons_zero, List.set_cons_succ]
              refine wpAnyT_one (i := 5) (by kernel_rfl) rfl (fun K hK => ?_)
              go_simp
              clear i4 hix
              rw [u64_wrap z (by omega)]
              refine (putBig_sha (.slice none 0 0) 0 [] z 4 _ (Own.nil _ _ _) (by decide) (by decide)).mono ?_
              rintro e w12 ⟨v12, rfl, ho12, hU12, hl12⟩
              rw [Nat.zero_add, List.nil_append] at ho12
              have hu12 : Upd (fun _ => False) wr.drew w12 := hU12.mono (fun b hb => by simp [Value.ownBlock] at hb)
              have hS1 := hS0.then hu12 (fun _ e => e.elim)
              refine hK.out _ _ hS1 ?_
              have hby := BytesAt.of_own ho12
              have hln := outL_pad (l := [d0, d1, d2, d3, d4, d5, d6, d7]) rfl k hk
              have hlb := beB_len z 4
              have hq := HQ.out
              obtain ⟨W, rv, hcp, hB13, hU13, hz13⟩ := copy_bytes (off := q) (n := 32 - q) (cap := 32 - q) (l := beB z 4) (HBD.out.upd hu12 (fun e => e)) hby (by omega) (by omega)
              obtain ⟨A12, c12, rfl, -, -⟩ := ho12.shape
              clear hK
              refine wpAnyT_oneT (i := 6) (by kernel_rfl) rfl (by kernel_rfl) (fun K hK => ?_)
              refine step_copy_run (by rfl) _ _ _ _ (by rfl) (by rfl) (by rfl) hcp ?_
              refine hK.out _ _ ?_
              rw [hlb, ← hq, HZ.out] at hB13
              have HE := Lib.hid (And.intro hB13 (And.intro hS1 hU13))
              clear hK hcp hB13 hU13 hz13 hS1 hS0 hln hlb hq hby ho12 hU12 hl12 hu12
              refine wpAnyT_done (by kernel_rfl) ?_ _
              refine NoPanic.normal ?_
              go_wp2_with fail
              go_roundw
              case rel => exact ⟨k + 1, by omega, by go_num, (HB.out.1.then HE.out.2.1 (fun _ e => e.elim)).then HE.out.2.2 (fun q hq => .inl hq), HE.out.1⟩
              case measure => simp [intOf] <;> omega
            · obtain rfl : k = 8 := by omega
              have e8 : ((8 : Nat) : Int) = 8 := rfl
              rw [e8]
              have hfin : outL ([d0, d1, d2, d3, d4, d5, d6, d7].take 8) ++ List.replicate (32 - 4 * 8) 0 = outL (hashN (P.length / 64) [a0, a1, a2, a3, a4, a5, a6, a7] P) := by
                rw [HU.out.2.2.2.2, HU.out.2.2.1]
                simp
              have hB := HB.out.2
              rw [hfin] at hB
              obtain ⟨O, hO⟩ : ∃ O, outL (hashN (P.length / 64) [a0, a1, a2, a3, a4, a5, a6, a7] P) = O := ⟨_, rfl⟩
              have hOl : O.length = 32 := by rw [← hO, HU.out.2.2.2.2, HU.out.2.2.1, outL_len]; rfl
              rw [hO] at hB
              have HB2 := Lib.hid (And.intro hB (And.intro hO hOl))
              clear hB hO hOl hfin e8 hlt hk
              go_wp2_with (first
                | (show wpList _ _ _ (⟨none, _, _, _, _, _⟩ :: _) _ _
                   refine wpList_store_all rfl 70 _ _ rfl g (arrB O) rfl rfl 70 _ HB2.out.1 rfl (arrB_one _) (by rw [arrB_size, HB2.out.2.2]; kernel_rfl) ?_
                   intro w14 hB14 hU14 hz14)
                | (refine wpList_load_all rfl _ _ rfl g rfl _ _ _ HB2.out.1 Tryz.underlying70 rfl (by rw [arrB_size, HB2.out.2.2]; kernel_rfl) ?_))
              have hu14 := (HW1.out.1.then HB.out.1 (fun q hq => .inr (by have := HG.out; omega))).then hU14 (fun q hq => .inr (by have := HG.out; omega))
              refine bodyPost_ret (results_cell_row rfl _ _ g _ _ _ _ rfl hB14 Tryz.underlying70 rfl (by rw [arrB_size, HB2.out.2.2]; kernel_rfl)) rfl ⟨by rw [HB2.out.2.1], hu14⟩
set_option maxRecDepth 100000 in
theorem hash_c (t : ByteArray) (ht : t.size ≤ 1000000) (w : World) : Calls Tryz.prog 148 #[.string t] w fun e w' => e = .returned (.agg (arrB (shaL t.data.toList))) ∧ Upd (fun _ => False) w w' := by
  have HD := Lib.hid (show shaL t.data.toList = outL (hashN ((padB (t.data.toList.drop (64 * (t.size / 64))) t.size).length / 64) (hashN (t.size / 64) hash0 t.data.toList) (padB (t.data.toList.drop (64 * (t.size / 64))) t.size)) from rfl)
  obtain ⟨O, hO⟩ : ∃ O, shaL t.data.toList = O := ⟨_, rfl⟩
  have hOl : O.length = 32 := by rw [← hO]; exact shaL_len _
  rw [hO]
  have HO := Lib.hid (And.intro hO hOl)
  clear hO hOl
  go_enter Tryz.func148, Tryz.ntmps148
  go_wp2_with fail
  generalize hw1 : w.alloc (Obj.cells _ _) = w1
  have hU1 : Upd (fun _ => False) w w1 := by rw [← hw1]; exact (Upd.refl _ w).alloc _
  have hO1 : Blk w1 w.heap.size 70 (arrB (List.replicate 32 0)) := by rw [← hw1]; exact Blk.new w _ _
  have HW1 := Lib.hid (And.intro hU1 hO1)
  clear hw1 hU1 hO1
  refine (shanew_c w1).mono ?_
  rintro e w2 ⟨x, rfl, hs2⟩
  have HS2 := Lib.hid hs2
  clear hs2
  go_wp2_with fail
  refine (shawrite_c HS2.out t ht).mono ?_
  rintro e w3 ⟨r, rfl, hs3, hb3⟩
  have HS3 := Lib.hid (And.intro hs3 hb3)
  clear hs3 hb3
  go_wp2_with fail
  refine (shasum_c HS3.out.1 HS3.out.2 (by rw [List.length_drop]; show t.size - _ < 64; omega) ht).mono ?_
  rintro e w4 ⟨rfl, hU4⟩
  rw [← HD.out, HO.out.1]
  have HB4 : Hid (Blk w4 w.heap.size 70 (arrB (List.replicate 32 0))) := Lib.hid (HW1.out.2.upd (HS3.out.1.upd.then hU4 (fun _ e => e.elim)) (fun e => e))
  have HU4 := Lib.hid ((HW1.out.1.then HS3.out.1.upd (fun _ e => e.elim)).then hU4 (fun _ e => e.elim))
  clear hU4
  go_wp2_with (first
    | (show wpList _ _ _ (⟨none, _, _, _, _, _⟩ :: _) _ _
       refine wpList_store_all rfl 70 _ _ rfl w.heap.size (arrB O) rfl rfl 70 _ HB4.out (by rw [arrB_size, arrB_size, HO.out.2]; rfl) (arrB_one _) (by rw [arrB_size, HO.out.2]; kernel_rfl) ?_
       intro w14 hB14 hU14 hz14))
  refine bodyPost_ret (results_cell_row rfl _ _ w.heap.size _ _ _ _ rfl hB14 Tryz.underlying70 rfl (by rw [arrB_size, HO.out.2]; kernel_rfl)) rfl ⟨rfl, HU4.out.then hU14 (fun q hq => .inr (by omega))⟩
end Go.Proofs.YtdfgmieinbmfkaaGreat
