/-
  Package sha: a hash as the program reckons it.
-/
import Derived.Test.YtdfgmieinbmfkaaGreatBig
import Derived.Test.YtdfgmieinbmfkaaGreatPart
import Derived.BigQuiet
import Derived.Deep.RegionHeld3
import Derived.IntWalk
import Derived.Laws.Bits64b
import Derived.Laws.Tables
import Derived.KernelRfl
import Derived.StillTailTactics
import Derived.Laws.Closers25b
namespace Go.Proofs.YtdfgmieinbmfkaaGreat
open Go Go.RowKit

theorem arrU_one (l : List Int) : (arrU l).all (·.oneCell') = true := by simp [arrU, Value.oneCell']
theorem Blk.cellU {w : World} {g : Nat} {t : TypeId} {l : List Int} (h : Blk w g t (arrU l)) (i : Nat) (hi : i < l.length) : w.cell? ⟨g, i, none⟩ = some (.int .u32 (l.getD i 0)) := (h.cell i).trans (arrU_get l i hi)
/-- A slice that reads as these bytes, wherever it lies. -/
def BytesAt (w : World) (v : Value) (l : List UInt8) : Prop :=
  ∃ A cap, v = .slice A l.length cap ∧ l.length ≤ cap ∧ cap ≤ maxLen ∧ (0 < l.length → ∃ b off, A = some ⟨b, off, none⟩ ∧ b < w.heap.size ∧ ∀ i, i < l.length → w.cell? ⟨b, off + i, none⟩ = some (.int .u8 ((l.getD i 0).toNat : Int)))

set_option maxRecDepth 100000 in
theorem rot32_c (x k : Int) (r : Nat) (w : World) (h : U32 x) (hr : r < 32) (hk : bits .and .u64 (IntKind.u64.wrap k) 31 = (r : Int)) :
    Calls Tryz.prog 446 #[.int .u32 x, .int .i64 k] w fun e w' => e = .returned (.int .u32 (rotl x r)) ∧ w = w' := by
  obtain ⟨h0, h1⟩ := h
  have hk2 : IntKind.u64.wrap (32 - (r : Int)) = ((32 - r : Nat) : Int) := by
    simp only [IntKind.wrap, IntKind.bits, IntKind.signed]
    simp
    omega
  go_enter Tryz.func446, Tryz.ntmps446
  go_wp2_with fail
  go_ret
  exact ⟨rfl, rfl⟩
theorem rotA_c (x k : Int) (w : World) (h : U32 x) : Calls Tryz.prog 446 #[.int .u32 x, .int .i64 k] w fun e w' => e = .returned (.int .u32 (rotl x (amt k))) ∧ w' = w := by
  have h1 : IntKind.u64.wrap k = ((IntKind.u64.wrap k).toNat : Int) := by
    rw [IntKind.wrap_u64]; omega
  have h2 : (IntKind.u64.wrap k).toNat < 18446744073709551616 := by
    rw [IntKind.wrap_u64]; omega
  refine (rot32_c x k (amt k) w h (by unfold amt; omega) ?_).mono fun _ _ ⟨a, b⟩ => ⟨a, b.symm⟩
  unfold amt
  rw [h1]
  generalize (IntKind.u64.wrap k).toNat = m at *
  have := bits_and_u64_nat m 31 h2 (by omega)
  rw [show (31 : Int) = ((31 : Nat) : Int) from rfl, this, Int.toNat_natCast, show (31 : Nat) = 2 ^ 5 - 1 from rfl, Nat.and_two_pow_sub_one_eq_mod]
theorem wpList_build_is {P : Program} {ops : Array Oper} {rest : List Oper} {o : Oper} {a : Act} {w : World} {Q : Exit → Act → World → Prop} (hg : o.guard = none) (t : TypeId) (parts : Array (Nat × Operand)) (ho : o.op = .build t parts)
    (vs : List (Nat × Value)) (cells : Array Value) (hv : (parts.map fun (i, x) => (i, a.eval x)).toList = vs) (hb : P.built t vs = some cells)
    (h : wpList P ops Q rest (a.put o.dst (.agg cells)) w) : wpList P ops Q (o :: rest) a w := by
  refine wpList_build hg t parts ho (by rw [hv, hb]; rfl) ?_
  rw [hv, hb]
  exact h
theorem built8 (x0 x1 x2 x3 x4 x5 x6 x7 : Int) : Tryz.prog.built 353 [(0, .int .u32 x0), (1, .int .u32 x1), (2, .int .u32 x2), (3, .int .u32 x3), (4, .int .u32 x4), (5, .int .u32 x5), (6, .int .u32 x6), (7, .int .u32 x7)] = some (arrU [x0, x1, x2, x3, x4, x5, x6, x7]) := by kernel_rfl
/-- A block is being turned: the blocks of the call. -/
structure TurnW (w wr : World) (n : Nat) (h b r wl : List Int) : Prop where
  bh : Blk wr n 353 (arrU h)
  bb : Blk wr (n + 1) 353 (arrU b)
  br : Blk wr (n + 1 + 1) 353 (arrU r)
  bw : Blk wr (n + 1 + 1 + 1) 352 (arrU wl)
  upd : Upd (fun _ => False) w wr
  new : w.heap.size ≤ n
theorem TurnW.setw {w wr : World} {n : Nat} {h b r wl : List Int} (t : TurnW w wr n h b r wl) (i : Nat) (z : Int) : TurnW w (wr.setCell ⟨n + 1 + 1 + 1, i, none⟩ (.int .u32 z)) n h b r (wl.set i z) :=
  ⟨t.bh.far (by simp; omega) _, t.bb.far (by simp) _, t.br.far (by simp) _, by rw [← arrU_set]; exact t.bw.set_ i _, t.upd.setCell (.inr (by have := t.new; simp; omega)) _, t.new⟩
theorem TurnW.seth {w wr : World} {n : Nat} {h b r wl : List Int} (t : TurnW w wr n h b r wl) (i : Nat) (z : Int) : TurnW w (wr.setCell ⟨n, i, none⟩ (.int .u32 z)) n (h.set i z) b r wl :=
  ⟨by rw [← arrU_set]; exact t.bh.set_ i _, t.bb.far (by simp) _, t.br.far (by simp; omega) _, t.bw.far (by simp; omega) _, t.upd.setCell (.inr t.new) _, t.new⟩
theorem TurnW.setb {w wr w2 : World} {n : Nat} {h b r wl b2 : List Int} (t : TurnW w wr n h b r wl) (hb : Blk w2 (n + 1) 353 (arrU b2)) (hu : Upd (· = n + 1) wr w2) : TurnW w w2 n h b2 r wl :=
  ⟨t.bh.upd hu (by omega), hb, t.br.upd hu (by omega), t.bw.upd hu (by omega), t.upd.then hu (fun q hq => .inr (by have := t.new; omega)), t.new⟩
theorem TurnW.b8 {w wr : World} {n : Nat} {h r wl : List Int} {b0 b1 b2 b3 b4 b5 b6 b7 : Int} (t : TurnW w wr n h [b0, b1, b2, b3, b4, b5, b6, b7] r wl) :
    wr.cell? ⟨n + 1, 0, none⟩ = some (.int .u32 b0) ∧ wr.cell? ⟨n + 1, 1, none⟩ = some (.int .u32 b1) ∧ wr.cell? ⟨n + 1, 2, none⟩ = some (.int .u32 b2) ∧ wr.cell? ⟨n + 1, 3, none⟩ = some (.int .u32 b3) ∧
    wr.cell? ⟨n + 1, 4, none⟩ = some (.int .u32 b4) ∧ wr.cell? ⟨n + 1, 5, none⟩ = some (.int .u32 b5) ∧ wr.cell? ⟨n + 1, 6, none⟩ = some (.int .u32 b6) ∧ wr.cell? ⟨n + 1, 7, none⟩ = some (.int .u32 b7) :=
  ⟨t.bb.cell 0, t.bb.cell 1, t.bb.cell 2, t.bb.cell 3, t.bb.cell 4, t.bb.cell 5, t.bb.cell 6, t.bb.cell 7⟩
theorem TurnW.drew {w wr : World} {n : Nat} {h b r wl : List Int} (t : TurnW w wr n h b r wl) : TurnW w wr.drew n h b r wl := ⟨t.bh, t.bb, t.br, t.bw, t.upd.drew, t.new⟩
theorem TurnW.drewN {w wr : World} {n : Nat} {h b r wl : List Int} (t : TurnW w wr n h b r wl) (k : Nat) : TurnW w (wr.drewN k) n h b r wl := ⟨t.bh, t.bb, t.br, t.bw, t.upd.drewN k, t.new⟩
theorem cell_upd {w w' : World} {F : Nat → Prop} (hu : Upd F w w') {b : Nat} (hb : b < w.heap.size) (hn : ¬ F b) (o : Nat) : w'.cell? ⟨b, o, none⟩ = w.cell? ⟨b, o, none⟩ := World.cell?_of_block (w := w) (a := ⟨b, o, none⟩) (hu.block b hb hn)
theorem conv_at (w : World) (b off n cap : Nat) (l : List UInt8) (hl : l.length = n) (hc : ∀ i, i < n → w.cell? ⟨b, off + i, none⟩ = some (.int .u8 ((l.getD i 0).toNat : Int))) :
    (convert 223 9 (.slice (some ⟨b, off, none⟩) n cap)).run Tryz.prog w = .ok (.string (str l)) w := by
  rw [← strOfNums_bytes]
  refine run_convert_bytes_arg w _ _ Tryz.underlying223 Tryz.underlying5 b off n cap _ (by simpa using hl) (fun i hi => ?_) _ Tryz.underlying9
  rw [hc i hi]
  simp [show i < l.length by omega]
set_option maxRecDepth 100000 in
set_option maxHeartbeats 4000000 in
theorem turn_c (hv bv K : List Int) (l : List UInt8) (kb ko b off cap : Nat) (w : World) (h8 : hv.length = 8) (b8 : bv.length = 8) (k64 : K.length = 64) (hH : AllU hv) (hB : AllU bv) (hK : AllU K)
    (hk : ∀ i, i < 64 → w.cell? ⟨kb, ko + i, none⟩ = some (.int .u32 (K.getD i 0))) (hkb : kb < w.heap.size) (hl : l.length = 64) (hc : 64 ≤ cap) (hcm : cap ≤ 9223372036854775807) (hb : b < w.heap.size)
    (hs : ∀ i, i < 64 → w.cell? ⟨b, off + i, none⟩ = some (.int .u8 ((l.getD i 0).toNat : Int))) :
    Calls Tryz.prog 369 #[.agg (arrU hv), .agg (arrU bv), .pointer (some ⟨kb, ko, none⟩), .slice (some ⟨b, off, none⟩) 64 cap] w fun e w' => e = .returned (.agg (arrU (turnL hv bv K l))) ∧ Upd (fun _ => False) w w' := by
  have HK := Lib.hid hk
  have HS := Lib.hid hs
  have HL := Lib.hid hl
  have H8 := Lib.hid (And.intro h8 (And.intro b8 k64))
  have HA := Lib.hid (And.intro hH (And.intro hB hK))
  clear hk hs hl h8 b8 k64 hH hB hK
  go_enter Tryz.func369, Tryz.ntmps369
  go_wp2_with fail
  obtain ⟨n, hn⟩ : ∃ n, w.heap.size = n := ⟨_, rfl⟩
  have HN := Lib.hid hn
  have hbn : b < n := by omega
  have hkn : kb < n := by omega
  clear hb hkb
  rw [hn]
  clear hn
  go_loopw [10, 22] (fun _ i wr => ∃ k : Nat, k ≤ 16 ∧ i = .int .i64 (k : Int) ∧ TurnW w wr n hv bv (List.replicate 8 0) (wIn l k)) (fun _ i _ => 16 - (intOf i).toNat)
  case atStart =>
    have e := HN.out
    refine ⟨0, by omega, rfl, ?_⟩
    subst e
    refine ⟨(((Blk.new w _ _).alloc _).alloc _).alloc _, ?_, ?_, ?_, ((((Upd.refl _ w).alloc _).alloc _).alloc _).alloc _, Nat.le_refl _⟩
    · have h := ((Blk.new (w.alloc (.cells (arrU hv) 353)) 353 (arrU bv)).alloc (.cells (arrU (List.replicate 8 0)) 353)).alloc (.cells (arrU (wIn l 0)) 352)
      rw [World.size_alloc] at h
      exact h
    · have h := (Blk.new ((w.alloc (.cells (arrU hv) 353)).alloc (.cells (arrU bv) 353)) 353 (arrU (List.replicate 8 0))).alloc (.cells (arrU (wIn l 0)) 352)
      rw [World.size_alloc, World.size_alloc] at h
      exact h
    · have h := Blk.new (((w.alloc (.cells (arrU hv) 353)).alloc (.cells (arrU bv) 353)).alloc (.cells (arrU (List.replicate 8 0)) 353)) 352 (arrU (wIn l 0))
      rw [World.size_alloc, World.size_alloc, World.size_alloc] at h
      exact h
  case round =>
    obtain ⟨k, hk, rfl, hT⟩ := hrel
    by_cases hlt : k < 16
    ·
      --#a {
      have HT := Lib.hid hT
      have hcv := conv_at wr b (off + 4 * k) 4 (cap - 4 * k) ((l.drop (4 * k)).take 4) (by have := HL.out; simp; omega) (fun i hi => by
        rw [cell_upd hT.upd (by have := HN.out; omega) (fun e => e), show off + 4 * k + i = off + (4 * k + i) by omega, HS.out (4 * k + i) (by omega)]
        have := HL.out
        simp [List.getD_eq_getElem?_getD, hi])
      have hcw := hT.bw.cellU k (by rw [wIn_len]; omega)
      have hfw := hT.bw.frozen k
      clear hT
      go_wp2_with fail
      refine (getBig_c (str ((l.drop (4 * k)).take 4)) 4 _ (by omega) (by have := HL.out; rw [str_size]; simp; omega)).mono ?_
      rintro e w' ⟨rfl, rfl⟩
      rw [str_list, List.take_take, Nat.min_self]
      go_wp2_with fail
      go_roundw
      case rel =>
        refine ⟨k + 1, by omega, by go_num, ?_⟩
        have e : (beN (List.take 4 (List.drop (4 * k) l)) : Int) % 4294967296 = wordAt l k := Int.emod_eq_of_lt (wordU l k).1 (wordU l k).2
        rw [e, wIn_succ]
        exact HT.out.setw k _
      case measure => simp [intOf] <;> omega
      --#a }
    · obtain rfl : k = 16 := by omega
      have e16 : ((16 : Nat) : Int) = 16 := rfl
      rw [e16]
      clear e16
      have HA1 := Lib.hid (And.intro (wIn_all l 16) (wIn_len l 16))
      have HT := Lib.hid hT
      obtain ⟨W0, hW0⟩ : ∃ W0, wIn l 16 = W0 := ⟨_, rfl⟩
      rw [hW0] at HT HA1
      have HW0 := Lib.hid hW0
      clear hW0 hT hk hlt
      go_wp2_with fail
      go_loopw [11, 12, 13, 14, 15] (fun i _ _ _ _ wr => ∃ k : Nat, k ≤ 64 ∧ 16 ≤ k ∧ i = .int .i64 (k : Int) ∧ TurnW w wr n hv bv (List.replicate 8 0) (wOn W0 (k - 16))) (fun i _ _ _ _ _ => 64 - (intOf i).toNat)
      case atStart => exact ⟨16, by omega, by omega, rfl, HT.out⟩
      case round =>
        clear HT
        obtain ⟨k, hk, hk2, rfl, hT⟩ := hrel
        have HT := Lib.hid hT
        by_cases hlt : k < 64
        ·
          --#b {
          have hln := wOn_len W0 (k - 16)
          have hal := wOn_all HA1.out.1 (k - 16)
          have h64 := HA1.out.2
          obtain ⟨L, hL⟩ : ∃ L, wOn W0 (k - 16) = L := ⟨_, rfl⟩
          have HL1 := Lib.hid hL
          rw [hL] at hT hln hal
          have c15 := hT.bw.cellU (k - 15) (by omega)
          have c2 := hT.bw.cellU (k - 2) (by omega)
          have u15 := hal.get (k - 15)
          have u2 := hal.get (k - 2)
          obtain ⟨x15, hx15⟩ : ∃ x, L.getD (k - 15) 0 = x := ⟨_, rfl⟩
          obtain ⟨x2, hx2⟩ : ∃ x, L.getD (k - 2) 0 = x := ⟨_, rfl⟩
          rw [hx15] at c15 u15
          rw [hx2] at c2 u2
          have HX1 := Lib.hid (And.intro hx15 hx2)
          have U15 := Lib.hid u15
          have U2 := Lib.hid u2
          obtain ⟨m15, m15b⟩ := u15
          obtain ⟨m2, m2b⟩ := u2
          have e15 : IntKind.i64.wrap ((k : Int) - 15) = ((k - 15 : Nat) : Int) := by rw [IntWalk.i64_in _ (by omega)]; omega
          have e2 : IntKind.i64.wrap ((k : Int) - 2) = ((k - 2 : Nat) : Int) := by rw [IntWalk.i64_in _ (by omega)]; omega
          have b15 : ((k - 15 : Nat) : Int) < 64 := by omega
          have b2 : ((k - 2 : Nat) : Int) < 64 := by omega
          clear hT hln hal h64 hL hx15 hx2
          go_wp2_with fail
          go_quiet (fail)
          clear c15 c2 e15 e2 b15 b2
          go_wp2_with fail
          refine (rot32_c _ _ 25 _ U15.out (by omega) (by decide +kernel)).mono ?_
          rintro e w' ⟨rfl, rfl⟩
          go_wp2_with fail
          refine (rot32_c _ _ 14 _ U15.out (by omega) (by decide +kernel)).mono ?_
          rintro e w' ⟨rfl, rfl⟩
          go_wp2_with fail
          refine (rot32_c _ _ 15 _ U2.out (by omega) (by decide +kernel)).mono ?_
          rintro e w' ⟨rfl, rfl⟩
          go_wp2_with fail
          refine (rot32_c _ _ 13 _ U2.out (by omega) (by decide +kernel)).mono ?_
          rintro e w' ⟨rfl, rfl⟩
          go_wp2_with fail
          have hT := HT.out.drewN nq
          rw [HL1.out] at hT
          have hln := wOn_len W0 (k - 16)
          rw [HL1.out, HA1.out.2] at hln
          have c16 := hT.bw.cellU (k - 16) (by omega)
          have c7 := hT.bw.cellU (k - 7) (by omega)
          have c0 := hT.bw.cellU k (by omega)
          have f0 := hT.bw.frozen k
          obtain ⟨x16, hx16⟩ : ∃ x, L.getD (k - 16) 0 = x := ⟨_, rfl⟩
          obtain ⟨x7, hx7⟩ : ∃ x, L.getD (k - 7) 0 = x := ⟨_, rfl⟩
          rw [hx16] at c16
          rw [hx7] at c7
          have HX2 := Lib.hid (And.intro hx16 hx7)
          have HT2 := Lib.hid hT
          clear hT HT hln hx16 hx7
          obtain ⟨a1, ha1⟩ : ∃ x, bits BinOp.xor IntKind.u32 (bits BinOp.xor IntKind.u32 (rotl x15 25) (rotl x15 14)) (x15 / 8) = x := ⟨_, rfl⟩
          obtain ⟨a2, ha2⟩ : ∃ x, bits BinOp.xor IntKind.u32 (bits BinOp.xor IntKind.u32 (rotl x2 15) (rotl x2 13)) (x2 / 1024) = x := ⟨_, rfl⟩
          rw [ha1, ha2]
          have HY := Lib.hid (And.intro (show sg0 x15 = a1 from ha1) (show sg1 x2 = a2 from ha2))
          clear ha1 ha2
          have e16 : IntKind.i64.wrap ((k : Int) - 16) = ((k - 16 : Nat) : Int) := by rw [IntWalk.i64_in _ (by omega)]; omega
          have e7 : IntKind.i64.wrap ((k : Int) - 7) = ((k - 7 : Nat) : Int) := by rw [IntWalk.i64_in _ (by omega)]; omega
          have b16 : ((k - 16 : Nat) : Int) < 64 := by omega
          have b7 : ((k - 7 : Nat) : Int) < 64 := by omega
          have b0 : (k : Int) < 64 := by omega
          generalize wr.drewN nq = w1 at c16 c7 c0 f0 HT2 ⊢
          have HS1 : Hid (∀ v, (w1.setCell ⟨n + 1 + 1 + 1, k, none⟩ v).drew.cell? ⟨n + 1 + 1 + 1, k - 16, none⟩ = some (.int .u32 x16) ∧ (w1.setCell ⟨n + 1 + 1 + 1, k, none⟩ v).drew.cell? ⟨n + 1 + 1 + 1, k - 7, none⟩ = some (.int .u32 x7)) := Lib.hid fun v => by
            rw [World.cell?_drew, World.cell?_drew]
            exact ⟨(World.cell?_setCell_other _ _ _ _ (by simp <;> omega)).trans c16, (World.cell?_setCell_other _ _ _ _ (by simp <;> omega)).trans c7⟩
          go_region_held3 (fun w' => w'.cell? ⟨n + 1 + 1 + 1, k - 16, none⟩ = some (.int .u32 x16) ∧ w'.cell? ⟨n + 1 + 1 + 1, k - 7, none⟩ = some (.int .u32 x7)) (first | exact HS1.out _ | go_keep) (first | fail)
          go_wp2_with fail
          go_roundw
          case rel =>
            refine ⟨k + 1, by omega, by omega, by go_num, ?_⟩
            have e2 : nextW L k = (((x16 + a1) % 4294967296 + x7) % 4294967296 + a2) % 4294967296 := by unfold nextW; rw [HX2.out.1, HX1.out.1, HX2.out.2, HX1.out.2, HY.out.1, HY.out.2]
            have e3 : wOn W0 (k + 1 - 16) = L.set k ((((x16 + a1) % 4294967296 + x7) % 4294967296 + a2) % 4294967296) := by rw [show k + 1 - 16 = (k - 16) + 1 by omega, wOn_succ, HL1.out, show 16 + (k - 16) = k by omega, e2]
            rw [e3]
            exact (HT2.out.setw k _).drew
          case measure => simp [intOf] <;> omega
          --#b }
        · obtain rfl : k = 64 := by omega
          have e64 : ((64 : Nat) : Int) = 64 := rfl
          rw [e64]
          have HW1 := Lib.hid (And.intro (wOn_all HA1.out.1 48) (wOn_len W0 48))
          have HT := Lib.hid hT
          obtain ⟨W1, hW1⟩ : ∃ W1, wOn W0 48 = W1 := ⟨_, rfl⟩
          rw [show 64 - 16 = 48 from rfl, hW1] at HT
          rw [hW1] at HW1
          have HE1 := Lib.hid hW1
          clear hW1 hT hk hk2 hlt e64
          go_wp2_with fail
          go_loopw [16, 17, 18, 19, 20, 81] (fun _ _ _ _ _ i wr => ∃ k : Nat, k ≤ 64 ∧ i = .int .i64 (k : Int) ∧ TurnW w wr n hv (rounds K W1 bv k) (List.replicate 8 0) W1) (fun _ _ _ _ _ i _ => 64 - (intOf i).toNat)
          case atStart => exact ⟨0, by omega, rfl, HT.out⟩
          case round =>
            clear HT
            obtain ⟨k, hk, rfl, hT⟩ := hrel
            have HT := Lib.hid hT
            by_cases hlt : k < 64
            ·
              --#c {
              have hr := rounds_ok (K := K) (W := W1) H8.out.2.1 HA.out.2.1 k
              obtain ⟨b0, b1, b2, b3, b4, b5, b6, b7, hbl⟩ := eight hr.1
              have hal := hr.2
              rw [hbl] at hT hal
              have HB1 := Lib.hid hbl
              obtain ⟨q0, q1, q2, q3, q4, q5, q6, q7⟩ := hT.b8
              have cw := hT.bw.cellU k (by have := HW1.out.2; have := HA1.out.2; omega)
              have ck := HK.out k hlt
              rw [← cell_upd hT.upd (by have := HN.out; omega) (fun e => e)] at ck
              obtain ⟨xk, hxk⟩ : ∃ x, K.getD k 0 = x := ⟨_, rfl⟩
              obtain ⟨xw, hxw⟩ : ∃ x, W1.getD k 0 = x := ⟨_, rfl⟩
              rw [hxk] at ck
              rw [hxw] at cw
              have HX := Lib.hid (And.intro hxk hxw)
              have U0 := Lib.hid (hal b0 (by simp))
              have U4 := Lib.hid (hal b4 (by simp))
              obtain ⟨m4, m4b⟩ := hal b4 (by simp)
              have bk : (k : Int) < 64 := by omega
              clear hal hbl hxk hxw hr cw ck q1 q2 q3 q5 q6 q7
              have HT2 := Lib.hid hT
              clear hT HT
              go_wp2_with fail
              go_quiet (fail)
              have hT := HT2.out.drewN nq
              clear q0 q4 HT2
              generalize wr.drewN nq = w1 at hT ⊢
              obtain ⟨q0, q1, q2, q3, q4, q5, q6, q7⟩ := hT.b8
              have cw := hT.bw.cellU k (by have := HW1.out.2; have := HA1.out.2; omega)
              have ck := HK.out k hlt
              rw [← cell_upd hT.upd (by have := HN.out; omega) (fun e => e), HX.out.1] at ck
              rw [HX.out.2] at cw
              have HT2 := Lib.hid hT
              clear hT
              go_wp2_with fail
              go_quiet ((go_at_call 446; exact Calls.quiet_of_same (rotA_c _ _ _ U4.out)))
              have hT := HT2.out.drewN nq
              rw [show (if IntKind.u32.signed = true then (-1 : Int) else IntKind.u32.max) = 4294967295 from rfl]
              obtain ⟨T, hTT⟩ : ∃ T, ((b7 + bits .xor .u32 (bits .xor .u32 (rotl b4 (amt (-6))) (rotl b4 (amt (-11)))) (rotl b4 (amt (-25))) + bits .xor .u32 (bits .and .u32 b4 b5) (bits .and .u32 (bits .xor .u32 4294967295 b4) b6) + xk) % 4294967296 + xw) % 4294967296 = T := ⟨_, rfl⟩
              rw [hTT]
              have HTT := Lib.hid (show roundT b4 b5 b6 b7 xk xw = T from hTT)
              clear hTT
              clear q0 q1 q2 q3 q4 q5 q6 q7 cw ck HT2
              generalize w1.drewN nq = w2 at hT ⊢
              obtain ⟨q0, q1, q2, q3, q4, q5, q6, q7⟩ := hT.b8
              have HT2 := Lib.hid hT
              clear hT
              go_wp2_with fail
              go_quiet ((go_at_call 446; exact Calls.quiet_of_same (rotA_c _ _ _ U0.out)))
              have hT := HT2.out.drewN nq
              clear q0 q1 q2 q3 q4 q5 q6 q7 HT2
              generalize w2.drewN nq = w3 at hT ⊢
              obtain ⟨q0, q1, q2, q3, q4, q5, q6, q7⟩ := hT.b8
              obtain ⟨U, hUU⟩ : ∃ U, (bits .xor .u32 (bits .xor .u32 (rotl b0 (amt (-2))) (rotl b0 (amt (-13)))) (rotl b0 (amt (-22))) + bits .xor .u32 (bits .xor .u32 (bits .and .u32 b0 b1) (bits .and .u32 b0 b2)) (bits .and .u32 b1 b2)) % 4294967296 = U := ⟨_, rfl⟩
              rw [hUU]
              have HUU := Lib.hid (show roundU b0 b1 b2 = U from hUU)
              clear hUU
              have HT2 := Lib.hid hT
              clear hT
              go_upto_region 20 with (fail)
              go_wp2_with (first
                | (show wpList _ _ _ (⟨_, Op.build _ _, _, _, _, _⟩ :: _) _ _
                   refine wpList_build_is rfl _ _ rfl [(0, .int .u32 ((T + U) % 4294967296)), (1, .int .u32 b0), (2, .int .u32 b1), (3, .int .u32 b2), (4, .int .u32 ((b3 + T) % 4294967296)), (5, .int .u32 b4), (6, .int .u32 b5), (7, .int .u32 b6)] _ rfl (built8 _ _ _ _ _ _ _ _) ?_)
                | (show wpList _ _ _ (⟨none, _, _, _, _, _⟩ :: _) _ _
                   refine wpList_store_all rfl 353 _ _ rfl (n + 1) _ rfl rfl 353 _ HT2.out.bb rfl (by simp [Value.oneCell']) (by kernel_rfl) ?_
                   intro w4 hB4 hU4 hz4))
              go_roundw
              case rel =>
                refine ⟨k + 1, by omega, by go_num, ?_⟩
                have e : rounds K W1 bv (k + 1) = [(T + U) % 4294967296, b0, b1, b2, (b3 + T) % 4294967296, b4, b5, b6] := by
                  rw [rounds_succ, HB1.out, HX.out.1, HX.out.2]
                  show [_, _, _, _, _, _, _, _] = _
                  rw [HTT.out, HUU.out]
                rw [e]
                exact HT2.out.setb hB4 hU4
              case measure => simp [intOf] <;> omega
              --#c }
            · obtain rfl : k = 64 := by omega
              have e64 : ((64 : Nat) : Int) = 64 := rfl
              rw [e64]
              have hr := rounds_ok (K := K) (W := W1) H8.out.2.1 HA.out.2.1 64
              obtain ⟨bl, hbl⟩ : ∃ bl, rounds K W1 bv 64 = bl := ⟨_, rfl⟩
              rw [hbl] at hr hT
              have HBL := Lib.hid hbl
              have HR := Lib.hid hr
              clear HT
              have HT := Lib.hid hT
              clear hbl hr hT hk hlt e64
              go_wp2_with fail
              go_loopw [21, 165] (fun _ i wr => ∃ k : Nat, k ≤ 8 ∧ i = .int .i64 (k : Int) ∧ TurnW w wr n (addH hv bl k) bl (List.replicate 8 0) W1) (fun _ i _ => 8 - (intOf i).toNat)
              case atStart => exact ⟨0, by omega, rfl, HT.out⟩
              case round =>
                clear HT
                obtain ⟨k, hk, rfl, hT⟩ := hrel
                have HT := Lib.hid hT
                by_cases hlt : k < 8
                ·
                  --#d {
                  have hl := addH_len hv bl k
                  have ch := hT.bh.cellU k (by have := H8.out.1; omega)
                  have cb := hT.bb.cellU k (by have := HR.out.1; omega)
                  have fh := hT.bh.frozen k
                  obtain ⟨xh, hxh⟩ : ∃ x, (addH hv bl k).getD k 0 = x := ⟨_, rfl⟩
                  obtain ⟨xb, hxb⟩ : ∃ x, bl.getD k 0 = x := ⟨_, rfl⟩
                  rw [hxh] at ch
                  rw [hxb] at cb
                  have HX := Lib.hid (And.intro hxh hxb)
                  have bk : (k : Int) < 8 := by omega
                  have HS1 : Hid (∀ v, (wr.setCell ⟨n, k, none⟩ v).drew.cell? ⟨n + 1, k, none⟩ = some (.int .u32 xb)) := Lib.hid fun v => by
                    rw [World.cell?_drew]
                    exact (World.cell?_setCell_other _ _ _ _ (by simp)).trans cb
                  clear hT hl hxh hxb
                  go_wp2_with fail
                  go_still_tail 8, (by kernel_rfl)
                  change wpList _ _ _ _ _ wr.drew
                  go_wp2_with fail
                  go_roundw
                  case rel =>
                    refine ⟨k + 1, by omega, by go_num, ?_⟩
                    rw [addH_succ, HX.out.1, HX.out.2]
                    exact HT.out.drew.seth k _
                  case measure => simp [intOf] <;> omega
                  --#d }
                · obtain rfl : k = 8 := by omega
                  have e8 : ((8 : Nat) : Int) = 8 := rfl
                  rw [e8]
                  obtain ⟨rl, hrl⟩ : ∃ rl, addH hv bl 8 = rl := ⟨_, rfl⟩
                  have hrl2 : rl.length = 8 := by rw [← hrl, addH_len]; exact H8.out.1
                  rw [hrl] at HT
                  obtain ⟨r0, r1, r2, r3, r4, r5, r6, r7, rfl⟩ := eight hrl2
                  have HRL := Lib.hid hrl
                  have hone : (arrU [r0, r1, r2, r3, r4, r5, r6, r7]).all (·.oneCell') = true := arrU_one _
                  have HONE := Lib.hid hone
                  clear hrl hrl2 hT hk hlt e8 hone
                  go_wp2_with (first
                    | (refine wpList_load_all rfl _ _ rfl n rfl _ _ _ HT.out.bh Tryz.underlying353 rfl rfl ?_)
                    | (show wpList _ _ _ (⟨none, _, _, _, _, _⟩ :: _) _ _
                       refine wpList_store_all rfl 353 _ _ rfl (n + 1 + 1) _ rfl rfl 353 _ HT.out.br rfl HONE.out (by kernel_rfl) ?_
                       intro w4 hB4 hU4 hz4))
                  have hfin : [r0, r1, r2, r3, r4, r5, r6, r7] = turnL hv bv K l := by
                    unfold turnL
                    rw [HW0.out, HE1.out, HBL.out, HRL.out]
                  refine bodyPost_ret (results_cell_row rfl _ _ (n + 1 + 1) _ _ _ _ rfl hB4 Tryz.underlying353 rfl rfl) rfl ⟨by rw [← hfin], HT.out.upd.then hU4 (fun q hq => .inr (by have := HT.out.new; omega))⟩
end Go.Proofs.YtdfgmieinbmfkaaGreat
