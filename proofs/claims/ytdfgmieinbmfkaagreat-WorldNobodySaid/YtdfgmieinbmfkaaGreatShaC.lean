/-
  Package sha: Sum: a text's hash.
-/
import Derived.Test.YtdfgmieinbmfkaaGreatShaB
namespace Go.Proofs.YtdfgmieinbmfkaaGreat
open Go Go.RowKit

/-- Bytes as the values of an array. -/
def arrB (l : List UInt8) : Array Value := (bytesV l).toArray
theorem arrB_size (l : List UInt8) : (arrB l).size = l.length := by simp [arrB, bytesV]
theorem arrB_one (l : List UInt8) : (arrB l).all (·.oneCell') = true := by simp [arrB, bytesV, Value.oneCell']
theorem BytesAt.src {w : World} {v : Value} {l : List UInt8} (h : BytesAt w v l) : Src Tryz.prog w 223 1 v l.length (bytesV l) := by
  obtain ⟨A, cap, rfl, h1, h2, h3⟩ := h
  by_cases h0 : l = []
  · subst h0
    cases A with
    | none => exact Src.of_nil Tryz.underlying223 _
    | some a => exact Src.of_addr Tryz.underlying223 a 0 cap rfl (fun j u e => by simp [bytesV] at e)
  · obtain ⟨b, off, rfl, hb, hc⟩ := h3 (List.length_pos_iff.2 h0)
    refine Src.of_addr Tryz.underlying223 _ _ _ (by simp [bytesV]) (fun j u e => ?_)
    have hj : j < l.length := by have := (List.getElem?_eq_some_iff.1 e).1; simpa [bytesV] using this
    rw [Addr.add_mid, hc j hj, ← e]
    simp [bytesV, hj]
def lenSl : Value → Nat
  | .slice _ n _ => n
  | _ => 0
/-- A slice that the call made behind the world w1. -/
structure SumS (w1 wr : World) (v : Value) (ls : List UInt8) : Prop where
  own : Own wr 5 1 v ls.length (bytesV ls)
  upd : Upd (fun _ => False) w1 wr
  far : ∀ q, v.ownBlock = some q → w1.heap.size ≤ q
theorem SumS.next {w1 wr w2 w3 : World} {v v' : Value} {ls l2 : List UInt8} {m : Nat} {xs : List Value} (s : SumS w1 wr v ls) (ha : Upd (fun _ => False) wr w2) (ho : Own w3 5 1 v' m xs) (hm : m = (ls ++ l2).length) (hx : xs = bytesV (ls ++ l2)) (hU : Upd (fun k => v.ownBlock = some k) w2 w3)
    (hl : v'.ownBlock = v.ownBlock ∨ v'.ownBlock = some w2.heap.size) : SumS w1 w3 v' (ls ++ l2) := by
  subst hm hx
  refine ⟨ho, (s.upd.then ha (fun _ e => e.elim)).then hU (fun q hq => .inr (s.far q hq)), fun q hq => ?_⟩
  rcases hl with e | e
  · rw [e] at hq; exact s.far q hq
  · rw [e] at hq
    have := Option.some.inj hq
    have h1 := s.upd.size
    have h2 := ha.size
    omega
set_option maxRecDepth 100000 in
theorem run_index8 (w : World) (l : List Int) (hl : l.length = 8) (k : Nat) (hk : k < 8) : (Instr.index 353 (.agg (arrU l)) (.int .i64 (k : Int))).run Tryz.prog w = .ok (.int .u32 (l.getD k 0)) w := by
  obtain ⟨a, b, c, d, e, f, g, i, rfl⟩ := eight hl
  have h : k = 0 ∨ k = 1 ∨ k = 2 ∨ k = 3 ∨ k = 4 ∨ k = 5 ∨ k = 6 ∨ k = 7 := by omega
  rcases h with rfl | rfl | rfl | rfl | rfl | rfl | rfl | rfl <;> rfl
/-- copy of bytes into a row of bytes. -/
theorem copy_bytes {w : World} {g off n cap : Nat} {T : TypeId} {l0 l : List UInt8} {v : Value} (hB : Blk w g T (arrB l0)) (hs : BytesAt w v l) (hn : l.length ≤ n) (hf : off + l.length ≤ l0.length) :
    ∃ W r, (Builtin.copy_ #[223, 223] 3 #[.slice (some ⟨g, off, none⟩) n cap, v]).run Tryz.prog w = .ok r W ∧ Blk W g T (arrB (l0.take off ++ l ++ l0.drop (off + l.length))) ∧ Upd (· = g) w W ∧ W.heap.size = w.heap.size := by
  obtain ⟨A, c, rfl, h1, h2, h3⟩ := hs
  by_cases h0 : l = []
  · subst h0
    refine ⟨w, goInt 0, run_copy_none w _ _ _ 5 _ _ _ _ _ _ Tryz.underlying223 (by kernel_rfl) (by simp), ?_, Upd.refl _ _, rfl⟩
    simpa using hB
  · obtain ⟨b, o, rfl, hb, hc⟩ := h3 (List.length_pos_iff.2 h0)
    have hrun := run_copy_row (P := Tryz.prog) w 223 223 3 5 g off n cap ⟨b, o, none⟩ l.length c (arrB l0) T (bytesV l) Tryz.underlying223 (by kernel_rfl) hB (by rw [bytesV_len]; exact (Nat.min_eq_left hn).symm) (fun j u e => by
      have hj : j < l.length := by have := (List.getElem?_eq_some_iff.1 e).1; simpa [bytesV] using this
      rw [Addr.add_mid, hc j hj, ← e]
      simp [bytesV, hj]) (by rw [bytesV_len, arrB_size]; exact hf) (bytesV_one _)
    refine ⟨_, _, hrun, ?_, Upd.setRow_ _ _ _, by simp [World.setRow]⟩
    have e : ((arrB l0).toList.take off ++ bytesV l ++ (arrB l0).toList.drop (off + (bytesV l).length)).toArray = arrB (l0.take off ++ l ++ l0.drop (off + l.length)) := by
      simp [arrB, bytesV, List.map_take, List.map_drop]
    rw [e]
    exact hB.setRow _
theorem step_copy_run {P : Program} {ops : Array Oper} {o : Oper} {a : Act} {w w' : World} {K : Act → World → Prop} {Q : Exit → Act → World → Prop} {E : Prop} (hgd : o.guard = none) (d s : Operand) (dT sT : TypeId)
    (ho : o.op = .call { callee := .builtin .copy, args := #[d, s], argTypes := #[dT, sT] }) {vd vs r : Value} (hd : a.eval d = vd) (hs : a.eval s = vs) (hrun : (Builtin.copy_ #[dT, sT] o.type #[vd, vs]).run P w = .ok r w')
    (h : K (a.put o.dst r) w') : if Region.wanted o (yielded ops a.tmps) = true then Oper.wp P o a w K Q else E := by
  have hw : Region.wanted o (yielded ops a.tmps) = true := by simp [Region.wanted, hgd]
  rw [if_pos hw]
  subst hd hs
  unfold Oper.wp
  simp [execOp, ho, resolve, invoke, builtin, hrun, Result.andThen]
  exact h
theorem wpList_copy_run {P : Program} {ops : Array Oper} {rest : List Oper} {o : Oper} {a : Act} {w w' : World} {Q : Exit → Act → World → Prop} (hgd : o.guard = none) (d s : Operand) (dT sT : TypeId)
    (ho : o.op = .call { callee := .builtin .copy, args := #[d, s], argTypes := #[dT, sT] }) {vd vs r : Value} (hd : a.eval d = vd) (hs : a.eval s = vs) (hrun : (Builtin.copy_ #[dT, sT] o.type #[vd, vs]).run P w = .ok r w')
    (h : wpList P ops Q rest (a.put o.dst r) w') : wpList P ops Q (o :: rest) a w := by
  refine wpList_plain hgd fun K hK => ?_
  subst hd hs
  unfold Oper.wp
  simp [execOp, ho, resolve, invoke, builtin, hrun, Result.andThen]
  exact hK _ _ h
theorem outL_pad {l : List Int} (hl : l.length = 8) (k : Nat) (hk : k ≤ 8) : (outL (l.take k) ++ List.replicate (32 - 4 * k) 0).length = 32 := by
  rw [List.length_append, outL_len, List.length_take, List.length_replicate]
  omega
theorem outL_step {l : List Int} (k : Nat) (hk : k < l.length) (hl : l.length = 8) : (outL (l.take k) ++ List.replicate (32 - 4 * k) 0).take (4 * k) ++ beB (l.getD k 0).toNat 4 ++ (outL (l.take k) ++ List.replicate (32 - 4 * k) 0).drop (4 * k + 4) = outL (l.take (k + 1)) ++ List.replicate (32 - 4 * (k + 1)) 0 := by
  have h1 : (outL (l.take k)).length = 4 * k := by rw [outL_len, List.length_take]; omega
  have h2 : outL (l.take (k + 1)) = outL (l.take k) ++ beB (l.getD k 0).toNat 4 := by
    rw [List.take_succ_eq_append_getElem hk]
    unfold outL
    rw [List.flatMap_append, List.getD_eq_getElem?_getD, List.getElem?_eq_getElem hk]
    simp
  rw [List.take_append_of_le_length (by omega), List.take_of_length_le (by omega), ← h1, List.drop_length_add_append, List.drop_replicate, h2]
  congr 2
  omega
set_option maxRecDepth 100000 in
set_option maxHeartbeats 4000000 in
theorem shasum_c {w0 w : World} {x : Nat} {h : List Int} {r : Value} {n : Nat} {l : List UInt8} (s : ShaS w0 w x h r n) (hb : BytesAt w r l) (hl : l.length < 64) (hn : n ≤ 1000000) :
    Calls Tryz.prog 270 #[.pointer (some ⟨x, 0, none⟩)] w fun e w' => e = .returned (.agg (arrB (outL (hashN ((padB l n).length / 64) h (padB l n))))) ∧ Upd (fun _ => False) w w' := by
  obtain ⟨i0, hi0, hz0, hz1, hz2⟩ := info_parts infoU8
  have HB0 := Lib.hid hb
  obtain ⟨A, cap, rfl, hcap1, hcap2, hby⟩ := hb
  have HS := Lib.hid (And.intro s hby)
  have H0 := Lib.hid (fun W (hu : Upd (fun _ => False) w W) => shanone_c (s.still hu))
  obtain ⟨P, hP⟩ : ∃ P, padB l n = P := ⟨_, rfl⟩
  rw [hP]
  have HPP := Lib.hid hP
  clear s hby hP
  go_enter Tryz.func270, Tryz.ntmps270
  go_wp2_with fail
  refine (H0.out _ ((Upd.refl _ w).alloc _)).mono ?_
  rintro e w' ⟨rfl, rfl⟩
  generalize hw1 : w.alloc (Obj.cells _ _) = w1
  have hU1 : Upd (fun _ => False) w w1 := by rw [← hw1]; exact (Upd.refl _ w).alloc _
  have hO1 : Blk w1 w.heap.size 70 (arrB (List.replicate 32 0)) := by rw [← hw1]; exact Blk.new w _ _
  have c72 := (HS.out.1.still hU1).c72.1
  have hxl : x < w1.heap.size := (HS.out.1.still hU1).blk.lt
  have HW1 := Lib.hid (And.intro hU1 hO1)
  clear hw1 hU1 hO1
  obtain ⟨g, hg⟩ : ∃ g, w.heap.size = g := ⟨_, rfl⟩
  rw [hg]
  have HG := Lib.hid hg
  clear hg
  have HSZ := Lib.hid (show w.heap.size < w1.heap.size from by have := HW1.out.2.lt; omega)
  go_wp2_with (first
    | (at_builtin
       refine wpList_append_src rfl _ _ _ _ rfl 5 i0 _ 1 1 Tryz.underlying223 hi0 hz0 hz1 hz2 rfl (.slice A2 l.length cap2) l.length (bytesV l) rfl (HO2.out.1.alloc _) _ 1 [.int .u8 128] rfl (Src.of_new Tryz.underlying223 _) (by simp [Value.oneCell']) (by unfold maxLen; omega) (by omega) ?_
       intro v3 w3 ho3 hU3 hl3 hs3
       obtain ⟨A3, cap3, rfl, hA3, hA4⟩ := ho3.shape
       have HO3 := Lib.hid (And.intro ho3 (And.intro hU3 hl3))
       clear ho3 hU3 hl3 hs3 hA3 hA4)
    | (at_builtin
       refine wpList_append_src rfl _ _ _ _ rfl 5 i0 _ 1 1 Tryz.underlying223 hi0 hz0 hz1 hz2 rfl (.slice (some ⟨w1.heap.size, 0, none⟩) 0 0) 0 (bytesV []) rfl (own_bytes w1 [] (by simp)) _ l.length (bytesV l) rfl ((HB0.out.upd (HW1.out.1.alloc _) (fun _ _ e => e)).src) (bytesV_one _) (by unfold maxLen; omega) (by omega) ?_
       intro v2 w2 ho2 hU2 hl2 hs2
       rw [Nat.zero_add, show bytesV [] = [] from rfl, List.nil_append] at ho2
       obtain ⟨A2, cap2, rfl, hA1, hA2⟩ := ho2.shape
       have HO2 := Lib.hid (And.intro ho2 (And.intro hU2 hl2))
       clear ho2 hU2 hl2 hs2 c72 hA1 hA2))
  have hS2 : SumS w1 w2 (.slice A2 l.length cap2) l := by
    refine ⟨HO2.out.1, ((Upd.refl _ w1).alloc _).then HO2.out.2.1 (fun q hq => .inr (by have e : w1.heap.size = q := Option.some.inj hq; omega)), fun q hq => ?_⟩
    rcases HO2.out.2.2 with e | e
    · rw [e] at hq; have e2 : w1.heap.size = q := Option.some.inj hq; omega
    · rw [e] at hq; have e2 := Option.some.inj hq; simp at e2; omega
  have hS3 : SumS w1 w3 (.slice A3 (l.length + 1) cap3) (l ++ [128]) := hS2.next ((Upd.refl _ w2).alloc _) HO3.out.1 (by simp) (by rw [bytesV_app]; rfl) HO3.out.2.1 HO3.out.2.2
  have HS3 := Lib.hid hS3
  obtain ⟨K, hK⟩ : ∃ K, (119 - l.length % 64) % 64 = K := ⟨_, rfl⟩
  have HK := Lib.hid (show K ≤ 63 ∧ ∀ k, k ≤ K → ((l.length + 1 + k) % 64 = 56 ↔ k = K) from ⟨by omega, fun k hk => by omega⟩)
  have HK2 := Lib.hid hK
  clear hS2 hS3 HO2 HO3 HSZ hK
  go_loopw [3] (fun u wr => ∃ k : Nat, k ≤ K ∧ SumS w1 wr u (l ++ 128 :: List.replicate k 0)) (fun u _ => 200 - lenSl u)
  case atStart => exact ⟨0, by omega, HS3.out⟩
  case round =>
    clear HS3
    obtain ⟨k, hk, hS⟩ := hrel
    have hls : (l ++ 128 :: List.replicate k 0).length = l.length + 1 + k := by simp; omega
    have ho := hS.own
    rw [hls] at ho
    obtain ⟨A5, cap5, rfl, hA5, hA6⟩ := ho.shape
    have HS5 := Lib.hid (And.intro hS (And.intro ho hls))
    obtain ⟨m, hm⟩ : ∃ m, l.length + 1 + k = m := ⟨_, rfl⟩
    rw [hm] at HS5 hA5 ⊢
    have HM := Lib.hid hm
    by_cases hlt : k < K
    · have h56 : ((m : Int) % 64 != 56) = true := by have := (HK.out.2 k hk); simp; omega
      clear hS ho hls hm hA5 hA6
      have hA7 : m ≤ 190 := by have := HM.out; have := HK.out.1; omega
      go_wp2_with (at_builtin
                   refine wpList_append_src rfl _ _ _ _ rfl 5 i0 _ 1 1 Tryz.underlying223 hi0 hz0 hz1 hz2 rfl (.slice A5 m cap5) m _ rfl (HS5.out.2.1.alloc _) _ 1 [.int .u8 0] rfl (Src.of_new Tryz.underlying223 _) (by simp [Value.oneCell']) (by unfold maxLen; omega) (by omega) ?_
                   intro v3 w3 ho3 hU3 hl3 hs3
                   obtain ⟨A3, cap3, rfl, hA3, hA4⟩ := ho3.shape
                   have hS6 : SumS w1 w3 (.slice A3 (m + 1) cap3) (l ++ 128 :: List.replicate k 0 ++ [0]) := HS5.out.1.next (l2 := [0]) ((Upd.refl _ wr).alloc _) ho3 (by rw [List.length_append, HS5.out.2.2]; rfl) (by rw [bytesV_app (l ++ 128 :: List.replicate k 0) [0]]; rfl) hU3 hl3
                   have HS6 := Lib.hid hS6
                   clear hS6 ho3 hU3 hl3 hs3 hA3 hA4)
      go_roundw
      case rel =>
        refine ⟨k + 1, by omega, ?_⟩
        have e : l ++ 128 :: List.replicate (k + 1) 0 = l ++ 128 :: List.replicate k 0 ++ [0] := by rw [List.replicate_succ', List.append_assoc]; rfl
        rw [e]
        exact HS6.out
      case measure => simp [lenSl]; omega
    · obtain rfl : k = K := by omega
      have h56 : ((m : Int) % 64 != 56) = false := by have := (HK.out.2 k hk); simp; omega
      have hS7 := HW1.out.1.then HS5.out.1.upd (fun _ e => e.elim)
      have hS8 := HS.out.1.still hS7
      obtain ⟨c72, c73, -⟩ := hS8.c72
      obtain ⟨a0, a1, a2, a3, a4, a5, a6, a7, rfl⟩ := eight hS8.len
      have hn8 : (n : Int) * 8 = ((8 * n : Nat) : Int) := by omega
      clear hS ho hls hm hA5 hA6 hS7 hS8
      go_wp2_with fail
      rw [show (8 * (n : Int)) = ((8 * n : Nat) : Int) by omega]
      refine (putBig_sha _ m _ (8 * n) 8 wr HS5.out.2.1 (by omega) (by have := HM.out; have := HK.out.1; omega)).mono ?_
      rintro e w8 ⟨v8, rfl, ho8, hU8, hl8⟩
      have hP := HPP.out
      have hpe : l ++ 128 :: List.replicate k 0 ++ beB (8 * n) 8 = P := by
        rw [← hP]
        unfold padB
        rw [HK2.out, List.append_assoc]
        rfl
      have hpl : P.length = m + 8 := by rw [← hpe, List.length_append, HS5.out.2.2, beB_len]
      have hpd := padB_len l n hl
      rw [hP] at hpd
      have hu8 : Upd (fun _ => False) w1 w8 := HS5.out.1.upd.then hU8 (fun q hq => .inr (HS5.out.1.far q hq))
      have hfar : ∀ q, v8.ownBlock = some q → w1.heap.size ≤ q := by
        intro q hq
        rcases hl8 with e | ⟨q2, e, h2⟩
        · rw [e] at hq; exact HS5.out.1.far q hq
        · rw [e] at hq; have := Option.some.inj hq; have := HS5.out.1.upd.size; omega
      rw [← bytesV_app, hpe, ← hpl] at ho8
      have hby := BytesAt.of_own ho8
      obtain ⟨A8, cap8, rfl, hA8, hA9⟩ := ho8.shape
      have HPL := Lib.hid hpl
      have HP := Lib.hid (And.intro hP (And.intro hpd (And.intro hu8 (And.intro hfar hby))))
      have hc8 := ((HW1.out.1.then hu8 (fun _ e => e.elim)))
      have hS8 := HS.out.1.still hc8
      obtain ⟨c72, c73, -⟩ := hS8.c72
      obtain ⟨q0, q1, q2, q3, q4, q5, q6, q7⟩ := hS8.c8
      have HS8 := Lib.hid hS8
      clear hP hpe hpl hpd hu8 hfar hby ho8 hU8 hl8 hc8 hS8
      go_wp2_with fail
      clear q0 q1 q2 q3 q4 q5 q6 q7 c72 c73
      obtain ⟨hb, hhb⟩ : ∃ hb, w8.heap.size = hb := ⟨_, rfl⟩
      rw [hhb]
      have hstart : ∃ (j : Nat) (A : Option Addr) (cap : Nat), Value.slice A8 P.length cap8 = .slice A (P.length - 64 * j) cap ∧ 64 * j ≤ P.length ∧ Upd (fun _ => False) w8 (w8.alloc (.cells #[Value.int IntKind.u32 a0, Value.int IntKind.u32 a1, Value.int IntKind.u32 a2, Value.int IntKind.u32 a3, Value.int IntKind.u32 a4, Value.int IntKind.u32 a5, Value.int IntKind.u32 a6, Value.int IntKind.u32 a7] 353)) ∧ Blk (w8.alloc (.cells #[Value.int IntKind.u32 a0, Value.int IntKind.u32 a1, Value.int IntKind.u32 a2, Value.int IntKind.u32 a3, Value.int IntKind.u32 a4, Value.int IntKind.u32 a5, Value.int IntKind.u32 a6, Value.int IntKind.u32 a7] 353)) hb 353 (arrU (hashN j [a0, a1, a2, a3, a4, a5, a6, a7] P)) ∧
          BytesAt (w8.alloc (.cells #[Value.int IntKind.u32 a0, Value.int IntKind.u32 a1, Value.int IntKind.u32 a2, Value.int IntKind.u32 a3, Value.int IntKind.u32 a4, Value.int IntKind.u32 a5, Value.int IntKind.u32 a6, Value.int IntKind.u32 a7] 353)) (.slice A (P.length - 64 * j) cap) (P.drop (64 * j)) ∧ (Value.slice A (P.length - 64 * j) cap).ownBlock ≠ some hb := by
        subst hhb
        refine ⟨0, A8, cap8, rfl, by omega, (Upd.refl _ w8).alloc _, Blk.new w8 _ _, HP.out.2.2.2.2.upd ((Upd.refl (fun _ => False) w8).alloc _) (fun _ _ e => e), fun e => ?_⟩
        obtain ⟨A', cap', e1, -, -, h3⟩ := HP.out.2.2.2.2
        injection e1 with e1 e2 e3
        subst e1
        by_cases h0 : 0 < P.length
        · obtain ⟨b, off, rfl, hlt, -⟩ := h3 h0
          have := Option.some.inj e
          simp at this
          omega
        · have := HP.out.2.1
          have h9 : P.length = m + 8 := HPL.out
          omega
      have HST := Lib.hid hstart
      have HHB := Lib.hid hhb
      clear hstart hhb
      generalize (w8.alloc (Obj.cells _ _)) = w9 at HST ⊢
      go_loopw [3] (fun u wr => ∃ (j : Nat) (A : Option Addr) (cap : Nat), u = .slice A (P.length - 64 * j) cap ∧ 64 * j ≤ P.length ∧ Upd (fun _ => False) w8 wr ∧ Blk wr hb 353 (arrU (hashN j [a0, a1, a2, a3, a4, a5, a6, a7] P)) ∧ BytesAt wr (.slice A (P.length - 64 * j) cap) (P.drop (64 * j)) ∧ (Value.slice A (P.length - 64 * j) cap).ownBlock ≠ some hb) (fun u _ => lenSl u)
      case atStart => exact HST.out
      case round =>
        clear HST
        obtain ⟨j, A, cap, rfl, hj, hu, hB, hby, hne⟩ := hrel
        have hok := hashN_ok HS8.out.len HS8.out.all j P
        obtain ⟨h9, hh9⟩ : ∃ h9, hashN j [a0, a1, a2, a3, a4, a5, a6, a7] P = h9 := ⟨_, rfl⟩
        rw [hh9] at hB hok
        by_cases hlt : 64 ≤ P.length - 64 * j
        · obtain ⟨d0, d1, d2, d3, d4, d5, d6, d7, rfl⟩ := eight hok.1
          obtain ⟨A', cap', e, hcap1, hcap2, hbz⟩ := hby
          injection e with e1 e2 e3
          subst e1 e3
          have hl : (P.drop (64 * j)).length = P.length - 64 * j := by rw [List.length_drop]
          rw [hl] at hcap1
          obtain ⟨b, off, rfl, hbl, hbz⟩ := hbz (by omega)
          obtain ⟨L, hL⟩ : ∃ L, P.length - 64 * j = L := ⟨_, rfl⟩
          have HLj := Lib.hid (And.intro hL hj)
          rw [hL] at hlt hl hcap1 hne ⊢
          have HBY := Lib.hid (And.intro hl hbz)
          have hBd := hB.drew
          have HU := Lib.hid (And.intro hu (And.intro hB (And.intro hh9 hok.2)))
          obtain ⟨q0, q1, q2, q3, q4, q5, q6, q7⟩ : wr.cell? ⟨hb, 0, none⟩ = some (.int .u32 d0) ∧ wr.cell? ⟨hb, 1, none⟩ = some (.int .u32 d1) ∧ wr.cell? ⟨hb, 2, none⟩ = some (.int .u32 d2) ∧ wr.cell? ⟨hb, 3, none⟩ = some (.int .u32 d3) ∧ wr.cell? ⟨hb, 4, none⟩ = some (.int .u32 d4) ∧ wr.cell? ⟨hb, 5, none⟩ = some (.int .u32 d5) ∧ wr.cell? ⟨hb, 6, none⟩ = some (.int .u32 d6) ∧ wr.cell? ⟨hb, 7, none⟩ = some (.int .u32 d7) := ⟨hB.cell 0, hB.cell 1, hB.cell 2, hB.cell 3, hB.cell 4, hB.cell 5, hB.cell 6, hB.cell 7⟩
          have i1 : (64 : Int) ≤ (L : Int) := by omega
          have i2 : (64 : Int) ≤ (cap : Int) := by omega
          have HNE := Lib.hid hne
          unfold maxLen at hcap2
          clear hu hB hh9 hok hbz e2 hl hL hj hne hBd
          go_wp2_with fail
          go_still_tail 7, (by kernel_rfl)
          change wpList _ _ _ _ _ wr.drew
          clear q0 q1 q2 q3 q4 q5 q6 q7
          go_wp2_with (first
            | (go_at_call 369
               refine (turn_c [d0, d1, d2, d3, d4, d5, d6, d7] [d0, d1, d2, d3, d4, d5, d6, d7] hashK ((P.drop (64 * j)).take 64) x 8 b off cap _ rfl rfl hashK_ok.1 HU.out.2.2.2 HU.out.2.2.2 hashK_ok.2 (HS8.out.still HU.out.1.drew).k_ (HS8.out.still HU.out.1.drew).blk.lt (by rw [List.length_take, HBY.out.1]; omega) (by omega) (by omega) hbl (fun i hi => by
                 rw [World.cell?_drew, HBY.out.2 i (by rw [HBY.out.1]; omega)]; simp [List.getD_eq_getElem?_getD, hi])).mono ?_
               rintro e w10 ⟨rfl, hU10⟩
               obtain ⟨h', hh'⟩ : ∃ h', turnL [d0, d1, d2, d3, d4, d5, d6, d7] [d0, d1, d2, d3, d4, d5, d6, d7] hashK ((P.drop (64 * j)).take 64) = h' := ⟨_, rfl⟩
               have h8' : h'.length = 8 := by rw [← hh', turnL_len]; rfl
               rw [hh']
               have HU10 := Lib.hid (And.intro hU10 (And.intro h8' hh'))
               clear hU10 h8' hh')
            | (show wpList _ _ _ (⟨none, _, _, _, _, _⟩ :: _) _ _
               refine wpList_store_all rfl 353 _ _ rfl hb (arrU h') rfl rfl 353 _ (HU.out.2.1.upd (Upd.drew (Upd.refl (fun _ => False) wr) |>.then HU10.out.1 (fun _ e => e.elim)) (fun e => e)) (by rw [arrU_size, arrU_size, HU10.out.2.1]; rfl) (arrU_one _) (by rw [arrU_size, HU10.out.2.1]; kernel_rfl) ?_
               intro w11 hB11 hU11 hz11))
          have hfin : ∀ (A' : Option Addr) (cap' : Nat), BytesAt w11 (.slice A' (L - 64) cap') ((P.drop (64 * j)).drop 64) → (Value.slice A' (L - 64) cap').ownBlock ≠ some hb →
              (∃ (j : Nat) (A : Option Addr) (cap : Nat), Value.slice A' (L - 64) cap' = .slice A (P.length - 64 * j) cap ∧ 64 * j ≤ P.length ∧ Upd (fun _ => False) w8 w11 ∧ Blk w11 hb 353 (arrU (hashN j [a0, a1, a2, a3, a4, a5, a6, a7] P)) ∧ BytesAt w11 (.slice A (P.length - 64 * j) cap) (P.drop (64 * j)) ∧ (Value.slice A (P.length - 64 * j) cap).ownBlock ≠ some hb) := by
            intro A' cap' h1 h2
            have e64 : P.length - 64 * (j + 1) = L - 64 := by have := HLj.out.1; omega
            refine ⟨j + 1, A', cap', by rw [e64], by have := HLj.out.1; omega, (HU.out.1.drew.then HU10.out.1 (fun _ e => e.elim)).then hU11 (fun q hq => .inr (by have := HHB.out; omega)), ?_, ?_, ?_⟩
            · rw [hashN_snoc, HU.out.2.2.1, HU10.out.2.2]
              exact hB11
            · rw [e64, show 64 * (j + 1) = 64 * j + 64 by omega, ← List.drop_drop]
              exact h1
            · rw [e64]; exact h2
          have hby2 : BytesAt w11 (.slice (some ⟨b, off, none⟩) L cap) (P.drop (64 * j)) := by
            have h1 : BytesAt wr (.slice (some ⟨b, off, none⟩) L cap) (P.drop (64 * j)) := ⟨_, cap, by rw [HBY.out.1], by rw [HBY.out.1]; exact hcap1, by unfold maxLen; exact hcap2, fun _ => ⟨b, off, rfl, hbl, HBY.out.2⟩⟩
            exact h1.upd (((Upd.refl (fun _ => False) wr).drew.then HU10.out.1 (fun _ e => e.elim)).trans hU11 (H := (· = hb)) (fun _ e => e.elim) (fun _ e => .inl e)) (fun k hk e => HNE.out (by rw [hk, e]))
          go_roundw
          case rel =>
            by_cases hcapL : cap = 64
            · rw [if_pos hcapL, hcapL]
              obtain rfl : L = 64 := by omega
              refine hfin _ _ ?_ HNE.out
              rw [List.drop_of_length_le (by rw [HBY.out.1]; omega)]
              exact BytesAt.none _ _ (by unfold maxLen; omega)
            · rw [if_neg hcapL]
              refine hfin _ _ ?_ HNE.out
              by_cases hL64 : L = 64
              · subst hL64
                rw [List.drop_of_length_le (by rw [HBY.out.1]; omega)]
                exact BytesAt.none _ _ (by unfold maxLen; omega)
              · exact hby2.drop (by omega)
          case measure => simp [lenSl]; omega
        · have hP64 := HP.out.2.1.1
          have hj0 : P.length - 64 * j = 0 := by omega
          have hjq : P.length / 64 = j := by omega
          rw [hj0] at hne hby ⊢
          obtain ⟨d0, d1, d2, d3, d4, d5, d6, d7, rfl⟩ := eight hok.1
          have HU := Lib.hid (And.intro hu (And.intro hB (And.intro hh9 (And.intro hok.2 hjq))))
          have HOB : Hid (Blk wr g 70 (arrB (List.replicate 32 0))) := Lib.hid (by
            rw [← HG.out]
            exact HW1.out.2.upd (HP.out.2.2.1.then hu (fun _ e => e.elim)) (fun e => e))
          clear hP64 hj0 hjq hu hB hh9 hok hne hby hlt hj
          go_wp2_with (first
            | (refine wpList_load_all rfl _ _ rfl hb rfl _ _ _ HU.out.2.1 Tryz.underlying353 rfl rfl ?_))
          go_loopw [51] (fun u wr => ∃ k : Nat, k ≤ 8 ∧ u = .int .i64 (k : Int) ∧ Upd (fun q => q = g) w1 wr ∧ Blk wr g 70 (arrB (outL ([d0, d1, d2, d3, d4, d5, d6, d7].take k) ++ List.replicate (32 - 4 * k) 0))) (fun u _ => 8 - (intOf u).toNat)
          case atStart => exact ⟨0, by omega, rfl, (HP.out.2.2.1.then HU.out.1 (fun _ e => e.elim)).mono (fun _ e => e.elim), HOB.out⟩
          case round =>
            clear HOB
            obtain ⟨k, hk, rfl, hu, hB⟩ := hrel
            have HB := Lib.hid (And.intro hu hB)
            clear hu hB
            by_cases hlt : k < 8
            · have hd : [d0, d1, d2, d3, d4, d5, d6, d7].length = 8 := rfl
              obtain ⟨zk, hzk⟩ : ∃ z, [d0, d1, d2, d3, d4, d5, d6, d7].getD k 0 = z := ⟨_, rfl⟩
              have hix := run_index8 wr [d0, d1, d2, d3, d4, d5, d6, d7] rfl k hlt
              have hzu := HU.out.2.2.2.1.get k
              rw [hzk] at hix hzu
              obtain ⟨z, rfl⟩ : ∃ z : Nat, zk = (z : Int) := ⟨zk.toNat, by have := hzu.1; omega⟩
              have hz1' : z < 4294967296 := by have := hzu.2; omega
              have hstep := outL_step (l := [d0, d1, d2, d3, d4, d5, d6, d7]) k (by simp; omega) rfl
              rw [hzk, Int.toNat_natCast] at hstep
              have HZ := Lib.hid hstep
              have hBd := HB.out.2.drew
              have HBD := Lib.hid hBd
              obtain ⟨q, hq⟩ : ∃ q, 4 * k = q := ⟨_, rfl⟩
              have HQ := Lib.hid hq
              have i1 : (q : Int) ≤ 32 := by omega
              have i0 : (0 : Int) ≤ (q : Int) := by omega
              have i2 : q < 32 := by omega
              have i3 : ¬ 32 = q := by omega
              have i4 : IntKind.i64.wrap (4 * (k : Int)) = (q : Int) := by rw [IntWalk.i64_in _ (by omega)]; omega
              clear hzk hd hzu hstep hBd hq
              go_wp2_with fail
              refine wp_region_noPanic ?_
              refine wp_region_T (S := fun w' => Upd (fun _ => False) wr w') (T := fun k => k == 6) (by kernel_rfl) ?_
              have hS0 := (Upd.refl (fun _ => False) wr).drew
              refine wpAnyT_take (i := 0) (v := ?_) rfl (by kernel_rfl) (by kernel_rfl) (by kernel_rfl) (by kernel_rfl) (fun _ _ _ h => h) (takes_yield rfl (Or.inl ⟨by rfl, ?_⟩)) (by assumption) (by kernel_rfl) ?_
              rotate_left 1
              · intro w' hSw; go_split_ands; first | (go_simp; done) | (go_simp; rfl) | rfl
              simp only [Act.put, List.getElem_toArray, List.getElem_cons_zero, List.setIfInBounds_toArray, List.set_cons_zero, List.set_cons_succ]
              refine wpAnyT_take (i := 1) (v := ?_) rfl (by kernel_rfl) (by kernel_rfl) (by kernel_rfl) (by kernel_rfl) (fun _ _ _ h => h) (takes_yield rfl (Or.inl ⟨by rfl, ?_⟩)) (by assumption) (by kernel_rfl) ?_
              rotate_left 1
              · intro w' hSw; go_split_ands; first | (go_simp; done) | (go_simp; rfl) | rfl
              simp only [Act.put, List.getElem_toArray, List.getElem_cons_zero, List.getElem_cons_succ, List.setIfInBounds_toArray, List.set_cons_zero, List.set_cons_succ]
              refine wpAnyT_take (i := 2) (v := ?_) rfl (by kernel_rfl) (by kernel_rfl) (by kernel_rfl) (by kernel_rfl) (fun _ _ _ h => h) (takes_yield rfl (Or.inl ⟨by rfl, ?_⟩)) (by assumption) (by kernel_rfl) ?_
              rotate_left 1
              · intro w' hSw; go_split_ands; first | (go_simp; done) | (go_simp; rfl) | rfl
              simp only [Act.put, List.getElem_toArray, List.getElem_cons_zero, List.getElem_cons_succ, List.setIfInBounds_toArray, List.set_cons_zero, List.set_cons_succ]
              refine wpAnyT_take (i := 3) (v := ?_) rfl (by kernel_rfl) (by kernel_rfl) (by kernel_rfl) (by kernel_rfl) (fun _ _ _ h => h) (takes_yield rfl (Or.inl ⟨by rfl, ?_⟩)) (by assumption) (by kernel_rfl) ?_
              rotate_left 1
              · intro w' hSw; go_split_ands; first | (go_simp; done) | (go_simp; rfl) | rfl
              simp only [Act.put, List.getElem_toArray, List.getElem_cons_zero, List.getElem_cons_succ, List.setIfInBounds_toArray, List.set_cons_zero, List.set_cons_succ]
              refine wpAnyT_take (i := 4) (v := ?_) rfl (by kernel_rfl) (by kernel_rfl) (by kernel_rfl) (by kernel_rfl) (fun _ _ _ h => h) (takes_yield rfl (Or.inl ⟨by rfl, ?_⟩)) (by assumption) (by kernel_rfl) ?_
              rotate_left 1
              · intro w' hSw; go_split_ands; first | (go_simp; done) | (go_simp; rfl) | rfl
              simp only [Act.put, List.getElem_toArray, List.getElem_cons_zero, List.getElem_cons_succ, List.setIfInBounds_toArray, List.set_cons_zero, List.set_cons_succ]
              refine wpAnyT_one (i := 5) (by kernel_rfl) rfl (fun K hK => ?_)
              go_simp
              clear i4 hix
              rw [u64_wrap z (by omega)]
              refine (putBig_sha (.slice none 0 0) 0 [] z 4 _ (Own.nil _ _ _) (by decide) (by decide)).mono ?_
              rintro e w12 ⟨v12, rfl, ho12, hU12, hl12⟩
              rw [Nat.zero_add, List.nil_append] at ho12
              have hu12 : Upd (fun _ => False) wr.drew w12 := hU12.mono (fun b hb => by simp [Value.ownBlock] at hb)
              have hS1 := hS0.then hu12 (fun _ e => e.elim)
              refine hK.out _ _ hS1 ?_
              have hby := BytesAt.of_own ho12
              have hln := outL_pad (l := [d0, d1, d2, d3, d4, d5, d6, d7]) rfl k hk
              have hlb := beB_len z 4
              have hq := HQ.out
              obtain ⟨W, rv, hcp, hB13, hU13, hz13⟩ := copy_bytes (off := q) (n := 32 - q) (cap := 32 - q) (l := beB z 4) (HBD.out.upd hu12 (fun e => e)) hby (by omega) (by omega)
              obtain ⟨A12, c12, rfl, -, -⟩ := ho12.shape
              clear hK
              refine wpAnyT_oneT (i := 6) (by kernel_rfl) rfl (by kernel_rfl) (fun K hK => ?_)
              refine step_copy_run (by rfl) _ _ _ _ (by rfl) (by rfl) (by rfl) hcp ?_
              refine hK.out _ _ ?_
              rw [hlb, ← hq, HZ.out] at hB13
              have HE := Lib.hid (And.intro hB13 (And.intro hS1 hU13))
              clear hK hcp hB13 hU13 hz13 hS1 hS0 hln hlb hq hby ho12 hU12 hl12 hu12
              refine wpAnyT_done (by kernel_rfl) ?_ _
              refine NoPanic.normal ?_
              go_wp2_with fail
              go_roundw
              case rel => exact ⟨k + 1, by omega, by go_num, (HB.out.1.then HE.out.2.1 (fun _ e => e.elim)).then HE.out.2.2 (fun q hq => .inl hq), HE.out.1⟩
              case measure => simp [intOf] <;> omega
            · obtain rfl : k = 8 := by omega
              have e8 : ((8 : Nat) : Int) = 8 := rfl
              rw [e8]
              have hfin : outL ([d0, d1, d2, d3, d4, d5, d6, d7].take 8) ++ List.replicate (32 - 4 * 8) 0 = outL (hashN (P.length / 64) [a0, a1, a2, a3, a4, a5, a6, a7] P) := by
                rw [HU.out.2.2.2.2, HU.out.2.2.1]
                simp
              have hB := HB.out.2
              rw [hfin] at hB
              obtain ⟨O, hO⟩ : ∃ O, outL (hashN (P.length / 64) [a0, a1, a2, a3, a4, a5, a6, a7] P) = O := ⟨_, rfl⟩
              have hOl : O.length = 32 := by rw [← hO, HU.out.2.2.2.2, HU.out.2.2.1, outL_len]; rfl
              rw [hO] at hB
              have HB2 := Lib.hid (And.intro hB (And.intro hO hOl))
              clear hB hO hOl hfin e8 hlt hk
              go_wp2_with (first
                | (show wpList _ _ _ (⟨none, _, _, _, _, _⟩ :: _) _ _
                   refine wpList_store_all rfl 70 _ _ rfl g (arrB O) rfl rfl 70 _ HB2.out.1 rfl (arrB_one _) (by rw [arrB_size, HB2.out.2.2]; kernel_rfl) ?_
                   intro w14 hB14 hU14 hz14)
                | (refine wpList_load_all rfl _ _ rfl g rfl _ _ _ HB2.out.1 Tryz.underlying70 rfl (by rw [arrB_size, HB2.out.2.2]; kernel_rfl) ?_))
              have hu14 := (HW1.out.1.then HB.out.1 (fun q hq => .inr (by have := HG.out; omega))).then hU14 (fun q hq => .inr (by have := HG.out; omega))
              refine bodyPost_ret (results_cell_row rfl _ _ g _ _ _ _ rfl hB14 Tryz.underlying70 rfl (by rw [arrB_size, HB2.out.2.2]; kernel_rfl)) rfl ⟨by rw [HB2.out.2.1], hu14⟩
set_option maxRecDepth 100000 in
theorem hash_c (t : ByteArray) (ht : t.size ≤ 1000000) (w : World) : Calls Tryz.prog 148 #[.string t] w fun e w' => e = .returned (.agg (arrB (shaL t.data.toList))) ∧ Upd (fun _ => False) w w' := by
  have HD := Lib.hid (show shaL t.data.toList = outL (hashN ((padB (t.data.toList.drop (64 * (t.size / 64))) t.size).length / 64) (hashN (t.size / 64) hash0 t.data.toList) (padB (t.data.toList.drop (64 * (t.size / 64))) t.size)) from rfl)
  obtain ⟨O, hO⟩ : ∃ O, shaL t.data.toList = O := ⟨_, rfl⟩
  have hOl : O.length = 32 := by rw [← hO]; exact shaL_len _
  rw [hO]
  have HO := Lib.hid (And.intro hO hOl)
  clear hO hOl
  go_enter Tryz.func148, Tryz.ntmps148
  go_wp2_with fail
  generalize hw1 : w.alloc (Obj.cells _ _) = w1
  have hU1 : Upd (fun _ => False) w w1 := by rw [← hw1]; exact (Upd.refl _ w).alloc _
  have hO1 : Blk w1 w.heap.size 70 (arrB (List.replicate 32 0)) := by rw [← hw1]; exact Blk.new w _ _
  have HW1 := Lib.hid (And.intro hU1 hO1)
  clear hw1 hU1 hO1
  refine (shanew_c w1).mono ?_
  rintro e w2 ⟨x, rfl, hs2⟩
  have HS2 := Lib.hid hs2
  clear hs2
  go_wp2_with fail
  refine (shawrite_c HS2.out t ht).mono ?_
  rintro e w3 ⟨r, rfl, hs3, hb3⟩
  have HS3 := Lib.hid (And.intro hs3 hb3)
  clear hs3 hb3
  go_wp2_with fail
  refine (shasum_c HS3.out.1 HS3.out.2 (by rw [List.length_drop]; show t.size - _ < 64; omega) ht).mono ?_
  rintro e w4 ⟨rfl, hU4⟩
  rw [← HD.out, HO.out.1]
  have HB4 : Hid (Blk w4 w.heap.size 70 (arrB (List.replicate 32 0))) := Lib.hid (HW1.out.2.upd (HS3.out.1.upd.then hU4 (fun _ e => e.elim)) (fun e => e))
  have HU4 := Lib.hid ((HW1.out.1.then HS3.out.1.upd (fun _ e => e.elim)).then hU4 (fun _ e => e.elim))
  clear hU4
  go_wp2_with (first
    | (show wpList _ _ _ (⟨none, _, _, _, _, _⟩ :: _) _ _
       refine wpList_store_all rfl 70 _ _ rfl w.heap.size (arrB O) rfl rfl 70 _ HB4.out (by rw [arrB_size, arrB_size, HO.out.2]; rfl) (arrB_one _) (by rw [arrB_size, HO.out.2]; kernel_rfl) ?_
       intro w14 hB14 hU14 hz14))
  refine bodyPost_ret (results_cell_row rfl _ _ w.heap.size _ _ _ _ rfl hB14 Tryz.underlying70 rfl (by rw [arrB_size, HO.out.2]; kernel_rfl)) rfl ⟨rfl, HU4.out.then hU14 (fun q hq => .inr (by omega))⟩
end Go.Proofs.YtdfgmieinbmfkaaGreat
