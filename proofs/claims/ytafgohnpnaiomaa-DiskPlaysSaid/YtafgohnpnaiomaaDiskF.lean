/-
  Bytes of what lasts are turned: Spoil.
-/
import Derived.Test.YtafgohnpnaiomaaDiskE
namespace Go.Proofs.Ytafgohnpnaiomaa
open Go Go.RowKit

theorem left_last {w : World} {p bl cap bm : Nat} {d : Dk} {m : List (Int × Value)}
    (g1 : Blk w p 87 #[.slice (some ⟨bl, 0, none⟩) d.lasts.length cap, .map (some bm), .int .i64 d.fuse, .bool d.off])
    (g2 : Own w 9 1 (.slice (some ⟨bl, 0, none⟩) d.lasts.length cap) d.lasts.length (strs d.lasts))
    (g3 : MapB intKey w bm m) (g4 : WaitsAt w m d.waits) (g5 : d.wf) (g7 : (p :: bl :: bm :: m.filterMap (·.2.ownBlock)).Nodup) (i : Nat) (b : ByteArray) (hb : b.size = 64) :
    Left w (w.setCell ⟨bl, i, none⟩ (.string b)) p { d with lasts := d.lasts.set i b } (p :: bl :: bm :: m.filterMap (·.2.ownBlock)) (p :: bl :: bm :: m.filterMap (·.2.ownBlock)) := by
  have hpl : p ≠ bl := fun e => by subst e; simp at g7
  have hml : bm ≠ bl := fun e => by subst e; simp at g7
  have hln : bl ∉ m.filterMap (·.2.ownBlock) := by
    simp only [List.nodup_cons, List.mem_cons, not_or] at g7
    exact g7.2.1.2
  refine ⟨⟨bl, cap, bm, m, ?_, ?_, g3.far hml _, g4.upd (fun k hk => Below.heap_setCell _ _ _ _ (fun e => hln (by have e' : k = bl := e; rw [← e']; exact hk))), ?_, rfl, g7⟩, (Upd.refl _ _).setCell (.inl (by simp)) _, fun _ hk => .inl hk⟩
  · have h := g1.far (p := ⟨bl, i, none⟩) hpl (.string b)
    simpa using h
  · have h := g2.stored i (.string b)
    simpa [strs, List.map_set] using h
  · refine ⟨by simpa using g5.len, by simpa using g5.pos, by simpa using g5.most, fun x hx => ?_, g5.waits, g5.fuse, g5.fuse', g5.room⟩
    rcases List.mem_or_eq_of_mem_set hx with h | rfl
    · exact g5.lasts x h
    · exact hb
theorem u8_xor (a b : UInt8) : bits .xor .u8 (a.toNat : Int) (b.toNat : Int) = ((a ^^^ b).toNat : Int) := by
  have e : bits .xor .u8 (a.toNat : Int) (b.toNat : Int) = IntKind.u8.wrap ((BitVec.ofInt 8 (a.toNat : Int) ^^^ BitVec.ofInt 8 (b.toNat : Int)).toNat : Int) := rfl
  have ha := a.toNat_lt
  have hb := b.toNat_lt
  have h := Nat.xor_lt_two_pow (n := 8) ha hb
  have e8 : ∀ x : Nat, BitVec.ofInt 8 (x : Int) = BitVec.ofNat 8 x := fun x => by simp
  rw [e, e8, e8, BitVec.toNat_xor, BitVec.toNat_ofNat, BitVec.toNat_ofNat, Nat.mod_eq_of_lt ha, Nat.mod_eq_of_lt hb, UInt8.toNat_xor]
  generalize a.toNat ^^^ b.toNat = n at *
  simp only [IntKind.wrap, IntKind.bits, IntKind.signed]
  simp
  omega
theorem bytesV_set (l : List UInt8) (j : Nat) (y : UInt8) : (bytesV l).set j (.int .u8 (y.toNat : Int)) = bytesV (l.set j y) := by simp [bytesV, List.map_set]

set_option maxRecDepth 100000 in
set_option maxHeartbeats 800000 in
theorem spoil_bad {w : World} {p : Nat} {d : Dk} {F : List Nat} (hD : DiskAt w p d F) (i a : Int) (x : ByteArray) (ha1 : -9223372036854775808 ≤ a) (ha2 : a ≤ 9223372036854775807) (hxs : x.size ≤ 9223372036854775807)
    (h : (d.there i && decide (x.size ≤ 4 ∧ 0 ≤ a ∧ a ≤ 64 - x.size)) = false) :
    Calls Try.prog 35 #[.pointer (some ⟨p, 0, none⟩), .int .i64 i, .int .i64 a, .string x] w fun e w' => e = .returned (.int .i64 1) ∧ w = w' := by
  have Hn := Lib.hid (none_c hD)
  have Ht := Lib.hid (there_c hD i)
  clear hD
  cases ht : d.there i with
  | false =>
    rw [ht] at Ht
    clear h ht
    go_enter Try.func35, Try.ntmps35
    go_wp2_with (first
      | (go_at_call 84; refine Hn.out.mono ?_; rintro e w' ⟨rfl, rfl⟩)
      | (go_at_call 76; refine Ht.out.mono ?_; rintro e w' ⟨rfl, rfl⟩))
    go_ret
    exact ⟨rfl, rfl⟩
  | true =>
    rw [ht] at Ht h
    rw [Bool.true_and, decide_eq_false_iff_not] at h
    clear ht
    by_cases h4 : 4 < x.size
    · have h4' : (4 : Int) < (x.size : Int) := by omega
      clear h
      go_enter Try.func35, Try.ntmps35
      go_wp2_with (first
        | (go_at_call 84; refine Hn.out.mono ?_; rintro e w' ⟨rfl, rfl⟩)
        | (go_at_call 76; refine Ht.out.mono ?_; rintro e w' ⟨rfl, rfl⟩))
      go_ret
      exact ⟨rfl, rfl⟩
    · have h4' : ¬ (4 : Int) < (x.size : Int) := by omega
      by_cases h0 : a < 0
      · clear h
        go_enter Try.func35, Try.ntmps35
        go_wp2_with (first
          | (go_at_call 84; refine Hn.out.mono ?_; rintro e w' ⟨rfl, rfl⟩)
          | (go_at_call 76; refine Ht.out.mono ?_; rintro e w' ⟨rfl, rfl⟩))
        go_ret
        exact ⟨rfl, rfl⟩
      · have h6 : 64 - (x.size : Int) < a := by omega
        have hx : (x.size : Int) ≤ 4 := by omega
        clear h
        go_enter Try.func35, Try.ntmps35
        go_wp2_with (first
          | (go_at_call 84; refine Hn.out.mono ?_; rintro e w' ⟨rfl, rfl⟩)
          | (go_at_call 76; refine Ht.out.mono ?_; rintro e w' ⟨rfl, rfl⟩))
        go_ret
        exact ⟨rfl, rfl⟩
end Go.Proofs.Ytafgohnpnaiomaa
