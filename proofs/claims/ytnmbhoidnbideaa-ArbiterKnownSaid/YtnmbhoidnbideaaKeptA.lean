/-
  A record's parts: their sectors.
-/
import Derived.Test.YtnmbhoidnbideaaDiskN
namespace Go.Proofs.Ytnmbhoidnbideaa
open Go Go.RowKit

/-- A part of a record. -/
structure Pt where
  gen : Nat
  number : Nat
  all : Nat
  text : List UInt8
deriving DecidableEq
def Pt.cells (p : Pt) : List Value := [.int .u64 p.gen, .int .i64 p.number, .int .i64 p.all, .string (str p.text)]
def Pt.val (p : Pt) : Value := .agg #[.int .u64 p.gen, .int .i64 p.number, .int .i64 p.all, .string (str p.text)]
/-- The sixty bytes of a part. -/
def Pt.body (p : Pt) : List UInt8 := leB p.gen 8 ++ [UInt8.ofNat p.number, UInt8.ofNat p.all, UInt8.ofNat p.text.length, 0] ++ p.text ++ List.replicate (48 - p.text.length) 0
theorem Pt.body_len (p : Pt) (h : p.text.length ≤ 48) : p.body.length = 60 := by simp [Pt.body, leB_len]; omega

theorem str_app (a b : List UInt8) : str a ++ str b = str (a ++ b) := by
  unfold str
  rw [ByteArray.mk_append_mk]
theorem repeat_zero (n : Nat) : (⟨(Lib.repeatL (⟨#[0]⟩ : ByteArray).data.toList n).toArray⟩ : ByteArray) = str (List.replicate n 0) := by
  unfold str
  congr 2
  induction n with
  | zero => rfl
  | succ n ih => rw [Lib.repeatL, ih]; rfl

theorem Src.of_news {P : Program} {w : World} {xT t e : TypeId} {size n : Nat} (ht : P.underlying xT = some (.slice t)) (news : List Value) (hn : news.length = n * size) :
    Src P (w.alloc (.cells news.toArray e)) xT size (.slice (some ⟨w.heap.size, 0, none⟩) n n) n news :=
  .of_addr ht _ _ _ hn fun j u hu => by
    have hadd : (⟨w.heap.size, 0, none⟩ : Addr).add j = ⟨w.heap.size, j, none⟩ := by unfold Addr.add; split <;> simp_all
    rw [hadd, World.cell?_alloc_new]
    simpa using hu
theorem head4 (nu al n : Nat) (h1 : nu < 256) (h2 : al < 256) (h3 : n < 256) : bytesV [UInt8.ofNat nu, UInt8.ofNat al, UInt8.ofNat n, 0] = [.int .u8 (nu : Int), .int .u8 (al : Int), .int .u8 (n : Int), .int .u8 0] := by
  simp only [bytesV, List.map_cons, List.map_nil]
  rw [byteV, byteV, byteV, Int.emod_eq_of_lt (by omega) (by omega), Int.emod_eq_of_lt (by omega) (by omega), Int.emod_eq_of_lt (by omega) (by omega)]
  rfl

set_option maxRecDepth 100000 in
set_option maxHeartbeats 800000 in
theorem sector_c (p : Pt) (w : World) (hg : p.gen < 18446744073709551616) (ht : p.text.length ≤ 48) (hn : p.number < 256) (ha : p.all < 256) :
    Calls Try.prog 34 #[p.val] w fun e w' => e = .returned (.string (str (closeL p.body))) ∧ Below w.heap.size w w' := by
  obtain ⟨i0, hi0, hz0, hz1, hz2⟩ := info_parts infoU8
  have hbl := Lib.hid (p.body_len ht)
  have HB : Hid (p.body = leB p.gen 8 ++ [UInt8.ofNat p.number, UInt8.ofNat p.all, UInt8.ofNat p.text.length, 0] ++ p.text ++ List.replicate (48 - p.text.length) 0) := rfl
  obtain ⟨g, nu, al, tx⟩ := p
  generalize (⟨g, nu, al, tx⟩ : Pt).body = bd at *
  simp only [Pt.val] at *
  have hsz : (str tx).size = tx.length := str_size tx
  go_enter Try.func34, Try.ntmps34
  go_wp2_with fail
  refine (putLittle_kept (.slice none 0 0) 0 [] g 8 _ (Own.nil _ _ _) (by omega) (by omega)).mono ?_
  rintro e w1 ⟨v1, rfl, hO1, hU1, hl1⟩
  simp only [Nat.zero_add, List.nil_append] at hO1
  have hbx : Blk (w.alloc (.cells #[.int .u64 (g : Int), .int .i64 (nu : Int), .int .i64 (al : Int), .string (str tx)] 81)) w.heap.size 81 #[.int .u64 (g : Int), .int .i64 (nu : Int), .int .i64 (al : Int), .string (str tx)] := Blk.new _ _ _
  have hB1 := hbx.upd hU1 (by simp [Value.ownBlock])
  have hc1 := hB1.cells4
  have hU1' : Upd (fun _ => False) w w1 := ((Upd.refl _ w).alloc _).then hU1 (fun b h => by simp [Value.ownBlock] at h)
  have hl1' : ∀ q, v1.ownBlock = some q → w.heap.size + 1 ≤ q := fun q hq => by
    rcases hl1 with h | ⟨q', h, hq'⟩
    · rw [h] at hq; simp [Value.ownBlock] at hq
    · rw [h] at hq
      have := Option.some.inj hq
      simp at hq'
      omega
  have H1 := Lib.hid (And.intro hU1' (And.intro hl1' hB1))
  clear hU1 hl1 hbx hB1 hU1' hl1'
  have h4 := Lib.hid (head4 nu al tx.length hn ha (by omega))
  have HR : Hid (∀ W, Calls Try.prog 26 #[.string ⟨#[0]⟩, .int .i64 (48 - (tx.length : Int))] W fun e w' => e = .returned (.string (str (List.replicate (48 - tx.length) 0))) ∧ Below W.heap.size W w') := by
    intro W
    have h := Try.strings_Repeat ⟨#[0]⟩ (48 - tx.length) W (by omega) (by show 1 * _ ≤ _; omega)
    rw [repeat_zero] at h
    rw [show (48 - (tx.length : Int)) = ((48 - tx.length : Nat) : Int) from by omega]
    exact h
  go_wp2_with (first
    | (at_builtin
       refine wpList_append_src rfl (.tmp 9) (.tmp 20) _ _ rfl 5 i0 _ 1 1 Try.underlying48 hi0 hz0 hz1 hz2 rfl v1 8 _ rfl (hO1.alloc _) _ 4 [.int .u8 (nu : Int), .int .u8 (al : Int), .int .u8 (tx.length : Int), .int .u8 0] rfl (Src.of_news Try.underlying48 _ rfl) (by simp [Value.oneCell']) (by unfold maxLen; omega) (by omega) ?_
       intro v2 w2 hO2 hU2 hl2 hs2
       obtain ⟨hU1, hl1, hB1⟩ := H1.out
       have hB2 := (hB1.alloc _).upd hU2 (fun e => by have := hl1 _ e; omega)
       have hc2 := hB2.cells4
       have hU2' : Upd (fun _ => False) w w2 := (hU1.alloc _).then hU2 (fun b h => .inr (by have := hl1 b h; omega))
       have hl2' : ∀ q, v2.ownBlock = some q → w.heap.size + 1 ≤ q := fun q hq => by
         rcases hl2 with h | h
         · exact hl1 q (by rw [← h]; exact hq)
         · rw [h] at hq
           have h5 := Option.some.inj hq
           have h6 := hB1.lt
           simp at h5
           omega
       rw [← h4.out, ← bytesV_app] at hO2
       have H2 := Lib.hid (And.intro hU2' (And.intro hl2' hB2))
       clear hU1 hl1 hB1 hU2 hl2 hs2 hB2 hU2' hl2' hO1 hc1)
    | (at_builtin
       refine wpList_append_src rfl (.tmp 22) (.tmp 24) _ _ rfl 5 i0 _ 1 1 Try.underlying48 hi0 hz0 hz1 hz2 rfl v2 (8 + 4) _ rfl hO2 _ (str tx).size _ rfl (Src.of_string Try.underlying9 (str tx)) (bytesV_one _) (by unfold maxLen; omega) (by omega) ?_
       intro v3 w3 hO3 hU3 hl3 hs3
       obtain ⟨hU1, hl1, hB1⟩ := H2.out
       have hB3 := hB1.upd hU3 (fun e => by have := hl1 _ e; omega)
       have hc3 := hB3.cells4
       have hU3' : Upd (fun _ => False) w w3 := hU1.then hU3 (fun b h => .inr (by have := hl1 b h; omega))
       have hO3' : Own w3 5 1 v3 (8 + 4 + (str tx).size) (bytesV (leB g 8 ++ [UInt8.ofNat nu, UInt8.ofNat al, UInt8.ofNat tx.length, 0] ++ tx)) := by rw [bytesV_app]; exact hO3
       have H3 := Lib.hid (And.intro hU3' hB3)
       clear hU1 hl1 hB1 hU3 hl3 hs3 hB3 hU3' hO3 hO2 hc2))
  generalize hL : leB g 8 ++ [UInt8.ofNat nu, UInt8.ofNat al, UInt8.ofNat tx.length, 0] ++ tx = L at hO3' HB
  have hLl : L.length = 12 + tx.length := by rw [← hL]; simp [leB_len]; omega
  have hrun1 : (convert 48 9 v3).run Try.prog w3.drew = .ok (.string (str L)) w3.drew := run_to_string hO3'.drew
  have hls : (str L).size = 12 + tx.length := by rw [str_size, hLl]
  have hcat := Lib.hid (str_app L (List.replicate (48 - tx.length) 0))
  have hsz2 : (str (List.replicate (48 - tx.length) 0)).size = 48 - tx.length := by rw [str_size]; simp
  have HO := Lib.hid hO3'
  have hHL := Lib.hid hL
  have hw48 : IntKind.i64.wrap (48 - (tx.length : Int)) = 48 - (tx.length : Int) := IntWalk.i64_in _ (by omega)
  clear hL hO3'
  go_region_with (first
    | (go_at_call 26
       refine (HR.out _).mono ?_
       rintro e w4 ⟨rfl, hb4⟩
       have hrun4 : (convert 48 9 v3).run Try.prog w4 = .ok (.string (str L)) w4 := run_to_string (HO.out.eqb fun q hq => hb4.block q (HO.out.lt hq))
       have hc4 : w4.cell? ⟨w.heap.size, 3, none⟩ = some (.string (str tx)) := (hb4.cell (p := ⟨w.heap.size, 3, none⟩) H3.out.2.lt).trans hc3.2.2.2)
    | (go_at_call 57
       refine (Close_c _ _ (by rw [ByteArray.size_append, hls, hsz2]; omega)).mono ?_
       rintro e w5 ⟨rfl, hb5⟩))
  all_goals go_wp2
  all_goals
    go_ret
    refine ⟨?_, ?_⟩
    · rw [HB.out]
      first
        | rfl
        | (trace_state; fail)
    · have hb3 : Below w.heap.size w w3 := H3.out.1.below (fun _ h => h.elim)
      have hb4' : Below w3.heap.size w3 w4 := below_of_drew hb4
      exact hb3.trans ((hb4'.mono hb3.size).trans (hb5.mono (Nat.le_trans hb3.size hb4'.size)))
end Go.Proofs.Ytnmbhoidnbideaa
