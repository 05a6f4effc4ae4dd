/-
  A record is opened, and one is put, whatever stands on the disk.
-/
import Derived.Test.YtpfbgmfkeofefaaGreatLawB
namespace Go.Proofs.YtpfbgmfkeofefaaGreat
open Go Go.RowKit

section
variable {w0 w w' : World} {p b : Nat} {d d' : Dk} {k : Kp}
/-- Blocks of other types are as they were. -/
def BlkKept2 (w w' : World) : Prop := ∀ g t cs, Blk w g t cs → t ≠ 93 → t ≠ 9 → t ≠ 122 → Blk w' g t cs
/-- What a call of a disk leaves of it and of what is kept on it. -/
structure DKS (w0 w w' : World) (p b : Nat) (d : Dk) (k : Kp) : Prop where
  disk : DkS w0 w' p d
  kept : KpS w0 w' p b k
  upd : Upd (fun q => w0.heap.size ≤ q) w w'
/-- Any record is put. -/
theorem put_any (hD : DkS w0 w p d) (hK : KpS w0 w p b k) (hat : k.at_ ≤ 1) (hf : k.from_ ≤ 4096) (hse : k.seen < 18446744073709551616) (hpe : d.pend + 20 < 1000000) (s : ByteArray) :
    Calls Tryz.prog 23 #[.pointer (some ⟨b, 0, none⟩), .string s] w fun e w' => e = .returned (.int .i64 (putK d k s.data.toList).2.2) ∧ DKS w0 w w' p b (putK d k s.data.toList).1 (putK d k s.data.toList).2.1 ∧ BlkKept2 w w' := by
  obtain ⟨F, h1, h2⟩ := hD.ex
  have hl : s.data.toList.length = s.size := by simp
  by_cases hc : k.broken = false ∧ s.size ≤ 400 ∧ k.seen < 18446744073709551615
  · refine (Put_goes h1 hK.blk s hc.1 hc.2.1 hc.2.2 hat hf hpe).mono ?_
    rintro e w' ⟨rfl, hL⟩
    obtain ⟨F', h3, h4⟩ := hL.disk
    have hlow : ∀ q, (q = b ∨ q ∈ F) → w0.heap.size ≤ q := fun q hq => hq.elim (fun e => e ▸ hK.new) (h2 q)
    refine ⟨rfl, ⟨⟨⟨F', h3, fun q hq => (h4 q hq).elim (h2 q) (fun e => Nat.le_trans hD.upd.size e)⟩, hD.upd.then hL.upd (fun q hq => .inr (hlow q hq))⟩, ⟨hL.kept, hK.new⟩, hL.upd.mono fun q hq => .inl (hlow q hq)⟩, fun g t cs hB h3 h4 h5 => hB.upd hL.upd (fun e => e.elim (fun e => hK.blk.ne_ hB (Ne.symm h5) e.symm) (h1.not_mem hB h3 h4))⟩
  · have hor : k.broken = true ∨ 400 < s.size ∨ k.seen = 18446744073709551615 := by
      cases hb : k.broken
      · right
        apply Classical.byContradiction
        intro c
        exact hc ⟨hb, by omega, by omega⟩
      · exact .inl rfl
    have hput : putK d k s.data.toList = (d, k, if k.broken then 11 else if 400 < s.size then 3 else 6) := by
      unfold putK
      by_cases c0 : k.broken = true
      · rw [if_pos c0, if_pos c0]
      · rw [if_neg c0, if_neg c0]
        by_cases c1 : 400 < s.size
        · rw [if_pos (by omega), if_pos c1]
        · rw [if_neg (by omega), if_neg c1, if_pos (by rcases hor with h | h | h <;> first | exact absurd h c0 | omega)]
    rw [hput]
    refine (Put_refused hK.blk s hor).mono ?_
    rintro e w' ⟨rfl, rfl⟩
    exact ⟨rfl, ⟨hD, hK, Upd.refl _ _⟩, fun _ _ _ hB _ _ _ => hB⟩
/-- What Open leaves: a record, or what bars it. -/
structure OpenS (w0 w w' : World) (p : Nat) (o : Option Kp) (v : Value) : Prop where
  upd : Upd (fun _ => False) w w'
  bad : o = none → v = .pointer none
  ok : ∀ k, o = some k → ∃ b, v = .pointer (some ⟨b, 0, none⟩) ∧ KpS w0 w' p b k ∧ w.heap.size ≤ b
theorem open_any (hD : DkS w0 w p d) (f : Nat) (hf : f + 20 ≤ d.lasts.length) (hoff : d.off = false) :
    Calls Tryz.prog 20 #[.pointer (some ⟨p, 0, none⟩), .int .i64 f] w fun e w' => ∃ v, e = .returned (.tuple #[v, .int .i64 (openErr (openN d f 2))]) ∧ OpenS w0 w w' p (openN d f 2) v := by
  obtain ⟨F, h1, h2⟩ := hD.ex
  refine (Open_on h1 f hf hoff).mono ?_
  rintro e w' ⟨v, rfl, hO⟩
  refine ⟨v, rfl, hO.upd, hO.bad, fun k e => ?_⟩
  obtain ⟨b, rfl, hB, hb⟩ := hO.ok k e
  exact ⟨b, rfl, ⟨hB, Nat.le_trans hD.upd.size hb⟩, hb⟩
end
theorem Dk.read_off {d : Dk} (hoff : d.off = true) (i : Int) : d.read i = (ByteArray.empty, 14) := by
  unfold Dk.read
  rw [hoff, if_pos rfl]
set_option maxRecDepth 100000 in
theorem slotOf_off {w : World} {p b : Nat} {d : Dk} {F : List Nat} {k : Kp} (hD : DiskAt w p d F) (hK : Blk w b 122 (k.cells p)) (hF : k.from_ ≤ 4096) (hoff : d.off = true) :
    Calls Tryz.prog 55 #[.pointer (some ⟨b, 0, none⟩), .int .i64 0] w fun e w' => e = .returned (.tuple #[.slice none 0 0, .int .i64 14]) ∧ Upd (fun _ => False) w w' := by
  have hcs := hK.cells7
  have HRO := Lib.hid (fun i => Dk.read_off hoff i)
  have HD := Lib.hid hD
  clear hD hK hoff
  have hwr : IntKind.i64.wrap (k.from_ : Int) = (k.from_ : Int) := IntWalk.i64_in _ (by omega)
  go_enter Tryz.func55, Tryz.ntmps55
  go_wp2
  go_loopw [6, 7, 15] (fun v r i wr => v = .slice none 0 0 ∧ r = .bool true ∧ i = .int .i64 0 ∧ w = wr) (fun _ _ _ _ => 0)
  case atStart => exact ⟨rfl, rfl, rfl, rfl⟩
  case round =>
    obtain ⟨rfl, rfl, rfl, rfl⟩ := hrel
    go_wp2_with fail
    go_region_held3 (fun w' => w'.cell? ⟨b, 0, none⟩ = some (.pointer (some ⟨p, 0, none⟩)) ∧ w'.cell? ⟨b, 1, none⟩ = some (.int .i64 (k.from_ : Int))) (go_keep) (first | (go_at_call 75; refine (read_in HD.out _).mono ?_; rintro e w' ⟨rfl, rfl⟩))
    all_goals
      simp only [HRO.out]
      go_wp2_with fail
      go_ret2
      exact ⟨rfl, (Upd.refl _ _).drew⟩
set_option maxRecDepth 100000 in
theorem Open_off {w : World} {p : Nat} {d : Dk} {F : List Nat} (hD : DiskAt w p d F) (f : Nat) (hf : f + 20 ≤ d.lasts.length) (hoff : d.off = true) :
    Calls Tryz.prog 20 #[.pointer (some ⟨p, 0, none⟩), .int .i64 f] w fun e w' => e = .returned (.tuple #[.pointer none, .int .i64 14]) ∧ Upd (fun _ => False) w w' := by
  have hm := hD.wf.most
  have hne : ((d.lasts.length : Int) == 0) = false := by rw [beq_eq_false_iff_ne]; omega
  have hf0 : ¬ (f : Int) < 0 := by omega
  have hf1 : ¬ (d.lasts.length : Int) - 20 < (f : Int) := by omega
  have HS := Lib.hid (sectors_c hD)
  have hb0 : Blk (w.alloc (.cells ((⟨f, [], 0, 1, 0, false⟩ : Kp).cells p) 122)) w.heap.size 122 ((⟨f, [], 0, 1, 0, false⟩ : Kp).cells p) := Blk.new w _ _
  have HSl := Lib.hid (slotOf_off (hD.upd ((Upd.refl (fun _ => False) w).alloc (.cells ((⟨f, [], 0, 1, 0, false⟩ : Kp).cells p) 122)) fun _ _ e => e) hb0 (by show f ≤ 4096; omega) hoff)
  clear hD hoff hb0
  go_enter Tryz.func20, Tryz.ntmps20
  go_wp2_with (go_at_call 54; refine HS.out.mono ?_; rintro e w' ⟨rfl, rfl⟩)
  go_loopw [29] (fun i wr => i = .int .i64 0 ∧ w.alloc (.cells ((⟨f, [], 0, 1, 0, false⟩ : Kp).cells p) 122) = wr) (fun _ _ => 0)
  case atStart => exact ⟨rfl, rfl⟩
  case round =>
    obtain ⟨rfl, rfl⟩ := hrel
    go_wp2_with fail
    refine HSl.out.mono ?_
    rintro e w2 ⟨rfl, hU⟩
    have HU := Lib.hid hU
    clear hU
    go_wp2_with fail
    go_ret2
    exact ⟨rfl, ((Upd.refl _ w).alloc _).then HU.out (fun _ e => e.elim)⟩
theorem open_off {w0 w : World} {p : Nat} {d : Dk} (hD : DkS w0 w p d) (f : Nat) (hf : f + 20 ≤ d.lasts.length) (hoff : d.off = true) :
    Calls Tryz.prog 20 #[.pointer (some ⟨p, 0, none⟩), .int .i64 f] w fun e w' => e = .returned (.tuple #[.pointer none, .int .i64 14]) ∧ Upd (fun _ => False) w w' := by
  obtain ⟨F, h1, h2⟩ := hD.ex
  exact Open_off h1 f hf hoff
end Go.Proofs.YtpfbgmfkeofefaaGreat
