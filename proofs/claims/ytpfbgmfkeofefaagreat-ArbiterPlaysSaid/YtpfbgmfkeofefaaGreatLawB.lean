/-
  What a law knows of a disk and of what is kept on it; the wake of the laws of chapter 09.
-/
import Derived.Test.YtpfbgmfkeofefaaGreatLawA
import Derived.Test.YtpfbgmfkeofefaaGreatArgs
namespace Go.Proofs.YtpfbgmfkeofefaaGreat
open Go Go.RowKit

/-- A disk that was made behind the world w0. -/
structure DkS (w0 w : World) (p : Nat) (d : Dk) : Prop where
  ex : ∃ F, DiskAt w p d F ∧ ∀ q ∈ F, w0.heap.size ≤ q
  upd : Upd (fun _ => False) w0 w
/-- What is kept, made behind the world w0. -/
structure KpS (w0 w : World) (p b : Nat) (k : Kp) : Prop where
  blk : Blk w b 122 (k.cells p)
  new : w0.heap.size ≤ b
section
variable {w0 w w' : World} {p b : Nat} {d : Dk} {k : Kp}
theorem DkS.still (h : DkS w0 w p d) (hu : Upd (fun _ => False) w w') : DkS w0 w' p d := by
  obtain ⟨F, h1, h2⟩ := h.ex
  exact ⟨⟨F, h1.upd hu (fun _ _ e => e), h2⟩, h.upd.then hu (fun _ e => e.elim)⟩
theorem KpS.still (h : KpS w0 w p b k) (hu : Upd (fun _ => False) w w') : KpS w0 w' p b k := ⟨h.blk.upd hu (fun e => e), h.new⟩
theorem DkS.below (h : DkS w0 w p d) (hb : Below w.heap.size w w') : DkS w0 w' p d := h.still (Upd.of_below hb _)
theorem KpS.below (h : KpS w0 w p b k) (hb : Below w.heap.size w w') : KpS w0 w' p b k := h.still (Upd.of_below hb _)
theorem DkS.drew (h : DkS w0 w p d) : DkS w0 w.drew p d := h.still (Upd.refl _ _).drew
theorem KpS.drew (h : KpS w0 w p b k) : KpS w0 w.drew p b k := h.still (Upd.refl _ _).drew
theorem DkS.wf (h : DkS w0 w p d) : d.wf := by obtain ⟨F, h1, _⟩ := h.ex; exact h1.wf
theorem DkS.left {d' : Dk} (h : DkS w0 w p d) (hL : ∀ F, DiskAt w p d F → ∃ F', Left w w' p d' F F') : DkS w0 w' p d' := by
  obtain ⟨F, h1, h2⟩ := h.ex
  obtain ⟨F', hl⟩ := hL F h1
  exact ⟨⟨F', hl.disk, fun q hq => (hl.sub q hq).elim (h2 q) (fun e => Nat.le_trans h.upd.size e)⟩, h.upd.then hl.upd (fun q hq => .inr (h2 q hq))⟩
end
theorem new_s (n : Nat) (w : World) (h1 : 1 ≤ n) (h2 : n ≤ 4096) :
    Calls Tryz.prog 9 #[.int .i64 (n : Int)] w fun e w' => ∃ p, e = .returned (.tuple #[.pointer (some ⟨p, 0, none⟩), .int .i64 0]) ∧ DkS w w' p (Dk.fresh n) := by
  refine (New_c n w h1 h2).mono ?_
  rintro e w' ⟨p, F, rfl, hD, hU, hF⟩
  exact ⟨p, rfl, ⟨F, hD, hF⟩, hU⟩
theorem open_s {w0 w : World} {p : Nat} {d : Dk} {k : Kp} {l0 l1 : List Pt} (hD : DkS w0 w p d) (h : KeptIs d k l0 l1) :
    Calls Tryz.prog 20 #[.pointer (some ⟨p, 0, none⟩), .int .i64 (k.from_ : Int)] w fun e w' => ∃ b, e = .returned (.tuple #[.pointer (some ⟨b, 0, none⟩), .int .i64 0]) ∧ KpS w0 w' p b k ∧ Upd (fun _ => False) w w' ∧ w.heap.size ≤ b := by
  obtain ⟨F, h1, h2⟩ := hD.ex
  refine (Open_s h1 h).mono ?_
  rintro e w' ⟨b, rfl, hB, hU, hb⟩
  exact ⟨b, rfl, ⟨hB, Nat.le_trans hD.upd.size hb⟩, hU, hb⟩
theorem put_s {w0 w : World} {p b : Nat} {d : Dk} {k : Kp} {l0 l1 : List Pt} (hD : DkS w0 w p d) (hK : KpS w0 w p b k) (h : KeptIs d k l0 l1) (s : ByteArray) (hs : s.size ≤ 400) (hn : k.seen < 1000) (hp : d.pend < 900000) :
    Calls Tryz.prog 23 #[.pointer (some ⟨b, 0, none⟩), .string s] w fun e w' => e = .returned (.int .i64 0) ∧ DkS w0 w' p (putD d k s.data.toList) ∧ KpS w0 w' p b (k.put s.data.toList) ∧
      (∀ b' k', b' ≠ b → KpS w0 w p b' k' → KpS w0 w' p b' k') := by
  obtain ⟨F, h1, h2⟩ := hD.ex
  refine (Put_s h1 hK.blk h s hs hn hp).mono ?_
  rintro e w' ⟨rfl, hL⟩
  obtain ⟨F', h3, h4⟩ := hL.disk
  refine ⟨rfl, ⟨⟨F', h3, fun q hq => (h4 q hq).elim (h2 q) (fun e => Nat.le_trans hD.upd.size e)⟩, hD.upd.then hL.upd (fun q hq => .inr (hq.elim (fun e => e ▸ hK.new) (h2 q)))⟩, ⟨hL.kept, hK.new⟩, fun b' k' hne hK' => ⟨hK'.blk.upd hL.upd (fun e => e.elim hne (h1.not_mem hK'.blk (by decide) (by decide))), hK'.new⟩⟩
theorem get_s {w0 w : World} {p b : Nat} {k : Kp} (hK : KpS w0 w p b k) :
    Calls Tryz.prog 70 #[.pointer (some ⟨b, 0, none⟩)] w fun e w' => e = .returned (.tuple #[.string (str k.text), .bool (decide (0 < k.gen))]) ∧ Upd (fun _ => False) w w' := by
  refine (Get_c hK.blk).mono ?_
  rintro e w' ⟨rfl, hb⟩
  exact ⟨rfl, Upd.of_below hb _⟩

end Go.Proofs.YtpfbgmfkeofefaaGreat

/-
  Two records on one disk.
-/
namespace Go.Proofs.YtpfbgmfkeofefaaGreat
open Go Go.RowKit

theorem blank_is {d : Dk} (hf : d.fuse = -1) (ho : d.off = false) (hw : d.waits.length = d.lasts.length) (f : Nat) (hr : f + 20 ≤ d.lasts.length) (hz : ∀ j, j < 20 → d.now (f + j) = zeros64) :
    KeptIs d ⟨f, [], 0, 1, 0, false⟩ [] [] := by
  have s : ∀ a, a ≤ 10 → SlotIs d (f + a) [] := by
    intro a ha
    refine ⟨by simp, by simp, by simp, fun i _ hi => ?_⟩
    rw [Nat.add_assoc, hz (a + i) (by omega)]
    rfl
  have s0 : SlotIs d f [] := by simpa using s 0 (by omega)
  refine ⟨hf, ho, hw, hr, s0, s 10 (by omega), by simp, by simp, by simp, rfl, ?_⟩
  rw [open_is s0 (s 10 (by omega))]
  rfl
theorem putD_free {d : Dk} {k : Kp} {l0 l1 : List Pt} (h : KeptIs d k l0 l1) (t : List UInt8) (ht : t.length ≤ 400) (hs : k.seen < 1000) :
    (putD d k t).fuse = -1 ∧ (putD d k t).off = false ∧ (putD d k t).waits.length = d.lasts.length ∧ (putD d k t).lasts.length = d.lasts.length ∧
      ∀ i, i < d.lasts.length → (i < k.from_ ∨ k.from_ + 20 ≤ i) → (putD d k t).now i = d.now i := by
  have hroom := h.room
  have hat := h.at_
  have hn : allOf t.length ≤ 9 := by unfold allOf; omega
  have e64 : (2 : Nat) ^ (8 * 8) = 18446744073709551616 := by decide
  have hk := cutL_ok t (k.seen + 1) (by omega) (by omega) ht
  have hc := cutL_len t (k.seen + 1)
  obtain ⟨w1, w2, w3, w4⟩ := writeN_free h.fuse h.off h.waits (k.from_ + (1 - k.at_) * 10) (cutL t (k.seen + 1)) (fun q hq => sec_size q (hk q hq)) (allOf t.length) (by omega) (by omega)
  obtain ⟨s1, s2, s3⟩ := writeN_same d (k.from_ + (1 - k.at_) * 10) (cutL t (k.seen + 1)) h.waits (allOf t.length)
  refine ⟨w2, w3, ?_, ?_, fun i hi ho => ?_⟩
  · show (List.map _ _).length = _
    rw [List.length_map, s2, h.waits]
  · show ((List.range _).map _).length = _
    rw [List.length_map, List.length_range, s1]
  · unfold putD
    rw [Dk.flush_now _ _ (by rw [s1]; exact hi), w4, if_neg (by omega)]
theorem kept_other {d : Dk} {k ko : Kp} {l0 l1 o0 o1 : List Pt} (h : KeptIs d k l0 l1) (ho : KeptIs d ko o0 o1) (hap : k.from_ + 20 ≤ ko.from_ ∨ ko.from_ + 20 ≤ k.from_) (t : List UInt8) (ht : t.length ≤ 400) (hs : k.seen < 1000) :
    KeptIs (putD d k t) ko o0 o1 := by
  obtain ⟨p1, p2, p3, p4, p5⟩ := putD_free h t ht hs
  have hr := ho.room
  have sl : ∀ (a : Nat) (l : List Pt), SlotIs d a l → ko.from_ ≤ a → a ≤ ko.from_ + 10 → SlotIs (putD d k t) a l := by
    intro a l hl h1 h2
    have hlen := hl.len
    exact ⟨hl.len, hl.ok, fun i hi => by rw [p5 _ (by omega) (by omega)]; exact hl.full i hi, fun i hi hi2 => by rw [p5 _ (by omega) (by omega)]; exact hl.blank i hi hi2⟩
  have s0 := sl _ _ ho.s0 (Nat.le_refl _) (by omega)
  have s1 := sl _ _ ho.s1 (by omega) (Nat.le_refl _)
  refine ⟨p1, p2, by rw [p3, p4], by rw [p4]; exact hr, s0, s1, ho.g0, ho.g1, ho.at_, ho.broken, ?_⟩
  have e := ho.opens
  rw [open_is ho.s0 ho.s1] at e
  rw [open_is s0 s1]
  exact e
end Go.Proofs.YtpfbgmfkeofefaaGreat

/-
  A disk's calls, as a law knows them.
-/
namespace Go.Proofs.YtpfbgmfkeofefaaGreat
open Go Go.RowKit

/-- The cells of n noughts. -/
def zcells (n : Nat) : Array Value := Array.replicate n (.int .u8 0)
theorem make60 (w : World) : (Instr.makeSlice 94 (.int .i64 60) (.int .i64 60)).run Tryz.prog w = .ok (.slice (some ⟨w.heap.size, 0, none⟩) 60 60) (w.alloc (.cells (zcells 60) 5)) := by kernel_rfl
theorem make64 (w : World) : (Instr.makeSlice 94 (.int .i64 64) (.int .i64 64)).run Tryz.prog w = .ok (.slice (some ⟨w.heap.size, 0, none⟩) 64 64) (w.alloc (.cells (zcells 64) 5)) := by kernel_rfl
theorem own_z (w : World) (n : Nat) (hn : n ≤ 64) : Own (w.alloc (.cells (zcells n) 5)) 5 1 (.slice (some ⟨w.heap.size, 0, none⟩) n n) n (bytesV (List.replicate n 0)) := by
  refine ⟨by simp [bytesV], .inr ⟨w.heap.size, n, zcells n, (0, 0), rfl, heap_alloc_new w _, .inl rfl, Nat.le_refl _, by unfold maxLen; omega, by simp [zcells], ?_⟩⟩
  have e : (zcells n).toList = bytesV (List.replicate n 0) := by simp [zcells, bytesV]
  rw [e, List.take_of_length_le (by simp [bytesV])]
theorem conv_z (w : World) (n : Nat) (hn : n ≤ 64) : (convert 94 9 (.slice (some ⟨w.heap.size, 0, none⟩) n n)).run Tryz.prog (w.alloc (.cells (zcells n) 5)) = .ok (.string (str (List.replicate n 0))) (w.alloc (.cells (zcells n) 5)) :=
  run_to_string (own_z w n hn)

section
variable {w0 w w' : World} {p b : Nat} {d : Dk} {k : Kp} {F F' : List Nat}
/-- What is kept is not touched by a call of a disk. -/
def Keeps (w0 w w' : World) (p : Nat) : Prop := ∀ b k, KpS w0 w p b k → KpS w0 w' p b k
theorem keeps_of (h1 : DiskAt w p d F) (hu : Upd (· ∈ F) w w') : Keeps w0 w w' p := fun _ _ hK => ⟨hK.blk.upd hu (h1.not_mem hK.blk (by decide) (by decide)), hK.new⟩
theorem read_s (hD : DkS w0 w p d) (i : Int) :
    Calls Tryz.prog 75 #[.pointer (some ⟨p, 0, none⟩), .int .i64 i] w fun e w' => e = .returned (.tuple #[.string (d.read i).1, .int .i64 (d.read i).2]) ∧ w = w' := by
  obtain ⟨F, h1, h2⟩ := hD.ex
  exact read_c h1 i
theorem write_s (hD : DkS w0 w p d) (i : Int) (s : ByteArray) (hp : d.pend + 1 < 1000000) :
    Calls Tryz.prog 17 #[.pointer (some ⟨p, 0, none⟩), .int .i64 i, .string s] w fun e w' => e = .returned (.int .i64 (d.write i s).2) ∧ DkS w0 w' p (d.write i s).1 ∧ Keeps w0 w w' p := by
  obtain ⟨F, h1, h2⟩ := hD.ex
  refine (write_c h1 i s hp).mono ?_
  rintro e w' ⟨rfl, F', hL⟩
  exact ⟨rfl, ⟨⟨F', hL.disk, fun q hq => (hL.sub q hq).elim (h2 q) (fun e => Nat.le_trans hD.upd.size e)⟩, hD.upd.then hL.upd (fun q hq => .inr (h2 q hq))⟩, keeps_of h1 hL.upd⟩
theorem open_at (hD : DkS w0 w p d) {l0 l1 : List Pt} (h : KeptIs d k l0 l1) (f : Int) (hf : f = (k.from_ : Int)) :
    Calls Tryz.prog 20 #[.pointer (some ⟨p, 0, none⟩), .int .i64 f] w fun e w' => ∃ b, e = .returned (.tuple #[.pointer (some ⟨b, 0, none⟩), .int .i64 0]) ∧ KpS w0 w' p b k ∧ Upd (fun _ => False) w w' ∧ w.heap.size ≤ b := by
  subst hf
  exact open_s hD h
theorem get_at (hK : KpS w0 w p b k) (t : List UInt8) (is : Bool) (ht : k.text = t) (hi : decide (0 < k.gen) = is) :
    Calls Tryz.prog 70 #[.pointer (some ⟨b, 0, none⟩)] w fun e w' => e = .returned (.tuple #[.string (str t), .bool is]) ∧ Upd (fun _ => False) w w' := by
  subst ht hi
  exact get_s hK
end
theorem holdL_true {l : List Pt} (h : (holdL l).2 ≠ 0) : ∃ t g rest, g ≠ 0 ∧ t.length ≤ 400 ∧ l = cutL t g ++ rest ∧ holdL l = (t, g) := by
  unfold holdL at h ⊢
  split at h
  · simp at h
  · split at h
    · simp at h
    · split at h
      · rename_i h1 h2 h3
        refine ⟨textL (l.take (firstAll l)), firstGen l, l.drop (allOf (textL (l.take (firstAll l))).length), h1, by omega, by rw [h3, List.take_append_drop], ?_⟩
        rw [if_neg h1, if_neg h2, if_pos h3]
      · simp at h

theorem allOf_pos (n : Nat) : 1 ≤ allOf n := by unfold allOf; omega
theorem u64_nat {n : Int} (h : (Lit.int .u64 n).wf = true) : ∃ m : Nat, n = m ∧ m < 18446744073709551616 := by
  simp only [Lit.wf, Bool.and_eq_true, decide_eq_true_eq] at h
  have h1 : IntKind.u64.min = 0 := rfl
  have h2 : IntKind.u64.max = 18446744073709551615 := rfl
  exact ⟨n.toNat, by omega, by omega⟩

theorem u8_nat {n : Int} (h : (Lit.int .u8 n).wf = true) : ∃ m : Nat, n = m ∧ m < 256 := by
  simp only [Lit.wf, Bool.and_eq_true, decide_eq_true_eq] at h
  have h1 : IntKind.u8.min = 0 := rfl
  have h2 : IntKind.u8.max = 255 := rfl
  exact ⟨n.toNat, by omega, by omega⟩
end Go.Proofs.YtpfbgmfkeofefaaGreat
