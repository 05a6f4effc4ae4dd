/-
  A register beside the document's: what a law of chapter 23 keeps of both.
-/
import Derived.Test.YtpfbgmfkeofefaaGreatPlay9
import Derived.Test.YtpfbgmfkeofefaaGreatArbB
import Derived.Test.YtpfbgmfkeofefaaGreatRef23
namespace Go.Proofs.YtpfbgmfkeofefaaGreat
open Go Go.RowKit

/-- What the register's Open tells. -/
def openAP (d : Dk) : Option (Kp × Nat × Int) × Int :=
  match (openP d 0).1 with
  | none => (none, (openP d 0).2)
  | some k => if (openA k).2.2 = 0 then (some (k, (openA k).1, (openA k).2.1), 0) else (none, (openA k).2.2)
/-- The document's row of a register. -/
abbrev zeroAr : Array Value := #[.int .i64 0, .string ⟨#[]⟩, .int .u64 0, .int .i64 0, .int .u64 0, .bool false, .int .i64 0, .int .i64 0]
abbrev rowA (k : Kp) (n : Nat) (h : Int) : Array Value := #[.int .i64 (k.from_ : Int), .string (str k.text), .int .u64 (k.gen : Int), .int .i64 (k.at_ : Int), .int .u64 (k.seen : Int), .bool k.broken, .int .i64 (n : Int), .int .i64 h]
def openAr (o : Option (Kp × Nat × Int)) : Array Value := match o with | some q => rowA q.1 q.2.1 q.2.2 | none => zeroAr
theorem rowA_one (k : Kp) (n : Nat) (h : Int) : (rowA k n h).all (·.oneCell') = true := by simp [Value.oneCell']
theorem zeroAr_one : zeroAr.all (·.oneCell') = true := by simp [Value.oneCell']
theorem readA_le (t : List UInt8) : (readA t).1 ≤ 9223372036854775807 := by
  unfold readA
  split
  · exact InS.most_le _ _
  · exact Nat.zero_le _
theorem holdsR_text (L : List (List UInt8)) : (holdsR L).1.length ≤ 400 := by
  unfold holdsR
  split
  · simp
  · split
    · simp
    · split
      · simp
      · split
        · simp
        · split
          · simp
          · split
            · show (holdsR.textR L _).length ≤ 400
              omega
            · simp
theorem openP_text {d : Dk} {f : Int} {k : Kp} (h : (openP d f).1 = some k) : k.text.length ≤ 400 := by
  unfold openP at h
  split at h
  · cases h
  · split at h
    · cases h
    · simp only at h
      rw [open_ref] at h
      unfold openR at h
      split at h
      · cases h
      · cases h
        unfold pickR
        split
        · exact holdsR_text _
        · split
          · exact holdsR_text _
          · simp
theorem openAP_err (d : Dk) : ((openAP d).2 = 0 ∧ ∃ k n h, (openAP d).1 = some (k, n, h)) ∨ ((openAP d).2 ≠ 0 ∧ (openAP d).1 = none) := by
  unfold openAP
  rcases openP_err d 0 with ⟨h1, k, h2⟩ | ⟨h1, h2⟩
  · rw [h2]
    simp only
    by_cases hE : (openA k).2.2 = 0
    · rw [if_pos hE]
      exact .inl ⟨rfl, _, _, _, rfl⟩
    · rw [if_neg hE]
      exact .inr ⟨hE, rfl⟩
  · rw [h2]
    exact .inr ⟨h1, rfl⟩
theorem openAP_fits {d : Dk} {k : Kp} {n : Nat} {h : Int} (hd : d.lasts.length ≤ 4096) (he : (openAP d).1 = some (k, n, h)) : k.fits ∧ n ≤ 9223372036854775807 := by
  unfold openAP at he
  cases ho : (openP d 0).1 with
  | none => rw [ho] at he; simp at he
  | some k' =>
    rw [ho] at he
    simp only at he
    split at he
    · simp only [Option.some.injEq, Prod.mk.injEq] at he
      obtain ⟨rfl, rfl, -⟩ := he
      refine ⟨openP_fits hd ho, ?_⟩
      unfold openA
      split
      · exact readA_le _
      · simp
    · simp at he
section
variable {w0 w w' : World} {p a b n : Nat} {h : Int} {d d' : Dk} {k : Kp} {X : Nat → Prop}
structure OpenA (w0 w w' : World) (p : Nat) (o : Option (Kp × Nat × Int)) (v : Value) : Prop where
  upd : Upd (fun _ => False) w w'
  bad : o = none → v = .pointer none
  ok : ∀ k n h, o = some (k, n, h) → ∃ a b, v = .pointer (some ⟨a, 0, none⟩) ∧ ArbS w0 w' a b n h ∧ KpS w0 w' p b k ∧ w.heap.size ≤ a ∧ w.heap.size ≤ b
/-- The register's Open. -/
theorem aopen_p (hD : DkS w0 w p d) :
    Calls Tryz.prog 29 #[.pointer (some ⟨p, 0, none⟩)] w fun e w' => ∃ v, e = .returned (.tuple #[v, .int .i64 (openAP d).2]) ∧ OpenA w0 w w' p (openAP d).1 v := by
  have hO := open_p hD 0
  unfold openAP
  rcases openP_err d 0 with ⟨h1, k, h2⟩ | ⟨h1, h2⟩
  · rw [h1, h2] at hO
    rw [h2]
    simp only
    refine (arb_open_k (k := k) hD.upd.size (hO.mono ?_)).mono ?_
    · rintro e w' ⟨v, rfl, hS⟩
      obtain ⟨b, rfl, hk, hb⟩ := hS.ok k rfl
      exact ⟨b, rfl, hk, hS.upd, hb⟩
    · rintro e w' ⟨v, rfl, hS⟩
      by_cases hE : (openA k).2.2 = 0
      · rw [if_pos hE]
        refine ⟨v, by rw [hE], hS.upd, fun e => (by cases e), fun k' n' h' e => ?_⟩
        simp only [Option.some.injEq, Prod.mk.injEq] at e
        obtain ⟨rfl, rfl, rfl⟩ := e
        obtain ⟨a, b, e1, e2, e3, e4, e5⟩ := hS.ok hE
        exact ⟨a, b, e1, e2, e3, e4, e5⟩
      · rw [if_neg hE]
        exact ⟨v, rfl, hS.upd, fun _ => hS.bad hE, fun k' n' h' e => (by cases e)⟩
  · rw [h2] at hO
    rw [h2]
    simp only
    refine (arb_open_bad (w := w) (openP d 0).2 h1 (hO.mono ?_)).mono ?_
    · rintro e w' ⟨v, rfl, hS⟩
      rw [hS.bad rfl]
      exact ⟨rfl, hS.upd⟩
    · rintro e w' ⟨rfl, hU⟩
      exact ⟨_, rfl, hU, fun _ => rfl, fun k' n' h' e => (by cases e)⟩
theorem two_new23 {w w3 : World} {r : Array Value} (hw : (w.alloc (.cells r 33)).alloc (.cells zeroAr 69) = w3) :
    Upd (fun _ => False) w w3 ∧ Blk w3 w.heap.size 33 r ∧ Blk w3 (w.heap.size + 1) 69 zeroAr ∧ w3.heap.size = w.heap.size + 2 := by
  subst hw
  refine ⟨((Upd.refl _ w).alloc _).alloc _, (Blk.new w _ _).alloc _, ?_, by simp⟩
  have := Blk.new (w.alloc (.cells r 33)) 69 zeroAr
  rw [show (w.alloc (.cells r 33)).heap.size = w.heap.size + 1 by simp] at this
  exact this
set_option maxRecDepth 100000 in
set_option maxHeartbeats 3200000 in
/-- The document's Open. -/
theorem raopen_p {w : World} {vl vw : Value} {r : Rd} (h : RdAt w vl vw r) (hI : RdIs d r) (hwf : d.wf) :
    Calls Tryz.prog 65 #[.agg #[vl, vw, .int .i64 r.fuse, .bool r.off]] w fun e w' => e = .returned (.tuple #[.agg (openAr (openAP d).1), .int .i64 (openAP d).2]) ∧ Upd (fun _ => False) w w' := by
  have hone := rdrow_one r h
  have HO0 : Hid (∀ W, Upd (fun _ => False) w W → Calls Tryz.prog 21 #[.agg #[vl, vw, .int .i64 r.fuse, .bool r.off], .int .i64 0] W fun e w' => e = .returned (.tuple #[.agg (openKp (openP d 0).1), .int .i64 (openP d 0).2]) ∧ Upd (fun _ => False) W w') := Lib.hid fun W hu => ropen_p (h.upd hu) hI hwf 0
  obtain ⟨w3, hw3⟩ : ∃ w3, (w.alloc (.cells #[vl, vw, .int .i64 r.fuse, .bool r.off] 33)).alloc (.cells zeroAr 69) = w3 := ⟨_, rfl⟩
  obtain ⟨hU3, hB2, hB4, hsz⟩ := two_new23 hw3
  have HB := Lib.hid (And.intro hB2 hB4)
  have HU := Lib.hid hU3
  have Hw := Lib.hid hw3
  obtain ⟨_, _, rfl, -, -⟩ := h.lasts.shape
  obtain ⟨_, _, rfl, -, -⟩ := h.ws.shape
  clear hB2 hB4 hU3 hw3 hsz h hone
  unfold openAP
  rcases openP_err d 0 with ⟨h1, k, h2⟩ | ⟨h1, h2⟩
  · rw [h1, h2] at HO0
    rw [h2]
    simp only
    have HT := Lib.hid (show (str k.text).size ≤ 1000000 by rw [str_size]; have := openP_text h2; omega)
    have HRd := Lib.hid (fun W => refRead_c (str k.text) HT.out W)
    rw [str_list] at HRd
    have hA : (0 < k.gen ∧ openA k = ((readA k.text).1, ((readA k.text).2.1 : Int), (readA k.text).2.2)) ∨ (k.gen = 0 ∧ openA k = (0, -1, 0)) := by
      unfold openA
      by_cases hg : 0 < k.gen
      · exact .inl ⟨hg, if_pos hg⟩
      · exact .inr ⟨by omega, if_neg hg⟩
    clear h1 h2
    rcases hA with ⟨hg0, hA⟩ | ⟨hg0, hA⟩
    · rw [hA]
      have hgb : ((k.gen : Int) == 0) = false := by rw [beq_eq_false_iff_ne]; omega
      obtain ⟨⟨n, h, E⟩, hq⟩ : ∃ q, readA k.text = q := ⟨_, rfl⟩
      rw [hq] at HRd ⊢
      simp only at HRd ⊢
      clear hq hg0 hA
      by_cases he : E = 0
      · subst he
        rw [if_pos rfl]
        simp only
        go_enter Tryz.func65, Tryz.ntmps65
        go_upto_region 1 with fail
        rw [Hw.out]
        go_upto_region 2 with (first
          | (refine wpList_load_all rfl _ _ rfl w.heap.size rfl _ _ _ HB.out.1 Tryz.underlying33 rfl rfl ?_)
          | (go_at_call 21; refine (HO0.out _ HU.out).mono ?_; rintro e w4 ⟨rfl, hU4⟩
             have H4 := Lib.hid hU4
             clear hU4)
          | (refine wpList_store_all rfl 61 _ _ rfl w4.heap.size k.row rfl rfl _ _ (Blk.new w4 _ _) rfl (Kp.row_one _) (by kernel_rfl) ?_
             intro w5 hB5 hU5 hs5))
        have hc5 := hB5.cells6
        have hs4 : w3.heap.size ≤ w4.heap.size := H4.out.size
        have hr5 : Blk w5 (w.heap.size + 1) 69 zeroAr := ((HB.out.2.upd H4.out (fun e => e)).alloc _).upd hU5 (fun e => by have := HB.out.2.lt; omega)
        have hu5 : Upd (fun _ => False) w w5 := (HU.out.then ((H4.out.alloc _).then hU5 (fun q e => .inr (by omega))) (fun _ e => e.elim))
        have H5 := Lib.hid (And.intro hB5 (And.intro hr5 hu5))
        clear hB5 hU5 hs5 hs4 hr5 hu5 H4 HB HU Hw
        go_upto_region 7 with fail
        refine (HRd.out _).mono ?_
        rintro e w6 ⟨rfl, hU6⟩
        have H6 := Lib.hid (And.intro (H5.out.1.upd hU6 (fun e => e)) (And.intro (H5.out.2.1.upd hU6 (fun e => e)) (H5.out.2.2.then hU6 (fun _ e => e.elim))))
        clear hU6 hc5
        go_wp2_with (first
          | (refine wpList_load_all rfl _ _ rfl w4.heap.size rfl _ _ _ H6.out.1 Tryz.underlying61 rfl rfl ?_)
          | (refine wpList_store_all rfl 69 _ _ rfl (w.heap.size + 1) (rowA k n (h : Int)) rfl rfl _ _ H6.out.2.1 rfl (rowA_one _ _ _) (by kernel_rfl) ?_
             intro w7 hB7 hU7 hs7))
        refine bodyPost_ret (results_cell_slot rfl _ _ (w.heap.size + 1) _ _ _ _ rfl hB7 Tryz.underlying69 rfl rfl (.int .i64 0) rfl) rfl ⟨rfl, ?_⟩
        exact H6.out.2.2.then hU7 (fun q e => .inr (by omega))
      · rw [if_neg he]
        have hE : (E != 0) = true := bne_iff_ne.2 he
        simp only
        clear he
        go_enter Tryz.func65, Tryz.ntmps65
        go_upto_region 1 with fail
        rw [Hw.out]
        go_upto_region 2 with (first
          | (refine wpList_load_all rfl _ _ rfl w.heap.size rfl _ _ _ HB.out.1 Tryz.underlying33 rfl rfl ?_)
          | (go_at_call 21; refine (HO0.out _ HU.out).mono ?_; rintro e w4 ⟨rfl, hU4⟩
             have H4 := Lib.hid hU4
             clear hU4)
          | (refine wpList_store_all rfl 61 _ _ rfl w4.heap.size k.row rfl rfl _ _ (Blk.new w4 _ _) rfl (Kp.row_one _) (by kernel_rfl) ?_
             intro w5 hB5 hU5 hs5))
        have hc5 := hB5.cells6
        have hs4 : w3.heap.size ≤ w4.heap.size := H4.out.size
        have hr5 : Blk w5 (w.heap.size + 1) 69 zeroAr := ((HB.out.2.upd H4.out (fun e => e)).alloc _).upd hU5 (fun e => by have := HB.out.2.lt; omega)
        have hu5 : Upd (fun _ => False) w w5 := (HU.out.then ((H4.out.alloc _).then hU5 (fun q e => .inr (by omega))) (fun _ e => e.elim))
        have H5 := Lib.hid (And.intro hB5 (And.intro hr5 hu5))
        clear hB5 hU5 hs5 hs4 hr5 hu5 H4 HB HU Hw
        go_upto_region 7 with fail
        refine (HRd.out _).mono ?_
        rintro e w6 ⟨rfl, hU6⟩
        have H6 := Lib.hid (And.intro (H5.out.1.upd hU6 (fun e => e)) (And.intro (H5.out.2.1.upd hU6 (fun e => e)) (H5.out.2.2.then hU6 (fun _ e => e.elim))))
        clear hU6 hc5
        go_wp2_with (first
          | (refine wpList_store_all rfl 69 _ _ rfl (w.heap.size + 1) zeroAr rfl rfl _ _ H6.out.2.1 rfl zeroAr_one (by kernel_rfl) ?_
             intro w7 hB7 hU7 hs7))
        refine bodyPost_ret (results_cell_slot rfl _ _ (w.heap.size + 1) _ _ _ _ rfl hB7 Tryz.underlying69 rfl rfl (.int .i64 E) rfl) rfl ⟨rfl, ?_⟩
        exact H6.out.2.2.then hU7 (fun q e => .inr (by omega))
    · rw [hA]
      have hgb : ((k.gen : Int) == 0) = true := by rw [beq_iff_eq]; omega
      simp only [↓reduceIte]
      clear hg0 HRd hA
      go_enter Tryz.func65, Tryz.ntmps65
      go_upto_region 1 with fail
      rw [Hw.out]
      go_upto_region 2 with (first
        | (refine wpList_load_all rfl _ _ rfl w.heap.size rfl _ _ _ HB.out.1 Tryz.underlying33 rfl rfl ?_)
        | (go_at_call 21; refine (HO0.out _ HU.out).mono ?_; rintro e w4 ⟨rfl, hU4⟩
           have H4 := Lib.hid hU4
           clear hU4)
        | (refine wpList_store_all rfl 61 _ _ rfl w4.heap.size k.row rfl rfl _ _ (Blk.new w4 _ _) rfl (Kp.row_one _) (by kernel_rfl) ?_
           intro w5 hB5 hU5 hs5))
      have hc5 := hB5.cells6
      have hs4 : w3.heap.size ≤ w4.heap.size := H4.out.size
      have hr5 : Blk w5 (w.heap.size + 1) 69 zeroAr := ((HB.out.2.upd H4.out (fun e => e)).alloc _).upd hU5 (fun e => by have := HB.out.2.lt; omega)
      have hu5 : Upd (fun _ => False) w w5 := (HU.out.then ((H4.out.alloc _).then hU5 (fun q e => .inr (by omega))) (fun _ e => e.elim))
      have H5 := Lib.hid (And.intro hB5 (And.intro hr5 hu5))
      clear hB5 hU5 hs5 hs4 hr5 hu5 H4 HB HU Hw
      go_wp2_with (first
        | (refine wpList_load_all rfl _ _ rfl w4.heap.size rfl _ _ _ H5.out.1 Tryz.underlying61 rfl rfl ?_)
        | (refine wpList_store_all rfl 69 _ _ rfl (w.heap.size + 1) (rowA k 0 (-1)) rfl rfl _ _ H5.out.2.1 rfl (rowA_one _ _ _) (by kernel_rfl) ?_
           intro w7 hB7 hU7 hs7))
      refine bodyPost_ret (results_cell_slot rfl _ _ (w.heap.size + 1) _ _ _ _ rfl hB7 Tryz.underlying69 rfl rfl (.int .i64 0) rfl) rfl ⟨rfl, ?_⟩
      exact H5.out.2.2.then hU7 (fun q e => .inr (by omega))
  · rw [h2] at HO0
    rw [h2]
    simp only
    obtain ⟨E, hE0⟩ : ∃ E, (openP d 0).2 = E := ⟨_, rfl⟩
    rw [hE0] at HO0 h1 ⊢
    have hE : (E != 0) = true := bne_iff_ne.2 h1
    clear hE0 h1 h2
    go_enter Tryz.func65, Tryz.ntmps65
    go_upto_region 1 with fail
    rw [Hw.out]
    go_upto_region 2 with (first
      | (refine wpList_load_all rfl _ _ rfl w.heap.size rfl _ _ _ HB.out.1 Tryz.underlying33 rfl rfl ?_)
      | (go_at_call 21; refine (HO0.out _ HU.out).mono ?_; rintro e w4 ⟨rfl, hU4⟩
         have H4 := Lib.hid hU4
         clear hU4)
      | (refine wpList_store_all rfl 61 _ _ rfl w4.heap.size zeroKp rfl rfl _ _ (Blk.new w4 _ _) rfl zeroKp_one (by kernel_rfl) ?_
         intro w5 hB5 hU5 hs5))
    have hs4 : w3.heap.size ≤ w4.heap.size := H4.out.size
    have hr5 : Blk w5 (w.heap.size + 1) 69 zeroAr := ((HB.out.2.upd H4.out (fun e => e)).alloc _).upd hU5 (fun e => by have := HB.out.2.lt; omega)
    have hu5 : Upd (fun _ => False) w w5 := (HU.out.then ((H4.out.alloc _).then hU5 (fun q e => .inr (by omega))) (fun _ e => e.elim))
    have H5 := Lib.hid (And.intro hr5 hu5)
    clear hB5 hU5 hs5 hs4 hr5 hu5 H4 HB HU Hw
    go_wp2_with (first
      | (refine wpList_store_all rfl 69 _ _ rfl (w.heap.size + 1) zeroAr rfl rfl _ _ H5.out.1 rfl zeroAr_one (by kernel_rfl) ?_
         intro w7 hB7 hU7 hs7))
    refine bodyPost_ret (results_cell_slot rfl _ _ (w.heap.size + 1) _ _ _ _ rfl hB7 Tryz.underlying69 rfl rfl (.int .i64 E) rfl) rfl ⟨rfl, ?_⟩
    exact H5.out.2.then hU7 (fun q e => .inr (by omega))
end
end Go.Proofs.YtpfbgmfkeofefaaGreat

/-
  A register's Grant beside the document's. (Printed by mk_arb23.py.)
-/
namespace Go.Proofs.YtpfbgmfkeofefaaGreat
open Go Go.RowKit

/-- What a Grant leaves and tells. -/
def grantAP (d : Dk) (k : Kp) (n : Nat) (h c : Int) : (Dk × Kp × Nat × Int) × (Int × Int) :=
  if placeB c = false then ((d, k, n, h), (0, 1)) else if n = 9223372036854775807 then ((d, k, n, h), (0, 6)) else
    if (putK d k (bytesA (n + 1) c.toNat)).2.2 = 0 then (((putK d k (bytesA (n + 1) c.toNat)).1, (putK d k (bytesA (n + 1) c.toNat)).2.1, n + 1, c), ((n : Int) + 1, 0))
    else (((putK d k (bytesA (n + 1) c.toNat)).1, (putK d k (bytesA (n + 1) c.toNat)).2.1, n, h), (0, (putK d k (bytesA (n + 1) c.toNat)).2.2))
theorem bytesA_short (n c : Nat) (hn : n < 18446744073709551616) (hc : c < 18446744073709551616) : (bytesA n c).length ≤ 20 := by
  have h1 := size_u64 hn
  have h2 := size_u64 hc
  unfold bytesA
  rw [List.length_append, putN_len, putN_len]
  omega
theorem grantAP_fits {d : Dk} {k : Kp} {n : Nat} {h c : Int} (hk : k.fits) (hn : n ≤ 9223372036854775807) (hw : d.waits.length = d.lasts.length) :
    (grantAP d k n h c).1.2.1.fits ∧ (grantAP d k n h c).1.2.2.1 ≤ 9223372036854775807 ∧ (grantAP d k n h c).1.1.pend ≤ d.pend + 20 ∧ (grantAP d k n h c).1.1.lasts.length = d.lasts.length := by
  unfold grantAP
  split
  · exact ⟨hk, hn, by show d.pend ≤ _; omega, rfl⟩
  · rename_i hp
    split
    · exact ⟨hk, hn, by show d.pend ≤ _; omega, rfl⟩
    · rename_i h1
      have hcp : placeB c = true := by simpa using hp
      obtain ⟨m, rfl, hm⟩ := place_nat hcp
      have hb := bytesA_short (n + 1) (m : Int).toNat (by omega) (by omega)
      have h9 := allOf_le9 (n := (bytesA (n + 1) (m : Int).toNat).length) (by omega)
      have hpe := putK_pend (d := d) k (bytesA (n + 1) (m : Int).toNat) hw
      have hf := putK_fits (d := d) hk (bytesA (n + 1) (m : Int).toNat)
      split
      · exact ⟨hf, by show n + 1 ≤ _; omega, by show (putK d k _).1.pend ≤ _; omega, hpe.2⟩
      · exact ⟨hf, hn, by show (putK d k _).1.pend ≤ _; omega, hpe.2⟩
/-- What a Grant leaves. -/
structure GrantV (w0 w w' : World) (p a b : Nat) (X : Nat → Prop) (G : Dk × Kp × Nat × Int) : Prop where
  disks : DksX w0 w' [(p, G.1)] X
  kept : KpS w0 w' p b G.2.1
  arb : ArbS w0 w' a b G.2.2.1 G.2.2.2
  others : BlkKept3 w w'
  xs : XKept X w w'
section
variable {w0 w w' : World} {p a b n : Nat} {h : Int} {d d' : Dk} {k : Kp} {X : Nat → Prop}
theorem DksX.kept_of (hD : DksX w0 w [(p, d)] X) (hu : Upd (fun _ => False) w w') : XKept X w w' := fun q hq => hu.block q (hD.low q hq).2 (fun e => e)
set_option maxRecDepth 100000 in
set_option maxHeartbeats 1600000 in
theorem grant_v (hD : DksX w0 w [(p, d)] X) (hK : KpS w0 w p b k) (hA : ArbS w0 w a b n h) (hb : ¬ X b) (ha : ¬ X a) (c : Int) (hn : n ≤ 9223372036854775807) (hk : k.fits) (hpe : d.pend + 20 < 1000000) :
    Calls Tryz.prog 30 #[.pointer (some ⟨a, 0, none⟩), .int .i64 c] w fun e w' => e = .returned (.tuple #[.int .i64 (grantAP d k n h c).2.1, .int .i64 (grantAP d k n h c).2.2]) ∧ GrantV w0 w w' p a b X (grantAP d k n h c).1 := by
  unfold grantAP
  by_cases hc : placeB c = false
  · rw [if_pos hc]
    refine (grant_bad hA c hc).mono ?_
    rintro e w' ⟨rfl, rfl⟩
    exact ⟨rfl, hD, hK, hA, fun _ _ _ hB _ _ _ _ => hB, fun _ _ => rfl⟩
  · rw [if_neg hc]
    have hc : placeB c = true := by simpa using hc
    by_cases hm : n = 9223372036854775807
    · rw [if_pos hm]
      refine (grant_full hA c hc hm).mono ?_
      rintro e w' ⟨rfl, rfl⟩
      exact ⟨rfl, hD, hK, hA, fun _ _ _ hB _ _ _ _ => hB, fun _ _ => rfl⟩
    · rw [if_neg hm]
      have hn : n < 9223372036854775807 := by omega
      clear hm
      have hcs := hA.blk.cells3
      have HP := Lib.hid (place_c c)
      have hby : bytesE ((n : Int) + 1) c = (bytesA (n + 1) c.toNat, 0) := by
        unfold bytesE
        rw [if_neg (by rw [hc]; simp; omega)]
        rfl
      have HB := Lib.hid (fun W => bytes_c ((n : Int) + 1) c (by omega) W)
      rw [hby] at HB
      have HPut : Hid (∀ W, Upd (fun _ => False) w W → Calls Tryz.prog 23 #[.pointer (some ⟨b, 0, none⟩), .string (str (bytesA (n + 1) c.toNat))] W fun e w' => e = .returned (.int .i64 (putK d k (bytesA (n + 1) c.toNat)).2.2) ∧ DksX w0 w' [(p, (putK d k (bytesA (n + 1) c.toNat)).1)] X ∧ KpS w0 w' p b (putK d k (bytesA (n + 1) c.toNat)).2.1 ∧ BlkKept2 W w' ∧ XKept X W w') := Lib.hid fun W hU => by
        have := put_v (hD.still hU) (hK.still hU) hb hk hpe (str (bytesA (n + 1) c.toNat))
        rw [str_list] at this
        exact this
      rw [hc] at HP
      generalize str (bytesA (n + 1) c.toNat) = S at *
      obtain ⟨⟨D, K, E⟩, hR⟩ : ∃ R, putK d k (bytesA (n + 1) c.toNat) = R := ⟨_, rfl⟩
      rw [hR] at HPut
      simp only [hR] at HPut ⊢
      have HA := Lib.hid (And.intro hA (And.intro hD (And.intro hb ha)))
      have hwr : IntKind.i64.wrap ((n : Int) + 1) = (n : Int) + 1 := IntWalk.i64_in _ (by omega)
      have hnb : ((n : Int) == 9223372036854775807) = false := by rw [beq_eq_false_iff_ne]; omega
      clear hA hc hby hR hD hK hb ha
      by_cases he : E = 0
      · subst he
        rw [if_pos rfl]
        go_enter Tryz.func30, Tryz.ntmps30
        go_wp2_with fail
        refine (HP.out _).mono ?_
        rintro e w1 ⟨rfl, rfl⟩
        go_wp2_with fail
        refine (HB.out _).mono ?_
        rintro e w2 ⟨rfl, hU2⟩
        have hc2 := (HA.out.1.blk.upd hU2 (fun e => e)).cells3
        have H2 := Lib.hid hU2
        clear hU2 hcs
        go_wp2_with fail
        refine (HPut.out _ H2.out).mono ?_
        rintro e w3 ⟨rfl, hDx, hKx, hB3, hXk⟩
        have hblk := hB3 _ _ _ (HA.out.1.blk.upd H2.out (fun e => e)) (by decide) (by decide) (by decide)
        have hc3 := hblk.cells3
        have hf1 := hblk.frozen 1
        have hf2 := hblk.frozen 2
        have H3 := Lib.hid (And.intro hDx (And.intro hKx (And.intro hB3 (And.intro hXk hblk))))
        clear hDx hKx hB3 hXk hblk hc2
        go_wp2_with fail
        go_ret2
        have hUa : Upd (· = a) w3 ((w3.setCell ⟨a, 1, none⟩ (.int .i64 ((n : Int) + 1))).setCell ⟨a, 2, none⟩ (.int .i64 c)) := ((Upd.refl (· = a) w3).setCell (p := ⟨a, 1, none⟩) (.inl rfl) _).setCell (p := ⟨a, 2, none⟩) (.inl rfl) _
        have hBa : Blk ((w3.setCell ⟨a, 1, none⟩ (.int .i64 ((n : Int) + 1))).setCell ⟨a, 2, none⟩ (.int .i64 c)) a 143 #[.pointer (some ⟨b, 0, none⟩), .int .i64 ((n : Int) + 1), .int .i64 c] := by
          have := (H3.out.2.2.2.2.set_ 1 (.int .i64 ((n : Int) + 1))).set_ 2 (.int .i64 c)
          simpa using this
        exact ⟨rfl, H3.out.1.off H3.out.2.2.2.2 (by decide) (by decide) HA.out.1.new hUa, ⟨H3.out.2.1.blk.upd hUa (fun e => H3.out.2.1.blk.ne_ H3.out.2.2.2.2 (by decide) e), H3.out.2.1.new⟩, ⟨hBa, HA.out.1.new⟩,
          fun g t cs hB t1 t2 t3 t4 => (H3.out.2.2.1 g t cs (hB.upd H2.out (fun e => e)) t1 t2 t3).upd hUa (fun e => (H3.out.2.2.1 g t cs (hB.upd H2.out (fun e => e)) t1 t2 t3).ne_ H3.out.2.2.2.2 t4 e),
          fun q hq => (hUa.block q (H3.out.1.low q hq).2 (fun e => HA.out.2.2.2 (show X a from (show q = a from e) ▸ hq))).trans ((H3.out.2.2.2.1 q hq).trans (HA.out.2.1.kept_of H2.out q hq))⟩
      · have hE : (E != 0) = true := bne_iff_ne.2 he
        rw [if_neg he]
        go_enter Tryz.func30, Tryz.ntmps30
        go_wp2_with fail
        refine (HP.out _).mono ?_
        rintro e w1 ⟨rfl, rfl⟩
        go_wp2_with fail
        refine (HB.out _).mono ?_
        rintro e w2 ⟨rfl, hU2⟩
        have hc2 := (HA.out.1.blk.upd hU2 (fun e => e)).cells3
        have H2 := Lib.hid hU2
        clear hU2 hcs
        go_wp2_with fail
        refine (HPut.out _ H2.out).mono ?_
        rintro e w3 ⟨rfl, hDx, hKx, hB3, hXk⟩
        have H3 := Lib.hid (And.intro hDx (And.intro hKx (And.intro hB3 hXk)))
        clear hDx hKx hB3 hXk hc2
        go_wp2_with fail
        go_ret2
        exact ⟨rfl, H3.out.1, H3.out.2.1, ⟨H3.out.2.2.1 _ _ _ (HA.out.1.blk.upd H2.out (fun e => e)) (by decide) (by decide) (by decide), HA.out.1.new⟩,
          fun g t cs hB t1 t2 t3 t4 => H3.out.2.2.1 g t cs (hB.upd H2.out (fun e => e)) t1 t2 t3, fun q hq => (H3.out.2.2.2 q hq).trans (HA.out.2.1.kept_of H2.out q hq)⟩
end
theorem results_cells2_slots {P : Program} {fn : Func} {p p2 q q2 : Tmp} {ty ty2 : TypeId} (tmps : Array Value) (w : World) (g g2 : Nat) (t t2 : TypeId) (cs cs2 : Array Value) (fr fr2 : Nat × Nat) (d d2 : TypeDesc) (h : fn.results = #[.cell p ty, .cell p2 ty2, .tmp q, .tmp q2])
    (hp : tmps.getD p undef = .pointer (some ⟨g, 0, none⟩)) (hg : w.heap[g]? = some (.cells cs t fr)) (hp2 : tmps.getD p2 undef = .pointer (some ⟨g2, 0, none⟩)) (hg2 : w.heap[g2]? = some (.cells cs2 t2 fr2))
    (hu : P.underlying ty = some d) (hd : (match d with | .struct _ | .array _ _ => true | _ => false) = true) (hi : (P.info? ty).map (·.size) = some cs.size)
    (hu2 : P.underlying ty2 = some d2) (hd2 : (match d2 with | .struct _ | .array _ _ => true | _ => false) = true) (hi2 : (P.info? ty2).map (·.size) = some cs2.size) (v v2 : Value) (hv : tmps.getD q undef = v) (hv2 : tmps.getD q2 undef = v2) :
    (results fn tmps).run P w = .ok (.tuple #[.agg cs, .agg cs2, v, v2]) w := by
  subst hv hv2
  have hp' : tmps[p]?.getD undef = .pointer (some ⟨g, 0, none⟩) := by simpa using hp
  have hp2' : tmps[p2]?.getD undef = .pointer (some ⟨g2, 0, none⟩) := by simpa using hp2
  simp [results, h, hp', hp2', asAddr, run_loadVar_row w g t ty cs fr d hg hu hd hi, run_loadVar_row w g2 t2 ty2 cs2 fr2 d2 hg2 hu2 hd2 hi2]
/-- What a Grant of the document's has. -/
structure Grants23 (w wr : World) (vl vw vl' vw' : Value) (r : Rd) (k : Kp) (n : Nat) (h : Int) : Prop where
  left : RdLeft w wr vl vw vl' vw' r
  arb : Blk wr w.heap.size 69 (rowA k n h)
  disk : Blk wr (w.heap.size + 1) 33 #[vl', vw', .int .i64 r.fuse, .bool r.off]
  res1 : Blk wr (w.heap.size + 1 + 1) 69 zeroAr
  res2 : Blk wr (w.heap.size + 1 + 1 + 1) 33 zeroRd
theorem Grants23.still {w wr wx : World} {vl vw vl' vw' : Value} {r : Rd} {k : Kp} {n : Nat} {h : Int} (H : Grants23 w wr vl vw vl' vw' r k n h) (hu : Upd (fun _ => False) wr wx) : Grants23 w wx vl vw vl' vw' r k n h :=
  ⟨H.left.post hu, H.arb.upd hu (fun e => e), H.disk.upd hu (fun e => e), H.res1.upd hu (fun e => e), H.res2.upd hu (fun e => e)⟩
theorem Grants23.ends {w wr w1 w2 : World} {vl vw vl' vw' : Value} {r : Rd} {k : Kp} {n : Nat} {h : Int} (H : Grants23 w wr vl vw vl' vw' r k n h) (u1 : Upd (· = w.heap.size + 1 + 1) wr w1) (u2 : Upd (· = w.heap.size + 1 + 1 + 1) w1 w2) : RdLeft w w2 vl vw vl' vw' r := by
  have e1 : ∀ q, RdX vl' vw' q → q ≠ w.heap.size + 1 + 1 := fun q hq e => H.left.at_.ne H.res1 (by decide) (by decide) (e ▸ hq)
  have l1 := H.left.store u1 e1 (by omega)
  exact l1.store u2 (fun q hq e => H.left.at_.ne H.res2 (by decide) (by decide) (e ▸ hq)) (by omega)
theorem Grants23.put {w w4 w5 w6 w7 w8 : World} {vl vw vl' vw' : Value} {r r2 : Rd} {k K : Kp} {n : Nat} {h : Int} (H4 : Grants23 w w4 vl vw vl vw r k n h) (HL : RdLeft w4 w5 vl vw vl' vw' r2) (hU6 : Upd (· = w5.heap.size) (w5.alloc (.cells zeroKp 61)) w6)
    (hB7 : Blk w7 (w.heap.size + 1) 33 #[vl', vw', .int .i64 r2.fuse, .bool r2.off]) (hU7 : Upd (· = w.heap.size + 1) w6 w7) (hB8 : Blk w8 w.heap.size 69 (rowA K n h)) (hU8 : Upd (· = w.heap.size) w7 w8) : Grants23 w w8 vl vw vl' vw' r2 K n h := by
  have hs5 := HL.upd.size
  have hs4 := H4.left.upd.size
  have l5 := H4.left.trans HL
  have l5' := l5.post ((Upd.refl _ w5).alloc (.cells zeroKp 61))
  have l6 := l5'.store hU6 (fun q hq e => l5'.at_.ne (Blk.new w5 61 zeroKp) (by decide) (by decide) (e ▸ hq)) (by omega)
  have a4 := H4.arb.lt
  have d4 := H4.disk.lt
  have x4 := H4.res1.lt
  have y4 := H4.res2.lt
  have a6 := ((H4.arb.upd HL.upd (fun e => e)).alloc (.cells zeroKp 61)).upd hU6 (by omega)
  have d6 := ((H4.disk.upd HL.upd (fun e => e)).alloc (.cells zeroKp 61)).upd hU6 (by omega)
  have x6 := ((H4.res1.upd HL.upd (fun e => e)).alloc (.cells zeroKp 61)).upd hU6 (by omega)
  have y6 := ((H4.res2.upd HL.upd (fun e => e)).alloc (.cells zeroKp 61)).upd hU6 (by omega)
  have l7 := l6.store hU7 (fun q hq e => l6.at_.ne d6 (by decide) (by decide) (e ▸ hq)) (by omega)
  have a7 := a6.upd hU7 (by omega)
  have l8 := l7.store hU8 (fun q hq e => l7.at_.ne a7 (by decide) (by decide) (e ▸ hq)) (Nat.le_refl _)
  exact ⟨l8, hB8, hB7.upd hU8 (by omega), (x6.upd hU7 (by omega)).upd hU8 (by omega), (y6.upd hU7 (by omega)).upd hU8 (by omega)⟩
theorem Grants23.count {w w8 : World} {vl vw vl' vw' : Value} {r : Rd} {k : Kp} {n : Nat} {h : Int} (H : Grants23 w w8 vl vw vl' vw' r k n h) (m : Nat) : Grants23 w ((w8.setCell ⟨w.heap.size, 6, none⟩ (.int .i64 ((n : Int) + 1))).setCell ⟨w.heap.size, 7, none⟩ (.int .i64 (m : Int))) vl vw vl' vw' r k (n + 1) (m : Int) := by
  have hU : Upd (· = w.heap.size) w8 ((w8.setCell ⟨w.heap.size, 6, none⟩ (.int .i64 ((n : Int) + 1))).setCell ⟨w.heap.size, 7, none⟩ (.int .i64 (m : Int))) := ((Upd.refl (· = w.heap.size) w8).setCell (p := ⟨w.heap.size, 6, none⟩) (.inl rfl) _).setCell (p := ⟨w.heap.size, 7, none⟩) (.inl rfl) _
  refine ⟨H.left.store hU (fun q hq e => H.left.at_.ne H.arb (by decide) (by decide) (e ▸ hq)) (Nat.le_refl _), ?_, H.disk.upd hU (by omega), H.res1.upd hU (by omega), H.res2.upd hU (by omega)⟩
  have := (H.arb.set_ 6 (.int .i64 ((n : Int) + 1))).set_ 7 (.int .i64 (m : Int))
  unfold rowA
  simpa [Int.natCast_add] using this
theorem Blk.cells8 {w : World} {g : Nat} {t : TypeId} {a b c d e f h i : Value} (z : Blk w g t #[a, b, c, d, e, f, h, i]) : w.cell? ⟨g, 0, none⟩ = some a ∧ w.cell? ⟨g, 1, none⟩ = some b ∧ w.cell? ⟨g, 2, none⟩ = some c ∧ w.cell? ⟨g, 3, none⟩ = some d ∧ w.cell? ⟨g, 4, none⟩ = some e ∧ w.cell? ⟨g, 5, none⟩ = some f ∧
    w.cell? ⟨g, 6, none⟩ = some h ∧ w.cell? ⟨g, 7, none⟩ = some i :=
  ⟨z.cell 0, z.cell 1, z.cell 2, z.cell 3, z.cell 4, z.cell 5, z.cell 6, z.cell 7⟩
section
variable {w : World} {vl vw : Value} {r : Rd} {d : Dk} {k : Kp} {n : Nat} {h : Int}
set_option maxRecDepth 100000 in
set_option maxHeartbeats 3200000 in
theorem rgrant_p (hR : RdAt w vl vw r) (hI : RdIs d r) (hwf : d.wf) (hk : k.fits) (hn : n ≤ 9223372036854775807) (hpe : d.pend + 20 < 1000000) (c : Int) :
    Calls Tryz.prog 66 #[.agg (rowA k n h), .agg #[vl, vw, .int .i64 r.fuse, .bool r.off], .int .i64 c] w fun e w' =>
      ∃ vl' vw' r', e = .returned (.tuple #[.agg (rowA (grantAP d k n h c).1.2.1 (grantAP d k n h c).1.2.2.1 (grantAP d k n h c).1.2.2.2), .agg #[vl', vw', .int .i64 r'.fuse, .bool r'.off], .int .i64 (grantAP d k n h c).2.1, .int .i64 (grantAP d k n h c).2.2]) ∧ RdLeft w w' vl vw vl' vw' r' ∧ RdIs (grantAP d k n h c).1.1 r' := by
  obtain ⟨w3, hw3⟩ : ∃ w3, (((w.alloc (.cells (rowA k n h) 69)).alloc (.cells #[vl, vw, .int .i64 r.fuse, .bool r.off] 33)).alloc (.cells zeroAr 69)).alloc (.cells zeroRd 33) = w3 := ⟨_, rfl⟩
  obtain ⟨hU3, b1, b2, b3, b4, hsz⟩ := four_new w3 hw3
  have HP : Hid (Grants23 w w3 vl vw vl vw r k n h) := Lib.hid ⟨(RdLeft.refl hR).post hU3, b1, b2, b3, b4⟩
  have hc3 := b1.cells8
  have Hw := Lib.hid hw3
  have Hsz := Lib.hid hsz
  clear b1 b2 b3 b4 hsz hw3
  unfold grantAP
  by_cases hc : placeB c = false
  · rw [if_pos hc]
    have hI' := Lib.hid hI
    have hcc : (c != 0) = true ∧ (c != 1) = true := by
      unfold placeB at hc
      simp only [Bool.or_eq_false_iff, beq_eq_false_iff_ne] at hc
      exact ⟨bne_iff_ne.2 hc.1, bne_iff_ne.2 hc.2⟩
    obtain ⟨hc0, hc1⟩ := hcc
    clear hc hU3 hR hI hwf hk hn hpe Hsz
    go_enter Tryz.func66, Tryz.ntmps66
    go_upto_region 1 with fail
    rw [Hw.out]
    clear Hw
    go_upto_region 2 with fail
    refine wp_region_noPanic ?_
    refine wp_region_T (S := fun w' => Blk w' w.heap.size 69 (rowA k n h) ∧ Blk w' (w.heap.size + 1) 33 #[vl, vw, .int .i64 r.fuse, .bool r.off]) (T := fun _ => false) (by kernel_rfl) ?_
    have hS0 := And.intro HP.out.arb.drew HP.out.disk.drew
    refine wpAnyT_take (i := 0) (v := ?_) rfl (by kernel_rfl) (by kernel_rfl) (by kernel_rfl) (by kernel_rfl) (fun _ _ _ h => h) (takes_yield rfl (Or.inl ⟨by rfl, ?_⟩)) (by assumption) (by kernel_rfl) ?_
    rotate_left 1
    · intro w' hSw; have hcw := hSw.1.cells8; have hcd := hSw.2.cells4; go_split_ands; first | (go_simp; done) | (go_simp; rfl) | rfl
    simp only [Act.put, List.getElem_toArray, List.getElem_cons_zero, List.setIfInBounds_toArray, List.set_cons_zero, List.set_cons_succ]
    refine wpAnyT_take (i := 1) (v := ?_) rfl (by kernel_rfl) (by kernel_rfl) (by kernel_rfl) (by kernel_rfl) (fun _ _ _ h => h) (takes_yield rfl (Or.inl ⟨by rfl, ?_⟩)) (by assumption) (by kernel_rfl) ?_
    rotate_left 1
    · intro w' hSw; have hcw := hSw.1.cells8; have hcd := hSw.2.cells4; go_split_ands; first | (go_simp; done) | (go_simp; rfl) | rfl
    simp only [Act.put, List.getElem_toArray, List.getElem_cons_zero, List.getElem_cons_succ, List.setIfInBounds_toArray, List.set_cons_zero, List.set_cons_succ]
    refine wpAnyT_one (i := 2) (by kernel_rfl) rfl (fun K hK => ?_)
    refine step_store_all (by rfl) 69 _ _ (by rfl) (w.heap.size + 1 + 1) (rowA k n h) (by rfl) (by rfl) _ _ HP.out.res1.drew rfl (rowA_one _ _ _) (by kernel_rfl) ?_
    intro y4 hB4 hU4 hs4
    have hS4 := And.intro (hS0.1.upd hU4 (by omega)) (hS0.2.upd hU4 (by omega))
    refine hK.out _ _ hS4 ?_
    clear hK
    refine wpAnyT_one (i := 3) (by kernel_rfl) rfl (fun K hK => ?_)
    refine step_store_all (by rfl) 33 _ _ (by rfl) (w.heap.size + 1 + 1 + 1) #[vl, vw, .int .i64 r.fuse, .bool r.off] (by rfl) (by rfl) _ _ (HP.out.res2.drew.upd hU4 (by omega)) rfl (rdrow_one r HP.out.left.at_) (by kernel_rfl) ?_
    intro y5 hB5 hU5 hs5
    have hS5 := And.intro (hS4.1.upd hU5 (by omega)) (hS4.2.upd hU5 (by omega))
    refine hK.out _ _ hS5 ?_
    have hl := (HP.out.still (Upd.refl _ w3).drew).ends hU4 hU5
    have HE := Lib.hid (And.intro (hB4.upd hU5 (by omega)) (And.intro hB5 hl))
    clear hK hS0 hS4 hl hB4 hU4 hs4 hB5 hU5 hs5
    refine wpAnyT_take (i := 4) (v := ?_) rfl (by kernel_rfl) (by kernel_rfl) (by kernel_rfl) (by kernel_rfl) (fun _ _ _ h => h) (takes_yield rfl (Or.inl ⟨by rfl, ?_⟩)) (by assumption) (by kernel_rfl) ?_
    rotate_left 1
    · intro w' hSw; go_split_ands; first | (go_simp; done) | (go_simp; rfl) | rfl
    simp only [Act.put, List.getElem_toArray, List.getElem_cons_zero, List.getElem_cons_succ, List.setIfInBounds_toArray, List.set_cons_zero, List.set_cons_succ]
    refine wpAnyT_take (i := 5) (v := ?_) rfl (by kernel_rfl) (by kernel_rfl) (by kernel_rfl) (by kernel_rfl) (fun _ _ _ h => h) (takes_yield rfl (Or.inl ⟨by rfl, ?_⟩)) (by assumption) (by kernel_rfl) ?_
    rotate_left 1
    · intro w' hSw; go_split_ands; first | (go_simp; done) | (go_simp; rfl) | rfl
    simp only [Act.put, List.getElem_toArray, List.getElem_cons_zero, List.getElem_cons_succ, List.setIfInBounds_toArray, List.set_cons_zero, List.set_cons_succ]
    refine wpAnyT_done (by kernel_rfl) ?_ _
    refine NoPanic.normal ?_
    go_wp2_with fail
    refine bodyPost_ret (results_cells2_slots _ _ (w.heap.size + 1 + 1) (w.heap.size + 1 + 1 + 1) _ _ _ _ _ _ _ _ rfl rfl HE.out.1 rfl HE.out.2.1 Tryz.underlying69 rfl rfl Tryz.underlying33 rfl rfl (.int .i64 0) (.int .i64 1) rfl rfl) rfl ⟨vl, vw, r, rfl, HE.out.2.2, hI'.out⟩
  · rw [if_neg hc]
    have hc : placeB c = true := by simpa using hc
    obtain ⟨m, rfl, hm⟩ := place_nat hc
    have hcb : (((m : Int) != 0) = false) ∨ (((m : Int) != 0) = true ∧ ((m : Int) != 1) = false) := by
      rcases (by omega : m = 0 ∨ m = 1) with rfl | rfl
      · exact .inl rfl
      · exact .inr ⟨rfl, rfl⟩
    by_cases hm : n = 9223372036854775807
    · rw [if_pos hm]
      subst hm
      have hI' := Lib.hid hI
      clear hc hU3 hR hI hwf hk hn hpe Hsz
      rcases hcb with hcb | ⟨hc0, hc1⟩
      all_goals
        go_enter Tryz.func66, Tryz.ntmps66
        go_upto_region 1 with fail
        rw [Hw.out]
        clear Hw
        go_upto_region 4 with fail
        refine wp_region_noPanic ?_
        refine wp_region_T (S := fun w' => Blk w' w.heap.size 69 (rowA k 9223372036854775807 h) ∧ Blk w' (w.heap.size + 1) 33 #[vl, vw, .int .i64 r.fuse, .bool r.off]) (T := fun _ => false) (by kernel_rfl) ?_
        have hS0 := And.intro HP.out.arb.drew HP.out.disk.drew
        refine wpAnyT_take (i := 0) (v := ?_) rfl (by kernel_rfl) (by kernel_rfl) (by kernel_rfl) (by kernel_rfl) (fun _ _ _ h => h) (takes_yield rfl (Or.inl ⟨by rfl, ?_⟩)) (by assumption) (by kernel_rfl) ?_
        rotate_left 1
        · intro w' hSw; have hcw := hSw.1.cells8; have hcd := hSw.2.cells4; go_split_ands; first | (go_simp; done) | (go_simp; rfl) | rfl
        simp only [Act.put, List.getElem_toArray, List.getElem_cons_zero, List.setIfInBounds_toArray, List.set_cons_zero, List.set_cons_succ]
        refine wpAnyT_take (i := 1) (v := ?_) rfl (by kernel_rfl) (by kernel_rfl) (by kernel_rfl) (by kernel_rfl) (fun _ _ _ h => h) (takes_yield rfl (Or.inl ⟨by rfl, ?_⟩)) (by assumption) (by kernel_rfl) ?_
        rotate_left 1
        · intro w' hSw; have hcw := hSw.1.cells8; have hcd := hSw.2.cells4; go_split_ands; first | (go_simp; done) | (go_simp; rfl) | rfl
        simp only [Act.put, List.getElem_toArray, List.getElem_cons_zero, List.getElem_cons_succ, List.setIfInBounds_toArray, List.set_cons_zero, List.set_cons_succ]
        refine wpAnyT_one (i := 2) (by kernel_rfl) rfl (fun K hK => ?_)
        refine step_store_all (by rfl) 69 _ _ (by rfl) (w.heap.size + 1 + 1) (rowA k 9223372036854775807 h) (by rfl) (by rfl) _ _ HP.out.res1.drew rfl (rowA_one _ _ _) (by kernel_rfl) ?_
        intro y4 hB4 hU4 hs4
        have hS4 := And.intro (hS0.1.upd hU4 (by omega)) (hS0.2.upd hU4 (by omega))
        refine hK.out _ _ hS4 ?_
        clear hK
        refine wpAnyT_one (i := 3) (by kernel_rfl) rfl (fun K hK => ?_)
        refine step_store_all (by rfl) 33 _ _ (by rfl) (w.heap.size + 1 + 1 + 1) #[vl, vw, .int .i64 r.fuse, .bool r.off] (by rfl) (by rfl) _ _ (HP.out.res2.drew.upd hU4 (by omega)) rfl (rdrow_one r HP.out.left.at_) (by kernel_rfl) ?_
        intro y5 hB5 hU5 hs5
        have hS5 := And.intro (hS4.1.upd hU5 (by omega)) (hS4.2.upd hU5 (by omega))
        refine hK.out _ _ hS5 ?_
        have hl := (HP.out.still (Upd.refl _ w3).drew).ends hU4 hU5
        have HE := Lib.hid (And.intro (hB4.upd hU5 (by omega)) (And.intro hB5 hl))
        clear hK hS0 hS4 hl hB4 hU4 hs4 hB5 hU5 hs5
        refine wpAnyT_take (i := 4) (v := ?_) rfl (by kernel_rfl) (by kernel_rfl) (by kernel_rfl) (by kernel_rfl) (fun _ _ _ h => h) (takes_yield rfl (Or.inl ⟨by rfl, ?_⟩)) (by assumption) (by kernel_rfl) ?_
        rotate_left 1
        · intro w' hSw; go_split_ands; first | (go_simp; done) | (go_simp; rfl) | rfl
        simp only [Act.put, List.getElem_toArray, List.getElem_cons_zero, List.getElem_cons_succ, List.setIfInBounds_toArray, List.set_cons_zero, List.set_cons_succ]
        refine wpAnyT_take (i := 5) (v := ?_) rfl (by kernel_rfl) (by kernel_rfl) (by kernel_rfl) (by kernel_rfl) (fun _ _ _ h => h) (takes_yield rfl (Or.inl ⟨by rfl, ?_⟩)) (by assumption) (by kernel_rfl) ?_
        rotate_left 1
        · intro w' hSw; go_split_ands; first | (go_simp; done) | (go_simp; rfl) | rfl
        simp only [Act.put, List.getElem_toArray, List.getElem_cons_zero, List.getElem_cons_succ, List.setIfInBounds_toArray, List.set_cons_zero, List.set_cons_succ]
        refine wpAnyT_done (by kernel_rfl) ?_ _
        refine NoPanic.normal ?_
        go_wp2_with fail
        refine bodyPost_ret (results_cells2_slots _ _ (w.heap.size + 1 + 1) (w.heap.size + 1 + 1 + 1) _ _ _ _ _ _ _ _ rfl rfl HE.out.1 rfl HE.out.2.1 Tryz.underlying69 rfl rfl Tryz.underlying33 rfl rfl (.int .i64 0) (.int .i64 6) rfl rfl) rfl ⟨vl, vw, r, rfl, HE.out.2.2, hI'.out⟩
    · rw [if_neg hm]
      have hnb : ((n : Int) == 9223372036854775807) = false := by rw [beq_eq_false_iff_ne]; omega
      have hwr : IntKind.i64.wrap ((n : Int) + 1) = (n : Int) + 1 := IntWalk.i64_in _ (by omega)
      have hby : bytesE ((n : Int) + 1) (m : Int) = (bytesA (n + 1) (m : Int).toNat, 0) := by
        unfold bytesE
        rw [if_neg (by rw [hc]; simp; omega)]
        rfl
      have HB := Lib.hid (fun W => refBytes_c ((n : Int) + 1) (m : Int) (by omega) W)
      rw [hby] at HB
      obtain ⟨hri, hrq⟩ := put_ref hI hwf.len k (bytesA (n + 1) (m : Int).toNat)
      have HPut : Hid (∀ W, RdAt W vl vw r → Calls Tryz.prog 22 #[.agg k.row, .agg #[vl, vw, .int .i64 r.fuse, .bool r.off], .string (str (bytesA (n + 1) (m : Int).toNat))] W fun e w' =>
          ∃ vl' vw', e = .returned (.tuple #[.agg (putR r k (bytesA (n + 1) (m : Int).toNat)).2.1.row, .agg #[vl', vw', .int .i64 (putR r k (bytesA (n + 1) (m : Int).toNat)).1.fuse, .bool (putR r k (bytesA (n + 1) (m : Int).toNat)).1.off], .int .i64 (putR r k (bytesA (n + 1) (m : Int).toNat)).2.2]) ∧ RdLeft W w' vl vw vl' vw' (putR r k (bytesA (n + 1) (m : Int).toNat)).1) := Lib.hid fun W hW => by
        have := rput_p hW (hI.fits hwf) hk (by rw [hI.pend]; omega) (str (bytesA (n + 1) (m : Int).toNat))
        rw [str_list] at this
        exact this
      generalize str (bytesA (n + 1) (m : Int).toNat) = S at *
      obtain ⟨⟨D, K, E⟩, hQ⟩ : ∃ R, putK d k (bytesA (n + 1) (m : Int).toNat) = R := ⟨_, rfl⟩
      obtain ⟨⟨r2, K2, E2⟩, hQ2⟩ : ∃ R, putR r k (bytesA (n + 1) (m : Int).toNat) = R := ⟨_, rfl⟩
      rw [hQ, hQ2] at hri hrq
      rw [hQ2] at HPut
      simp only [hQ] at HPut hri hrq ⊢
      simp only [Prod.mk.injEq] at hrq
      obtain ⟨rfl, rfl⟩ := hrq
      have hI' := Lib.hid hri
      clear hc hU3 hR hI hwf hk hn hpe hby hri hQ hQ2 hm
      by_cases he : E2 = 0
      · subst he
        rw [if_pos rfl]
        simp only
        rcases hcb with hcb | ⟨hc0, hc1⟩
        all_goals
          go_enter Tryz.func66, Tryz.ntmps66
          go_upto_region 1 with fail
          rw [Hw.out]
          clear Hw
          go_upto_region 5 with fail
          go_wp2_with fail
          refine (HB.out _).mono ?_
          rintro e w4 ⟨rfl, hU4⟩
          have H4 := Lib.hid (HP.out.still hU4)
          have hs4 : Hid (w3.heap.size ≤ w4.heap.size) := Lib.hid hU4.size
          clear hU4 hc3
          go_upto_region 6 with fail
          go_upto_region 7 with (first
            | (refine wpList_load_part rfl _ _ rfl w.heap.size 0 rfl _ _ [.int .i64 (k.from_ : Int), .string (str k.text), .int .u64 (k.gen : Int), .int .i64 (k.at_ : Int), .int .u64 (k.seen : Int), .bool k.broken] _ H4.out.arb (fun j v e => (by match j, e with | 0, e => exact e | 1, e => exact e | 2, e => exact e | 3, e => exact e | 4, e => exact e | 5, e => exact e)) Tryz.underlying61 rfl rfl ?_)
            | (refine wpList_load_all rfl _ _ rfl (w.heap.size + 1) rfl _ _ _ H4.out.disk Tryz.underlying33 rfl rfl ?_)
            | (go_at_call 22; refine (HPut.out _ H4.out.left.at_).mono ?_; rintro e w5 ⟨vl', vw', rfl, hL⟩
               have HL := Lib.hid hL
               clear hL)
            | (refine wpList_store_all rfl 61 _ _ rfl w5.heap.size K2.row rfl rfl _ _ (Blk.new w5 _ _) rfl (Kp.row_one _) (by kernel_rfl) ?_
               intro w6 hB6 hU6 hs6)
            | (refine wpList_store_all rfl 33 _ _ rfl (w.heap.size + 1) #[vl', vw', .int .i64 r2.fuse, .bool r2.off] rfl rfl _ _ (((H4.out.disk.upd HL.out.upd (fun e => e)).alloc _).upd hU6 (by have := H4.out.disk.lt; have := HL.out.upd.size; omega)) rfl (rdrow_one r2 HL.out.at_) (by kernel_rfl) ?_
               intro w7 hB7 hU7 hs7))
          have hs54 : w4.heap.size ≤ w5.heap.size := HL.out.upd.size
          have hlt4 := H4.out.arb.lt
          have hdt4 := H4.out.disk.lt
          have ha7 := (((H4.out.arb.upd HL.out.upd (fun e => e)).alloc (.cells zeroKp 61)).upd hU6 (by omega)).upd hU7 (by omega)
          have hk7 := hB6.upd hU7 (by omega)
          go_upto_region 8 with (first
            | (refine wpList_load_all rfl _ _ rfl w5.heap.size rfl _ _ _ hk7 Tryz.underlying61 rfl rfl ?_)
            | (refine wpList_store_part rfl 61 _ _ rfl w.heap.size 0 K2.row rfl rfl _ _ (rowA K2 n h) ha7 (by simp) rfl (Kp.row_one _) (by kernel_rfl) ?_
               intro w8 hB8 hU8 hs8))
          have HP8 := Lib.hid (H4.out.put HL.out hU6 hB7 hU7 hB8 hU8)
          have hc8 := HP8.out.arb.cells8
          have hf6 := HP8.out.arb.frozen 6
          have hf7 := HP8.out.arb.frozen 7
          clear hs54 hlt4 hdt4 ha7 hk7 hB6 hU6 hs6 hB7 hU7 hs7 hB8 hU8 hs8 H4 HL HPut HB HP
          go_upto_region 12 with fail
          have HP := Lib.hid (HP8.out.count m)
          obtain ⟨w9, hw9⟩ : ∃ w9, ((w8.setCell ⟨w.heap.size, 6, none⟩ (.int .i64 ((n : Int) + 1))).setCell ⟨w.heap.size, 7, none⟩ (.int .i64 (m : Int))) = w9 := ⟨_, rfl⟩
          rw [hw9] at HP ⊢
          clear HP8 hc8 hf6 hf7 hw9
          refine wp_region_noPanic ?_
          refine wp_region_T (S := fun w' => Blk w' w.heap.size 69 (rowA K2 (n + 1) (m : Int)) ∧ Blk w' (w.heap.size + 1) 33 #[vl', vw', .int .i64 r2.fuse, .bool r2.off]) (T := fun _ => false) (by kernel_rfl) ?_
          have hS0 := And.intro HP.out.arb.drew HP.out.disk.drew
          refine wpAnyT_take (i := 0) (v := ?_) rfl (by kernel_rfl) (by kernel_rfl) (by kernel_rfl) (by kernel_rfl) (fun _ _ _ h => h) (takes_yield rfl (Or.inl ⟨by rfl, ?_⟩)) (by assumption) (by kernel_rfl) ?_
          rotate_left 1
          · intro w' hSw; have hcw := hSw.1.cells8; have hcd := hSw.2.cells4; go_split_ands; first | (go_simp; done) | (go_simp; rfl) | rfl
          simp only [Act.put, List.getElem_toArray, List.getElem_cons_zero, List.setIfInBounds_toArray, List.set_cons_zero, List.set_cons_succ]
          refine wpAnyT_take (i := 1) (v := ?_) rfl (by kernel_rfl) (by kernel_rfl) (by kernel_rfl) (by kernel_rfl) (fun _ _ _ h => h) (takes_yield rfl (Or.inl ⟨by rfl, ?_⟩)) (by assumption) (by kernel_rfl) ?_
          rotate_left 1
          · intro w' hSw; have hcw := hSw.1.cells8; have hcd := hSw.2.cells4; go_split_ands; first | (go_simp; done) | (go_simp; rfl) | rfl
          simp only [Act.put, List.getElem_toArray, List.getElem_cons_zero, List.getElem_cons_succ, List.setIfInBounds_toArray, List.set_cons_zero, List.set_cons_succ]
          refine wpAnyT_take (i := 2) (v := ?_) rfl (by kernel_rfl) (by kernel_rfl) (by kernel_rfl) (by kernel_rfl) (fun _ _ _ h => h) (takes_yield rfl (Or.inl ⟨by rfl, ?_⟩)) (by assumption) (by kernel_rfl) ?_
          rotate_left 1
          · intro w' hSw; have hcw := hSw.1.cells8; have hcd := hSw.2.cells4; go_split_ands; first | (go_simp; done) | (go_simp; rfl) | rfl
          simp only [Act.put, List.getElem_toArray, List.getElem_cons_zero, List.getElem_cons_succ, List.setIfInBounds_toArray, List.set_cons_zero, List.set_cons_succ]
          refine wpAnyT_take (i := 3) (v := ?_) rfl (by kernel_rfl) (by kernel_rfl) (by kernel_rfl) (by kernel_rfl) (fun _ _ _ h => h) (takes_yield rfl (Or.inl ⟨by rfl, ?_⟩)) (by assumption) (by kernel_rfl) ?_
          rotate_left 1
          · intro w' hSw; have hcw := hSw.1.cells8; have hcd := hSw.2.cells4; go_split_ands; first | (go_simp; done) | (go_simp; rfl) | rfl
          simp only [Act.put, List.getElem_toArray, List.getElem_cons_zero, List.getElem_cons_succ, List.setIfInBounds_toArray, List.set_cons_zero, List.set_cons_succ]
          refine wpAnyT_one (i := 4) (by kernel_rfl) rfl (fun K hK => ?_)
          refine step_store_all (by rfl) 69 _ _ (by rfl) (w.heap.size + 1 + 1) (rowA K2 (n + 1) (m : Int)) (by rfl) (by rfl) _ _ HP.out.res1.drew rfl (rowA_one _ _ _) (by kernel_rfl) ?_
          intro y4 hB4 hU4 hs4
          have hS4 := And.intro (hS0.1.upd hU4 (by omega)) (hS0.2.upd hU4 (by omega))
          refine hK.out _ _ hS4 ?_
          clear hK
          refine wpAnyT_one (i := 5) (by kernel_rfl) rfl (fun K hK => ?_)
          refine step_store_all (by rfl) 33 _ _ (by rfl) (w.heap.size + 1 + 1 + 1) #[vl', vw', .int .i64 r2.fuse, .bool r2.off] (by rfl) (by rfl) _ _ (HP.out.res2.drew.upd hU4 (by omega)) rfl (rdrow_one r2 HP.out.left.at_) (by kernel_rfl) ?_
          intro y5 hB5 hU5 hs5
          have hS5 := And.intro (hS4.1.upd hU5 (by omega)) (hS4.2.upd hU5 (by omega))
          refine hK.out _ _ hS5 ?_
          have hl := (HP.out.still (Upd.refl _ w9).drew).ends hU4 hU5
          have HE := Lib.hid (And.intro (hB4.upd hU5 (by omega)) (And.intro hB5 hl))
          clear hK hS0 hS4 hl hB4 hU4 hs4 hB5 hU5 hs5
          refine wpAnyT_take (i := 6) (v := ?_) rfl (by kernel_rfl) (by kernel_rfl) (by kernel_rfl) (by kernel_rfl) (fun _ _ _ h => h) (takes_yield rfl (Or.inl ⟨by rfl, ?_⟩)) (by assumption) (by kernel_rfl) ?_
          rotate_left 1
          · intro w' hSw; go_split_ands; first | (go_simp; done) | (go_simp; rfl) | rfl
          simp only [Act.put, List.getElem_toArray, List.getElem_cons_zero, List.getElem_cons_succ, List.setIfInBounds_toArray, List.set_cons_zero, List.set_cons_succ]
          refine wpAnyT_take (i := 7) (v := ?_) rfl (by kernel_rfl) (by kernel_rfl) (by kernel_rfl) (by kernel_rfl) (fun _ _ _ h => h) (takes_yield rfl (Or.inl ⟨by rfl, ?_⟩)) (by assumption) (by kernel_rfl) ?_
          rotate_left 1
          · intro w' hSw; go_split_ands; first | (go_simp; done) | (go_simp; rfl) | rfl
          simp only [Act.put, List.getElem_toArray, List.getElem_cons_zero, List.getElem_cons_succ, List.setIfInBounds_toArray, List.set_cons_zero, List.set_cons_succ]
          refine wpAnyT_done (by kernel_rfl) ?_ _
          refine NoPanic.normal ?_
          go_wp2_with fail
          refine bodyPost_ret (results_cells2_slots _ _ (w.heap.size + 1 + 1) (w.heap.size + 1 + 1 + 1) _ _ _ _ _ _ _ _ rfl rfl HE.out.1 rfl HE.out.2.1 Tryz.underlying69 rfl rfl Tryz.underlying33 rfl rfl (.int .i64 ((n : Int) + 1)) (.int .i64 0) rfl rfl) rfl ⟨vl', vw', r2, rfl, HE.out.2.2, hI'.out⟩
      · rw [if_neg he]
        have hE : (E2 != 0) = true := bne_iff_ne.2 he
        simp only
        clear he
        rcases hcb with hcb | ⟨hc0, hc1⟩
        all_goals
          go_enter Tryz.func66, Tryz.ntmps66
          go_upto_region 1 with fail
          rw [Hw.out]
          clear Hw
          go_upto_region 5 with fail
          go_wp2_with fail
          refine (HB.out _).mono ?_
          rintro e w4 ⟨rfl, hU4⟩
          have H4 := Lib.hid (HP.out.still hU4)
          have hs4 : Hid (w3.heap.size ≤ w4.heap.size) := Lib.hid hU4.size
          clear hU4 hc3
          go_upto_region 6 with fail
          go_upto_region 7 with (first
            | (refine wpList_load_part rfl _ _ rfl w.heap.size 0 rfl _ _ [.int .i64 (k.from_ : Int), .string (str k.text), .int .u64 (k.gen : Int), .int .i64 (k.at_ : Int), .int .u64 (k.seen : Int), .bool k.broken] _ H4.out.arb (fun j v e => (by match j, e with | 0, e => exact e | 1, e => exact e | 2, e => exact e | 3, e => exact e | 4, e => exact e | 5, e => exact e)) Tryz.underlying61 rfl rfl ?_)
            | (refine wpList_load_all rfl _ _ rfl (w.heap.size + 1) rfl _ _ _ H4.out.disk Tryz.underlying33 rfl rfl ?_)
            | (go_at_call 22; refine (HPut.out _ H4.out.left.at_).mono ?_; rintro e w5 ⟨vl', vw', rfl, hL⟩
               have HL := Lib.hid hL
               clear hL)
            | (refine wpList_store_all rfl 61 _ _ rfl w5.heap.size K2.row rfl rfl _ _ (Blk.new w5 _ _) rfl (Kp.row_one _) (by kernel_rfl) ?_
               intro w6 hB6 hU6 hs6)
            | (refine wpList_store_all rfl 33 _ _ rfl (w.heap.size + 1) #[vl', vw', .int .i64 r2.fuse, .bool r2.off] rfl rfl _ _ (((H4.out.disk.upd HL.out.upd (fun e => e)).alloc _).upd hU6 (by have := H4.out.disk.lt; have := HL.out.upd.size; omega)) rfl (rdrow_one r2 HL.out.at_) (by kernel_rfl) ?_
               intro w7 hB7 hU7 hs7))
          have hs54 : w4.heap.size ≤ w5.heap.size := HL.out.upd.size
          have hlt4 := H4.out.arb.lt
          have hdt4 := H4.out.disk.lt
          have ha7 := (((H4.out.arb.upd HL.out.upd (fun e => e)).alloc (.cells zeroKp 61)).upd hU6 (by omega)).upd hU7 (by omega)
          have hk7 := hB6.upd hU7 (by omega)
          go_upto_region 8 with (first
            | (refine wpList_load_all rfl _ _ rfl w5.heap.size rfl _ _ _ hk7 Tryz.underlying61 rfl rfl ?_)
            | (refine wpList_store_part rfl 61 _ _ rfl w.heap.size 0 K2.row rfl rfl _ _ (rowA K2 n h) ha7 (by simp) rfl (Kp.row_one _) (by kernel_rfl) ?_
               intro w8 hB8 hU8 hs8))
          have HP8 := Lib.hid (H4.out.put HL.out hU6 hB7 hU7 hB8 hU8)
          have hc8 := HP8.out.arb.cells8
          have hf6 := HP8.out.arb.frozen 6
          have hf7 := HP8.out.arb.frozen 7
          clear hs54 hlt4 hdt4 ha7 hk7 hB6 hU6 hs6 hB7 hU7 hs7 hB8 hU8 hs8 H4 HL HPut HB HP
          have HP := HP8
          clear HP8 hf6 hf7
          go_upto_region 9 with fail
          refine wp_region_noPanic ?_
          refine wp_region_T (S := fun w' => Blk w' w.heap.size 69 (rowA K2 n h) ∧ Blk w' (w.heap.size + 1) 33 #[vl', vw', .int .i64 r2.fuse, .bool r2.off]) (T := fun _ => false) (by kernel_rfl) ?_
          have hS0 := And.intro HP.out.arb.drew HP.out.disk.drew
          refine wpAnyT_take (i := 0) (v := ?_) rfl (by kernel_rfl) (by kernel_rfl) (by kernel_rfl) (by kernel_rfl) (fun _ _ _ h => h) (takes_yield rfl (Or.inl ⟨by rfl, ?_⟩)) (by assumption) (by kernel_rfl) ?_
          rotate_left 1
          · intro w' hSw; have hcw := hSw.1.cells8; have hcd := hSw.2.cells4; go_split_ands; first | (go_simp; done) | (go_simp; rfl) | rfl
          simp only [Act.put, List.getElem_toArray, List.getElem_cons_zero, List.setIfInBounds_toArray, List.set_cons_zero, List.set_cons_succ]
          refine wpAnyT_take (i := 1) (v := ?_) rfl (by kernel_rfl) (by kernel_rfl) (by kernel_rfl) (by kernel_rfl) (fun _ _ _ h => h) (takes_yield rfl (Or.inl ⟨by rfl, ?_⟩)) (by assumption) (by kernel_rfl) ?_
          rotate_left 1
          · intro w' hSw; have hcw := hSw.1.cells8; have hcd := hSw.2.cells4; go_split_ands; first | (go_simp; done) | (go_simp; rfl) | rfl
          simp only [Act.put, List.getElem_toArray, List.getElem_cons_zero, List.getElem_cons_succ, List.setIfInBounds_toArray, List.set_cons_zero, List.set_cons_succ]
          refine wpAnyT_take (i := 2) (v := ?_) rfl (by kernel_rfl) (by kernel_rfl) (by kernel_rfl) (by kernel_rfl) (fun _ _ _ h => h) (takes_yield rfl (Or.inl ⟨by rfl, ?_⟩)) (by assumption) (by kernel_rfl) ?_
          rotate_left 1
          · intro w' hSw; have hcw := hSw.1.cells8; have hcd := hSw.2.cells4; go_split_ands; first | (go_simp; done) | (go_simp; rfl) | rfl
          simp only [Act.put, List.getElem_toArray, List.getElem_cons_zero, List.getElem_cons_succ, List.setIfInBounds_toArray, List.set_cons_zero, List.set_cons_succ]
          refine wpAnyT_one (i := 3) (by kernel_rfl) rfl (fun K hK => ?_)
          refine step_store_all (by rfl) 69 _ _ (by rfl) (w.heap.size + 1 + 1) (rowA K2 n h) (by rfl) (by rfl) _ _ HP.out.res1.drew rfl (rowA_one _ _ _) (by kernel_rfl) ?_
          intro y4 hB4 hU4 hs4
          have hS4 := And.intro (hS0.1.upd hU4 (by omega)) (hS0.2.upd hU4 (by omega))
          refine hK.out _ _ hS4 ?_
          clear hK
          refine wpAnyT_one (i := 4) (by kernel_rfl) rfl (fun K hK => ?_)
          refine step_store_all (by rfl) 33 _ _ (by rfl) (w.heap.size + 1 + 1 + 1) #[vl', vw', .int .i64 r2.fuse, .bool r2.off] (by rfl) (by rfl) _ _ (HP.out.res2.drew.upd hU4 (by omega)) rfl (rdrow_one r2 HP.out.left.at_) (by kernel_rfl) ?_
          intro y5 hB5 hU5 hs5
          have hS5 := And.intro (hS4.1.upd hU5 (by omega)) (hS4.2.upd hU5 (by omega))
          refine hK.out _ _ hS5 ?_
          have hl := (HP.out.still (Upd.refl _ w8).drew).ends hU4 hU5
          have HE := Lib.hid (And.intro (hB4.upd hU5 (by omega)) (And.intro hB5 hl))
          clear hK hS0 hS4 hl hB4 hU4 hs4 hB5 hU5 hs5
          refine wpAnyT_take (i := 5) (v := ?_) rfl (by kernel_rfl) (by kernel_rfl) (by kernel_rfl) (by kernel_rfl) (fun _ _ _ h => h) (takes_yield rfl (Or.inl ⟨by rfl, ?_⟩)) (by assumption) (by kernel_rfl) ?_
          rotate_left 1
          · intro w' hSw; go_split_ands; first | (go_simp; done) | (go_simp; rfl) | rfl
          simp only [Act.put, List.getElem_toArray, List.getElem_cons_zero, List.getElem_cons_succ, List.setIfInBounds_toArray, List.set_cons_zero, List.set_cons_succ]
          refine wpAnyT_take (i := 6) (v := ?_) rfl (by kernel_rfl) (by kernel_rfl) (by kernel_rfl) (by kernel_rfl) (fun _ _ _ h => h) (takes_yield rfl (Or.inl ⟨by rfl, ?_⟩)) (by assumption) (by kernel_rfl) ?_
          rotate_left 1
          · intro w' hSw; go_split_ands; first | (go_simp; done) | (go_simp; rfl) | rfl
          simp only [Act.put, List.getElem_toArray, List.getElem_cons_zero, List.getElem_cons_succ, List.setIfInBounds_toArray, List.set_cons_zero, List.set_cons_succ]
          refine wpAnyT_done (by kernel_rfl) ?_ _
          refine NoPanic.normal ?_
          go_wp2_with fail
          refine bodyPost_ret (results_cells2_slots _ _ (w.heap.size + 1 + 1) (w.heap.size + 1 + 1 + 1) _ _ _ _ _ _ _ _ rfl rfl HE.out.1 rfl HE.out.2.1 Tryz.underlying69 rfl rfl Tryz.underlying33 rfl rfl (.int .i64 0) (.int .i64 E2) rfl rfl) rfl ⟨vl', vw', r2, rfl, HE.out.2.2, hI'.out⟩
end
end Go.Proofs.YtpfbgmfkeofefaaGreat
