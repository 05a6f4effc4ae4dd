/-
  DiskCrash: the walk.
-/
import Derived.Test.YtafgohnpnaiomaaMay
import Derived.Test.YtafgohnpnaiomaaFree
import Derived.Test.YtafgohnpnaiomaaWDiskSync
namespace Go.Proofs.Ytafgohnpnaiomaa
open Go Go.RowKit

theorem write_cases (d : Dk) (i : Int) (b : ByteArray) :
    ((d.write i b).2 = 0 ∧ ∃ k : Nat, i = (k : Int) ∧ k < d.lasts.length ∧ (d.write i b).1.waits = d.waits.set k (d.waits.getD k [] ++ [b])) ∨ (((d.write i b).2 = 14 ∨ (d.write i b).2 = 1) ∧ (d.write i b).1.waits = d.waits) := by
  unfold Dk.write
  cases d.off
  · cases ht : d.there i
    · right
      exact ⟨.inr rfl, rfl⟩
    · have hi : 0 ≤ i ∧ i < d.lasts.length := by simpa [Dk.there] using ht
      by_cases hb : b.size = 64
      · rw [if_neg (by simp), decide_eq_true hb, if_pos (by rfl)]
        cases d.burn.2
        · right
          exact ⟨.inl rfl, Dk.burn_waits d⟩
        · left
          refine ⟨rfl, i.toNat, by omega, by omega, ?_⟩
          show d.burn.1.waits.set i.toNat (d.burn.1.at_ i.toNat ++ [b]) = _
          unfold Dk.at_
          rw [Dk.burn_waits]
      · right
        rw [if_neg (by simp), decide_eq_false hb, if_neg (by simp)]
        exact ⟨.inr rfl, rfl⟩
  · right
    exact ⟨.inl rfl, rfl⟩
theorem sync_cases (d : Dk) : (d.sync.2 = 0 ∧ d.sync.1.waits = List.replicate d.waits.length []) ∨ (d.sync.2 = 14 ∧ d.sync.1.waits = d.waits) := by
  unfold Dk.sync
  cases d.off
  · rw [if_neg (by simp)]
    cases d.burn.2
    · right
      exact ⟨rfl, Dk.burn_waits d⟩
    · left
      refine ⟨rfl, ?_⟩
      show d.burn.1.waits.map (fun _ => ([] : List ByteArray)) = _
      rw [Dk.burn_waits, List.map_const']
  · right
    exact ⟨rfl, rfl⟩
theorem sync_pend {d : Dk} : d.sync.1.pend ≤ d.pend := by
  unfold Dk.sync
  split
  · exact Nat.le_refl _
  · split
    · rw [Dk.flush_pend]; exact Nat.zero_le _
    · rw [Dk.burn_pend]; exact Nat.le_refl _
theorem sync_lasts (d : Dk) : d.sync.1.lasts.length = d.lasts.length := by
  unfold Dk.sync
  split
  · rfl
  · split
    · rw [Dk.flush_len, Dk.burn_lasts]
    · rw [Dk.burn_lasts]
/-- What is read behind the crashes. -/
structure CrashEnd (D : Dk) (keep : List Int) (i : Nat) (s was : ByteArray) : Prop where
  new : (D.crash keep).read (i : Int) = (s, 0)
  old : (D.crash []).read (i : Int) = (was, 0)
  size : s.size = 64
  is : s = was ∨ s ∈ D.waits.getD i []
theorem crash_end {D : Dk} (h : D.wf) (keep : List Int) (i : Nat) (hi : i < D.lasts.length) : ∃ s was, CrashEnd D keep i s was := by
  have e0 : (D.crash []).now i = D.last i := by
    rw [Dk.crash_is h.len [] hi]
    split
    · unfold Dk.keptAt Dk.choice
      simp
    · rfl
  refine ⟨(D.crash keep).now i, D.last i, ?_, ?_, ?_, ?_⟩
  · exact Dk.read_there rfl (by rw [Dk.crash_len]; exact hi)
  · rw [← e0]
    exact Dk.read_there rfl (by rw [Dk.crash_len]; exact hi)
  · exact (Dk.crash_wf h keep).now_size (by rw [Dk.crash_len]; exact hi)
  · exact Dk.crash_in h.len keep hi
def CrashRel (w1 : World) (p n : Nat) (m : Nat) (mv i : Value) (wr : World) : Prop :=
  ∃ (j bm : Nat) (X : Nat → Prop) (d : Dk), j ≤ m ∧ i = .int .i64 (j : Int) ∧ mv = .map (some bm) ∧ DksX w1 wr [(p, d)] X ∧ MayIn wr bm d.waits X ∧ d.lasts.length = n ∧ d.pend ≤ j
/-- What is known behind the crashes. -/
structure CrashAll (d C O : Dk) (n : Nat) : Prop where
  each : ∀ i, i < n → ∃ s was : ByteArray, C.read (i : Int) = (s, 0) ∧ O.read (i : Int) = (was, 0) ∧ s.size = 64 ∧ (s = was ∨ s ∈ d.waits.getD i [])
  len : C.lasts.length = n
  pend : C.pend = 0
  off : C.off = false
  off' : O.off = false
theorem crash_all {d : Dk} (h : d.wf) (keep : List Int) (n : Nat) (hn : d.lasts.length = n) : CrashAll d (d.crash keep) (d.crash []) n := by
  refine ⟨fun i hi => ?_, by rw [Dk.crash_len, hn], Dk.crash_pend h keep, rfl, rfl⟩
  obtain ⟨s, was, hc⟩ := crash_end h keep i (by omega)
  exact ⟨s, was, hc.new, hc.old, hc.size, hc.is⟩
def CrashOut (w1 : World) (p t bm n : Nat) (ws : List (List ByteArray)) (C O : Dk) (X : Nat → Prop) (iv : Value) (wr : World) : Prop :=
  ∃ m : Nat, m ≤ n ∧ iv = .int .i64 (m : Int) ∧ DksX w1 wr [(p, C), (t, O)] X ∧ MayIn wr bm ws X
def CrashIn (w1 : World) (p t bm : Nat) (ws : List (List ByteArray)) (C O : Dk) (X : Nat → Prop) (s was : ByteArray) (L : List ByteArray) (bv kv : Value) (wr : World) : Prop :=
  ∃ (k : Nat) (b : Bool), k ≤ L.length ∧ bv = .bool b ∧ kv = .int .i64 (k : Int) ∧ (b = true ↔ (s = was ∨ s ∈ L.take k)) ∧ DksX w1 wr [(p, C), (t, O)] X ∧ MayIn wr bm ws X
theorem bytes_beqC (x y : ByteArray) : (x.toList == y.toList) = decide (x = y) := by
  rw [ByteArray.toList_eq, ByteArray.toList_eq]
  by_cases h : x = y
  · subst h; simp
  · rw [decide_eq_false h, beq_eq_false_iff_ne]
    intro e
    exact h (ByteArray.ext (Array.toList_inj.1 e))
theorem look_may {w : World} {bm : Nat} {ws : List (List ByteArray)} {m : List (Int × Value)} (h3 : MapB intKey w bm m) (h4 : WaitsAt w m ws) (i : Nat) :
    ∃ v, (getA m (i : Int)).getD (.slice none 0 0) = v ∧ (Instr.lookup 74 (.map (some bm)) (.int .i64 (i : Int)) false).run Try.prog w = .ok v w ∧ Own w 9 1 v (ws.getD i []).length (strs (ws.getD i [])) ∧ (ws.getD i [] = [] → v = .slice none 0 0) ∧ (ws.getD i [] ≠ [] → ((i : Int), v) ∈ m) :=
  look_at (d := ⟨[], ws, 0, false⟩) h3 h4 i
set_option maxRecDepth 100000 in
set_option maxHeartbeats 3200000 in
theorem walk_DiskCrash {an : Int} {v vk : Value} {l : List Act7} {keep : List Int} (w : World) (h1 : (Lit.int .u8 an).wf = true) (hA : IsActs07 w v l) (hK : IsInts w vk keep) :
    Calls Try.prog 12 #[.int .u8 an, v, vk] w fun e w' => e = .returned (.bool true) ∧ Upd (fun _ => False) w w' := by
  obtain ⟨m, rfl, hm⟩ := u8_of h1
  have HW := Lib.hid (awake_07 w)
  have HA := Lib.hid hA
  have HKeep := Lib.hid hK
  obtain ⟨kA, kcap, -, -, rfl, km, -, -, -⟩ := hK.open_
  obtain ⟨A, cap, bA, off, rfl, hmm, hA0, hcells, hok⟩ := hA.open_
  have HC := Lib.hid hcells
  have HK := Lib.hid hok
  clear hA hK h1 hcells hok
  obtain ⟨n, hn⟩ : ∃ n : Nat, n = 1 + m % 40 := ⟨_, rfl⟩
  have hn1 : 1 ≤ n ∧ n ≤ 40 := by omega
  have hn' : 1 + (m : Int) % 40 = (n : Int) := by omega
  clear hn
  obtain ⟨i0, hi0, hz0, hz1, hz2⟩ := info_parts infoStr
  have hmm := @run_makeMap Try.prog
  go_enter Try.func12, Try.ntmps12
  go_wp2_with fail
  refine HW.out.mono ?_
  rintro e w1 ⟨rfl, hU1⟩
  have HU1 := Lib.hid hU1
  clear hU1 HW
  go_wp2_with fail
  refine (great_07 w w1 HA.out HU1.out).mono ?_
  rintro e w' ⟨bg, rfl, rfl, hge⟩
  have HGe := Lib.hid hge
  clear hge
  cases bg
  · by_cases c1 : 100 < keep.length
    · have c1' : (100 : Int) < (keep.length : Int) := by omega
      go_wp2_with fail
      go_ret
      exact ⟨rfl, HU1.out⟩
    have c1' : ¬ (100 : Int) < (keep.length : Int) := by omega
    obtain ⟨hl200, -⟩ := HGe.out.ok rfl
    clear HGe
    go_wp2_with fail
    refine (new_x (Dks.none_ w1) _ n rfl hn1.1 (by omega)).mono ?_
    rintro e w2 ⟨p, rfl, hD⟩
    have H2 := Lib.hid hD
    clear hD
    go_wp2_with fail
    have hx0 : DksX w1 (w2.alloc (.map #[] 0)) [(p, Dk.fresh n)] (fun q => q = w2.heap.size) :=
      (DksX.of (l := [(p, Dk.fresh n)]) H2.out).turn ((Upd.refl _ w2).alloc _) (fun q hq => .inr (by rw [hq]; simp))
    have Hx0 := Lib.hid hx0
    clear hx0
    go_loopw [9, 10] (fun mv i wr => CrashRel w1 p n l.length mv i wr) (fun _ i _ => l.length - (intOf i).toNat)
    case atStart => exact ⟨0, _, _, _, by omega, rfl, rfl, Hx0.out, MayIn.new w2 n, by simp [Dk.fresh], by rw [fresh_pend7]; omega⟩
    case round =>
      obtain ⟨j, bm, X, d, hj, rfl, rfl, hD, hM, hdn, hpe⟩ := hrel
      clear H2 Hx0
      by_cases hlt : j < l.length
      · obtain rfl := hA0 (by omega)
        obtain ⟨r, hr⟩ : ∃ r, l[j] = r := ⟨_, rfl⟩
        have hc := HC.out wr (HU1.out.then hD.upd (fun _ e => e.elim)) j hlt
        have hro := HK.out _ (List.getElem_mem hlt)
        rw [hr] at hc hro
        obtain ⟨x0, x1, x2, x3, x4, x5, x6⟩ := hc
        obtain ⟨D, hDd⟩ : ∃ D, r.data = D := ⟨_, rfl⟩
        have hdat0 := fun W => data_c r W hro.byte
        rw [hDd] at hdat0
        have hdat := Lib.hid hdat0
        clear hDd hdat0
        have hrn := hro.n
        unfold i64ok at hrn
        have hwl : d.waits.length = n := by rw [(hD.one 0 rfl).wf.len, hdn]
        have HD := Lib.hid (And.intro hD (And.intro hM (And.intro hdn hwl)))
        have hnx : ∀ (w' : World) (bm' : Nat) (Y : Nat → Prop) (d' : Dk), DksX w1 w' [(p, d')] Y → MayIn w' bm' d'.waits Y → d'.lasts.length = n → d'.pend ≤ j + 1 → CrashRel w1 p n l.length (.map (some bm')) (.int .i64 ((j : Int) + 1)) w' :=
          fun w' bm' Y d' h1 h2 h3 h4 => ⟨j + 1, bm', Y, d', by omega, by simp, rfl, h1, h2, h3, h4⟩
        have HN := Lib.hid hnx
        obtain ⟨d_, i_, n_, b_, x_, y_, kp, ks⟩ := r
        simp only [Act7.val] at x0 x1 x2 x3 x4 x5 x6 hdat hrn
        have hkeep := hro.keep
        simp only at hkeep
        obtain ⟨kA2, kcap2, -, -, hkp, -, -⟩ := hkeep.open_
        subst hkp
        clear hkeep hD hM hdn hwl hr hro hnx
        go_upto_region 13 with (first
          | (refine wpList_store_all rfl 66 _ _ rfl wr.heap.size #[.int .i64 d_, .int .i64 i_, .int .i64 n_, .string b_, .string x_, .int .u8 (y_ : Int), .slice kA2 ks.length kcap2] rfl rfl _ _ (Blk.new wr 66 #[.int .i64 0, .int .i64 0, .int .i64 0, .string ⟨#[]⟩, .string ⟨#[]⟩, .int .u8 0, .slice none 0 0]) rfl (by simp [Value.oneCell']) (by kernel_rfl) ?_
             intro w4 hB4 hU4 hs4
             have hU04 : Upd (fun _ => False) wr w4 := ((Upd.refl _ wr).alloc _).then hU4 (fun b e => .inr (by rw [e]; exact Nat.le_refl _))
             have H4 := Lib.hid (And.intro (HD.out.1.still hU04) (And.intro (HD.out.2.1.still hU04) hB4))
             have hc4 := hB4.cells7
             clear hB4 hU4 hs4 hU04 x0 x1 x2 x3 x4 x5 x6))
        clear HC HK
        by_cases c0 : d_ = 0
        · subst c0
          go_wp2_with fail
          go_region_held3 (fun w' => w'.cell? ⟨wr.heap.size, 0, none⟩ = some (.int .i64 0) ∧ w'.cell? ⟨wr.heap.size, 1, none⟩ = some (.int .i64 i_) ∧ w'.cell? ⟨wr.heap.size, 2, none⟩ = some (.int .i64 n_) ∧ w'.cell? ⟨wr.heap.size, 3, none⟩ = some (.string b_) ∧ w'.cell? ⟨wr.heap.size, 4, none⟩ = some (.string x_) ∧ w'.cell? ⟨wr.heap.size, 5, none⟩ = some (.int .u8 (y_ : Int)) ∧ w'.cell? ⟨wr.heap.size, 6, none⟩ = some (.slice kA2 ks.length kcap2)) (first | go_keep | (refine ⟨?_, ?_, ?_, ?_, ?_, ?_, ?_⟩ <;> simp [*]))
            (first
              | (go_at_call 49
                 refine (hdat.out _).mono ?_
                 rintro e w5 ⟨rfl, hU5⟩
                 have hU45 : Upd (fun _ => False) w4 w5 := ((Upd.refl _ w4).drew).then hU5 (fun _ e => e.elim)
                 have H5 := Lib.hid (And.intro (H4.out.1.still hU45) (And.intro (H4.out.2.1.still hU45) (H4.out.2.2.upd hU45 (fun e => e))))
                 have hc5 := H5.out.2.2.cells7
                 clear hU5 hU45)
              | (go_at_call 27
                 refine (write_v (i := 0) H5.out.1 rfl _ _ (by omega)).mono ?_
                 rintro e w6 ⟨rfl, hD6, hK6, hX6⟩
                 have H6 := Lib.hid (And.intro hD6 (And.intro (H5.out.2.1.kept hX6) (hK6 _ _ _ H5.out.2.2 (by decide) (by decide))))
                 have hc6 := H6.out.2.2.cells7
                 clear hD6 hK6 hX6))
          all_goals
            clear hc4 hc5
            have hwl6 := write_lasts d i_ D
            have hwp6 := write_pend d i_ D (by rw [HD.out.2.2.2, HD.out.2.2.1])
            have HW6 := Lib.hid (And.intro hwl6 hwp6)
            clear hwl6 hwp6
            have hwc := write_cases d i_ D
            rcases hwc with ⟨q1, k, rfl, q2, q3⟩ | ⟨q1, q2⟩
            · rw [q1]
              have HQ := Lib.hid (And.intro q2 q3)
              obtain ⟨mm, g3, g4, nd, hX⟩ := H6.out.2.1.ex
              obtain ⟨v0, hget, -, hown0, hnil, hmem⟩ := look_may g3 g4 k
              obtain ⟨v1, hget1, hrun1, -⟩ := look_may (w := w6.drew) g3.drew (g4.upd (fun _ _ => rfl)) k
              have hrun1' : (Instr.lookup 74 (.map (some bm)) (.int .i64 (k : Int)) false).run Try.prog w6.drew = .ok v0 w6.drew := by rw [← hget, hget1]; exact hrun1
              have hlen := Dk.at_len (d := d) k
              have hmemO : ∀ q, v0.ownBlock = some q → ((k : Int), v0) ∈ mm := fun q hq => hmem (fun h0 => by rw [hnil h0] at hq; simp [Value.ownBlock] at hq)
              have hbv : v0.ownBlock ≠ some bm := fun e => by
                have := List.mem_filterMap (f := fun q : Int × Value => q.2.ownBlock).2 ⟨_, hmemO bm e, e⟩
                exact (List.nodup_cons.1 nd).1 this
              have HM := Lib.hid (And.intro g3 (And.intro g4 (And.intro nd (And.intro hX (And.intro hown0 (And.intro hmemO (And.intro hbv hget)))))))
              clear q1 q2 q3 g3 g4 nd hX hget hown0 hnil hmem hget1 hrun1 hmemO hbv
              go_wp2_with fail
              go_region_held3 (fun w' => w'.cell? ⟨wr.heap.size, 0, none⟩ = some (.int .i64 0) ∧ w'.cell? ⟨wr.heap.size, 1, none⟩ = some (.int .i64 (k : Int)) ∧ w'.cell? ⟨wr.heap.size, 2, none⟩ = some (.int .i64 n_) ∧ w'.cell? ⟨wr.heap.size, 3, none⟩ = some (.string b_) ∧ w'.cell? ⟨wr.heap.size, 4, none⟩ = some (.string x_) ∧ w'.cell? ⟨wr.heap.size, 5, none⟩ = some (.int .u8 (y_ : Int)) ∧ w'.cell? ⟨wr.heap.size, 6, none⟩ = some (.slice kA2 ks.length kcap2)) (first | go_keep | (refine ⟨?_, ?_, ?_, ?_, ?_, ?_, ?_⟩ <;> simp [*]))
                (first
                  | (go_at_call 49
                     refine (hdat.out _).mono ?_
                     rintro e w7 ⟨rfl, hU7⟩
                     have hU67 : Upd (fun _ => False) w6 w7 := ((Upd.refl _ w6).drew).then hU7 (fun _ e => e.elim)
                     have hM7 := HM.out.1.upd hU67 (fun e => e)
                     have hlt7 : ∀ q ∈ mm.filterMap (·.2.ownBlock), q < w6.heap.size := fun q hq => H6.out.2.1.lt q ((HM.out.2.2.2.1 q).2 (List.mem_cons_of_mem _ hq))
                     have hW7 := HM.out.2.1.upd (w' := w7) (fun q hq => hU67.block q (hlt7 q hq) (fun e => e))
                     have hO7 := HM.out.2.2.2.2.1.upd hU67 (fun _ _ e => e)
                     obtain ⟨v7, hget7, hrun7, -⟩ := look_may hM7 hW7 k
                     obtain ⟨v8, hget8, hrun8, -⟩ := look_may (w := w7.alloc (.cells #[.string D] 9)) (hM7.alloc _) (hW7.upd (fun q hq => Below.heap_alloc _ _ _ (Nat.lt_of_lt_of_le (hlt7 q hq) hU67.size))) k
                     have hrun7' : (Instr.lookup 74 (.map (some bm)) (.int .i64 (k : Int)) false).run Try.prog w7 = .ok v0 w7 := by rw [← HM.out.2.2.2.2.2.2.2, hget7]; exact hrun7
                     have hrun8' : (Instr.lookup 74 (.map (some bm)) (.int .i64 (k : Int)) false).run Try.prog (w7.alloc (.cells #[.string D] 9)) = .ok v0 (w7.alloc (.cells #[.string D] 9)) := by rw [← HM.out.2.2.2.2.2.2.2, hget8]; exact hrun8
                     have H7 := Lib.hid (And.intro (H6.out.1.still hU67) (And.intro (H6.out.2.2.upd hU67 (fun e => e)) (And.intro hM7 (And.intro hW7 hO7))))
                     have hc7 := H7.out.2.1.cells7
                     clear hU7 hU67 hM7 hW7 hO7 hget7 hrun7 hget8 hrun8 hlt7)
                  | (refine step_append_src (by rfl) _ _ _ _ (by rfl) 9 i0 _ 1 16 Try.underlying22 hi0 hz0 hz1 hz2 rfl v0 _ _ (by rfl) (H7.out.2.2.2.2.alloc _) _ 1 [.string D] (by rfl) (Src.of_new Try.underlying22 (.string D)) (by simp [Value.oneCell']) (by unfold maxLen; have := hlen; unfold Dk.at_ at this; omega) (by have := hlen; unfold Dk.at_ at this; omega) ?_
                     intro v' w8 hown8 hU8 hloc8 hs8
                     have hM8 : MapB intKey w8 bm mm := (H7.out.2.2.1.alloc _).upd hU8 HM.out.2.2.2.2.2.2.1
                     obtain ⟨w9, hrun9, hM9, hU9, hs9⟩ := hM8.run_update keyI Try.underlying74 Try.underlying3 (k : Int) v'
                     have hrun9' : (Instr.mapUpdate 74 (.map (some bm)) (.int .i64 (k : Int)) v').run Try.prog w8 = .ok () w9 := hrun9
                     have hB8 := (H7.out.2.1.alloc (.cells #[.string D] 9)).upd hU8 (fun e => Own.ne_blk H7.out.2.2.2.2 H7.out.2.1 (by decide) e)
                     have hc8 := hB8.cells7
                     have hc9 := (hB8.upd hU9 (fun e => H7.out.2.2.1.ne_blk H7.out.2.1 e.symm)).cells7
                     have H8 := Lib.hid (And.intro hown8 (And.intro hU8 (And.intro hloc8 (And.intro hM9 hU9))))
                     clear hown8 hU8 hloc8 hs8 hM8 hM9 hU9 hs9 hrun9 hB8))
              all_goals
                clear hc6 hc7 hc8 hc9 hrun1' hrun7' hrun8' hrun9' hlen
                have hmp : ∃ Y, DksX w1 w9 [(p, (d.write (k : Int) D).1)] Y ∧ MayIn w9 bm (d.write (k : Int) D).1.waits Y := by
                  obtain ⟨x1, x2, x3, x4, x5⟩ := H8.out
                  obtain ⟨Y, y1, y2, y3⟩ := may_push H7.out.2.2.1 H7.out.2.2.2.1 HM.out.2.2.1 HM.out.2.2.2.1 (by rw [HD.out.2.2.2, ← HD.out.2.2.1]; exact HQ.out.1) HM.out.2.2.2.2.2.1 (by simpa [strs] using x1) (((Upd.refl _ w7).alloc _).then x2 (fun _ h => .inl h))
                    (fun q hq => by
                      rcases x3 with h | h
                      · exact .inl (by rw [← h]; exact hq)
                      · rw [h] at hq
                        have := Option.some.inj hq
                        simp at this
                        exact .inr (by omega)) x4 x5
                  exact ⟨Y, H7.out.1.turn y2 y3, by rw [HQ.out.2]; exact y1⟩
                have HMP := Lib.hid hmp
                clear hmp H8
                go_wp2_with fail
                go_roundw
                case rel =>
                  obtain ⟨Y, y1, y2⟩ := HMP.out
                  exact HN.out _ _ _ _ y1 y2 (by rw [HW6.out.1]; exact HD.out.2.2.1) (by have := HW6.out.2; omega)
                case measure => simp [intOf] <;> omega
            · have HQ := Lib.hid q2
              clear q2 hc6
              rcases q1 with q1 | q1
              all_goals
                rw [q1]
                clear q1
                go_wp2_with fail
                go_roundw
                case rel => exact HN.out _ _ _ _ H6.out.1 (by rw [HQ.out]; exact H6.out.2.1) (by rw [HW6.out.1]; exact HD.out.2.2.1) (by have := HW6.out.2; omega)
                case measure => simp [intOf] <;> omega
        have c0' : (d_ == 0) = false := by rw [beq_eq_false_iff_ne]; exact c0
        by_cases c1 : d_ = 1
        · subst c1
          go_wp2_with fail
          refine (sync_v (i := 0) H4.out.1 rfl).mono ?_
          have hsl := sync_lasts d
          have hsp := sync_pend (d := d)
          rcases sync_cases d with ⟨q1, q2⟩ | ⟨q1, q2⟩
          · rw [q1]
            rintro e w5 ⟨rfl, hD5, -, -⟩
            have H5 := Lib.hid (And.intro hD5 (And.intro q2 (And.intro hsl hsp)))
            clear hD5 q1 q2 hsl hsp hc4
            go_wp2_with fail
            go_roundw
            case rel =>
              refine HN.out _ _ (fun q => q = w5.heap.size) _ (H5.out.1.turn ((Upd.refl _ w5).alloc _) (fun q hq => .inr (by rw [hq]; simp))) ?_ (H5.out.2.2.1.trans HD.out.2.2.1) (by have := H5.out.2.2.2; omega)
              rw [H5.out.2.1, HD.out.2.2.2]
              exact MayIn.new w5 n
            case measure => simp [intOf] <;> omega
          · rw [q1]
            rintro e w5 ⟨rfl, hD5, -, hX5⟩
            have H5 := Lib.hid (And.intro hD5 (And.intro q2 (And.intro hsl (And.intro hsp (H4.out.2.1.kept hX5)))))
            clear hD5 q1 q2 hsl hsp hc4 hX5
            go_wp2_with fail
            go_roundw
            case rel =>
              refine HN.out _ _ _ _ H5.out.1 ?_ (H5.out.2.2.1.trans HD.out.2.2.1) (by have := H5.out.2.2.2.1; omega)
              rw [H5.out.2.1]
              exact H5.out.2.2.2.2
            case measure => simp [intOf] <;> omega
        have c1' : (d_ == 1) = false := by rw [beq_eq_false_iff_ne]; exact c1
        by_cases c2 : d_ = 2
        · subst c2
          go_wp2_with fail
          refine (fuse_v (i := 0) H4.out.1 rfl n_ hrn.2).mono ?_
          rintro e w5 ⟨rfl, hD5, -, hX5⟩
          have H5 := Lib.hid (And.intro hD5 (H4.out.2.1.kept hX5))
          clear hD5 hc4 hX5
          go_wp2_with fail
          go_roundw
          case rel => exact HN.out _ _ _ _ H5.out.1 H5.out.2 HD.out.2.2.1 (Nat.le_succ_of_le hpe)
          case measure => simp [intOf] <;> omega
        have c2' : (d_ == 2) = false := by rw [beq_eq_false_iff_ne]; exact c2
        go_wp2_with fail
        go_roundw
        case rel => exact HN.out _ _ _ _ H4.out.1 H4.out.2.1 HD.out.2.2.1 (Nat.le_succ_of_le hpe)
        case measure => simp [intOf] <;> omega
      · obtain rfl : j = l.length := by omega
        have hAll := crash_all (hD.one 0 rfl).wf keep n hdn
        have H3 := Lib.hid (And.intro hD hM)
        have HKeep1 := Lib.hid (show IsInts w1 (.slice kA keep.length kcap) keep from ⟨HKeep.out.1.upd HU1.out, HKeep.out.2⟩)
        obtain ⟨C, hC⟩ : ∃ C, d.crash keep = C := ⟨_, rfl⟩
        obtain ⟨O, hO⟩ : ∃ O, d.crash [] = O := ⟨_, rfl⟩
        rw [hC, hO] at hAll
        have HAll := Lib.hid hAll
        have HCO := Lib.hid (And.intro hC hO)
        clear hD hM hAll hC hO HC HK HA HKeep
        go_wp2_with fail
        refine (twin_v (i := 0) H3.out.1 rfl).mono ?_
        rintro e w5 ⟨t, rfl, hD5, hU5⟩
        have H5 := Lib.hid (And.intro (show DksX w1 w5 [(p, d), (t, d)] X from hD5) (H3.out.2.still hU5))
        clear hD5 hU5 H3
        go_wp2_with fail
        refine (crash_v (i := 1) H5.out.1 rfl (ints_nil w1)).mono ?_
        rw [HCO.out.2]
        rintro e w6 ⟨rfl, hD6, -, hX6⟩
        have H6 := Lib.hid (And.intro (show DksX w1 w6 [(p, d), (t, O)] X from hD6) (H5.out.2.kept hX6))
        clear hD6 hX6 H5
        go_wp2_with fail
        refine (crash_v (i := 0) H6.out.1 rfl HKeep1.out).mono ?_
        rw [HCO.out.1]
        rintro e w7 ⟨rfl, hD7, -, hX7⟩
        have H7 := Lib.hid (And.intro (show DksX w1 w7 [(p, C), (t, O)] X from hD7) (H6.out.2.kept hX7))
        clear hD7 hX7 H6 HCO HKeep1 hmm
        generalize hws : d.waits = ws at *
        go_wp2_with fail
        go_loopw [13, 14, 15, 16, 17, 18, 19] (fun iv _ _ _ _ _ _ wr => CrashOut w1 p t bm n ws C O X iv wr) (fun iv _ _ _ _ _ _ _ => n - (intOf iv).toNat)
        case atStart => exact ⟨0, by omega, rfl, H7.out.1, H7.out.2⟩
        case round =>
          obtain ⟨m, hmn, rfl, hD8, hM8⟩ := hrel
          have H8 := Lib.hid (And.intro hD8 hM8)
          clear hD8 hM8 H7
          have hsec := sectors_x (i := 0) H8.out.1.dks rfl
          rw [HAll.out.len] at hsec
          go_wp2_with fail
          refine hsec.mono ?_
          rintro e w9 ⟨rfl, rfl⟩
          clear hsec
          by_cases hlt : m < n
          · obtain ⟨s, was, r1, r2, hsz, his⟩ := HAll.out.each m hlt
            have HR := Lib.hid (And.intro r1 (And.intro r2 his))
            have hsz' : ((s.size : Int) != 64) = false := by rw [hsz]; rfl
            clear r1 r2 his hsz
            rw [hws] at HR
            go_wp2_with fail
            refine (read_x (i := 0) H8.out.1.dks rfl (m : Int)).mono ?_
            rw [HR.out.1]
            rintro e w9 ⟨rfl, rfl⟩
            go_wp2_with fail
            refine (read_x (i := 1) H8.out.1.dks rfl (m : Int)).mono ?_
            rw [HR.out.2.1]
            rintro e w9 ⟨rfl, rfl⟩
            have HI := Lib.hid HR.out.2.2
            clear HR
            go_wp2_with fail
            go_loopw [18, 19] (fun bv kv wr => CrashIn w1 p t bm ws C O X s was (ws.getD m []) bv kv wr) (fun _ kv _ => (ws.getD m []).length - (intOf kv).toNat)
            case atStart => exact ⟨0, _, by omega, rfl, rfl, by rw [bytes_beqC]; simp, H8.out.1, H8.out.2⟩
            case round =>
              obtain ⟨k, b, hk, rfl, rfl, hbk, hD9, hM9⟩ := hrel
              obtain ⟨mm, g3, g4, -, -⟩ := hM9.ex
              obtain ⟨v0, -, hrun, hown, -, -⟩ := look_may g3 g4 m
              have H9 := Lib.hid (And.intro hD9 (And.intro hM9 hbk))
              obtain ⟨A0, cap0, rfl, hcap1, hcap2⟩ := hown.shape
              have HOw := Lib.hid hown
              clear hD9 hM9 hbk g3 g4 hown H8
              generalize hL : ws.getD m [] = L at *
              unfold maxLen at hcap2
              by_cases hlk : k < L.length
              · cases b
                · obtain ⟨g, cap', e, -, -⟩ := HOw.out.head (by omega)
                  injection e with e1 e2 e3
                  subst e1 e3
                  have hcell := HOw.out.cellAt k (by omega)
                  rw [strs_get, List.getElem?_eq_getElem hlk] at hcell
                  simp only [Option.map_some] at hcell
                  obtain ⟨y, hy⟩ : ∃ y, L[k] = y := ⟨_, rfl⟩
                  rw [hy] at hcell
                  have HY := Lib.hid hy
                  clear hy
                  go_wp2_with fail
                  go_roundw
                  case rel =>
                    refine ⟨k + 1, _, by omega, rfl, by go_num, ?_, H9.out.1, H9.out.2.1⟩
                    have hb := H9.out.2.2
                    rw [bytes_beqC, decide_eq_true_eq, List.take_succ_eq_append_getElem hlk, HY.out, List.mem_append, List.mem_singleton]
                    constructor
                    · intro e
                      exact .inr (.inr e)
                    · rintro (e | e | e)
                      · exact absurd (hb.2 (.inl e)) (by simp)
                      · exact absurd (hb.2 (.inr e)) (by simp)
                      · exact e
                  case measure => simp [intOf] <;> omega
                · go_wp2_with fail
                  go_roundw
                  case rel =>
                    refine ⟨k + 1, true, by omega, rfl, by go_num, ?_, H9.out.1, H9.out.2.1⟩
                    have hb := H9.out.2.2.1 rfl
                    rw [List.take_succ_eq_append_getElem hlk, List.mem_append]
                    exact ⟨fun _ => hb.imp id .inl, fun _ => rfl⟩
                  case measure => simp [intOf] <;> omega
              · obtain rfl : k = L.length := by omega
                have hbt : b = true := by
                  have := H9.out.2.2
                  rw [List.take_length] at this
                  exact this.2 HI.out
                subst hbt
                go_wp2_with fail
                go_roundw
                case rel => exact ⟨m + 1, by omega, by go_num, H9.out.1, H9.out.2.1⟩
                case measure => simp [intOf] <;> omega
          · go_wp2_with fail
            refine (waits_x (i := 0) H8.out.1.dks rfl).mono ?_
            rw [HAll.out.pend]
            rintro e w10 ⟨rfl, hU10⟩
            have H10 := Lib.hid (H8.out.1.still hU10)
            clear hU10 H8
            go_wp2_with fail
            refine (down_x (i := 0) H10.out.dks rfl).mono ?_
            rw [HAll.out.off]
            rintro e w11 ⟨rfl, rfl⟩
            go_wp2_with fail
            refine (down_x (i := 1) H10.out.dks rfl).mono ?_
            rw [HAll.out.off']
            rintro e w11 ⟨rfl, rfl⟩
            go_wp2_with fail
            go_ret
            exact ⟨rfl, HU1.out.then H10.out.upd (fun _ e => e.elim)⟩
  · go_wp2_with fail
    go_ret
    exact ⟨rfl, HU1.out⟩
end Go.Proofs.Ytafgohnpnaiomaa
