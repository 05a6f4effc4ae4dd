/-
  Acts that are done to a disk, one behind the other: run.
-/
import Derived.Test.YtafgohnpnaiomaaDone7
namespace Go.Proofs.Ytafgohnpnaiomaa
open Go Go.RowKit

theorem kp_one {w : World} {v : Value} {l : List Int} (h : IsInts w v l) : v.oneCell' = true := by
  obtain ⟨A, cap, b, off, rfl, -⟩ := h.open_
  rfl
/-- A disk, some of the acts behind the beginning. -/
structure RunS (w0 w wr : World) (l : List (Nat × Dk)) (p i k : Nat) (d dk : Dk) (acts : List Act7) : Prop where
  disks : Dks w0 wr (l.set i (p, dk))
  eq : dk = (acts.take k).foldl Dk.act d
  pend : dk.pend ≤ d.pend + k
  kept : BlkKept w wr
theorem RunS.hi {w0 w wr : World} {l : List (Nat × Dk)} {p i k : Nat} {d dk : Dk} {acts : List Act7} (_ : RunS w0 w wr l p i k d dk acts) (hi : l[i]? = some (p, d)) : (l.set i (p, dk))[i]? = some (p, dk) := by
  obtain ⟨hlt, -⟩ := List.getElem?_eq_some_iff.1 hi
  rw [List.getElem?_set_self hlt]
theorem RunS.step {w0 w wr w' : World} {l : List (Nat × Dk)} {p i k : Nat} {d dk : Dk} {acts : List Act7} (h : RunS w0 w wr l p i k d dk acts) (hi : l[i]? = some (p, d)) (hk : k < acts.length) (r : Act7) (hr : acts[k] = r) {d' : Dk} (he : d' = dk.act r) (hD : Dks w0 w' ((l.set i (p, dk)).set i (p, d')) ∧ BlkKept wr w') :
    RunS w0 w w' l p i (k + 1) d d' acts := by
  subst he
  refine ⟨by have := hD.1; rw [List.set_set] at this; exact this, ?_, ?_, h.kept.trans hD.2⟩
  · rw [List.take_succ_eq_append_getElem hk, List.foldl_append, ← h.eq, hr]
    rfl
  · have := act_pend (h.disks.one i (h.hi hi)).wf r
    have := h.pend
    omega

set_option maxRecDepth 100000 in
set_option maxHeartbeats 3200000 in
theorem run_k {w0 w : World} {l : List (Nat × Dk)} {p i : Nat} {d : Dk} {v : Value} {acts : List Act7} (h : Dks w0 w l) (hi : l[i]? = some (p, d)) (hA : IsActs07 w0 v acts) (hl : acts.length ≤ 200) (hp : d.pend ≤ 100000) :
    Calls Try.prog 52 #[.pointer (some ⟨p, 0, none⟩), v] w fun e w' => e = .returned (.tuple #[]) ∧ Dks w0 w' (l.set i (p, acts.foldl Dk.act d)) ∧ BlkKept w w' := by
  obtain ⟨A, cap, bA, off, rfl, hm, hA0, hcells, hok⟩ := hA.open_
  have HC := Lib.hid hcells
  have HK := Lib.hid hok
  have hst : RunS w0 w w l p i 0 d d acts := by
    refine ⟨?_, rfl, Nat.le_refl _, fun _ _ _ h _ _ => h⟩
    obtain ⟨hlt, e⟩ := List.getElem?_eq_some_iff.1 hi
    rw [← e, List.set_getElem_self]
    exact h
  have H0 := Lib.hid hst
  have Hi := Lib.hid hi
  clear hcells hok hA h hi hst
  go_enter Try.func52, Try.ntmps52
  go_wp2_with fail
  go_loopw [4] (fun j wr => ∃ (k : Nat) (dk : Dk), k ≤ acts.length ∧ j = .int .i64 k ∧ RunS w0 w wr l p i k d dk acts) (fun j _ => acts.length - (intOf j).toNat)
  case atStart => exact ⟨0, d, by omega, rfl, H0.out⟩
  case round =>
    obtain ⟨k, dk, hk, rfl, hR⟩ := hrel
    clear H0
    by_cases hlt : k < acts.length
    · obtain rfl := hA0 (by omega)
      obtain ⟨r, hr⟩ : ∃ r, acts[k] = r := ⟨_, rfl⟩
      have hc := HC.out wr hR.disks.upd k hlt
      have hro := HK.out _ (List.getElem_mem hlt)
      rw [hr] at hc hro
      obtain ⟨x0, x1, x2, x3, x4, x5, x6⟩ := hc
      have hpe := hR.pend
      have HR := Lib.hid (And.intro hR hr)
      have hst : ∀ (w' : World) (d' : Dk), d' = dk.act r → Dks w0 w' ((l.set i (p, dk)).set i (p, d')) ∧ BlkKept wr w' → ∃ (k' : Nat) (dk' : Dk), k' ≤ acts.length ∧ (Value.int .i64 ((k : Int) + 1)) = .int .i64 k' ∧ RunS w0 w w' l p i k' d dk' acts :=
        fun w' d' he hD => ⟨k + 1, d', by omega, by simp, HR.out.1.step Hi.out hlt r hr he hD⟩
      have HS := Lib.hid hst
      have hact : dk.act r = (if r.do_ = 0 then (dk.write r.i r.data).1 else if r.do_ = 1 then dk.sync.1 else if r.do_ = 2 then dk.setFuse r.n else if r.do_ = 3 then dk.crash r.keeps else if r.do_ = 4 then (dk.spoil r.i r.n r.x).1 else dk) := rfl
      have hdat := Lib.hid (fun W => data_c r W hro.byte)
      have hrn := hro.n
      have hrx := hro.x
      unfold i64ok at hrn
      have hkeep := Lib.hid hro.keep
      obtain ⟨d_, i_, n_, b_, x_, y_, kp, ks⟩ := r
      simp only [Act7.val] at x0 x1 x2 x3 x4 x5 x6 hact hdat hrn hrx hkeep
      obtain ⟨kA, kcap, -, -, hkp, -, -⟩ := hkeep.out.open_
      subst hkp
      clear hR hr hro hst
      go_upto_region 4 with (first
        | (refine wpList_store_all rfl 66 _ _ rfl wr.heap.size #[.int .i64 d_, .int .i64 i_, .int .i64 n_, .string b_, .string x_, .int .u8 (y_ : Int), .slice kA ks.length kcap] rfl rfl _ _ (Blk.new wr 66 #[.int .i64 0, .int .i64 0, .int .i64 0, .string ⟨#[]⟩, .string ⟨#[]⟩, .int .u8 0, .slice none 0 0]) rfl (by simp [Value.oneCell']) (by kernel_rfl) ?_
           intro w4 hB4 hU4 hs4
           have hU04 : Upd (fun _ => False) wr w4 := ((Upd.refl _ wr).alloc _).then hU4 (fun b e => .inr (by rw [e]; exact Nat.le_refl _))
           have H4 := Lib.hid (And.intro (HR.out.1.disks.still hU04) (And.intro hB4 (BlkKept.of_upd hU04)))
           have hc4 := hB4.cells7
           clear hB4 hU4 hs4 hU04 x0 x1 x2 x3 x4 x5 x6))
      have hi2 := HR.out.1.hi Hi.out
      have Hi2 := Lib.hid hi2
      clear hi2 HR HC HK
      by_cases c0 : d_ = 0
      · subst c0
        rw [if_pos rfl] at hact
        have HA := Lib.hid hact.symm
        clear hact
        go_wp2_with fail
        go_region_held3 (fun w' => w'.cell? ⟨wr.heap.size, 0, none⟩ = some (.int .i64 0) ∧ w'.cell? ⟨wr.heap.size, 1, none⟩ = some (.int .i64 i_) ∧ w'.cell? ⟨wr.heap.size, 2, none⟩ = some (.int .i64 n_) ∧ w'.cell? ⟨wr.heap.size, 3, none⟩ = some (.string b_) ∧ w'.cell? ⟨wr.heap.size, 4, none⟩ = some (.string x_) ∧ w'.cell? ⟨wr.heap.size, 5, none⟩ = some (.int .u8 (y_ : Int)) ∧ w'.cell? ⟨wr.heap.size, 6, none⟩ = some (.slice kA ks.length kcap)) (first | go_keep | (refine ⟨?_, ?_, ?_, ?_, ?_, ?_, ?_⟩ <;> simp [*]))
          (first
            | (go_at_call 49
               refine (hdat.out _).mono ?_
               rintro e w5 ⟨rfl, hU5⟩
               have hU45 : Upd (fun _ => False) w4 w5 := ((Upd.refl _ w4).drew).then hU5 (fun _ e => e.elim)
               have H5 := Lib.hid (And.intro (H4.out.1.still hU45) (And.intro (H4.out.2.1.upd hU45 (fun e => e)) (H4.out.2.2.trans (BlkKept.of_upd hU45))))
               have hc5 := H5.out.2.1.cells7
               clear hU5 hU45)
            | (go_at_call 27
               refine (write_k H5.out.1 Hi2.out _ _ (by omega)).mono ?_
               rintro e w6 ⟨rfl, hD6, hK6⟩
               have HD := Lib.hid (And.intro hD6 (H5.out.2.2.trans hK6))
               have hc6 := (hK6 _ _ _ H5.out.2.1 (by decide) (by decide)).cells7
               clear hD6 hK6))
        all_goals
          clear hc4 hc5 hc6
          go_wp2_with fail
          go_roundw
          case rel => exact HS.out _ _ HA.out HD.out
          case measure => simp [intOf] <;> omega
      · rw [if_neg c0] at hact
        have c0' : (d_ == 0) = false := by rw [beq_eq_false_iff_ne]; exact c0
        by_cases c1 : d_ = 1
        · subst c1
          rw [if_pos rfl] at hact
          have HA := Lib.hid hact.symm
          clear hact
          go_wp2_with fail
          refine (sync_k H4.out.1 Hi2.out).mono ?_
          rintro e w6 ⟨rfl, hD6, hK6⟩
          have HD := Lib.hid (And.intro hD6 (H4.out.2.2.trans hK6))
          clear hc4 hD6 hK6
          go_wp2_with fail
          go_roundw
          case rel => exact HS.out _ _ HA.out HD.out
          case measure => simp [intOf] <;> omega
        rw [if_neg c1] at hact
        have c1' : (d_ == 1) = false := by rw [beq_eq_false_iff_ne]; exact c1
        by_cases c2 : d_ = 2
        · subst c2
          rw [if_pos rfl] at hact
          have HA := Lib.hid hact.symm
          clear hact
          go_wp2_with fail
          refine (fuse_k H4.out.1 Hi2.out n_ hrn.2).mono ?_
          rintro e w6 ⟨rfl, hD6, hK6⟩
          have HD := Lib.hid (And.intro hD6 (H4.out.2.2.trans hK6))
          clear hc4 hD6 hK6
          go_wp2_with fail
          go_roundw
          case rel => exact HS.out _ _ HA.out HD.out
          case measure => simp [intOf] <;> omega
        rw [if_neg c2] at hact
        have c2' : (d_ == 2) = false := by rw [beq_eq_false_iff_ne]; exact c2
        by_cases c3 : d_ = 3
        · subst c3
          rw [if_pos rfl] at hact
          have HA := Lib.hid hact.symm
          clear hact
          go_wp2_with fail
          refine (crash_k H4.out.1 Hi2.out hkeep.out).mono ?_
          rintro e w6 ⟨rfl, hD6, hK6⟩
          have HD := Lib.hid (And.intro hD6 (H4.out.2.2.trans hK6))
          clear hc4 hD6 hK6
          go_wp2_with fail
          go_roundw
          case rel => exact HS.out _ _ HA.out HD.out
          case measure => simp [intOf] <;> omega
        rw [if_neg c3] at hact
        have c3' : (d_ == 3) = false := by rw [beq_eq_false_iff_ne]; exact c3
        by_cases c4 : d_ = 4
        · subst c4
          rw [if_pos rfl] at hact
          have HA := Lib.hid hact.symm
          clear hact
          go_wp2_with fail
          refine (spoil_k H4.out.1 Hi2.out i_ n_ x_ hrn hrx).mono ?_
          rintro e w6 ⟨rfl, hD6, hK6⟩
          have HD := Lib.hid (And.intro hD6 (H4.out.2.2.trans hK6))
          clear hc4 hD6 hK6
          go_wp2_with fail
          go_roundw
          case rel => exact HS.out _ _ HA.out HD.out
          case measure => simp [intOf] <;> omega
        rw [if_neg c4] at hact
        have c4' : (d_ == 4) = false := by rw [beq_eq_false_iff_ne]; exact c4
        have HA := Lib.hid hact.symm
        clear hact
        go_wp2_with fail
        go_roundw
        case rel => exact HS.out _ _ HA.out ⟨by rw [List.set_set]; exact H4.out.1, H4.out.2.2⟩
        case measure => simp [intOf] <;> omega
    · obtain rfl : k = acts.length := by omega
      have HR := Lib.hid hR
      clear hR
      go_wp2_with fail
      go_end0
      refine ⟨rfl, ?_⟩
      have := HR.out.eq
      rw [List.take_length] at this
      rw [← this]
      exact ⟨HR.out.disks, HR.out.kept⟩
theorem run_c {w0 w : World} {l : List (Nat × Dk)} {p i : Nat} {d : Dk} {v : Value} {acts : List Act7} (h : Dks w0 w l) (hi : l[i]? = some (p, d)) (hA : IsActs07 w0 v acts) (hl : acts.length ≤ 200) (hp : d.pend ≤ 100000) :
    Calls Try.prog 52 #[.pointer (some ⟨p, 0, none⟩), v] w fun e w' => e = .returned (.tuple #[]) ∧ Dks w0 w' (l.set i (p, acts.foldl Dk.act d)) :=
  (run_k h hi hA hl hp).mono fun _ _ hx => ⟨hx.1, hx.2.1⟩
end Go.Proofs.Ytafgohnpnaiomaa
