/-
  Parts of the proof of VaultMetas: TakeT, ZipA, ShaB, ShaC.
-/
import Derived.Test.YtbhjgfibhegddaaGreatQVaultMetas04
import Derived.Deep.RegionHeld3
set_option maxRecDepth 100000
set_option maxHeartbeats 16000000
namespace Go.Proofs.YtbhjgfibhegddaaGreat
section
open Go Go.RowKit
section
variable {P : Program} {ops : Array Oper} {Q : Exit → Act → World → Prop} {md : Region.Mode} {S : World → Prop}
def Takes (P : Program) (ops : Array Oper) (Q : Exit → Act → World → Prop) (S : World → Prop) (i : Nat) (o : Oper) (v : Value) (a : Act) : Prop :=
 ∀ a' : Act, execOp a'.eval o = execOp a.eval o → Region.wanted o (yielded ops a'.tmps) = Region.wanted o (yielded ops a.tmps) →
  ∀ (K : Act → World → Prop) (w : World), S w → K (a'.put o.dst v) w → wpOp P ops Q i K a' w
theorem Takes.like {i : Nat} {o : Oper} {v : Value} {a a' : Act} (h : Takes P ops Q S i o v a) (he : execOp a'.eval o = execOp a.eval o) (hw : Region.wanted o (yielded ops a'.tmps) = Region.wanted o (yielded ops a.tmps)) : Takes P ops Q S i o v a' :=
 fun b h1 h2 => h b (h1.trans he) (h2.trans hw)
theorem takes_call {i : Nat} {o : Oper} {v : Value} {a : Act} (hi : ops[i]? = some o) (f : FuncId) (args : Array Value) (hw : Region.wanted o (yielded ops a.tmps) = true)
 (hx : ∀ w, S w → (execOp a.eval o).run P w = .ok (.enter f args) w) (hc : ∀ w, S w → Calls P f args w fun e w' => e = .returned v ∧ w = w') : Takes P ops Q S i o v a := by
 intro a' he hw' K w hS hK;unfold wpOp;simp only [hi];rw [hw', hw];simp only [if_true];left
 unfold Oper.wp;rw [he, hx w hS];simp only [Oper.upon];refine (hc w hS).mono fun e w2 h => ?_
 obtain ⟨rfl, rfl⟩ := h;exact hK
theorem wpOp_swap {i j : Nat} {oi oj : Oper} {v : Value} (hj : ops[j]? = some oj) (hap : oi.apart ops oj = true)
 (hsi : ∀ cs b, oi.op ≠ .select cs b) (hsj : ∀ cs b, oj.op ≠ .select cs b) (hQ : ∀ c a w, Q (.panic c) (a.put oi.dst v) w → Q (.panic c) a w)
 {K : Act → World → Prop} {a : Act} {w : World} (hT : Takes P ops Q S i oi v a) (h : wpOp P ops Q j K (a.put oi.dst v) w) :
 wpOp P ops Q j (fun a' w' => Takes P ops Q S i oi v a' ∧ K (a'.put oi.dst v) w') a w := by
 obtain ⟨p1, p2, p3⟩ := Oper.apart_spec hap;have still : ∀ u, Takes P ops Q S i oi v (a.put oj.dst u) := fun u => hT.like (execOp_put oi hsi a oj.dst u p3) (wanted_put oi a oj.dst u p3)
 have comm : ∀ u, (a.put oj.dst u).put oi.dst v = (a.put oi.dst v).put oj.dst u := fun u => (Act.put_comm a v u p2).symm
 unfold wpOp at h ⊢;simp only [hj] at h ⊢;rw [wanted_put oj a oi.dst v p1] at h;by_cases hw : Region.wanted oj (yielded ops a.tmps) = true
 ·rw [if_pos hw] at h ⊢
  rcases h with h | ⟨q1, q2⟩
  ·left
   unfold Oper.wp at h ⊢;rw [execOp_put oj hsj a oi.dst v p1] at h;generalize (execOp a.eval oj).run P w = r at h ⊢;match r, h with
   | .ok (.value u) w2, h =>
     simp only [Oper.upon] at h ⊢;exact ⟨still u, by rw [comm]; exact h⟩
   | .ok .skip w2, h =>
     simp only [Oper.upon] at h ⊢;exact ⟨still _, by rw [comm]; exact h⟩
   | .ok (.defer d) w2, h =>
     simp only [Oper.upon] at h ⊢;have hd : Takes P ops Q S i oi v { a with defers := d :: a.defers } := hT.like rfl rfl;refine ⟨hd.like (execOp_put oi hsi _ oj.dst undef p3) (wanted_put oi _ oj.dst undef p3), ?_⟩;rw [← Act.put_comm _ v undef p2, ← Act.put_defers];exact h
   | .ok (.enter f args) w2, h =>
     simp only [Oper.upon] at h ⊢;refine Calls.mono h fun e w3 he => ?_
     match e, he with
     | .returned u, he => exact ⟨still u, by rw [comm]; exact he⟩
     | .panicked c, he => exact hQ _ _ _ he
     | .outgrown, he => exact he
   | .ok (.row row args) w2, h =>
     simp only [Oper.upon] at h ⊢;exact Rows.mono h fun u w3 he => ⟨still u, by rw [comm]; exact he⟩
   | .halt (.panic u) w2, h =>
     simp only [Oper.upon] at h ⊢;exact hQ _ _ _ h
  ·right
   refine ⟨?_, q2⟩;unfold Oper.asks at q1 ⊢;rw [execOp_put oj hsj a oi.dst v p1] at q1;exact q1
 ·rw [if_neg hw] at h ⊢
  exact ⟨still _, by rw [comm]; exact h⟩
theorem wpAnyH_takeC {i : Nat} {oi : Oper} {v : Value} {fuel : Nat} {listed : Array Bool} {a : Act} {w : World} (hi : ops[i]? = some oi)
 (hs : Region.noSelect ops = true) (hf : Region.free md ops listed i = true) (hr : (Region.ready md ops listed).contains i = true)
 (hQ : ∀ c a w, Q (.panic c) (a.put oi.dst v) w → Q (.panic c) a w) (hT : Takes P ops Q S i oi v a) (hS : S w)
 (h : wpAnyH P md ops Q S fuel (listed.setIfInBounds i true) (a.put oi.dst v) w) : wpAnyH P md ops Q S (fuel + 1) listed a w := by
 have hsel := Region.noSelect_spec hs;have main : ∀ (fuel : Nat) (listed : Array Bool) (a : Act) (w : World),
  (∀ j oj, ops[j]? = some oj → j ≠ i → listed.getD j true = false → (∀ e ∈ oj.after, Region.binds md e = true → e.on ≠ i) → oi.apart ops oj = true) →
  i ∈ Region.ready md ops listed → Takes P ops Q S i oi v a → S w →
  wpAnyH P md ops Q S fuel (listed.setIfInBounds i true) (a.put oi.dst v) w → wpAnyH P md ops Q S (fuel + 1) listed a w := by
  intro fuel;induction fuel with
  | zero =>
    intro listed a w _ hr hT hS H;refine ⟨fun h0 => (by rw [h0] at hr; cases hr), fun j hj => ?_⟩
    by_cases e : j = i
    ·subst e
     exact hT a rfl rfl _ w hS ⟨hS, H⟩
    ·have h1 := ready_mono hj e
     rw [H.1] at h1;cases h1
  | succ fuel ih =>
    intro listed a w hfree hr hT hS H;refine ⟨fun h0 => (by rw [h0] at hr; cases hr), fun j hj => ?_⟩
    by_cases e : j = i
    ·subst e
     exact hT a rfl rfl _ w hS ⟨hS, H⟩
    ·have h1 := H.2 j (ready_mono hj e)
     obtain ⟨hun, oj, hoj, hall⟩ := mem_ready.1 hj;have hno : ∀ e ∈ oj.after, Region.binds md e = true → e.on ≠ i := by
      intro x hx hb hxi;have g1 := hall x hx hb;have g0 := (mem_ready.1 hr).1;rw [hxi] at g1;by_cases hlt : i < listed.size
      ·simp [hlt] at g0 g1
       rw [g0] at g1;cases g1
      ·simp [Array.getElem?_eq_none (Nat.le_of_not_lt hlt)] at g1
     have h2 := wpOp_swap hoj (hfree j oj hoj e hun hno) (fun cs b => hsel i oi cs b hi) (fun cs b => hsel j oj cs b hoj) hQ hT h1;refine wpOp_mono (fun a' w' h3 => ⟨h3.2.1, ih _ a' w' (fun k ok hk hki hu2 hn2 => ?_) (ready_mono hr (Ne.symm e)) h3.1 h3.2.1 ?_⟩) h2
     ·refine hfree k ok hk hki ?_ hn2
      by_cases ek : j = k
      ·subst ek; exact hun
      ·rw [getD_set_ne true ek] at hu2; exact hu2
     ·rw [Array.setIfInBounds_comm _ _ e]
      exact h3.2.2
 exact main fuel listed a w (Region.free_spec hi hf) (by simpa using hr) hT hS h
end
end
section
open Go Go.RowKit
section
variable {P : Program} {ops : Array Oper} {Q : Exit → Act → World → Prop} {md : Region.Mode} {S : World → Prop} {T : Nat → Bool}
def dirty (T : Nat → Bool) (listed : Array Bool) : Bool := (List.range listed.size).any fun k => T k && listed.getD k false
theorem dirty_false {listed : Array Bool} : dirty T listed = false ↔ ∀ k, T k = true → listed.getD k false = false := by
 unfold dirty;rw [List.any_eq_false];constructor
 ·intro h k hk
  by_cases hlt : k < listed.size
  ·have h1 := h k (List.mem_range.2 hlt)
   rw [hk] at h1;simpa using h1
  ·simp [Array.getElem?_eq_none (Nat.le_of_not_lt hlt)]
 ·intro h k _
  cases hT : T k with
  | false => simp
  | true => simp [h k hT]
def wpAnyT (P : Program) (md : Region.Mode) (ops : Array Oper) (Q : Exit → Act → World → Prop) (S : World → Prop) (T : Nat → Bool) : Nat → Array Bool → Act → World → Prop
 | 0, listed, a, w => Region.ready md ops listed = [] ∧ Q .normal a w
 | fuel + 1, listed, a, w =>
   (Region.ready md ops listed = [] → Q .normal a w) ∧
   ∀ i ∈ Region.ready md ops listed, wpOp P ops Q i (fun a' w' => (dirty T (listed.setIfInBounds i true) = false → S w') ∧ wpAnyT P md ops Q S T fuel (listed.setIfInBounds i true) a' w') a w
theorem wpAny_of_T : ∀ (fuel : Nat) (listed : Array Bool) (a : Act) (w : World), wpAnyT P md ops Q S T fuel listed a w → wpAny P md ops Q fuel listed a w
 | 0, _, _, _, h => h
 | fuel + 1, _, _, _, h => ⟨h.1, fun i hi => wpOp_mono (fun a' w' h' => wpAny_of_T fuel _ a' w' h'.2) (h.2 i hi)⟩
theorem wp_region_T {id : Nat} {a : Act} {w : World} (hm : P.follows .mixedOrders = true)
 (h : wpAnyT P .any ops Q S T ops.size (Array.replicate ops.size false) a w.drew) : (Code.region id ops true).wp P Q a w :=
 wp_region_any hm (wpAny_of_T _ _ _ _ h)
def reach (md : Region.Mode) (ops : Array Oper) (i : Nat) : Nat → Nat → Bool
 | 0, _ => false
 | n + 1, j => match ops[j]? with | some oj => oj.after.any (fun e => Region.binds md e && (e.on == i || reach md ops i n e.on)) | none => false
def closed (md : Region.Mode) (ops : Array Oper) (listed : Array Bool) : Bool :=
 (List.range ops.size).all fun j => !listed.getD j false || (match ops[j]? with | some oj => oj.after.all (fun e => !Region.binds md e || listed.getD e.on false) | none => true)
def awaits (md : Region.Mode) (ops : Array Oper) (T : Nat → Bool) (listed : Array Bool) (i : Nat) : Bool :=
 closed md ops listed && !T i && (List.range ops.size).all fun j => !T j || reach md ops i 3 j
def Closed (md : Region.Mode) (ops : Array Oper) (listed : Array Bool) : Prop :=
 ∀ j oj, ops[j]? = some oj → listed.getD j false = true → ∀ e ∈ oj.after, Region.binds md e = true → listed.getD e.on false = true
theorem closed_spec {listed : Array Bool} (h : closed md ops listed = true) : Closed md ops listed := by
 intro j oj hj hl e he hb;unfold closed at h;rw [List.all_eq_true] at h;have hlt : j < ops.size := (Array.getElem?_eq_some_iff.1 hj).1;have h1 := h j (List.mem_range.2 hlt);rw [hl, hj] at h1;simp only [Bool.not_true, Bool.false_or, Array.all_eq_true'] at h1;have h2 := h1 e he;rw [hb] at h2;simpa using h2
theorem Closed.set {listed : Array Bool} (h : Closed md ops listed) {i : Nat} {oi : Oper} (hi : ops[i]? = some oi) (hall : ∀ e ∈ oi.after, Region.binds md e = true → listed.getD e.on false = true) : Closed md ops (listed.setIfInBounds i true) := by
 have mono : ∀ k, listed.getD k false = true → (listed.setIfInBounds i true).getD k false = true := by
  intro k hk;by_cases e : i = k
  ·subst e
   by_cases hlt : i < listed.size
   ·simp [hlt]
   ·simp [Array.getElem?_eq_none (Nat.le_of_not_lt hlt)] at hk
  ·rw [getD_set_ne false e]; exact hk
 intro j oj hj hl e he hb;by_cases ek : i = j
 ·subst ek
  rw [hi] at hj;cases hj
  exact mono _ (hall e he hb)
 ·rw [getD_set_ne false ek] at hl
  exact mono _ (h j oj hj hl e he hb)
theorem reach_spec {listed : Array Bool} (h : Closed md ops listed) {i : Nat} : ∀ n j oj, ops[j]? = some oj → (∀ e ∈ oj.after, Region.binds md e = true → listed.getD e.on false = true) → reach md ops i n j = true → listed.getD i false = true
 | 0, _, _, _, _, hr => by simp [reach] at hr
 | n + 1, j, oj, hj, hall, hr => by
   rw [reach, hj] at hr;obtain ⟨e, he, hb⟩ := Array.any_eq_true'.1 hr;simp only [Bool.and_eq_true, Bool.or_eq_true, beq_iff_eq] at hb;have h1 := hall e he hb.1;rcases hb.2 with h2 | h2
   ·rw [← h2]; exact h1
   ·cases n with
    | zero => simp [reach] at h2
    | succ n =>
      cases ho : ops[e.on]? with
      | none => simp [reach, ho] at h2
      | some ok => exact reach_spec h (n + 1) e.on ok ho (h e.on ok ho h1) h2
theorem awaits_spec {listed : Array Bool} {i : Nat} (h : awaits md ops T listed i = true) :
 Closed md ops listed ∧ T i = false ∧ ∀ j oj, ops[j]? = some oj → T j = true → reach md ops i 3 j = true := by
 unfold awaits at h;simp only [Bool.and_eq_true] at h;refine ⟨closed_spec h.1.1, by simpa using h.1.2, fun j oj hj hT => ?_⟩;have h1 := List.all_eq_true.1 h.2 j (List.mem_range.2 (Array.getElem?_eq_some_iff.1 hj).1);rw [hT] at h1;simpa using h1
theorem wpAnyT_take {i : Nat} {oi : Oper} {v : Value} {fuel : Nat} {listed : Array Bool} {a : Act} {w : World} (hi : ops[i]? = some oi)
 (hs : Region.noSelect ops = true) (hf : Region.free md ops listed i = true) (hr : (Region.ready md ops listed).contains i = true) (hw : awaits md ops T listed i = true)
 (hQ : ∀ c a w, Q (.panic c) (a.put oi.dst v) w → Q (.panic c) a w) (hT : Takes P ops Q S i oi v a) (hS : S w) (hz : ops.size = listed.size)
 (h : wpAnyT P md ops Q S T fuel (listed.setIfInBounds i true) (a.put oi.dst v) w) : wpAnyT P md ops Q S T (fuel + 1) listed a w := by
 have hsel := Region.noSelect_spec hs;obtain ⟨hcl0, hTi, hwt⟩ := awaits_spec hw;have main : ∀ (fuel : Nat) (listed : Array Bool) (a : Act) (w : World),
  (∀ j oj, ops[j]? = some oj → j ≠ i → listed.getD j true = false → (∀ e ∈ oj.after, Region.binds md e = true → e.on ≠ i) → oi.apart ops oj = true) →
  Closed md ops listed → ops.size = listed.size →
  i ∈ Region.ready md ops listed → Takes P ops Q S i oi v a → S w →
  wpAnyT P md ops Q S T fuel (listed.setIfInBounds i true) (a.put oi.dst v) w → wpAnyT P md ops Q S T (fuel + 1) listed a w := by
  intro fuel;induction fuel with
  | zero =>
    intro listed a w _ _ _ hr hT hS H;refine ⟨fun h0 => (by rw [h0] at hr; cases hr), fun j hj => ?_⟩
    by_cases e : j = i
    ·subst e
     exact hT a rfl rfl _ w hS ⟨fun _ => hS, H⟩
    ·have h1 := ready_mono hj e
     rw [H.1] at h1;cases h1
  | succ fuel ih =>
    intro listed a w hfree hcl hz hr hT hS H;refine ⟨fun h0 => (by rw [h0] at hr; cases hr), fun j hj => ?_⟩
    by_cases e : j = i
    ·subst e
     exact hT a rfl rfl _ w hS ⟨fun _ => hS, H⟩
    ·have h1 := H.2 j (ready_mono hj e)
     obtain ⟨hun, oj, hoj, hall⟩ := mem_ready.1 hj;have g0 := (mem_ready.1 hr).1;have hli : listed.getD i false = false := by
      by_cases hlt : i < listed.size
      ·simp [hlt] at g0 ⊢
       exact g0
      ·simp [Array.getElem?_eq_none (Nat.le_of_not_lt hlt)] at g0
     have hno : ∀ e ∈ oj.after, Region.binds md e = true → e.on ≠ i := by
      intro x hx hb hxi;have g1 := hall x hx hb;rw [hxi, hli] at g1;cases g1
     have hd : dirty T ((listed.setIfInBounds i true).setIfInBounds j true) = false := dirty_false.2 fun k hk => by
      have hki : i ≠ k := fun e => by rw [e, hk] at hTi; cases hTi
      by_cases ekj : j = k
      ·subst ekj
       have g1 := reach_spec hcl 3 j oj hoj hall (hwt j oj hoj hk);rw [hli] at g1;cases g1
      ·rw [getD_set_ne false ekj, getD_set_ne false hki]
       cases hlk : listed.getD k false with
       | false => rfl
       | true =>
         have hlt : k < ops.size := by
          rcases Nat.lt_or_ge k listed.size with h | h
          ·omega
          ·simp [Array.getElem?_eq_none h] at hlk
         have hok : ops[k]? = some ops[k] := Array.getElem?_eq_getElem hlt;have g1 := reach_spec hcl 3 k _ hok (hcl k _ hok hlk) (hwt k _ hok hk);rw [hli] at g1;cases g1
     have h2 := wpOp_swap hoj (hfree j oj hoj e hun hno) (fun cs b => hsel i oi cs b hi) (fun cs b => hsel j oj cs b hoj) hQ hT h1;refine wpOp_mono (fun a' w' h3 => ⟨fun _ => h3.2.1 hd, ih _ a' w' (fun k ok hk hki hu2 hn2 => ?_) (hcl.set hoj hall) (by simpa using hz) (ready_mono hr (Ne.symm e)) h3.1 (h3.2.1 hd) ?_⟩) h2
     ·refine hfree k ok hk hki ?_ hn2
      by_cases ek : j = k
      ·subst ek; exact hun
      ·rw [getD_set_ne true ek] at hu2; exact hu2
     ·rw [Array.setIfInBounds_comm _ _ e]
      exact h3.2.2
 exact main fuel listed a w (Region.free_spec hi hf) hcl0 hz (by simpa using hr) hT hS h
theorem dirty_set {listed : Array Bool} {i : Nat} (hTi : T i = false) : dirty T (listed.setIfInBounds i true) = false ↔ dirty T listed = false := by
 rw [dirty_false, dirty_false];refine forall_congr' fun k => imp_congr_right fun hk => ?_
 have hki : i ≠ k := fun e => by rw [e, hk] at hTi; cases hTi
 rw [getD_set_ne false hki]
theorem wpAnyT_takeW {i : Nat} {oi : Oper} {v : Value} {fuel : Nat} {listed : Array Bool} {a : Act} {w : World} (hi : ops[i]? = some oi)
 (hs : Region.noSelect ops = true) (hf : Region.free md ops listed i = true) (hr : (Region.ready md ops listed).contains i = true) (hTi : T i = false)
 (hQ : ∀ c a w, Q (.panic c) (a.put oi.dst v) w → Q (.panic c) a w) (hT : Takes P ops Q (fun _ => True) i oi v a) (hI : dirty T listed = true ∨ S w)
 (h : wpAnyT P md ops Q S T fuel (listed.setIfInBounds i true) (a.put oi.dst v) w) : wpAnyT P md ops Q S T (fuel + 1) listed a w := by
 have hsel := Region.noSelect_spec hs;have main : ∀ (fuel : Nat) (listed : Array Bool) (a : Act) (w : World),
  (∀ j oj, ops[j]? = some oj → j ≠ i → listed.getD j true = false → (∀ e ∈ oj.after, Region.binds md e = true → e.on ≠ i) → oi.apart ops oj = true) →
  i ∈ Region.ready md ops listed → Takes P ops Q (fun _ => True) i oi v a → (dirty T listed = false → S w) →
  wpAnyT P md ops Q S T fuel (listed.setIfInBounds i true) (a.put oi.dst v) w → wpAnyT P md ops Q S T (fuel + 1) listed a w := by
  intro fuel;induction fuel with
  | zero =>
    intro listed a w _ hr hT hI H;refine ⟨fun h0 => (by rw [h0] at hr; cases hr), fun j hj => ?_⟩
    by_cases e : j = i
    ·subst e
     exact hT a rfl rfl _ w trivial ⟨fun h0 => hI ((dirty_set hTi).1 h0), H⟩
    ·have h1 := ready_mono hj e
     rw [H.1] at h1;cases h1
  | succ fuel ih =>
    intro listed a w hfree hr hT hI H;refine ⟨fun h0 => (by rw [h0] at hr; cases hr), fun j hj => ?_⟩
    by_cases e : j = i
    ·subst e
     exact hT a rfl rfl _ w trivial ⟨fun h0 => hI ((dirty_set hTi).1 h0), H⟩
    ·have h1 := H.2 j (ready_mono hj e)
     obtain ⟨hun, oj, hoj, hall⟩ := mem_ready.1 hj;have hno : ∀ e ∈ oj.after, Region.binds md e = true → e.on ≠ i := by
      intro x hx hb hxi;have g1 := hall x hx hb;have g0 := (mem_ready.1 hr).1;rw [hxi] at g1;by_cases hlt : i < listed.size
      ·simp [hlt] at g0 g1
       rw [g0] at g1;cases g1
      ·simp [Array.getElem?_eq_none (Nat.le_of_not_lt hlt)] at g1
     have hdj : dirty T ((listed.setIfInBounds i true).setIfInBounds j true) = false ↔ dirty T (listed.setIfInBounds j true) = false := by
      rw [Array.setIfInBounds_comm _ _ (Ne.symm e)];exact dirty_set hTi
     have h2 := wpOp_swap hoj (hfree j oj hoj e hun hno) (fun cs b => hsel i oi cs b hi) (fun cs b => hsel j oj cs b hoj) hQ hT h1;refine wpOp_mono (fun a' w' h3 => ⟨fun h0 => h3.2.1 (hdj.2 h0), ih _ a' w' (fun k ok hk hki hu2 hn2 => ?_) (ready_mono hr (Ne.symm e)) h3.1 (fun h0 => h3.2.1 (hdj.2 h0)) ?_⟩) h2
     ·refine hfree k ok hk hki ?_ hn2
      by_cases ek : j = k
      ·subst ek; exact hun
      ·rw [getD_set_ne true ek] at hu2; exact hu2
     ·rw [Array.setIfInBounds_comm _ _ e]
      exact h3.2.2
 exact main fuel listed a w (Region.free_spec hi hf) (by simpa using hr) hT (fun h0 => hI.resolve_left (by rw [h0]; decide)) h
theorem takes_yield {i : Nat} {o : Oper} {v : Value} {a : Act} (hi : ops[i]? = some o) (hy : YieldsIf P ops S o v a) : Takes P ops Q S i o v a := by
 intro a' he hw K w hS hK;exact (hy.of_same he hw).wpOp hi hS hK
theorem wpAnyT_one {i : Nat} {o : Oper} {fuel : Nat} {listed : Array Bool} {a : Act} {w : World} (hr : Region.ready md ops listed = [i]) (ho : ops[i]? = some o)
 (h : ∀ K' : Act → World → Prop, Shut (∀ a w, S w → wpAnyT P md ops Q S T fuel (listed.setIfInBounds i true) a w → K' a w) → if Region.wanted o (yielded ops a.tmps) = true then Oper.wp P o a w K' Q else K' (a.put o.dst undef) w) :
 wpAnyT P md ops Q S T (fuel + 1) listed a w := by
 refine ⟨fun h0 => (by rw [hr] at h0; cases h0), fun j hj => ?_⟩
 rw [hr] at hj;obtain rfl : j = i := by simpa using hj
 exact wpOp_step ho (fun K' hK => h K' (fun a w hS hW => hK a w ⟨fun _ => hS, hW⟩))
theorem wpAnyT_oneT {i : Nat} {o : Oper} {fuel : Nat} {listed : Array Bool} {a : Act} {w : World} (hr : Region.ready md ops listed = [i]) (ho : ops[i]? = some o) (hd : dirty T (listed.setIfInBounds i true) = true)
 (h : ∀ K' : Act → World → Prop, Shut (∀ a w, wpAnyT P md ops Q S T fuel (listed.setIfInBounds i true) a w → K' a w) → if Region.wanted o (yielded ops a.tmps) = true then Oper.wp P o a w K' Q else K' (a.put o.dst undef) w) :
 wpAnyT P md ops Q S T (fuel + 1) listed a w := by
 refine ⟨fun h0 => (by rw [hr] at h0; cases h0), fun j hj => ?_⟩
 rw [hr] at hj;obtain rfl : j = i := by simpa using hj
 exact wpOp_step ho (fun K' hK => h K' (fun a w hW => hK a w ⟨fun h0 => (by rw [hd] at h0; cases h0), hW⟩))
theorem wpAnyT_done {listed : Array Bool} {a : Act} {w : World} (hr : Region.ready md ops listed = []) (h : Q .normal a w) : ∀ fuel, wpAnyT P md ops Q S T fuel listed a w
 | 0 => ⟨hr, h⟩
 | _ + 1 => ⟨fun _ => h, by rw [hr]; simp⟩
end
end
section
open Go Go.RowKit
theorem tkS : (∀ (T : Array Value) (D : List Deferred) (t : Nat) (v : Value), Act.put ⟨T, D⟩ (some t) v = ⟨T.setIfInBounds t v, D⟩) ∧ (∀ (a : Act) (v : Value), Act.put a none v = a) ∧
 (∀ (l : List Oper) (i : Nat) (h : i < l.toArray.size), l.toArray[i]'h = l[i]'(by simpa using h)) ∧ (∀ (a : Oper) (l : List Oper) (h : 0 < (a :: l).length), (a :: l)[0]'h = a) ∧ (∀ (a : Oper) (l : List Oper) (i : Nat) (h : i + 1 < (a :: l).length), (a :: l)[i + 1]'h = l[i]'(by simpa using h)) ∧
 (∀ (l : List Bool) (i : Nat) (v : Bool), l.toArray.setIfInBounds i v = (l.set i v).toArray) ∧ (∀ (l : List Value) (i : Nat) (v : Value), l.toArray.setIfInBounds i v = (l.set i v).toArray) ∧
 (∀ (a v : Bool) (l : List Bool), (a :: l).set 0 v = v :: l) ∧ (∀ (a v : Value) (l : List Value), (a :: l).set 0 v = v :: l) ∧ (∀ (a v : Bool) (l : List Bool) (i : Nat), (a :: l).set (i + 1) v = a :: l.set i v) ∧ (∀ (a v : Value) (l : List Value) (i : Nat), (a :: l).set (i + 1) v = a :: l.set i v) := by
 refine ⟨fun _ _ _ _ => rfl, fun _ _ => rfl, fun _ _ _ => rfl, fun _ _ _ => rfl, fun _ _ _ _ => rfl, fun _ _ _ => by simp, fun _ _ _ => by simp, fun _ _ _ => rfl, fun _ _ _ => rfl, fun _ _ _ _ => rfl, fun _ _ _ _ => rfl⟩
section
variable {P : Program} {ops : Array Oper} {Q : Exit → Act → World → Prop} {md : Region.Mode} {S : World → Prop} {T : Nat → Bool}
theorem tk (i : Nat) {oi : Oper} {v : Value} {fuel : Nat} {listed : Array Bool} {a : Act} {w : World} (h : wpAnyT P md ops Q S T fuel (listed.setIfInBounds i true) (a.put oi.dst v) w)
 (hi : ops[i]? = some oi := by rfl) (hv : ∀ w', S w' → (execOp a.eval oi).run P w' = .ok (.value v) w' := by intro w' hSw; go_split_ands; first | (go_simp; done) | (go_simp; rfl) | rfl) (hS : S w := by assumption) (hwt : Region.wanted oi (yielded ops a.tmps) = true := by rfl)
 (hc : (Region.noSelect ops && Region.free md ops listed i && (Region.ready md ops listed).contains i && awaits md ops T listed i && ops.size == listed.size) = true := by kernel_rfl) (hQ : ∀ c a w, Q (.panic c) (a.put oi.dst v) w → Q (.panic c) a w := by exact fun _ _ _ h => h) : wpAnyT P md ops Q S T (fuel + 1) listed a w := by
 simp only [Bool.and_eq_true, beq_iff_eq] at hc;exact wpAnyT_take hi hc.1.1.1.1 hc.1.1.1.2 hc.1.1.2 hc.1.2 hQ (takes_yield hi (Or.inl ⟨hwt, hv⟩)) hS hc.2 h
end
end
section
open Go Go.RowKit
def shaRow (h : List Int) (rest : Value) (n : Nat) : Array Value := ((h ++ hashK).map (Value.int .u32) ++ [rest, .int .i64 (n : Int), .bool true]).toArray
theorem built_sha : Tryz.prog.built 382 [(0, .agg (arrU hash0)), (1, .agg (arrU hashK)), (4, .bool true)] = some (shaRow hash0 (.slice none 0 0) 0) := by kernel_rfl
theorem begin_c (w : World) : Calls Tryz.prog 289 #[] w fun e w' => e = .returned (.agg (arrU hash0)) ∧ Upd (fun _ => False) w w' := by
 go_enter Tryz.func289, Tryz.ntmps289
 go_wp2_with fail
 refine bodyPost_ret (results_cell_row rfl _ _ w.heap.size _ _ _ _ rfl (Blk.new w _ _) Tryz.underlying377 rfl rfl) rfl ⟨rfl, (Upd.refl _ w).alloc _⟩
theorem numbers_c (w : World) : Calls Tryz.prog 290 #[] w fun e w' => e = .returned (.agg (arrU hashK)) ∧ Upd (fun _ => False) w w' := by
 go_enter Tryz.func290, Tryz.ntmps290
 go_wp2_with (first
  | (show wpList _ _ _ (⟨_, Op.build _ _, _, _, _, _⟩ :: _) _ _
     refine wpList_build rfl _ _ rfl (by kernel_rfl) ?_;rw [show ((Program.built _ _ _).getD #[]) = arrU hashK from by kernel_rfl])
  | (show wpList _ _ _ (⟨none, _, _, _, _, _⟩ :: _) _ _
     refine wpList_store_all rfl 379 _ _ rfl w.heap.size (arrU hashK) rfl rfl 379 _ (Blk.new w _ _) rfl (arrU_one _) (by kernel_rfl) ?_;intro w4 hB4 hU4 hz4))
 refine bodyPost_ret (results_cell_row rfl _ _ w.heap.size _ _ _ _ rfl hB4 Tryz.underlying379 rfl rfl) rfl ⟨rfl, ((Upd.refl _ w).alloc _).then hU4 (fun q hq => .inr (by omega))⟩
structure ShaS (w0 w : World) (x : Nat) (h : List Int) (rest : Value) (n : Nat) : Prop where
 blk : Blk w x 382 (shaRow h rest n)
 len : h.length = 8
 all : AllU h
 new : w0.heap.size ≤ x
 upd : Upd (fun _ => False) w0 w
theorem shaRow_len {h : List Int} (h8 : h.length = 8) : ((h ++ hashK).map (Value.int .u32)).length = 72 := by rw [List.length_map, List.length_append, h8, hashK_ok.1]
theorem shaRow_72 {h : List Int} (h8 : h.length = 8) (rest : Value) (n : Nat) : (shaRow h rest n)[72]? = some rest ∧ (shaRow h rest n)[73]? = some (.int .i64 (n : Int)) ∧ (shaRow h rest n)[74]? = some (.bool true) := by
 have hl := shaRow_len h8;unfold shaRow;refine ⟨?_, ?_, ?_⟩ <;> rw [List.getElem?_toArray, List.getElem?_append_right (by omega), hl] <;> rfl
theorem shaRow_k {h : List Int} (h8 : h.length = 8) (rest : Value) (n : Nat) (j : Nat) (hj : j < 64) : (shaRow h rest n)[8 + j]? = some (.int .u32 (hashK.getD j 0)) := by
 have hl := shaRow_len h8;have hk : j < hashK.length := by rw [hashK_ok.1]; exact hj
 unfold shaRow;rw [List.getElem?_toArray, List.getElem?_append_left (by omega), List.getElem?_map, List.getElem?_append_right (by omega), h8, Nat.add_sub_cancel_left, List.getElem?_eq_getElem hk, List.getD_eq_getElem?_getD, List.getElem?_eq_getElem hk];rfl
theorem shaRow_set72 {h : List Int} (h8 : h.length = 8) (rest r : Value) (n : Nat) : (shaRow h rest n).setIfInBounds 72 r = shaRow h r n := by
 have hl := shaRow_len h8;unfold shaRow;rw [List.setIfInBounds_toArray, List.set_append_right _ _ (by omega), hl];rfl
theorem shaRow_set73 {h : List Int} (h8 : h.length = 8) (rest : Value) (n m : Nat) : (shaRow h rest n).setIfInBounds 73 (.int .i64 (m : Int)) = shaRow h rest m := by
 have hl := shaRow_len h8;unfold shaRow;rw [List.setIfInBounds_toArray, List.set_append_right _ _ (by omega), hl];rfl
theorem shaRow_put {h h' : List Int} (h8 : h.length = 8) (h8' : h'.length = 8) (rest : Value) (n : Nat) : (shaRow h rest n).toList.take 0 ++ (arrU h').toList ++ (shaRow h rest n).toList.drop (0 + (arrU h').size) = (shaRow h' rest n).toList := by
 unfold shaRow;rw [List.take_zero, List.nil_append, Nat.zero_add, arrU_size, h8'];simp only [arrU];rw [List.map_append, List.map_append, List.append_assoc, List.drop_left' (by rw [List.length_map, h8]), List.append_assoc]
section
variable {w0 w : World} {x : Nat} {h : List Int} {rest : Value} {n : Nat}
theorem ShaS.k_ (s : ShaS w0 w x h rest n) (i : Nat) (hi : i < 64) : w.cell? ⟨x, 8 + i, none⟩ = some (.int .u32 (hashK.getD i 0)) := (s.blk.cell (8 + i)).trans (shaRow_k s.len rest n i hi)
theorem ShaS.c8 {a0 a1 a2 a3 a4 a5 a6 a7 : Int} (s : ShaS w0 w x [a0, a1, a2, a3, a4, a5, a6, a7] rest n) : w.cell? ⟨x, 0, none⟩ = some (.int .u32 a0) ∧ w.cell? ⟨x, 1, none⟩ = some (.int .u32 a1) ∧ w.cell? ⟨x, 2, none⟩ = some (.int .u32 a2) ∧ w.cell? ⟨x, 3, none⟩ = some (.int .u32 a3) ∧ w.cell? ⟨x, 4, none⟩ = some (.int .u32 a4) ∧ w.cell? ⟨x, 5, none⟩ = some (.int .u32 a5) ∧ w.cell? ⟨x, 6, none⟩ = some (.int .u32 a6) ∧ w.cell? ⟨x, 7, none⟩ = some (.int .u32 a7) := by
 refine ⟨?_, ?_, ?_, ?_, ?_, ?_, ?_, ?_⟩ <;> (rw [s.blk.cell]; unfold shaRow; rw [List.getElem?_toArray]; rfl)
theorem ShaS.c72 (s : ShaS w0 w x h rest n) : w.cell? ⟨x, 72, none⟩ = some rest ∧ w.cell? ⟨x, 73, none⟩ = some (.int .i64 (n : Int)) ∧ w.cell? ⟨x, 74, none⟩ = some (.bool true) := by
 obtain ⟨a, b, c⟩ := shaRow_72 s.len rest n;exact ⟨(s.blk.cell 72).trans a, (s.blk.cell 73).trans b, (s.blk.cell 74).trans c⟩
theorem ShaS.still (s : ShaS w0 w x h rest n) {w' : World} (hu : Upd (fun _ => False) w w') : ShaS w0 w' x h rest n :=
 ⟨s.blk.upd hu (fun e => e), s.len, s.all, s.new, s.upd.then hu (fun _ e => e.elim)⟩
theorem ShaS.rest_ (s : ShaS w0 w x h rest n) (r : Value) : ShaS w0 (w.setCell ⟨x, 72, none⟩ r) x h r n := by
 refine ⟨?_, s.len, s.all, s.new, s.upd.setCell (.inr s.new) _⟩;have := s.blk.set_ 72 r;rw [shaRow_set72 s.len] at this;exact this
theorem ShaS.n_ (s : ShaS w0 w x h rest n) (m : Nat) : ShaS w0 (w.setCell ⟨x, 73, none⟩ (.int .i64 (m : Int))) x h rest m := by
 refine ⟨?_, s.len, s.all, s.new, s.upd.setCell (.inr s.new) _⟩;have := s.blk.set_ 73 (.int .i64 (m : Int));rw [shaRow_set73 s.len] at this;exact this
theorem ShaS.h_ (s : ShaS w0 w x h rest n) {h' : List Int} (h8 : h'.length = 8) (hh : AllU h') {w' : World} (hb : Blk w' x 382 (shaRow h' rest n)) (hu : Upd (· = x) w w') : ShaS w0 w' x h' rest n :=
 ⟨hb, h8, hh, s.new, s.upd.then hu (fun q hq => .inr (by have := s.new; omega))⟩
theorem shanone_c (s : ShaS w0 w x h rest n) : Calls Tryz.prog 291 #[.pointer (some ⟨x, 0, none⟩)] w fun e w' => e = .returned (.bool false) ∧ w = w' := by
 obtain ⟨-, -, hc⟩ := s.c72;clear s;go_enter Tryz.func291, Tryz.ntmps291
 go_wp2_with fail
 go_ret
 exact ⟨rfl, rfl⟩
end
theorem shanew_c (w : World) : Calls Tryz.prog 275 #[] w fun e w' => ∃ x, e = .returned (.pointer (some ⟨x, 0, none⟩)) ∧ ShaS w w' x hash0 (.slice none 0 0) 0 := by
 go_enter Tryz.func275, Tryz.ntmps275
 go_wp2_with fail
 refine (begin_c _).mono ?_;rintro e w1 ⟨rfl, hU1⟩;have H1 := Lib.hid hU1;clear hU1;go_wp2_with fail
 refine (numbers_c _).mono ?_;rintro e w2 ⟨rfl, hU2⟩;have H2 := Lib.hid hU2;clear hU2;go_wp2_with (first
  | (show wpList _ _ _ (⟨_, Op.build _ _, _, _, _, _⟩ :: _) _ _
     refine wpList_build_is rfl _ _ rfl [(0, .agg (arrU hash0)), (1, .agg (arrU hashK)), (4, .bool true)] _ rfl built_sha ?_))
 go_ret
 have hu := H1.out.then H2.out (fun _ e => e.elim);exact ⟨_, rfl, Blk.new w2 _ _, hash0_ok.1, hash0_ok.2, hu.size, hu.alloc _⟩
theorem BytesAt.upd {w w' : World} {v : Value} {l : List UInt8} {F : Nat → Prop} (h : BytesAt w v l) (hu : Upd F w w') (hF : ∀ k, v.ownBlock = some k → ¬ F k) : BytesAt w' v l := by
 obtain ⟨A, cap, rfl, h1, h2, h3⟩ := h;refine ⟨A, cap, rfl, h1, h2, fun hl => ?_⟩;obtain ⟨b, off, rfl, hb, hc⟩ := h3 hl;exact ⟨b, off, rfl, Nat.lt_of_lt_of_le hb hu.size, fun i hi => (cell_upd hu hb (hF b rfl) _).trans (hc i hi)⟩
theorem BytesAt.far {w : World} {v : Value} {l : List UInt8} (h : BytesAt w v l) {p : Addr} (hp : v.ownBlock ≠ some p.block) (u : Value) : BytesAt (w.setCell p u) v l :=
 h.upd ((Upd.refl (· = p.block) w).setCell (.inl rfl) u) (fun k hk e => hp (by rw [hk, e]))
theorem BytesAt.of_own {w : World} {v : Value} {l : List UInt8} {n : Nat} (h : Own w 5 1 v n (bytesV l)) : BytesAt w v l := by
 have hn : l.length = n := by have := h.len; simp [bytesV] at this; omega
 subst hn;obtain ⟨A, cap, rfl, h1, h2⟩ := h.shape;refine ⟨A, cap, rfl, h1, h2, fun hl => ?_⟩;obtain ⟨g, cap', e, _, _⟩ := h.head hl;injection e with e1 e2 e3;subst e1;refine ⟨g, 0, rfl, h.lt rfl, fun i hi => ?_⟩;rw [Nat.zero_add, h.cellAt i (by omega)];simp [bytesV, hi]
theorem BytesAt.drop {w : World} {b off n cap k : Nat} {l : List UInt8} (h : BytesAt w (.slice (some ⟨b, off, none⟩) n cap) l) (hk : k < n) : BytesAt w (.slice (some ⟨b, off + k, none⟩) (n - k) (cap - k)) (l.drop k) := by
 obtain ⟨A, c2, e, h1, h2, h3⟩ := h;injection e with e1 e2 e3;subst e1 e2 e3;refine ⟨_, _, by rw [List.length_drop], by rw [List.length_drop]; omega, by omega, fun hl => ?_⟩;obtain ⟨b', off', e, hb, hc⟩ := h3 (by omega);injection e with e;injection e with e1 e2;subst e1 e2;refine ⟨b, off + k, rfl, hb, fun i hi => ?_⟩;rw [List.length_drop] at hi;rw [Nat.add_assoc, hc (k + i) (by omega)];simp [List.getD_eq_getElem?_getD]
theorem BytesAt.none {w : World} (A : Option Addr) (cap : Nat) (hc : cap ≤ maxLen) : BytesAt w (.slice A 0 cap) [] := ⟨A, cap, rfl, Nat.zero_le _, hc, fun h => absurd h (by simp)⟩
def restLen (w : World) (x : Nat) : Nat := match w.cell? ⟨x, 72, none⟩ with | some (.slice _ n _) => n | _ => 0
theorem shawrite_c {w0 w : World} {x : Nat} (s : ShaS w0 w x hash0 (.slice none 0 0) 0) (t : ByteArray) (ht : t.size ≤ 1000000) :
 Calls Tryz.prog 276 #[.pointer (some ⟨x, 0, none⟩), .string t] w fun e w' => ∃ r, e = .returned (.int .i64 (t.size : Int)) ∧ ShaS w0 w' x (hashN (t.size / 64) hash0 t.data.toList) r t.size ∧ BytesAt w' r (t.data.toList.drop (64 * (t.size / 64))) := by
 obtain ⟨i0, hi0, hz0, hz1, hz2⟩ := info_parts infoU8;have HS := Lib.hid s;have H0 := Lib.hid (shanone_c s);obtain ⟨c72, c73, -⟩ := s.c72;have f72 := s.blk.frozen 72;have f73 := s.blk.frozen 73;clear s;go_enter Tryz.func276, Tryz.ntmps276
 go_wp2_with fail
 refine H0.out.mono ?_;rintro e w' ⟨rfl, rfl⟩
 go_wp2_with (at_builtin
              refine wpList_append_src rfl _ _ _ _ rfl 5 i0 _ 1 1 Tryz.underlying89 hi0 hz0 hz1 hz2 rfl (.slice none 0 0) 0 [] rfl (Own.nil _ _ _) _ t.size (bytesV t.data.toList) rfl (Src.of_string Tryz.underlying9 t) (bytesV_one _) (by unfold maxLen; omega) (by omega) ?_;intro v2 w2 ho2 hU2 hl2 hs2;rw [Nat.zero_add, List.nil_append] at ho2;obtain ⟨A2, cap2, rfl, hA1, hA2⟩ := ho2.shape;have hS2 := (HS.out.n_ t.size).still (hU2.mono (fun b hb => by simp [Value.ownBlock] at hb));have HS2 := Lib.hid (And.intro hS2 ho2);have c72 := hS2.c72.1;have f72 := hS2.blk.frozen 72;clear hS2 ho2 hU2 hl2 hs2)
 go_loopw [] (fun wr => ∃ (j : Nat) (A : Option Addr) (cap : Nat), 64 * j ≤ t.size ∧ ShaS w0 wr x (hashN j hash0 t.data.toList) (.slice A (t.size - 64 * j) cap) t.size ∧ BytesAt wr (.slice A (t.size - 64 * j) cap) (t.data.toList.drop (64 * j)) ∧ (Value.slice A (t.size - 64 * j) cap).ownBlock ≠ some x) (fun wr => restLen wr x)
 case atStart =>
  have hne := HS2.out.2.ne_blk HS2.out.1.blk (by decide);refine ⟨0, A2, cap2, by omega, HS2.out.1.rest_ _, (BytesAt.of_own HS2.out.2).far hne _, hne⟩
 case round =>
  obtain ⟨j, A, cap, hj, hS, hB, hne⟩ := hrel;have HX := Lib.hid (And.intro hS (And.intro hB hne));obtain ⟨c72, c73, -⟩ := hS.c72;have f72 := hS.blk.frozen 72;clear HS2 HS H0 hA1 hA2;by_cases hlt : 64 ≤ t.size - 64 * j
  ·obtain ⟨A', cap', e, hcap1, hcap2, hby⟩ := hB
   injection e with e1 e2 e3;subst e1 e3;have hl : (t.data.toList.drop (64 * j)).length = t.size - 64 * j := by rw [List.length_drop]; rfl
   rw [hl] at hcap1;obtain ⟨b, off, rfl, hb, hby⟩ := hby (by omega);obtain ⟨L, hL⟩ : ∃ L, t.size - 64 * j = L := ⟨_, rfl⟩;have HLj := Lib.hid (And.intro hL hj);obtain ⟨h, hh⟩ : ∃ h, hashN j hash0 t.data.toList = h := ⟨_, rfl⟩;have HH := Lib.hid hh;rw [hL] at c72 HX hlt hl hS hcap1;rw [hh] at HX hS;obtain ⟨a0, a1, a2, a3, a4, a5, a6, a7, rfl⟩ := eight hS.len;have hSd := hS.still (Upd.refl (fun _ => False) wr).drew;have HSd := Lib.hid hSd;obtain ⟨q0, q1, q2, q3, q4, q5, q6, q7⟩ := hS.c8;have HBY := Lib.hid (And.intro hl hby);have i1 : (64 : Int) ≤ (L : Int) := by omega
   have i2 : (64 : Int) ≤ (cap : Int) := by omega
   unfold maxLen at hcap2;clear hS hSd hby e2 hl hL hj hh hne;go_wp2_with fail
   clear q0 q1 q2 q3 q4 q5 q6 q7;refine wp_region_noPanic ?_;refine wp_region_T (S := fun w' => ShaS w0 w' x [a0, a1, a2, a3, a4, a5, a6, a7] (.slice (some ⟨b, off, none⟩) L cap) t.size) (T := fun k => k == 20) (by kernel_rfl) ?_;have hS0 := HSd.out;refine tk 0 ?_ rfl (by intro w' hSw; have hq1 := hSw.c72.1; have hq2 := hSw.c8; go_split_ands; first | (go_simp; done) | (go_simp; rfl) | rfl)
   simp only [tkS];refine tk 1 ?_ rfl (by intro w' hSw; have hq1 := hSw.c72.1; have hq2 := hSw.c8; go_split_ands; first | (go_simp; done) | (go_simp; rfl) | rfl)
   simp only [tkS];refine tk 2 ?_ rfl (by intro w' hSw; have hq1 := hSw.c72.1; have hq2 := hSw.c8; go_split_ands; first | (go_simp; done) | (go_simp; rfl) | rfl)
   simp only [tkS];refine tk 3 ?_ rfl (by intro w' hSw; have hq1 := hSw.c72.1; have hq2 := hSw.c8; go_split_ands; first | (go_simp; done) | (go_simp; rfl) | rfl)
   simp only [tkS];refine tk 4 ?_ rfl (by intro w' hSw; have hq1 := hSw.c72.1; have hq2 := hSw.c8; go_split_ands; first | (go_simp; done) | (go_simp; rfl) | rfl)
   simp only [tkS];refine tk 5 ?_ rfl (by intro w' hSw; have hq1 := hSw.c72.1; have hq2 := hSw.c8; go_split_ands; first | (go_simp; done) | (go_simp; rfl) | rfl)
   simp only [tkS];refine tk 6 ?_ rfl (by intro w' hSw; have hq1 := hSw.c72.1; have hq2 := hSw.c8; go_split_ands; first | (go_simp; done) | (go_simp; rfl) | rfl)
   simp only [tkS];refine tk 7 ?_ rfl (by intro w' hSw; have hq1 := hSw.c72.1; have hq2 := hSw.c8; go_split_ands; first | (go_simp; done) | (go_simp; rfl) | rfl)
   simp only [tkS];refine tk 8 ?_ rfl (by intro w' hSw; have hq1 := hSw.c72.1; have hq2 := hSw.c8; go_split_ands; first | (go_simp; done) | (go_simp; rfl) | rfl)
   simp only [tkS];refine tk 9 ?_ rfl (by intro w' hSw; have hq1 := hSw.c72.1; have hq2 := hSw.c8; go_split_ands; first | (go_simp; done) | (go_simp; rfl) | rfl)
   simp only [tkS];refine tk 10 ?_ rfl (by intro w' hSw; have hq1 := hSw.c72.1; have hq2 := hSw.c8; go_split_ands; first | (go_simp; done) | (go_simp; rfl) | rfl)
   simp only [tkS];refine tk 11 ?_ rfl (by intro w' hSw; have hq1 := hSw.c72.1; have hq2 := hSw.c8; go_split_ands; first | (go_simp; done) | (go_simp; rfl) | rfl)
   simp only [tkS];refine tk 12 ?_ rfl (by intro w' hSw; have hq1 := hSw.c72.1; have hq2 := hSw.c8; go_split_ands; first | (go_simp; done) | (go_simp; rfl) | rfl)
   simp only [tkS];refine tk 13 ?_ rfl (by intro w' hSw; have hq1 := hSw.c72.1; have hq2 := hSw.c8; go_split_ands; first | (go_simp; done) | (go_simp; rfl) | rfl)
   simp only [tkS];refine tk 14 ?_ rfl (by intro w' hSw; have hq1 := hSw.c72.1; have hq2 := hSw.c8; go_split_ands; first | (go_simp; done) | (go_simp; rfl) | rfl)
   simp only [tkS];refine tk 15 ?_ rfl (by intro w' hSw; have hq1 := hSw.c72.1; have hq2 := hSw.c8; go_split_ands; first | (go_simp; done) | (go_simp; rfl) | rfl)
   simp only [tkS];refine tk 16 ?_ rfl (by intro w' hSw; have hq1 := hSw.c72.1; have hq2 := hSw.c8; go_split_ands; first | (go_simp; done) | (go_simp; rfl) | rfl)
   simp only [tkS];refine wpAnyT_one (i := 17) (by kernel_rfl) rfl (fun K hK => ?_);go_simp
   refine (turn_c [a0, a1, a2, a3, a4, a5, a6, a7] [a0, a1, a2, a3, a4, a5, a6, a7] hashK ((t.data.toList.drop (64 * j)).take 64) x 8 b off cap _ HSd.out.len HSd.out.len hashK_ok.1 HSd.out.all HSd.out.all hashK_ok.2 HSd.out.k_ HSd.out.blk.lt (by rw [List.length_take, HBY.out.1]; omega) (by omega) (by omega) hb (fun i hi => by
    rw [World.cell?_drew, HBY.out.2 i (by rw [HBY.out.1]; omega)]; simp [List.getD_eq_getElem?_getD, hi])).mono ?_
   rintro e w3 ⟨rfl, hU3⟩;have hS3 := HSd.out.still hU3;refine hK.out _ _ hS3 ?_;clear hK;refine tk 18 ?_ rfl (by intro w' hSw; have hq1 := hSw.c72.1; go_split_ands; first | (go_simp; done) | (go_simp; rfl) | rfl)
   simp only [tkS];refine tk 19 ?_ rfl (by intro w' hSw; have hq1 := hSw.c72.1; go_split_ands; first | (go_simp; done) | (go_simp; rfl) | rfl)
   simp only [tkS];refine wpAnyT_oneT (i := 20) (by kernel_rfl) rfl (by kernel_rfl) (fun K hK => ?_);obtain ⟨h', hh'⟩ : ∃ h', turnL [a0, a1, a2, a3, a4, a5, a6, a7] [a0, a1, a2, a3, a4, a5, a6, a7] hashK ((t.data.toList.drop (64 * j)).take 64) = h' := ⟨_, rfl⟩;have h8' : h'.length = 8 := by rw [← hh', turnL_len]; rfl
   have hall' : AllU h' := by rw [← hh']; exact turnL_all HSd.out.all
   rw [hh'];refine step_store_part (by rfl) 377 _ _ (by rfl) x 0 (arrU h') (by rfl) (by rfl) _ _ _ hS3.blk (by rw [arrU_size, h8']; have := shaRow_len hS3.len; simp [shaRow]) (shaRow_put hS3.len h8' _ _) (arrU_one _) (by rw [arrU_size, h8']; kernel_rfl) ?_
   intro w4 hB4 hU4 hz4;refine hK.out _ _ ?_;have hS4 := hS3.h_ h8' hall' hB4 hU4;have HS4 := Lib.hid (And.intro hS4 (And.intro (hU3.trans hU4 (H := (· = x)) (fun _ e => e.elim) (fun _ e => .inl e)) hh'));have c72 := hS4.c72.1;have f72 := hS4.blk.frozen 72;clear hK hS3 hS4 hB4 hU4 hz4 hh' h8' hall' hU3 hS0;refine wpAnyT_done (by kernel_rfl) ?_ _;refine NoPanic.normal ?_;have hfin : ∀ (A' : Option Addr) (cap' : Nat), BytesAt w4 (.slice A' (L - 64) cap') ((t.data.toList.drop (64 * j)).drop 64) → (Value.slice A' (L - 64) cap').ownBlock ≠ some x →
    (∃ (j : Nat) (A : Option Addr) (cap : Nat), 64 * j ≤ t.size ∧ ShaS w0 (w4.setCell ⟨x, 72, none⟩ (.slice A' (L - 64) cap')) x (hashN j hash0 t.data.toList) (.slice A (t.size - 64 * j) cap) t.size ∧ BytesAt (w4.setCell ⟨x, 72, none⟩ (.slice A' (L - 64) cap')) (.slice A (t.size - 64 * j) cap) (t.data.toList.drop (64 * j)) ∧ (Value.slice A (t.size - 64 * j) cap).ownBlock ≠ some x) ∧
    restLen (w4.setCell ⟨x, 72, none⟩ (.slice A' (L - 64) cap')) x < restLen wr x := by
    intro A' cap' h1 h2;have hS5 := HS4.out.1.rest_ (.slice A' (L - 64) cap');have hm1 : restLen (w4.setCell ⟨x, 72, none⟩ (.slice A' (L - 64) cap')) x = L - 64 := by unfold restLen; rw [hS5.c72.1]
    have hm2 : restLen wr x = L := by unfold restLen; rw [HX.out.1.c72.1]
    refine ⟨⟨j + 1, A', cap', by have := HLj.out.1; omega, ?_, ?_, ?_⟩, by omega⟩
    ·rw [hashN_snoc, HH.out, HS4.out.2.2, show t.size - 64 * (j + 1) = L - 64 by have := HLj.out.1; omega]
     exact hS5
    ·rw [show t.size - 64 * (j + 1) = L - 64 by have := HLj.out.1; omega, show 64 * (j + 1) = 64 * j + 64 by omega, ← List.drop_drop]
     exact h1.far h2 _
    ·rw [show t.size - 64 * (j + 1) = L - 64 by have := HLj.out.1; omega]
     exact h2
   have hB4 : BytesAt w4 (.slice (some ⟨b, off, none⟩) L cap) (t.data.toList.drop (64 * j)) := HX.out.2.1.upd ((Upd.refl (fun _ => False) wr).drew.trans HS4.out.2.1 (H := (· = x)) (fun _ e => e.elim) (fun _ e => .inl e)) (fun k hk e => HX.out.2.2 (by rw [hk, e]));have HF := Lib.hid hfin;have HB4 := Lib.hid (And.intro hB4 HX.out.2.2);clear hfin hB4;by_cases hcapL : cap = 64
   ·subst hcapL
    obtain rfl : L = 64 := by omega
    go_wp2_with fail
    refine HF.out _ _ ?_ HB4.out.2;rw [List.drop_of_length_le (by rw [HBY.out.1]; omega)];exact BytesAt.none _ _ (by unfold maxLen; omega)
   ·go_wp2_with fail
    refine HF.out _ _ ?_ HB4.out.2;by_cases hL64 : L = 64
    ·subst hL64
     rw [List.drop_of_length_le (by rw [HBY.out.1]; omega)];exact BytesAt.none _ _ (by unfold maxLen; omega)
    ·exact HB4.out.1.drop (by omega)
  ·have hl := Lib.hid (show t.size / 64 = j by omega)
   have hlt' : t.size - 64 * j < 64 := by omega
   go_wp2_with fail
   go_ret
   rw [hl.out];exact ⟨_, rfl, HX.out.1, HX.out.2.1⟩
end
section
open Go Go.RowKit
def arrB (l : List UInt8) : Array Value := (bytesV l).toArray
theorem arrB_size (l : List UInt8) : (arrB l).size = l.length := by simp [arrB, bytesV]
theorem arrB_one (l : List UInt8) : (arrB l).all (·.oneCell') = true := by simp [arrB, bytesV, Value.oneCell']
theorem BytesAt.src {w : World} {v : Value} {l : List UInt8} (h : BytesAt w v l) : Src Tryz.prog w 89 1 v l.length (bytesV l) := by
 obtain ⟨A, cap, rfl, h1, h2, h3⟩ := h;by_cases h0 : l = []
 ·subst h0
  cases A with
  | none => exact Src.of_nil Tryz.underlying89 _
  | some a => exact Src.of_addr Tryz.underlying89 a 0 cap rfl (fun j u e => by simp [bytesV] at e)
 ·obtain ⟨b, off, rfl, hb, hc⟩ := h3 (List.length_pos_iff.2 h0)
  refine Src.of_addr Tryz.underlying89 _ _ _ (by simp [bytesV]) (fun j u e => ?_);have hj : j < l.length := by have := (List.getElem?_eq_some_iff.1 e).1; simpa [bytesV] using this
  rw [Addr.add_mid, hc j hj, ← e];simp [bytesV, hj]
def lenSl : Value → Nat
 | .slice _ n _ => n
 | _ => 0
structure SumS (w1 wr : World) (v : Value) (ls : List UInt8) : Prop where
 own : Own wr 5 1 v ls.length (bytesV ls)
 upd : Upd (fun _ => False) w1 wr
 far : ∀ q, v.ownBlock = some q → w1.heap.size ≤ q
theorem SumS.next {w1 wr w2 w3 : World} {v v' : Value} {ls l2 : List UInt8} {m : Nat} {xs : List Value} (s : SumS w1 wr v ls) (ha : Upd (fun _ => False) wr w2) (ho : Own w3 5 1 v' m xs) (hm : m = (ls ++ l2).length) (hx : xs = bytesV (ls ++ l2)) (hU : Upd (fun k => v.ownBlock = some k) w2 w3)
 (hl : v'.ownBlock = v.ownBlock ∨ v'.ownBlock = some w2.heap.size) : SumS w1 w3 v' (ls ++ l2) := by
 subst hm hx;refine ⟨ho, (s.upd.then ha (fun _ e => e.elim)).then hU (fun q hq => .inr (s.far q hq)), fun q hq => ?_⟩;rcases hl with e | e
 ·rw [e] at hq; exact s.far q hq
 ·rw [e] at hq
  have := Option.some.inj hq;have h1 := s.upd.size;have h2 := ha.size;omega
theorem run_index8 (w : World) (l : List Int) (hl : l.length = 8) (k : Nat) (hk : k < 8) : (Instr.index 377 (.agg (arrU l)) (.int .i64 (k : Int))).run Tryz.prog w = .ok (.int .u32 (l.getD k 0)) w := by
 obtain ⟨a, b, c, d, e, f, g, i, rfl⟩ := eight hl;have h : k = 0 ∨ k = 1 ∨ k = 2 ∨ k = 3 ∨ k = 4 ∨ k = 5 ∨ k = 6 ∨ k = 7 := by omega
 rcases h with rfl | rfl | rfl | rfl | rfl | rfl | rfl | rfl <;> rfl
theorem copy_bytes {w : World} {g off n cap : Nat} {T : TypeId} {l0 l : List UInt8} {v : Value} (hB : Blk w g T (arrB l0)) (hs : BytesAt w v l) (hn : l.length ≤ n) (hf : off + l.length ≤ l0.length) :
 ∃ W r, (Builtin.copy_ #[89, 89] 3 #[.slice (some ⟨g, off, none⟩) n cap, v]).run Tryz.prog w = .ok r W ∧ Blk W g T (arrB (l0.take off ++ l ++ l0.drop (off + l.length))) ∧ Upd (· = g) w W ∧ W.heap.size = w.heap.size := by
 obtain ⟨A, c, rfl, h1, h2, h3⟩ := hs;by_cases h0 : l = []
 ·subst h0
  refine ⟨w, goInt 0, run_copy_none w _ _ _ 5 _ _ _ _ _ _ Tryz.underlying89 (by kernel_rfl) (by simp), ?_, Upd.refl _ _, rfl⟩;simpa using hB
 ·obtain ⟨b, o, rfl, hb, hc⟩ := h3 (List.length_pos_iff.2 h0)
  have hrun := run_copy_row (P := Tryz.prog) w 89 89 3 5 g off n cap ⟨b, o, none⟩ l.length c (arrB l0) T (bytesV l) Tryz.underlying89 (by kernel_rfl) hB (by rw [bytesV_len]; exact (Nat.min_eq_left hn).symm) (fun j u e => by
   have hj : j < l.length := by have := (List.getElem?_eq_some_iff.1 e).1; simpa [bytesV] using this
   rw [Addr.add_mid, hc j hj, ← e];simp [bytesV, hj]) (by rw [bytesV_len, arrB_size]; exact hf) (bytesV_one _)
  refine ⟨_, _, hrun, ?_, Upd.setRow_ _ _ _, by simp [World.setRow]⟩;have e : ((arrB l0).toList.take off ++ bytesV l ++ (arrB l0).toList.drop (off + (bytesV l).length)).toArray = arrB (l0.take off ++ l ++ l0.drop (off + l.length)) := by
   simp [arrB, bytesV, List.map_take, List.map_drop]
  rw [e];exact hB.setRow _
theorem step_copy_run {P : Program} {ops : Array Oper} {o : Oper} {a : Act} {w w' : World} {K : Act → World → Prop} {Q : Exit → Act → World → Prop} {E : Prop} (hgd : o.guard = none) (d s : Operand) (dT sT : TypeId)
 (ho : o.op = .call { callee := .builtin .copy, args := #[d, s], argTypes := #[dT, sT] }) {vd vs r : Value} (hd : a.eval d = vd) (hs : a.eval s = vs) (hrun : (Builtin.copy_ #[dT, sT] o.type #[vd, vs]).run P w = .ok r w')
 (h : K (a.put o.dst r) w') : if Region.wanted o (yielded ops a.tmps) = true then Oper.wp P o a w K Q else E := by
 have hw : Region.wanted o (yielded ops a.tmps) = true := by simp [Region.wanted, hgd]
 rw [if_pos hw];subst hd hs;unfold Oper.wp;simp [execOp, ho, resolve, invoke, builtin, hrun, Result.andThen]
 exact h
theorem outL_pad {l : List Int} (hl : l.length = 8) (k : Nat) (hk : k ≤ 8) : (outL (l.take k) ++ List.replicate (32 - 4 * k) 0).length = 32 := by
 rw [List.length_append, outL_len, List.length_take, List.length_replicate];omega
theorem outL_step {l : List Int} (k : Nat) (hk : k < l.length) (hl : l.length = 8) : (outL (l.take k) ++ List.replicate (32 - 4 * k) 0).take (4 * k) ++ beB (l.getD k 0).toNat 4 ++ (outL (l.take k) ++ List.replicate (32 - 4 * k) 0).drop (4 * k + 4) = outL (l.take (k + 1)) ++ List.replicate (32 - 4 * (k + 1)) 0 := by
 have h1 : (outL (l.take k)).length = 4 * k := by rw [outL_len, List.length_take]; omega
 have h2 : outL (l.take (k + 1)) = outL (l.take k) ++ beB (l.getD k 0).toNat 4 := by
  rw [List.take_succ_eq_append_getElem hk];unfold outL;rw [List.flatMap_append, List.getD_eq_getElem?_getD, List.getElem?_eq_getElem hk];simp
 rw [List.take_append_of_le_length (by omega), List.take_of_length_le (by omega), ← h1, List.drop_length_add_append, List.drop_replicate, h2];congr 2
 omega
theorem shasum_c {w0 w : World} {x : Nat} {h : List Int} {r : Value} {n : Nat} {l : List UInt8} (s : ShaS w0 w x h r n) (hb : BytesAt w r l) (hl : l.length < 64) (hn : n ≤ 1000000) :
 Calls Tryz.prog 277 #[.pointer (some ⟨x, 0, none⟩)] w fun e w' => e = .returned (.agg (arrB (outL (hashN ((padB l n).length / 64) h (padB l n))))) ∧ Upd (fun _ => False) w w' := by
 obtain ⟨i0, hi0, hz0, hz1, hz2⟩ := info_parts infoU8;have HB0 := Lib.hid hb;obtain ⟨A, cap, rfl, hcap1, hcap2, hby⟩ := hb;have HS := Lib.hid (And.intro s hby);have H0 := Lib.hid (fun W (hu : Upd (fun _ => False) w W) => shanone_c (s.still hu));obtain ⟨P, hP⟩ : ∃ P, padB l n = P := ⟨_, rfl⟩;rw [hP];have HPP := Lib.hid hP;clear s hby hP;go_enter Tryz.func277, Tryz.ntmps277
 go_wp2_with fail
 refine (H0.out _ ((Upd.refl _ w).alloc _)).mono ?_;rintro e w' ⟨rfl, rfl⟩;generalize hw1 : w.alloc (Obj.cells _ _) = w1;have hU1 : Upd (fun _ => False) w w1 := by rw [← hw1]; exact (Upd.refl _ w).alloc _
 have hO1 : Blk w1 w.heap.size 189 (arrB (List.replicate 32 0)) := by rw [← hw1]; exact Blk.new w _ _
 have c72 := (HS.out.1.still hU1).c72.1;have hxl : x < w1.heap.size := (HS.out.1.still hU1).blk.lt;have HW1 := Lib.hid (And.intro hU1 hO1);clear hw1 hU1 hO1;obtain ⟨g, hg⟩ : ∃ g, w.heap.size = g := ⟨_, rfl⟩;rw [hg];have HG := Lib.hid hg;clear hg;have HSZ := Lib.hid (show w.heap.size < w1.heap.size from by have := HW1.out.2.lt; omega);go_wp2_with (first
  | (at_builtin
     refine wpList_append_src rfl _ _ _ _ rfl 5 i0 _ 1 1 Tryz.underlying89 hi0 hz0 hz1 hz2 rfl (.slice A2 l.length cap2) l.length (bytesV l) rfl (HO2.out.1.alloc _) _ 1 [.int .u8 128] rfl (Src.of_new Tryz.underlying89 _) (by simp [Value.oneCell']) (by unfold maxLen; omega) (by omega) ?_;intro v3 w3 ho3 hU3 hl3 hs3;obtain ⟨A3, cap3, rfl, hA3, hA4⟩ := ho3.shape;have HO3 := Lib.hid (And.intro ho3 (And.intro hU3 hl3));clear ho3 hU3 hl3 hs3 hA3 hA4)
  | (at_builtin
     refine wpList_append_src rfl _ _ _ _ rfl 5 i0 _ 1 1 Tryz.underlying89 hi0 hz0 hz1 hz2 rfl (.slice (some ⟨w1.heap.size, 0, none⟩) 0 0) 0 (bytesV []) rfl (own_bytes w1 [] (by simp)) _ l.length (bytesV l) rfl ((HB0.out.upd (HW1.out.1.alloc _) (fun _ _ e => e)).src) (bytesV_one _) (by unfold maxLen; omega) (by omega) ?_;intro v2 w2 ho2 hU2 hl2 hs2;rw [Nat.zero_add, show bytesV [] = [] from rfl, List.nil_append] at ho2;obtain ⟨A2, cap2, rfl, hA1, hA2⟩ := ho2.shape;have HO2 := Lib.hid (And.intro ho2 (And.intro hU2 hl2));clear ho2 hU2 hl2 hs2 c72 hA1 hA2))
 have hS2 : SumS w1 w2 (.slice A2 l.length cap2) l := by
  refine ⟨HO2.out.1, ((Upd.refl _ w1).alloc _).then HO2.out.2.1 (fun q hq => .inr (by have e : w1.heap.size = q := Option.some.inj hq; omega)), fun q hq => ?_⟩;rcases HO2.out.2.2 with e | e
  ·rw [e] at hq; have e2 : w1.heap.size = q := Option.some.inj hq; omega
  ·rw [e] at hq; have e2 := Option.some.inj hq; simp at e2; omega
 have hS3 : SumS w1 w3 (.slice A3 (l.length + 1) cap3) (l ++ [128]) := hS2.next ((Upd.refl _ w2).alloc _) HO3.out.1 (by simp) (by rw [bytesV_app]; rfl) HO3.out.2.1 HO3.out.2.2
 have HS3 := Lib.hid hS3;obtain ⟨K, hK⟩ : ∃ K, (119 - l.length % 64) % 64 = K := ⟨_, rfl⟩;have HK := Lib.hid (show K ≤ 63 ∧ ∀ k, k ≤ K → ((l.length + 1 + k) % 64 = 56 ↔ k = K) from ⟨by omega, fun k hk => by omega⟩);have HK2 := Lib.hid hK;clear hS2 hS3 HO2 HO3 HSZ hK;go_loopw [3] (fun u wr => ∃ k : Nat, k ≤ K ∧ SumS w1 wr u (l ++ 128 :: List.replicate k 0)) (fun u _ => 200 - lenSl u)
 case atStart => exact ⟨0, by omega, HS3.out⟩
 case round =>
  clear HS3;obtain ⟨k, hk, hS⟩ := hrel;have hls : (l ++ 128 :: List.replicate k 0).length = l.length + 1 + k := by simp; omega
  have ho := hS.own;rw [hls] at ho;obtain ⟨A5, cap5, rfl, hA5, hA6⟩ := ho.shape;have HS5 := Lib.hid (And.intro hS (And.intro ho hls));obtain ⟨m, hm⟩ : ∃ m, l.length + 1 + k = m := ⟨_, rfl⟩;rw [hm] at HS5 hA5 ⊢;have HM := Lib.hid hm;by_cases hlt : k < K
  ·have h56 : ((m : Int) % 64 != 56) = true := by have := (HK.out.2 k hk); simp; omega
   clear hS ho hls hm hA5 hA6;have hA7 : m ≤ 190 := by have := HM.out; have := HK.out.1; omega
   go_wp2_with (at_builtin
                refine wpList_append_src rfl _ _ _ _ rfl 5 i0 _ 1 1 Tryz.underlying89 hi0 hz0 hz1 hz2 rfl (.slice A5 m cap5) m _ rfl (HS5.out.2.1.alloc _) _ 1 [.int .u8 0] rfl (Src.of_new Tryz.underlying89 _) (by simp [Value.oneCell']) (by unfold maxLen; omega) (by omega) ?_;intro v3 w3 ho3 hU3 hl3 hs3;obtain ⟨A3, cap3, rfl, hA3, hA4⟩ := ho3.shape;have hS6 : SumS w1 w3 (.slice A3 (m + 1) cap3) (l ++ 128 :: List.replicate k 0 ++ [0]) := HS5.out.1.next (l2 := [0]) ((Upd.refl _ wr).alloc _) ho3 (by rw [List.length_append, HS5.out.2.2]; rfl) (by rw [bytesV_app (l ++ 128 :: List.replicate k 0) [0]]; rfl) hU3 hl3
                have HS6 := Lib.hid hS6;clear hS6 ho3 hU3 hl3 hs3 hA3 hA4)
   go_roundw
   case rel =>
    refine ⟨k + 1, by omega, ?_⟩;have e : l ++ 128 :: List.replicate (k + 1) 0 = l ++ 128 :: List.replicate k 0 ++ [0] := by rw [List.replicate_succ', List.append_assoc]; rfl
    rw [e];exact HS6.out
   case measure => simp [lenSl]; omega
  ·obtain rfl : k = K := by omega
   have h56 : ((m : Int) % 64 != 56) = false := by have := (HK.out.2 k hk); simp; omega
   have hS7 := HW1.out.1.then HS5.out.1.upd (fun _ e => e.elim);have hS8 := HS.out.1.still hS7;obtain ⟨c72, c73, -⟩ := hS8.c72;obtain ⟨a0, a1, a2, a3, a4, a5, a6, a7, rfl⟩ := eight hS8.len;have hn8 : (n : Int) * 8 = ((8 * n : Nat) : Int) := by omega
   clear hS ho hls hm hA5 hA6 hS7 hS8;go_wp2_with fail
   rw [show (8 * (n : Int)) = ((8 * n : Nat) : Int) by omega];refine (putBig_sha _ m _ (8 * n) 8 wr HS5.out.2.1 (by omega) (by have := HM.out; have := HK.out.1; omega)).mono ?_;rintro e w8 ⟨v8, rfl, ho8, hU8, hl8⟩;have hP := HPP.out;have hpe : l ++ 128 :: List.replicate k 0 ++ beB (8 * n) 8 = P := by
    rw [← hP];unfold padB;rw [HK2.out, List.append_assoc];rfl
   have hpl : P.length = m + 8 := by rw [← hpe, List.length_append, HS5.out.2.2, beB_len]
   have hpd := padB_len l n hl;rw [hP] at hpd;have hu8 : Upd (fun _ => False) w1 w8 := HS5.out.1.upd.then hU8 (fun q hq => .inr (HS5.out.1.far q hq));have hfar : ∀ q, v8.ownBlock = some q → w1.heap.size ≤ q := by
    intro q hq;rcases hl8 with e | ⟨q2, e, h2⟩
    ·rw [e] at hq; exact HS5.out.1.far q hq
    ·rw [e] at hq; have := Option.some.inj hq; have := HS5.out.1.upd.size; omega
   rw [← bytesV_app, hpe, ← hpl] at ho8;have hby := BytesAt.of_own ho8;obtain ⟨A8, cap8, rfl, hA8, hA9⟩ := ho8.shape;have HPL := Lib.hid hpl;have HP := Lib.hid (And.intro hP (And.intro hpd (And.intro hu8 (And.intro hfar hby))));have hc8 := ((HW1.out.1.then hu8 (fun _ e => e.elim)));have hS8 := HS.out.1.still hc8;obtain ⟨c72, c73, -⟩ := hS8.c72;obtain ⟨q0, q1, q2, q3, q4, q5, q6, q7⟩ := hS8.c8;have HS8 := Lib.hid hS8;clear hP hpe hpl hpd hu8 hfar hby ho8 hU8 hl8 hc8 hS8;go_wp2_with fail
   clear q0 q1 q2 q3 q4 q5 q6 q7 c72 c73;obtain ⟨hb, hhb⟩ : ∃ hb, w8.heap.size = hb := ⟨_, rfl⟩;rw [hhb];have hstart : ∃ (j : Nat) (A : Option Addr) (cap : Nat), Value.slice A8 P.length cap8 = .slice A (P.length - 64 * j) cap ∧ 64 * j ≤ P.length ∧ Upd (fun _ => False) w8 (w8.alloc (.cells #[Value.int IntKind.u32 a0, Value.int IntKind.u32 a1, Value.int IntKind.u32 a2, Value.int IntKind.u32 a3, Value.int IntKind.u32 a4, Value.int IntKind.u32 a5, Value.int IntKind.u32 a6, Value.int IntKind.u32 a7] 377)) ∧ Blk (w8.alloc (.cells #[Value.int IntKind.u32 a0, Value.int IntKind.u32 a1, Value.int IntKind.u32 a2, Value.int IntKind.u32 a3, Value.int IntKind.u32 a4, Value.int IntKind.u32 a5, Value.int IntKind.u32 a6, Value.int IntKind.u32 a7] 377)) hb 377 (arrU (hashN j [a0, a1, a2, a3, a4, a5, a6, a7] P)) ∧
    BytesAt (w8.alloc (.cells #[Value.int IntKind.u32 a0, Value.int IntKind.u32 a1, Value.int IntKind.u32 a2, Value.int IntKind.u32 a3, Value.int IntKind.u32 a4, Value.int IntKind.u32 a5, Value.int IntKind.u32 a6, Value.int IntKind.u32 a7] 377)) (.slice A (P.length - 64 * j) cap) (P.drop (64 * j)) ∧ (Value.slice A (P.length - 64 * j) cap).ownBlock ≠ some hb := by
    subst hhb;refine ⟨0, A8, cap8, rfl, by omega, (Upd.refl _ w8).alloc _, Blk.new w8 _ _, HP.out.2.2.2.2.upd ((Upd.refl (fun _ => False) w8).alloc _) (fun _ _ e => e), fun e => ?_⟩;obtain ⟨A', cap', e1, -, -, h3⟩ := HP.out.2.2.2.2;injection e1 with e1 e2 e3;subst e1;by_cases h0 : 0 < P.length
    ·obtain ⟨b, off, rfl, hlt, -⟩ := h3 h0
     have := Option.some.inj e;simp at this
     omega
    ·have := HP.out.2.1
     have h9 : P.length = m + 8 := HPL.out;omega
   have HST := Lib.hid hstart;have HHB := Lib.hid hhb;clear hstart hhb;generalize (w8.alloc (Obj.cells _ _)) = w9 at HST ⊢;go_loopw [3] (fun u wr => ∃ (j : Nat) (A : Option Addr) (cap : Nat), u = .slice A (P.length - 64 * j) cap ∧ 64 * j ≤ P.length ∧ Upd (fun _ => False) w8 wr ∧ Blk wr hb 377 (arrU (hashN j [a0, a1, a2, a3, a4, a5, a6, a7] P)) ∧ BytesAt wr (.slice A (P.length - 64 * j) cap) (P.drop (64 * j)) ∧ (Value.slice A (P.length - 64 * j) cap).ownBlock ≠ some hb) (fun u _ => lenSl u)
   case atStart => exact HST.out
   case round =>
    clear HST;obtain ⟨j, A, cap, rfl, hj, hu, hB, hby, hne⟩ := hrel;have hok := hashN_ok HS8.out.len HS8.out.all j P;obtain ⟨h9, hh9⟩ : ∃ h9, hashN j [a0, a1, a2, a3, a4, a5, a6, a7] P = h9 := ⟨_, rfl⟩;rw [hh9] at hB hok;by_cases hlt : 64 ≤ P.length - 64 * j
    ·obtain ⟨d0, d1, d2, d3, d4, d5, d6, d7, rfl⟩ := eight hok.1
     obtain ⟨A', cap', e, hcap1, hcap2, hbz⟩ := hby;injection e with e1 e2 e3;subst e1 e3;have hl : (P.drop (64 * j)).length = P.length - 64 * j := by rw [List.length_drop]
     rw [hl] at hcap1;obtain ⟨b, off, rfl, hbl, hbz⟩ := hbz (by omega);obtain ⟨L, hL⟩ : ∃ L, P.length - 64 * j = L := ⟨_, rfl⟩;have HLj := Lib.hid (And.intro hL hj);rw [hL] at hlt hl hcap1 hne ⊢;have HBY := Lib.hid (And.intro hl hbz);have hBd := hB.drew;have HU := Lib.hid (And.intro hu (And.intro hB (And.intro hh9 hok.2)));obtain ⟨q0, q1, q2, q3, q4, q5, q6, q7⟩ : wr.cell? ⟨hb, 0, none⟩ = some (.int .u32 d0) ∧ wr.cell? ⟨hb, 1, none⟩ = some (.int .u32 d1) ∧ wr.cell? ⟨hb, 2, none⟩ = some (.int .u32 d2) ∧ wr.cell? ⟨hb, 3, none⟩ = some (.int .u32 d3) ∧ wr.cell? ⟨hb, 4, none⟩ = some (.int .u32 d4) ∧ wr.cell? ⟨hb, 5, none⟩ = some (.int .u32 d5) ∧ wr.cell? ⟨hb, 6, none⟩ = some (.int .u32 d6) ∧ wr.cell? ⟨hb, 7, none⟩ = some (.int .u32 d7) := ⟨hB.cell 0, hB.cell 1, hB.cell 2, hB.cell 3, hB.cell 4, hB.cell 5, hB.cell 6, hB.cell 7⟩;have i1 : (64 : Int) ≤ (L : Int) := by omega
     have i2 : (64 : Int) ≤ (cap : Int) := by omega
     have HNE := Lib.hid hne;unfold maxLen at hcap2;clear hu hB hh9 hok hbz e2 hl hL hj hne hBd;go_wp2_with fail
     go_still_tail 7, (by kernel_rfl)
     change wpList _ _ _ _ _ wr.drew;clear q0 q1 q2 q3 q4 q5 q6 q7;go_wp2_with (first
      | (go_at_call 292
         refine (turn_c [d0, d1, d2, d3, d4, d5, d6, d7] [d0, d1, d2, d3, d4, d5, d6, d7] hashK ((P.drop (64 * j)).take 64) x 8 b off cap _ rfl rfl hashK_ok.1 HU.out.2.2.2 HU.out.2.2.2 hashK_ok.2 (HS8.out.still HU.out.1.drew).k_ (HS8.out.still HU.out.1.drew).blk.lt (by rw [List.length_take, HBY.out.1]; omega) (by omega) (by omega) hbl (fun i hi => by
          rw [World.cell?_drew, HBY.out.2 i (by rw [HBY.out.1]; omega)]; simp [List.getD_eq_getElem?_getD, hi])).mono ?_
         rintro e w10 ⟨rfl, hU10⟩;obtain ⟨h', hh'⟩ : ∃ h', turnL [d0, d1, d2, d3, d4, d5, d6, d7] [d0, d1, d2, d3, d4, d5, d6, d7] hashK ((P.drop (64 * j)).take 64) = h' := ⟨_, rfl⟩;have h8' : h'.length = 8 := by rw [← hh', turnL_len]; rfl
         rw [hh'];have HU10 := Lib.hid (And.intro hU10 (And.intro h8' hh'));clear hU10 h8' hh')
      | (show wpList _ _ _ (⟨none, _, _, _, _, _⟩ :: _) _ _
         refine wpList_store_all rfl 377 _ _ rfl hb (arrU h') rfl rfl 377 _ (HU.out.2.1.upd (Upd.drew (Upd.refl (fun _ => False) wr) |>.then HU10.out.1 (fun _ e => e.elim)) (fun e => e)) (by rw [arrU_size, arrU_size, HU10.out.2.1]; rfl) (arrU_one _) (by rw [arrU_size, HU10.out.2.1]; kernel_rfl) ?_
         intro w11 hB11 hU11 hz11))
     have hfin : ∀ (A' : Option Addr) (cap' : Nat), BytesAt w11 (.slice A' (L - 64) cap') ((P.drop (64 * j)).drop 64) → (Value.slice A' (L - 64) cap').ownBlock ≠ some hb →
      (∃ (j : Nat) (A : Option Addr) (cap : Nat), Value.slice A' (L - 64) cap' = .slice A (P.length - 64 * j) cap ∧ 64 * j ≤ P.length ∧ Upd (fun _ => False) w8 w11 ∧ Blk w11 hb 377 (arrU (hashN j [a0, a1, a2, a3, a4, a5, a6, a7] P)) ∧ BytesAt w11 (.slice A (P.length - 64 * j) cap) (P.drop (64 * j)) ∧ (Value.slice A (P.length - 64 * j) cap).ownBlock ≠ some hb) := by
      intro A' cap' h1 h2;have e64 : P.length - 64 * (j + 1) = L - 64 := by have := HLj.out.1; omega
      refine ⟨j + 1, A', cap', by rw [e64], by have := HLj.out.1; omega, (HU.out.1.drew.then HU10.out.1 (fun _ e => e.elim)).then hU11 (fun q hq => .inr (by have := HHB.out; omega)), ?_, ?_, ?_⟩
      ·rw [hashN_snoc, HU.out.2.2.1, HU10.out.2.2]
       exact hB11
      ·rw [e64, show 64 * (j + 1) = 64 * j + 64 by omega, ← List.drop_drop]
       exact h1
      ·rw [e64]; exact h2
     have hby2 : BytesAt w11 (.slice (some ⟨b, off, none⟩) L cap) (P.drop (64 * j)) := by
      have h1 : BytesAt wr (.slice (some ⟨b, off, none⟩) L cap) (P.drop (64 * j)) := ⟨_, cap, by rw [HBY.out.1], by rw [HBY.out.1]; exact hcap1, by unfold maxLen; exact hcap2, fun _ => ⟨b, off, rfl, hbl, HBY.out.2⟩⟩;exact h1.upd (((Upd.refl (fun _ => False) wr).drew.then HU10.out.1 (fun _ e => e.elim)).trans hU11 (H := (· = hb)) (fun _ e => e.elim) (fun _ e => .inl e)) (fun k hk e => HNE.out (by rw [hk, e]))
     go_roundw
     case rel =>
      by_cases hcapL : cap = 64
      ·rw [if_pos hcapL, hcapL]
       obtain rfl : L = 64 := by omega
       refine hfin _ _ ?_ HNE.out;rw [List.drop_of_length_le (by rw [HBY.out.1]; omega)];exact BytesAt.none _ _ (by unfold maxLen; omega)
      ·rw [if_neg hcapL]
       refine hfin _ _ ?_ HNE.out;by_cases hL64 : L = 64
       ·subst hL64
        rw [List.drop_of_length_le (by rw [HBY.out.1]; omega)];exact BytesAt.none _ _ (by unfold maxLen; omega)
       ·exact hby2.drop (by omega)
     case measure => simp [lenSl]; omega
    ·have hP64 := HP.out.2.1.1
     have hj0 : P.length - 64 * j = 0 := by omega
     have hjq : P.length / 64 = j := by omega
     rw [hj0] at hne hby ⊢;obtain ⟨d0, d1, d2, d3, d4, d5, d6, d7, rfl⟩ := eight hok.1;have HU := Lib.hid (And.intro hu (And.intro hB (And.intro hh9 (And.intro hok.2 hjq))));have HOB : Hid (Blk wr g 189 (arrB (List.replicate 32 0))) := Lib.hid (by
      rw [← HG.out];exact HW1.out.2.upd (HP.out.2.2.1.then hu (fun _ e => e.elim)) (fun e => e))
     clear hP64 hj0 hjq hu hB hh9 hok hne hby hlt hj;go_wp2_with (first
      | (refine wpList_load_all rfl _ _ rfl hb rfl _ _ _ HU.out.2.1 Tryz.underlying377 rfl rfl ?_))
     go_loopw [51] (fun u wr => ∃ k : Nat, k ≤ 8 ∧ u = .int .i64 (k : Int) ∧ Upd (fun q => q = g) w1 wr ∧ Blk wr g 189 (arrB (outL ([d0, d1, d2, d3, d4, d5, d6, d7].take k) ++ List.replicate (32 - 4 * k) 0))) (fun u _ => 8 - (intOf u).toNat)
     case atStart => exact ⟨0, by omega, rfl, (HP.out.2.2.1.then HU.out.1 (fun _ e => e.elim)).mono (fun _ e => e.elim), HOB.out⟩
     case round =>
      clear HOB;obtain ⟨k, hk, rfl, hu, hB⟩ := hrel;have HB := Lib.hid (And.intro hu hB);clear hu hB;by_cases hlt : k < 8
      ·have hd : [d0, d1, d2, d3, d4, d5, d6, d7].length = 8 := rfl
       obtain ⟨zk, hzk⟩ : ∃ z, [d0, d1, d2, d3, d4, d5, d6, d7].getD k 0 = z := ⟨_, rfl⟩;have hix := run_index8 wr [d0, d1, d2, d3, d4, d5, d6, d7] rfl k hlt;have hzu := HU.out.2.2.2.1.get k;rw [hzk] at hix hzu;obtain ⟨z, rfl⟩ : ∃ z : Nat, zk = (z : Int) := ⟨zk.toNat, by have := hzu.1; omega⟩;have hz1' : z < 4294967296 := by have := hzu.2; omega
       have hstep := outL_step (l := [d0, d1, d2, d3, d4, d5, d6, d7]) k (by simp; omega) rfl;rw [hzk, Int.toNat_natCast] at hstep;have HZ := Lib.hid hstep;have hBd := HB.out.2.drew;have HBD := Lib.hid hBd;obtain ⟨q, hq⟩ : ∃ q, 4 * k = q := ⟨_, rfl⟩;have HQ := Lib.hid hq;have i1 : (q : Int) ≤ 32 := by omega
       have i0 : (0 : Int) ≤ (q : Int) := by omega
       have i2 : q < 32 := by omega
       have i3 : ¬ 32 = q := by omega
       have i4 : IntKind.i64.wrap (4 * (k : Int)) = (q : Int) := by rw [IntWalk.i64_in _ (by omega)]; omega
       clear hzk hd hzu hstep hBd hq;go_wp2_with fail
       refine wp_region_noPanic ?_;refine wp_region_T (S := fun w' => Upd (fun _ => False) wr w') (T := fun k => k == 6) (by kernel_rfl) ?_;have hS0 := (Upd.refl (fun _ => False) wr).drew;refine tk 0 ?_;simp only [tkS];refine tk 1 ?_;simp only [tkS];refine tk 2 ?_;simp only [tkS];refine tk 3 ?_;simp only [tkS];refine tk 4 ?_;simp only [tkS];refine wpAnyT_one (i := 5) (by kernel_rfl) rfl (fun K hK => ?_);go_simp
       clear i4 hix;rw [u64_wrap z (by omega)];refine (putBig_sha (.slice none 0 0) 0 [] z 4 _ (Own.nil _ _ _) (by decide) (by decide)).mono ?_;rintro e w12 ⟨v12, rfl, ho12, hU12, hl12⟩;rw [Nat.zero_add, List.nil_append] at ho12;have hu12 : Upd (fun _ => False) wr.drew w12 := hU12.mono (fun b hb => by simp [Value.ownBlock] at hb);have hS1 := hS0.then hu12 (fun _ e => e.elim);refine hK.out _ _ hS1 ?_;have hby := BytesAt.of_own ho12;have hln := outL_pad (l := [d0, d1, d2, d3, d4, d5, d6, d7]) rfl k hk;have hlb := beB_len z 4;have hq := HQ.out;obtain ⟨W, rv, hcp, hB13, hU13, hz13⟩ := copy_bytes (off := q) (n := 32 - q) (cap := 32 - q) (l := beB z 4) (HBD.out.upd hu12 (fun e => e)) hby (by omega) (by omega);obtain ⟨A12, c12, rfl, -, -⟩ := ho12.shape;clear hK;refine wpAnyT_oneT (i := 6) (by kernel_rfl) rfl (by kernel_rfl) (fun K hK => ?_);refine step_copy_run (by rfl) _ _ _ _ (by rfl) (by rfl) (by rfl) hcp ?_;refine hK.out _ _ ?_;rw [hlb, ← hq, HZ.out] at hB13;have HE := Lib.hid (And.intro hB13 (And.intro hS1 hU13));clear hK hcp hB13 hU13 hz13 hS1 hS0 hln hlb hq hby ho12 hU12 hl12 hu12;refine wpAnyT_done (by kernel_rfl) ?_ _;refine NoPanic.normal ?_;go_wp2_with fail
       go_roundw
       case rel => exact ⟨k + 1, by omega, by go_num, (HB.out.1.then HE.out.2.1 (fun _ e => e.elim)).then HE.out.2.2 (fun q hq => .inl hq), HE.out.1⟩
       case measure => simp [intOf] <;> omega
      ·obtain rfl : k = 8 := by omega
       have e8 : ((8 : Nat) : Int) = 8 := rfl;rw [e8];have hfin : outL ([d0, d1, d2, d3, d4, d5, d6, d7].take 8) ++ List.replicate (32 - 4 * 8) 0 = outL (hashN (P.length / 64) [a0, a1, a2, a3, a4, a5, a6, a7] P) := by
        rw [HU.out.2.2.2.2, HU.out.2.2.1];simp
       have hB := HB.out.2;rw [hfin] at hB;obtain ⟨O, hO⟩ : ∃ O, outL (hashN (P.length / 64) [a0, a1, a2, a3, a4, a5, a6, a7] P) = O := ⟨_, rfl⟩;have hOl : O.length = 32 := by rw [← hO, HU.out.2.2.2.2, HU.out.2.2.1, outL_len]; rfl
       rw [hO] at hB;have HB2 := Lib.hid (And.intro hB (And.intro hO hOl));clear hB hO hOl hfin e8 hlt hk;go_wp2_with (first
        | (show wpList _ _ _ (⟨none, _, _, _, _, _⟩ :: _) _ _
           refine wpList_store_all rfl 189 _ _ rfl g (arrB O) rfl rfl 189 _ HB2.out.1 rfl (arrB_one _) (by rw [arrB_size, HB2.out.2.2]; kernel_rfl) ?_
           intro w14 hB14 hU14 hz14)
        | (refine wpList_load_all rfl _ _ rfl g rfl _ _ _ HB2.out.1 Tryz.underlying189 rfl (by rw [arrB_size, HB2.out.2.2]; kernel_rfl) ?_))
       have hu14 := (HW1.out.1.then HB.out.1 (fun q hq => .inr (by have := HG.out; omega))).then hU14 (fun q hq => .inr (by have := HG.out; omega));refine bodyPost_ret (results_cell_row rfl _ _ g _ _ _ _ rfl hB14 Tryz.underlying189 rfl (by rw [arrB_size, HB2.out.2.2]; kernel_rfl)) rfl ⟨by rw [HB2.out.2.1], hu14⟩
theorem hash_c (t : ByteArray) (ht : t.size ≤ 1000000) (w : World) : Calls Tryz.prog 248 #[.string t] w fun e w' => e = .returned (.agg (arrB (shaL t.data.toList))) ∧ Upd (fun _ => False) w w' := by
 have HD := Lib.hid (show shaL t.data.toList = outL (hashN ((padB (t.data.toList.drop (64 * (t.size / 64))) t.size).length / 64) (hashN (t.size / 64) hash0 t.data.toList) (padB (t.data.toList.drop (64 * (t.size / 64))) t.size)) from rfl);obtain ⟨O, hO⟩ : ∃ O, shaL t.data.toList = O := ⟨_, rfl⟩;have hOl : O.length = 32 := by rw [← hO]; exact shaL_len _
 rw [hO];have HO := Lib.hid (And.intro hO hOl);clear hO hOl;go_enter Tryz.func248, Tryz.ntmps248
 go_wp2_with fail
 generalize hw1 : w.alloc (Obj.cells _ _) = w1;have hU1 : Upd (fun _ => False) w w1 := by rw [← hw1]; exact (Upd.refl _ w).alloc _
 have hO1 : Blk w1 w.heap.size 189 (arrB (List.replicate 32 0)) := by rw [← hw1]; exact Blk.new w _ _
 have HW1 := Lib.hid (And.intro hU1 hO1);clear hw1 hU1 hO1;refine (shanew_c w1).mono ?_;rintro e w2 ⟨x, rfl, hs2⟩;have HS2 := Lib.hid hs2;clear hs2;go_wp2_with fail
 refine (shawrite_c HS2.out t ht).mono ?_;rintro e w3 ⟨r, rfl, hs3, hb3⟩;have HS3 := Lib.hid (And.intro hs3 hb3);clear hs3 hb3;go_wp2_with fail
 refine (shasum_c HS3.out.1 HS3.out.2 (by rw [List.length_drop]; show t.size - _ < 64; omega) ht).mono ?_;rintro e w4 ⟨rfl, hU4⟩;rw [← HD.out, HO.out.1];have HB4 : Hid (Blk w4 w.heap.size 189 (arrB (List.replicate 32 0))) := Lib.hid (HW1.out.2.upd (HS3.out.1.upd.then hU4 (fun _ e => e.elim)) (fun e => e));have HU4 := Lib.hid ((HW1.out.1.then HS3.out.1.upd (fun _ e => e.elim)).then hU4 (fun _ e => e.elim));clear hU4;go_wp2_with (first
  | (show wpList _ _ _ (⟨none, _, _, _, _, _⟩ :: _) _ _
     refine wpList_store_all rfl 189 _ _ rfl w.heap.size (arrB O) rfl rfl 189 _ HB4.out (by rw [arrB_size, arrB_size, HO.out.2]; rfl) (arrB_one _) (by rw [arrB_size, HO.out.2]; kernel_rfl) ?_
     intro w14 hB14 hU14 hz14))
 refine bodyPost_ret (results_cell_row rfl _ _ w.heap.size _ _ _ _ rfl hB14 Tryz.underlying189 rfl (by rw [arrB_size, HO.out.2]; kernel_rfl)) rfl ⟨rfl, HU4.out.then hU14 (fun q hq => .inr (by omega))⟩
end
end Go.Proofs.YtbhjgfibhegddaaGreat
