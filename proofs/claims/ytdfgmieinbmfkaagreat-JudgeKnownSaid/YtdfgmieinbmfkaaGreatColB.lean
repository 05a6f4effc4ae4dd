/-
  judge.Collides: texts that are unlike, of one hash.
-/
import Derived.Test.YtdfgmieinbmfkaaGreatShaC
import Derived.WideKeyArr
namespace Go.Proofs.YtdfgmieinbmfkaaGreat
open Go Go.RowKit Go.MapKept

/-- A text's hash, as a value. -/
def hashV (t : ByteArray) : Value := .agg (arrB (shaL t.data.toList))
/-- What the runs of maps over hashes want. -/
structure KeyLawB : Prop where
  check : ∀ (w : World) (em : Bool) (t : ByteArray), (Instr.checkKey em 10000 70 (hashV t)).run Tryz.prog w = .ok () w
  find : ∀ (w : World) (t : ByteArray) (es : List MapEntry), (∀ e ∈ es, ∃ t', e.key = hashV t') →
    ((Instr.findKey 70 (hashV t) es).run Tryz.prog w = .ok none w ∧ ∀ e ∈ es, e.key ≠ hashV t) ∨ ∃ j e, (Instr.findKey 70 (hashV t) es).run Tryz.prog w = .ok (some (j, e.val)) w ∧ es[j]? = some e ∧ e.key = hashV t
  stays : ∀ (w : World) (t : ByteArray), (Instr.keyThatStays (hashV t) (hashV t)).run Tryz.prog w = .ok (hashV t) w
/-- A map from hashes. -/
def MapH (w : World) (b : Nat) (m : List (Value × Value)) : Prop :=
  ∃ es clock, w.heap[b]? = some (.map es clock) ∧ Stamped es clock ∧ es.toList.map (fun e => (e.key, e.val)) = m ∧ ∀ e ∈ es.toList, ∃ t, e.key = hashV t
section
variable {w w' : World} {b : Nat} {m : List (Value × Value)}
theorem MapH.lt (h : MapH w b m) : b < w.heap.size := by
  obtain ⟨es, clock, hb, _⟩ := h
  exact (Array.getElem?_eq_some_iff.1 hb).1
theorem MapH.eqb (h : MapH w b m) (hb : w'.heap[b]? = w.heap[b]?) : MapH w' b m := by
  obtain ⟨es, clock, h1, h2⟩ := h
  exact ⟨es, clock, hb.trans h1, h2⟩
theorem MapH.upd {F : Nat → Prop} (h : MapH w b m) (hu : Upd F w w') (hn : ¬ F b) : MapH w' b m := h.eqb (hu.block b h.lt hn)
theorem MapH.new (w : World) : MapH (w.alloc (.map #[] 0)) w.heap.size [] := ⟨#[], 0, heap_alloc_new w _, stamped_empty 0, rfl, by simp⟩
theorem MapH.run_lookup (K : KeyLawB) (h : MapH w b m) (t : ByteArray) (ok : Bool) :
    ((∀ p ∈ m, p.1 ≠ hashV t) ∧ (Instr.lookup 198 (.map (some b)) (hashV t) ok).run Tryz.prog w = .ok (if ok then .tuple #[.int .i64 0, .bool false] else .int .i64 0) w) ∨
    ∃ v, (hashV t, v) ∈ m ∧ (Instr.lookup 198 (.map (some b)) (hashV t) ok).run Tryz.prog w = .ok (if ok then .tuple #[v, .bool true] else v) w := by
  have hz : (zeroValue 3).run Tryz.prog w = .ok (.int .i64 0) w := by simp [go_sem]
  obtain ⟨es, clock, hb, hs, rfl, hk⟩ := h
  rcases K.find w t es.toList hk with ⟨h1, h2⟩ | ⟨j, e, h1, h2, h3⟩
  · refine .inl ⟨fun p hp => ?_, ?_⟩
    · obtain ⟨e, he, rfl⟩ := List.mem_map.1 hp
      exact h2 e he
    · cases ok <;> simp [Instr.lookup, run_underlying Tryz.underlying198, MapKept.run_getObj_map hb, K.check, h1, hz, Result.andThen]
  · refine .inr ⟨e.val, List.mem_map.2 ⟨e, List.mem_of_getElem? h2, by rw [h3]⟩, ?_⟩
    cases ok <;> simp [Instr.lookup, run_underlying Tryz.underlying198, MapKept.run_getObj_map hb, K.check, h1, Result.andThen]
theorem MapH.run_update (K : KeyLawB) (h : MapH w b m) (t : ByteArray) (v : Value) :
    ∃ w' m', (Instr.mapUpdate 198 (.map (some b)) (hashV t) v).run Tryz.prog w = .ok () w' ∧ MapH w' b m' ∧ (∀ p, p ∈ m' ↔ p = (hashV t, v) ∨ p ∈ m ∧ p.1 ≠ hashV t) ∧ Upd (· = b) w w' ∧ w'.heap.size = w.heap.size := by
  obtain ⟨es, clock, hb, hs, rfl, hk⟩ := h
  have hupd : ∀ o, Upd (· = b) w { w with heap := w.heap.setIfInBounds b o } := fun o => ⟨rfl, rfl, rfl, by simp, fun k _ hk => (heap_set hb).2 k hk⟩
  rcases K.find w t es.toList hk with ⟨h1, h2⟩ | ⟨j, e, h1, h2, h3⟩
  · refine ⟨{ w with heap := w.heap.setIfInBounds b (.map (es.push { key := hashV t, val := v, born := clock }) (clock + 1)) }, _, ?_, ⟨_, _, (heap_set hb).1, stamped_push hs h2, rfl, fun e he => ?_⟩, fun p => ?_, hupd _, by simp⟩
    · simp [Instr.mapUpdate, run_underlying Tryz.underlying198, MapKept.run_getObj_map hb, K.check, h1, MapKept.run_setObj_map _ hb, Result.andThen]
    · rw [Array.toList_push, List.mem_append] at he
      rcases he with he | he
      · exact hk e he
      · rw [List.mem_singleton] at he; rw [he]; exact ⟨t, rfl⟩
    · rw [Array.toList_push, List.map_append, List.mem_append]
      constructor
      · rintro (hp | hp)
        · refine .inr ⟨hp, ?_⟩
          obtain ⟨e, he, rfl⟩ := List.mem_map.1 hp
          exact h2 e he
        · simp at hp; exact .inl hp
      · rintro (rfl | hp)
        · exact .inr (by simp)
        · exact .inl hp.1
  · have hj : es[j]? = some e := by simpa using h2
    have hkey : ∀ e', es[j]? = some e' → ({ e' with key := hashV t, val := v } : MapEntry).key = e'.key := fun e' he' => by rw [hj] at he'; cases he'; exact h3.symm
    have hlt : j < es.size := (Array.getElem?_eq_some_iff.1 hj).1
    have get : ∀ i, (es.modify j fun e => { e with key := hashV t, val := v })[i]? = if j = i then es[i]?.map (fun e => { e with key := hashV t, val := v }) else es[i]? := fun i => Array.getElem?_modify
    refine ⟨{ w with heap := w.heap.setIfInBounds b (.map (es.modify j fun e => { e with key := hashV t, val := v }) clock) }, _, ?_, ⟨_, _, (heap_set hb).1, stamped_modify hs _ _ (fun _ _ => rfl) (fun e' _ he' => hkey e' he'), rfl, fun x hx => ?_⟩, fun p => ?_, hupd _, by simp⟩
    · have ks := K.stays w t
      simp only [Instr.mapUpdate, Sem.run_bind, run_underlying Tryz.underlying198, Result.andThen_ok, MapKept.run_getObj_map hb, K.check, h1, hj, Option.map_some, Option.getD_some, h3, ks, MapKept.run_setObj_map _ hb]
    · obtain ⟨i, hi⟩ := List.getElem?_of_mem hx
      rw [Array.getElem?_toList, get] at hi
      split at hi
      · rename_i hij
        subst hij
        rw [hj] at hi
        obtain rfl := Option.some.inj hi
        exact ⟨t, rfl⟩
      · exact hk x (List.mem_of_getElem? (by rw [Array.getElem?_toList]; exact hi))
    · have uniq : ∀ i e', es[i]? = some e' → e'.key = hashV t → i = j := fun i e' hi hk' => by
        have hp := hs.2.2
        have hn : (es.toList.map (·.key)).Nodup := hp
        have e1 : (es.toList.map (·.key))[i]? = some (hashV t) := by simp [hi, hk']
        have e2 : (es.toList.map (·.key))[j]? = some (hashV t) := by simp [hj, h3]
        exact (List.getElem?_inj (List.getElem?_eq_some_iff.1 e1).1 hn).1 (e1.trans e2.symm)
      constructor
      · intro hp
        obtain ⟨x, hx, rfl⟩ := List.mem_map.1 hp
        obtain ⟨i, hi⟩ := List.getElem?_of_mem hx
        rw [Array.getElem?_toList, get] at hi
        split at hi
        · rename_i hij
          subst hij
          rw [hj] at hi
          obtain rfl := Option.some.inj hi
          exact .inl rfl
        · rename_i hij
          exact .inr ⟨List.mem_map.2 ⟨x, List.mem_of_getElem? (by rw [Array.getElem?_toList]; exact hi), rfl⟩, fun e => hij (uniq i x hi e).symm⟩
      · rintro (rfl | ⟨hp, hne⟩)
        · refine List.mem_map.2 ⟨{ e with key := hashV t, val := v }, List.mem_of_getElem? (i := j) ?_, rfl⟩
          rw [Array.getElem?_toList, get, if_pos rfl, hj]; rfl
        · obtain ⟨x, hx, rfl⟩ := List.mem_map.1 hp
          obtain ⟨i, hi⟩ := List.getElem?_of_mem hx
          rw [Array.getElem?_toList] at hi
          refine List.mem_map.2 ⟨x, List.mem_of_getElem? (i := i) ?_, rfl⟩
          rw [Array.getElem?_toList, get, if_neg, hi]
          rintro rfl
          rw [hj] at hi
          obtain rfl := Option.some.inj hi
          exact hne h3
end
theorem cell_lt_c {w : World} {a : Addr} {v : Value} (h : w.cell? a = some v) : a.block < w.heap.size := by
  unfold World.cell? at h
  cases hb : w.heap[a.block]? with
  | none => simp [hb] at h
  | some o => exact (Array.getElem?_eq_some_iff.1 hb).1
/-- Two unlike ones of l have one hash. -/
def Coll (l : List ByteArray) : Prop := ∃ x ∈ l, ∃ y ∈ l, hashV x = hashV y ∧ x ≠ y
/-- What is known of the map behind the first i texts; d is added to a place. -/
structure ColI (w w' : World) (b : Nat) (d : Int) (l : List ByteArray) (i : Nat) (m : List (Value × Value)) : Prop where
  map : MapH w' b m
  upd : Upd (fun _ => False) w w'
  new : w.heap.size ≤ b
  from_ : ∀ p ∈ m, ∃ k, k < i ∧ ∃ h : k < l.length, p = (hashV l[k], .int .i64 ((k : Int) + d))
  has : ∀ k, k < i → ∀ h : k < l.length, ∃ v, (hashV l[k], v) ∈ m
  none_ : ∀ j k, j < i → k < i → ∀ (hj : j < l.length) (hk : k < l.length), hashV l[j] = hashV l[k] → l[j] = l[k]
theorem ColI.all {w w' : World} {b : Nat} {d : Int} {l : List ByteArray} {m : List (Value × Value)} (h : ColI w w' b d l l.length m) : ¬ Coll l := by
  rintro ⟨x, hx, y, hy, e, hne⟩
  obtain ⟨j, hj, rfl⟩ := List.mem_iff_getElem.1 hx
  obtain ⟨k, hk, rfl⟩ := List.mem_iff_getElem.1 hy
  exact hne (h.none_ j k hj hk hj hk e)
/-- the next text is added -/
theorem ColI.next {w w' w'' : World} {b : Nat} {d : Int} {l : List ByteArray} {i : Nat} {m m' : List (Value × Value)} (h : ColI w w' b d l i m) (hi : i < l.length)
    (hnew : ∀ k, k < i → ∀ hk : k < l.length, hashV l[k] = hashV l[i] → l[k] = l[i])
    (hM : MapH w'' b m') (hm : ∀ p, p ∈ m' ↔ p = (hashV l[i], .int .i64 ((i : Int) + d)) ∨ p ∈ m ∧ p.1 ≠ hashV l[i]) (hU : Upd (fun _ => False) w w'') : ColI w w'' b d l (i + 1) m' := by
  refine ⟨hM, hU, h.new, fun p hp => ?_, fun k hk hl => ?_, fun j k hj hk hlj hlk e => ?_⟩
  · rcases (hm p).1 hp with rfl | ⟨hp, _⟩
    · exact ⟨i, by omega, hi, rfl⟩
    · obtain ⟨k, hk, hl, e⟩ := h.from_ p hp
      exact ⟨k, by omega, hl, e⟩
  · by_cases e : hashV l[k] = hashV l[i]
    · exact ⟨_, (hm _).2 (.inl (by rw [e]))⟩
    · have hki : k ≠ i := fun hh => e (by subst hh; rfl)
      obtain ⟨v, hv⟩ := h.has k (by omega) hl
      exact ⟨v, (hm _).2 (.inr ⟨hv, e⟩)⟩
  · by_cases e1 : j = i
    · subst e1
      by_cases e2 : k = j
      · subst e2; rfl
      · exact (hnew k (by omega) hlk e.symm).symm
    · by_cases e2 : k = i
      · subst e2
        exact hnew j (by omega) hlj e
      · exact h.none_ j k (by omega) (by omega) hlj hlk e
/-- not found: no text ahead has the hash -/
theorem ColI.fresh {w w' : World} {b : Nat} {d : Int} {l : List ByteArray} {i : Nat} {m : List (Value × Value)} (h : ColI w w' b d l i m) {t : ByteArray} (hf : ∀ p ∈ m, p.1 ≠ hashV t) :
    ∀ k, k < i → ∀ hk : k < l.length, hashV l[k] = hashV t → l[k] = t := fun k hk hl e => by
  obtain ⟨v, hv⟩ := h.has k hk hl
  exact (hf _ hv e).elim
/-- found: the place of a text ahead -/
theorem ColI.at_ {w w' : World} {b : Nat} {d : Int} {l : List ByteArray} {i : Nat} {m : List (Value × Value)} (h : ColI w w' b d l i m) {t : ByteArray} {v : Value} (hf : (hashV t, v) ∈ m) :
    ∃ k, k < i ∧ ∃ hk : k < l.length, hashV l[k] = hashV t ∧ v = .int .i64 ((k : Int) + d) ∧ (l[k] = t → ∀ j, j < i → ∀ hj : j < l.length, hashV l[j] = hashV t → l[j] = t) := by
  obtain ⟨k, hk, hl, e⟩ := h.from_ _ hf
  injection e with e1 e2
  exact ⟨k, hk, hl, e1.symm, e2, fun e3 j hj hlj e4 => (h.none_ j k hj hk hlj hl (e4.trans e1)).trans e3⟩
/-- what Collides tells -/
def ColPost (l : List ByteArray) (w : World) (e : Ending) (w' : World) : Prop := ∃ q : Bool, e = .returned (.bool q) ∧ (q = true ↔ Coll l) ∧ Upd (fun _ => False) w w'
theorem bytes_ne {s t : ByteArray} (h : s ≠ t) : (s.toList == t.toList) = false := by
  rw [beq_eq_false_iff_ne]
  intro e
  rw [ByteArray.toList_eq, ByteArray.toList_eq] at e
  exact h (ByteArray.ext (Array.toList_inj.1 e))
set_option maxRecDepth 100000 in
set_option maxHeartbeats 2000000 in
theorem col_c (K : KeyLawB) {w : World} {A : Option Addr} {cap bA off : Nat} {l : List ByteArray} (hm : l.length ≤ 1000000) (hA0 : 0 < l.length → A = some ⟨bA, off, none⟩)
    (hc : ∀ k (h : k < l.length), w.cell? ⟨bA, off + k, none⟩ = some (.string l[k])) (hs : ∀ x ∈ l, x.size ≤ 1000000) :
    Calls Tryz.prog 58 #[.slice A l.length cap] w (ColPost l w) := by
  have hmm := @run_makeMap Tryz.prog
  have HK := Lib.hid (And.intro K hs)
  have HC := Lib.hid hc
  have HA := Lib.hid hA0
  clear hs hc hA0 K
  go_enter Tryz.func58, Tryz.ntmps58
  go_wp2_with fail
  have hstart : ColI w (w.alloc (.map #[] 0)) w.heap.size 0 l 0 [] := ⟨MapH.new w, (Upd.refl _ w).alloc _, Nat.le_refl _, fun p hp => (by cases hp), fun k hk => (by omega), fun j k hj => (by omega)⟩
  clear hmm
  obtain ⟨mb, hmb⟩ : ∃ mb, w.heap.size = mb := ⟨_, rfl⟩
  rw [hmb] at hstart
  rw [hmb]
  go_loopw [12] (fun u wr => ∃ i m, i ≤ l.length ∧ u = .int .i64 (i : Int) ∧ ColI w wr mb 0 l i m) (fun u _ => l.length - (intOf u).toNat)
  case atStart => exact ⟨0, [], by omega, rfl, hstart⟩
  case round =>
    obtain ⟨i, m, hi, rfl, hI⟩ := hrel
    clear hstart
    have HI := Lib.hid hI
    by_cases hlt : i < l.length
    · obtain rfl := HA.out (by omega)
      have hci : wr.cell? ⟨bA, off + i, none⟩ = some (.string l[i]) := (World.cell?_of_block (w := w) (a := ⟨bA, off + i, none⟩) (hI.upd.block bA (cell_lt_c (HC.out i hlt)) id)).trans (HC.out i hlt)
      have hsz := HK.out.2 _ (List.getElem_mem hlt)
      obtain ⟨t, ht⟩ : ∃ t, l[i] = t := ⟨_, rfl⟩
      rw [ht] at hci hsz
      obtain ⟨O, hO⟩ : ∃ O, shaL t.data.toList = O := ⟨_, rfl⟩
      have hOl : O.length = 32 := by rw [← hO]; exact shaL_len _
      have hOv : hashV t = .agg (arrB O) := by unfold hashV; rw [hO]
      have Hash := Lib.hid (fun W => hash_c t hsz W)
      rw [hO] at Hash
      have HO := Lib.hid (And.intro hOl (And.intro hOv ht))
      have hi1 : (i : Int) < l.length := by omega
      have hUw := hI.upd
      have HUw := Lib.hid hUw
      clear hI hsz hO hOl hOv ht hUw
      go_upto_region 6 with (first
        | (go_at_call 148
           refine (Hash.out _).mono ?_
           rintro e w1 ⟨rfl, hU1⟩
           have HU1 := Lib.hid hU1
           clear hU1)
        | (show wpList _ _ _ (⟨none, _, _, _, _, _⟩ :: _) _ _
           refine wpList_store_all rfl 70 _ _ rfl w1.heap.size (arrB O) rfl rfl 70 _ (Blk.new w1 _ _) (by rw [arrB_size, HO.out.1]; rfl) (arrB_one _) (by rw [arrB_size, HO.out.1]; kernel_rfl) ?_
           intro w2 hB2 hU2 hz2
           have HB2 := Lib.hid (And.intro hB2 (And.intro hU2 hz2))
           clear hB2 hU2 hz2))
      have hUA : Upd (fun _ => False) w1 w2 := ((Upd.refl _ w1).alloc _).then HB2.out.2.1 (fun q e => .inr (by rw [e]; exact Nat.le_refl _))
      have hU02 : Upd (fun _ => False) w w2 := (HUw.out.then HU1.out (fun _ e => e.elim)).then hUA (fun _ e => e.elim)
      have hM2 : MapH w2 mb m := (HI.out.map.upd HU1.out id).upd hUA id
      have HS := Lib.hid (And.intro HB2.out.1 hU02)
      generalize w1.heap.size = g at *
      obtain ⟨w3, m3, hrun3, hM3, hm3, hU3, hz3⟩ := hM2.run_update HK.out.1 t (.int .i64 (i : Int))
      rw [HO.out.2.1] at hrun3
      have hU03 : Upd (fun _ => False) w w3 := hU02.then hU3 (fun q e => .inr (by rw [e]; exact HI.out.new))
      have HN : Hid ((∀ k, k < i → ∀ hk : k < l.length, hashV l[k] = hashV t → l[k] = t) → ColI w w3 mb 0 l (i + 1) m3) := Lib.hid fun hn => by
        have e := HO.out.2.2
        subst e
        exact HI.out.next hlt hn hM3 (fun p => by rw [Int.add_zero]; exact hm3 p) hU03
      have hlk := hM2.run_lookup HK.out.1 t true
      rw [HO.out.2.1] at hlk
      clear hUA hU02 hM2 hM3 hm3 hU3 hz3 hU03 HB2 HU1 hci
      rcases hlk with ⟨hf, hl⟩ | ⟨v, hf, hl⟩
      · rw [if_pos rfl] at hl
        have HF := Lib.hid (HN.out (HI.out.fresh (t := t) (fun p hp => by rw [HO.out.2.1]; exact hf p hp)))
        clear hf
        go_wp2_with (first
          | (refine wpList_load_all rfl _ _ rfl g rfl _ _ _ HS.out.1 Tryz.underlying70 rfl (by rw [arrB_size, HO.out.1]; kernel_rfl) ?_)
          | (refine wpList_mapUpdate_run rfl _ _ _ _ rfl rfl rfl rfl hrun3 ?_))
        go_roundw
        case rel => exact ⟨i + 1, m3, by omega, by go_num, HF.out⟩
        case measure => simp [intOf]; omega
      · rw [if_pos rfl] at hl
        obtain ⟨k, hk, hkl, e1, e2, e3⟩ := HI.out.at_ (t := t) (by rw [HO.out.2.1]; exact hf)
        rw [Int.add_zero] at e2
        subst e2
        have hck : w2.cell? ⟨bA, off + k, none⟩ = some (.string l[k]) := (World.cell?_of_block (w := w) (a := ⟨bA, off + k, none⟩) (HS.out.2.block bA (cell_lt_c (HC.out k hkl)) id)).trans (HC.out k hkl)
        have HE := Lib.hid (And.intro e1 e3)
        have hk0 : (0 : Int) ≤ k := by omega
        have hk1 : (k : Int) < l.length := by omega
        clear e1 e3 hf
        by_cases he : l[k] = t
        · rw [he] at hck
          have HF := Lib.hid (HN.out (HE.out.2 he))
          clear he
          go_wp2_with (first
            | (refine wpList_load_all rfl _ _ rfl g rfl _ _ _ HS.out.1 Tryz.underlying70 rfl (by rw [arrB_size, HO.out.1]; kernel_rfl) ?_)
            | (refine wpList_mapUpdate_run rfl _ _ _ _ rfl rfl rfl rfl hrun3 ?_))
          go_roundw
          case rel => exact ⟨i + 1, m3, by omega, by go_num, HF.out⟩
          case measure => simp [intOf]; omega
        · have HQ : Hid (Coll l) := Lib.hid ⟨_, List.getElem_mem hkl, _, List.getElem_mem hlt, by rw [HO.out.2.2]; exact HE.out.1, by rw [HO.out.2.2]; exact he⟩
          obtain ⟨s, hs⟩ : ∃ s, l[k] = s := ⟨_, rfl⟩
          rw [hs] at hck he
          have hb := bytes_ne he
          clear hs HE
          go_wp2_with (first
            | (refine wpList_load_all rfl _ _ rfl g rfl _ _ _ HS.out.1 Tryz.underlying70 rfl (by rw [arrB_size, HO.out.1]; kernel_rfl) ?_))
          go_ret
          exact ⟨true, rfl, ⟨fun _ => HQ.out, fun _ => rfl⟩, HS.out.2⟩
    · obtain rfl : i = l.length := by omega
      have hi1 : ¬ ((l.length : Int) < l.length) := by omega
      have HF := Lib.hid (And.intro hI.all hI.upd)
      clear hI
      go_wp2_with fail
      go_ret
      exact ⟨false, rfl, ⟨fun h => (by cases h), fun h => (HF.out.1 h).elim⟩, HF.out.2⟩
end Go.Proofs.YtdfgmieinbmfkaaGreat

/-
  The keys of a map over hashes are what a map over hashes wants.
-/
namespace Go.Proofs.YtdfgmieinbmfkaaGreat
open Go Go.RowKit Go.MapKept Go.WideMaps

theorem arrKeyB : ArrKey Tryz.prog 70 5 32 := ⟨Tryz.underlying70, by kernel_rfl, by kernel_rfl, by kernel_rfl⟩
theorem typesB : ∃ m, (Tryz.prog).types.size = m + 1 := by
  have h : Nat.ble 1 (Tryz.prog).types.size = true := by kernel_rfl
  have h := Nat.le_of_ble_eq_true h
  exact ⟨(Tryz.prog).types.size - 1, by omega⟩
theorem mapM_exB {α β : Type} {f : α → Option β} : ∀ l : List α, (∀ a ∈ l, ∃ b, f a = some b) → ∃ bs, l.mapM f = some bs := by
  intro l
  induction l with
  | nil => intro _; exact ⟨[], rfl⟩
  | cons a l ih =>
    intro h
    obtain ⟨b, hb⟩ := h a List.mem_cons_self
    obtain ⟨bs, hbs⟩ := ih fun x hx => h x (List.mem_cons_of_mem _ hx)
    exact ⟨b :: bs, by rw [List.mapM_cons, hb, hbs]; rfl⟩
theorem keyOf_hash (t : ByteArray) : ∃ l, keyOf Tryz.prog 70 (hashV t) = some l := by
  have hl := shaL_len t.data.toList
  unfold hashV
  obtain ⟨O, hO⟩ : ∃ O, shaL t.data.toList = O := ⟨_, rfl⟩
  rw [hO] at hl ⊢
  have hkt := arrKeyB.keyType typesB
  obtain ⟨m, hm⟩ := typesB
  unfold keyOf
  simp only [arrKeyB.hu]
  rw [if_pos (by simp [hkt, Value.formed, arrKeyB.hu, arrKeyB.size, arrB_size, hl]), hm]
  unfold Program.keyLits
  simp only [arrKeyB.hu, Value.cells]
  rw [if_pos (by rw [arrKeyB.size, Array.length_toList, arrB_size, hl])]
  have key : ∃ ls, ((List.range 32).mapM fun i => (Tryz.prog).keyLits (m + 1) 5 (((arrB O).toList.drop (i * (Tryz.prog).cellsOf 5)).take ((Tryz.prog).cellsOf 5))) = some ls := by
    refine mapM_exB _ fun i hi => ?_
    have hi := List.mem_range.1 hi
    have h1 : ((arrB O).toList.drop (i * 1)).take 1 = [.int .u8 (((O.getD i 0).toNat : Nat) : Int)] := by
      have : (arrB O)[i]? = some (.int .u8 ((O.getD i 0).toNat : Int)) := by simp [arrB, bytesV, show i < O.length by omega]
      rw [Nat.mul_one, List.take_one, List.head?_drop, Array.getElem?_toList, this]; rfl
    rw [arrKeyB.one, h1]
    unfold Program.keyLits
    have hw : (Lit.int .u8 (((O.getD i 0).toNat : Nat) : Int)).wf = true := by
      have := (O.getD i 0).toNat_lt
      simp only [Lit.wf, Bool.and_eq_true, decide_eq_true_eq]
      have h1 : IntKind.u8.min = 0 := rfl
      have h2 : IntKind.u8.max = 255 := rfl
      omega
    rw [show (Tryz.prog).underlying 5 = some (.int .u8) from Tryz.underlying5]
    simp only [hw, and_self, if_true]
    exact ⟨_, rfl⟩
  obtain ⟨ls, hls⟩ := key
  rw [hls]
  exact ⟨_, rfl⟩
theorem keyLawB : KeyLawB where
  check := fun w em t => by obtain ⟨l, hl⟩ := keyOf_hash t; exact arrKeyB.law.check w em hl
  find := fun w t es h => by
    obtain ⟨l, hl⟩ := keyOf_hash t
    exact arrKeyB.law.find w hl es fun e he => by
      obtain ⟨t', ht⟩ := h e he
      rw [ht]
      exact keyOf_hash t'
  stays := fun w t => by obtain ⟨l, hl⟩ := keyOf_hash t; exact arrKeyB.law.stays w hl
end Go.Proofs.YtdfgmieinbmfkaaGreat
