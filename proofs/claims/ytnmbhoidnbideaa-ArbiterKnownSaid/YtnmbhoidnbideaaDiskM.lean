/-
  The disk as plain data, what each of its calls makes of it, and how it lies in memory.
-/
import Derived.Test.YtnmbhoidnbideaaOwn
namespace Go.Proofs.Ytnmbhoidnbideaa
open Go Go.RowKit

/-- A disk: what lasts; for each sector the writes that wait; the fuse; whether the power is off. -/
structure Dk where
  lasts : List ByteArray
  waits : List (List ByteArray)
  fuse : Int
  off : Bool

namespace Dk
def at_ (d : Dk) (i : Nat) : List ByteArray := d.waits.getD i []
def last (d : Dk) (i : Nat) : ByteArray := d.lasts.getD i ByteArray.empty
def there (d : Dk) (i : Int) : Bool := decide (0 ≤ i ∧ i < d.lasts.length)
/-- what a read of a sector that is there tells. -/
def now (d : Dk) (i : Nat) : ByteArray := (d.at_ i).getLast?.getD (d.last i)
def read (d : Dk) (i : Int) : ByteArray × Int := if d.off then (ByteArray.empty, 14) else if d.there i then (d.now i.toNat, 0) else (ByteArray.empty, 1)
/-- an act: the disk behind it; is it done? -/
def burn (d : Dk) : Dk × Bool := if d.fuse = 0 then ({ d with off := true }, false) else if 0 < d.fuse then ({ d with fuse := d.fuse - 1 }, true) else (d, true)
def push (d : Dk) (i : Nat) (b : ByteArray) : Dk := { d with waits := d.waits.set i (d.at_ i ++ [b]) }
def write (d : Dk) (i : Int) (b : ByteArray) : Dk × Int :=
  if d.off then (d, 14) else if d.there i && decide (b.size = 64) then (if d.burn.2 then (d.burn.1.push i.toNat b, 0) else (d.burn.1, 14)) else (d, 1)
def flush (d : Dk) : Dk := { d with lasts := (List.range d.lasts.length).map d.now, waits := d.waits.map fun _ => [] }
def sync (d : Dk) : Dk × Int := if d.off then (d, 14) else if d.burn.2 then (d.burn.1.flush, 0) else (d.burn.1, 14)
def pend (d : Dk) : Nat := (d.waits.map List.length).sum
def setFuse (d : Dk) (n : Int) : Dk := { d with fuse := max n (-1) }

/-- What holds of every disk that was made by New. -/
structure wf (d : Dk) : Prop where
  len : d.waits.length = d.lasts.length
  pos : 1 ≤ d.lasts.length
  most : d.lasts.length ≤ 4096
  lasts : ∀ b ∈ d.lasts, b.size = 64
  waits : ∀ l ∈ d.waits, ∀ b ∈ l, b.size = 64
  fuse : -1 ≤ d.fuse
  fuse' : d.fuse ≤ 9223372036854775807
  room : d.pend < 1000000

theorem at_len {d : Dk} (i : Nat) : (d.at_ i).length ≤ d.pend := by
  unfold at_ pend
  generalize d.waits = l
  induction l generalizing i with
  | nil => simp
  | cons x l ih =>
    cases i with
    | zero => simp
    | succ i => have := ih i; simp at this ⊢; omega
theorem burn_lasts (d : Dk) : d.burn.1.lasts = d.lasts := by
  unfold burn
  split
  · rfl
  · split <;> rfl
theorem burn_waits (d : Dk) : d.burn.1.waits = d.waits := by
  unfold burn
  split
  · rfl
  · split <;> rfl
theorem burn_pend (d : Dk) : d.burn.1.pend = d.pend := by unfold pend; rw [burn_waits]
end Dk

def strs (l : List ByteArray) : List Value := l.map Value.string
theorem strs_one (l : List ByteArray) : ∀ u ∈ strs l, u.oneCell' = true := by
  intro u hu
  obtain ⟨_, _, rfl⟩ := List.mem_map.1 hu
  rfl
theorem strs_len (l : List ByteArray) : (strs l).length = l.length := by simp [strs]
theorem strs_get (l : List ByteArray) (i : Nat) : (strs l)[i]? = (l[i]?).map Value.string := by simp [strs]

abbrev intKey (i : Int) : Value := .int .i64 i

/-- The map of what waits: an entry for each sector for which something waits. -/
structure WaitsAt (w : World) (m : List (Int × Value)) (waits : List (List ByteArray)) : Prop where
  each : ∀ p ∈ m, ∃ i : Nat, p.1 = (i : Int) ∧ i < waits.length ∧ waits.getD i [] ≠ [] ∧ Own w 9 1 p.2 (waits.getD i []).length (strs (waits.getD i []))
  all : ∀ i : Nat, waits.getD i [] ≠ [] → (i : Int) ∈ m.map (·.1)

def DiskAt (w : World) (p : Nat) (d : Dk) (F : List Nat) : Prop :=
  ∃ bl cap bm m,
    Blk w p 65 #[.slice (some ⟨bl, 0, none⟩) d.lasts.length cap, .map (some bm), .int .i64 d.fuse, .bool d.off] ∧
    Own w 9 1 (.slice (some ⟨bl, 0, none⟩) d.lasts.length cap) d.lasts.length (strs d.lasts) ∧
    MapB intKey w bm m ∧ WaitsAt w m d.waits ∧ d.wf ∧ F = p :: bl :: bm :: m.filterMap (·.2.ownBlock) ∧ F.Nodup

theorem keyI : KeyIn (.int .i64) intKey := keyInt .i64

section
variable {w w' : World} {p : Nat} {d : Dk} {F : List Nat}
theorem WaitsAt.upd {m : List (Int × Value)} {waits : List (List ByteArray)} (h : WaitsAt w m waits) (hb : ∀ k ∈ m.filterMap (·.2.ownBlock), w'.heap[k]? = w.heap[k]?) : WaitsAt w' m waits := by
  refine ⟨fun q hq => ?_, h.all⟩
  obtain ⟨i, h1, h2, h3, h4⟩ := h.each q hq
  exact ⟨i, h1, h2, h3, h4.eqb fun k hk => hb k (List.mem_filterMap.2 ⟨q, hq, hk⟩)⟩
theorem DiskAt.eqb (h : DiskAt w p d F) (hb : ∀ k ∈ F, w'.heap[k]? = w.heap[k]?) : DiskAt w' p d F := by
  obtain ⟨bl, cap, bm, m, h1, h2, h3, h4, h5, rfl, h7⟩ := h
  refine ⟨bl, cap, bm, m, h1.eqb (hb p (by simp)), h2.eqb (fun k hk => hb k ?_), h3.eqb (hb bm (by simp)), h4.upd (fun k hk => hb k (by simp only [List.mem_cons]; exact .inr (.inr (.inr hk)))), h5, rfl, h7⟩
  have : k = bl := by simpa [Value.ownBlock] using hk.symm
  subst this
  simp
theorem DiskAt.lt (h : DiskAt w p d F) : ∀ k ∈ F, k < w.heap.size := by
  obtain ⟨bl, cap, bm, m, h1, h2, h3, h4, h5, rfl, h7⟩ := h
  intro k hk
  simp only [List.mem_cons, List.mem_filterMap] at hk
  rcases hk with rfl | rfl | rfl | ⟨q, hq, hk⟩
  · exact h1.lt
  · exact h2.lt (by simp [Value.ownBlock])
  · exact h3.lt
  · obtain ⟨i, _, _, _, h8⟩ := h4.each q hq
    exact h8.lt hk
theorem DiskAt.upd {G : Nat → Prop} (h : DiskAt w p d F) (hu : Upd G w w') (hn : ∀ k ∈ F, ¬ G k) : DiskAt w' p d F := h.eqb fun k hk => hu.block k (h.lt k hk) (hn k hk)
theorem DiskAt.drew (h : DiskAt w p d F) : DiskAt w.drew p d F := h.eqb fun _ _ => rfl
theorem DiskAt.alloc (h : DiskAt w p d F) (o : Obj) : DiskAt (w.alloc o) p d F := h.eqb fun k hk => Below.heap_alloc w o k (h.lt k hk)
theorem DiskAt.below (h : DiskAt w p d F) (hb : Below w.heap.size w w') : DiskAt w' p d F := h.eqb fun k hk => hb.block k (h.lt k hk)
theorem DiskAt.blk (h : DiskAt w p d F) : ∃ bl cap bm, Blk w p 65 #[.slice (some ⟨bl, 0, none⟩) d.lasts.length cap, .map (some bm), .int .i64 d.fuse, .bool d.off] := by
  obtain ⟨bl, cap, bm, _, h1, _⟩ := h
  exact ⟨bl, cap, bm, h1⟩
theorem DiskAt.wf (h : DiskAt w p d F) : d.wf := by obtain ⟨_, _, _, _, _, _, _, _, h5, _⟩ := h; exact h5
theorem DiskAt.mem (h : DiskAt w p d F) : p ∈ F := by obtain ⟨_, _, _, _, _, _, _, _, _, rfl, _⟩ := h; simp
end

/-- What a call leaves of a disk: what of its blocks it may have turned, and which are its blocks now. -/
structure Left (w w' : World) (p : Nat) (d' : Dk) (F F' : List Nat) : Prop where
  disk : DiskAt w' p d' F'
  upd : Upd (· ∈ F) w w'
  sub : ∀ k ∈ F', k ∈ F ∨ w.heap.size ≤ k

theorem Left.refl {w : World} {p : Nat} {d : Dk} {F : List Nat} (h : DiskAt w p d F) : Left w w p d F F := ⟨h, Upd.refl _ _, fun _ hk => .inl hk⟩
theorem Left.trans {w w1 w2 : World} {p : Nat} {d1 d2 : Dk} {F F1 F2 : List Nat} (h : Left w w1 p d1 F F1) (k : Left w1 w2 p d2 F1 F2) : Left w w2 p d2 F F2 :=
  ⟨k.disk, h.upd.then k.upd h.sub, fun b hb => (k.sub b hb).elim (h.sub b) (fun e => .inr (Nat.le_trans h.upd.size e))⟩
theorem Left.drew {w w1 : World} {p : Nat} {d1 : Dk} {F F1 : List Nat} (h : Left w w1 p d1 F F1) : Left w w1.drew p d1 F F1 := ⟨h.disk.drew, h.upd.drew, h.sub⟩
theorem Left.alloc {w w1 : World} {p : Nat} {d1 : Dk} {F F1 : List Nat} (h : Left w w1 p d1 F F1) (o : Obj) : Left w (w1.alloc o) p d1 F F1 := ⟨h.disk.alloc o, h.upd.alloc o, h.sub⟩
theorem Left.below {w w1 w2 : World} {p : Nat} {d1 : Dk} {F F1 : List Nat} (h : Left w w1 p d1 F F1) (hb : Below w1.heap.size w1 w2) : Left w w2 p d1 F F1 :=
  ⟨h.disk.below hb, h.upd.then (Upd.of_below hb (fun _ => False)) (fun _ e => e.elim), h.sub⟩
theorem Left.of_below {w w1 w2 : World} {p : Nat} {d1 : Dk} {F F1 : List Nat} (hb : Below w.heap.size w w1) (h : Left w1 w2 p d1 F F1) : Left w w2 p d1 F F1 :=
  ⟨h.disk, (Upd.of_below hb (· ∈ F)).then h.upd (fun _ e => .inl e), fun b hb' => (h.sub b hb').imp id (fun e => Nat.le_trans hb.size e)⟩
theorem Left.eq {w w1 : World} {p : Nat} {d1 d2 : Dk} {F F1 : List Nat} (h : Left w w1 p d1 F F1) (e : d1 = d2) : Left w w1 p d2 F F1 := e ▸ h

theorem left_fuse {w : World} {p : Nat} {d : Dk} {F : List Nat} (hD : DiskAt w p d F) (n : Int) (h1 : -1 ≤ n) (h2 : n ≤ 9223372036854775807) :
    Left w (w.setCell ⟨p, 2, none⟩ (.int .i64 n)) p { d with fuse := n } F F := by
  have hm := hD.mem
  refine ⟨?_, (Upd.refl _ _).setCell (.inl hm) _, fun _ hk => .inl hk⟩
  obtain ⟨bl, cap, bm, m, g1, g2, g3, g4, g5, rfl, g7⟩ := hD
  have hpl : p ≠ bl := fun e => by subst e; simp at g7
  have hpm : p ≠ bm := fun e => by subst e; simp at g7
  refine ⟨bl, cap, bm, m, g1.set_ 2 _, g2.far (by simpa [Value.ownBlock] using Ne.symm hpl) _, g3.far (Ne.symm hpm) _, g4.upd (fun k hk => ?_), ⟨g5.1, g5.2, g5.3, g5.4, g5.5, h1, h2, g5.8⟩, rfl, g7⟩
  exact Below.heap_setCell _ _ _ _ (fun e => by subst e; simp only [List.nodup_cons, List.mem_cons] at g7; exact g7.1 (.inr (.inr hk)))
theorem left_off {w : World} {p : Nat} {d : Dk} {F : List Nat} (hD : DiskAt w p d F) (b : Bool) :
    Left w (w.setCell ⟨p, 3, none⟩ (.bool b)) p { d with off := b } F F := by
  have hm := hD.mem
  refine ⟨?_, (Upd.refl _ _).setCell (.inl hm) _, fun _ hk => .inl hk⟩
  obtain ⟨bl, cap, bm, m, g1, g2, g3, g4, g5, rfl, g7⟩ := hD
  have hpl : p ≠ bl := fun e => by subst e; simp at g7
  have hpm : p ≠ bm := fun e => by subst e; simp at g7
  refine ⟨bl, cap, bm, m, g1.set_ 3 _, g2.far (by simpa [Value.ownBlock] using Ne.symm hpl) _, g3.far (Ne.symm hpm) _, g4.upd (fun k hk => ?_), ⟨g5.1, g5.2, g5.3, g5.4, g5.5, g5.6, g5.7, g5.8⟩, rfl, g7⟩
  exact Below.heap_setCell _ _ _ _ (fun e => by subst e; simp only [List.nodup_cons, List.mem_cons] at g7; exact g7.1 (.inr (.inr hk)))

/-- two keys of the map that lie apart own rows apart. -/
theorem nodup_filterMap_inj {β : Type} {f : β → Option Nat} : ∀ {l : List β}, (l.filterMap f).Nodup → ∀ {x y : β} {k : Nat}, x ∈ l → y ∈ l → f x = some k → f y = some k → x = y
  | [], _, _, _, _, hx, _, _, _ => by cases hx
  | z :: l, h, x, y, k, hx, hy, fx, fy => by
    have hl : (l.filterMap f).Nodup := by
      rw [List.filterMap_cons] at h
      split at h
      · exact h
      · exact (List.nodup_cons.1 h).2
    have out : f z = some k → ∀ q, q ∈ l → f q = some k → False := fun fz q hq fq => by
      rw [List.filterMap_cons, fz] at h
      exact (List.nodup_cons.1 h).1 (List.mem_filterMap.2 ⟨q, hq, fq⟩)
    rcases List.mem_cons.1 hx with ex | hx2
    · rcases List.mem_cons.1 hy with ey | hy2
      · rw [ex, ey]
      · exact (out (by rw [← ex]; exact fx) y hy2 fy).elim
    · rcases List.mem_cons.1 hy with ey | hy2
      · exact (out (by rw [← ey]; exact fy) x hx2 fx).elim
      · exact nodup_filterMap_inj hl hx2 hy2 fx fy

theorem mem_setA {α : Type} [DecidableEq α] {m : List (α × Value)} {a : α} {v : Value} {q : α × Value} (h : q ∈ setA m a v) : q = (a, v) ∨ (q ∈ m ∧ q.1 ≠ a) := by
  unfold setA at h
  split at h
  · obtain ⟨r, hr, e⟩ := List.mem_map.1 h
    split at e
    · exact .inl e.symm
    · rename_i hne
      subst e
      exact .inr ⟨hr, hne⟩
  · rename_i hna
    rcases List.mem_append.1 h with h | h
    · exact .inr ⟨h, fun e => hna (List.mem_map.2 ⟨q, h, e⟩)⟩
    · exact .inl (by simpa using h)
theorem setA_mem {α : Type} [DecidableEq α] {m : List (α × Value)} {a : α} {v : Value} : (a, v) ∈ setA m a v := by
  unfold setA
  split
  · rename_i h
    obtain ⟨r, hr, e⟩ := List.mem_map.1 h
    exact List.mem_map.2 ⟨r, hr, by simp [e]⟩
  · simp
theorem setA_keys {α : Type} [DecidableEq α] {m : List (α × Value)} {a : α} {v : Value} {x : α} (h : x ∈ m.map (·.1)) : x ∈ (setA m a v).map (·.1) := by
  unfold setA
  split
  · obtain ⟨r, hr, e⟩ := List.mem_map.1 h
    by_cases hra : r.1 = a
    · exact List.mem_map.2 ⟨(a, v), List.mem_map.2 ⟨r, hr, by simp [hra]⟩, by rw [← e, hra]⟩
    · exact List.mem_map.2 ⟨r, List.mem_map.2 ⟨r, hr, by simp [hra]⟩, e⟩
  · simp only [List.map_append, List.mem_append]
    exact .inl h
theorem nodup_filterMap_of {β : Type} {f : β → Option Nat} : ∀ {l : List β}, l.Nodup → (∀ x ∈ l, ∀ y ∈ l, ∀ k, f x = some k → f y = some k → x = y) → (l.filterMap f).Nodup
  | [], _, _ => List.nodup_nil
  | z :: l, h, hi => by
    have ih := nodup_filterMap_of (l := l) (List.nodup_cons.1 h).2 (fun x hx y hy => hi x (.tail _ hx) y (.tail _ hy))
    rw [List.filterMap_cons]
    split
    · exact ih
    · rename_i k hk
      refine List.nodup_cons.2 ⟨fun hmem => ?_, ih⟩
      obtain ⟨y, hy, fy⟩ := List.mem_filterMap.1 hmem
      have := hi z (.head _) y (.tail _ hy) k hk fy
      subst this
      exact (List.nodup_cons.1 h).1 hy

theorem Dk.wf.push {d : Dk} (h : d.wf) (k : Nat) (b : ByteArray) (hb : b.size = 64) (hp : d.pend + 1 < 1000000) : (d.push k b).wf ∧ (d.push k b).pend ≤ d.pend + 1 := by
  have hpend : (d.push k b).pend ≤ d.pend + 1 := by
    unfold Dk.pend Dk.push Dk.at_
    simp only
    generalize d.waits = l
    induction l generalizing k with
    | nil => simp
    | cons x l ih =>
      cases k with
      | zero => simp; omega
      | succ k => have := ih k; simp at this ⊢; omega
  refine ⟨⟨by simpa [Dk.push] using h.len, h.pos, h.most, h.lasts, ?_, h.fuse, h.fuse', by omega⟩, hpend⟩
  intro l hl x hx
  simp only [Dk.push] at hl
  rcases List.mem_or_eq_of_mem_set hl with hl | rfl
  · exact h.waits l hl x hx
  · rcases List.mem_append.1 hx with hx | hx
    · unfold Dk.at_ at hx
      rw [List.getD_eq_getElem?_getD] at hx
      cases hg : d.waits[k]? with
      | none => simp [hg] at hx
      | some l => rw [hg] at hx; exact h.waits l (List.mem_of_getElem? hg) x hx
    · simp at hx; rw [hx]; exact hb

theorem push_at {d : Dk} (k : Nat) (b : ByteArray) (hk : k < d.waits.length) (i : Nat) : (d.push k b).at_ i = if i = k then d.at_ k ++ [b] else d.at_ i := by
  unfold Dk.push Dk.at_
  simp only [List.getD_eq_getElem?_getD, List.getElem?_set]
  by_cases h : k = i
  · subst h; simp [hk]
  · simp [h, Ne.symm h]

/-- The disk behind a write. -/
theorem left_push {w w2 w3 : World} {p bl cap bm k : Nat} {d : Dk} {m : List (Int × Value)} {v0 v' : Value} {b : ByteArray}
    (g1 : Blk w p 65 #[.slice (some ⟨bl, 0, none⟩) d.lasts.length cap, .map (some bm), .int .i64 d.fuse, .bool d.off])
    (g2 : Own w 9 1 (.slice (some ⟨bl, 0, none⟩) d.lasts.length cap) d.lasts.length (strs d.lasts))
    (g3 : MapB intKey w bm m) (g4 : WaitsAt w m d.waits) (g5 : d.wf) (g7 : (p :: bl :: bm :: m.filterMap (·.2.ownBlock)).Nodup)
    (hk : k < d.lasts.length) (hb : b.size = 64) (hp : d.pend + 1 < 1000000)
    (hv0 : ∀ q, v0.ownBlock = some q → ((k : Int), v0) ∈ m)
    (hown : Own w2 9 1 v' ((d.at_ k).length + 1) (strs (d.at_ k ++ [b]))) (hU2 : Upd (fun q => v0.ownBlock = some q) w w2)
    (hloc : ∀ q, v'.ownBlock = some q → v0.ownBlock = some q ∨ w.heap.size ≤ q)
    (hM : MapB intKey w3 bm (setA m (k : Int) v')) (hU3 : Upd (· = bm) w2 w3) : ∃ F', Left w w3 p (d.push k b) (p :: bl :: bm :: m.filterMap (·.2.ownBlock)) F' := by
  have hF : DiskAt w p d (p :: bl :: bm :: m.filterMap (·.2.ownBlock)) := ⟨bl, cap, bm, m, g1, g2, g3, g4, g5, rfl, g7⟩
  have hlt := hF.lt
  simp only [List.nodup_cons, List.mem_cons, not_or] at g7
  obtain ⟨⟨npl, npm, npf⟩, ⟨nlm, nlf⟩, nmf, nff⟩ := g7
  have hmemF : ∀ q, v0.ownBlock = some q → q ∈ m.filterMap (·.2.ownBlock) := fun q hq => List.mem_filterMap.2 ⟨_, hv0 q hq, hq⟩
  -- what w3 still has of the blocks of w
  have keep : ∀ q, q < w.heap.size → v0.ownBlock ≠ some q → q ≠ bm → w3.heap[q]? = w.heap[q]? := fun q h1 h2 h3 => (hU3.block q (Nat.lt_of_lt_of_le h1 hU2.size) h3).trans (hU2.block q h1 h2)
  have hp0 : v0.ownBlock ≠ some p := fun e => npf (hmemF p e)
  have hl0 : v0.ownBlock ≠ some bl := fun e => nlf (hmemF bl e)
  have hm0 : v0.ownBlock ≠ some bm := fun e => nmf (hmemF bm e)
  have hbm : v'.ownBlock ≠ some bm := fun e => (hloc bm e).elim hm0 (fun h => by have := hlt bm (by simp); omega)
  have hown3 : Own w3 9 1 v' ((d.at_ k).length + 1) (strs (d.at_ k ++ [b])) := hown.upd hU3 (fun q hq e => hbm (by rw [← e]; exact hq))
  have hkw : k < d.waits.length := by rw [g5.len]; exact hk
  have hfm : ∀ q ∈ (setA m (k : Int) v').filterMap (·.2.ownBlock), q ∈ m.filterMap (·.2.ownBlock) ∨ w.heap.size ≤ q := by
    intro q hq
    obtain ⟨x, hx, fx⟩ := List.mem_filterMap.1 hq
    rcases mem_setA hx with rfl | ⟨hx, _⟩
    · exact (hloc q fx).imp (hmemF q) id
    · exact .inl (List.mem_filterMap.2 ⟨x, hx, fx⟩)
  have hW : WaitsAt w3 (setA m (k : Int) v') (d.push k b).waits := by
    refine ⟨fun q hq => ?_, fun i hi => ?_⟩
    · rcases mem_setA hq with rfl | ⟨hq, hne⟩
      · refine ⟨k, rfl, by simpa [Dk.push] using hkw, ?_, ?_⟩
        · show (d.push k b).at_ k ≠ []
          rw [push_at k b hkw]
          simp
        · show Own w3 _ 1 v' ((d.push k b).at_ k).length (strs ((d.push k b).at_ k))
          rw [push_at k b hkw, if_pos rfl]
          simpa using hown3
      · obtain ⟨i, e, hi, hne0, ho⟩ := g4.each q hq
        have hik : i ≠ k := fun h => hne (by rw [e, h])
        refine ⟨i, e, by simpa [Dk.push] using hi, ?_, ?_⟩
        · show (d.push k b).at_ i ≠ []
          rw [push_at k b hkw, if_neg hik]
          exact hne0
        · show Own w3 _ 1 q.2 ((d.push k b).at_ i).length (strs ((d.push k b).at_ i))
          rw [push_at k b hkw, if_neg hik]
          refine ho.eqb fun x hx => keep x (ho.lt hx) (fun h0 => ?_) (fun hxm => nmf (List.mem_filterMap.2 ⟨q, hq, by rw [← hxm]; exact hx⟩))
          have := nodup_filterMap_inj nff hq (hv0 x h0) hx h0
          rw [this] at hne
          exact hne rfl
    · by_cases hik : i = k
      · subst hik
        exact List.mem_map.2 ⟨_, setA_mem, rfl⟩
      · have : d.at_ i ≠ [] := by
          have h2 : (d.push k b).at_ i ≠ [] := hi
          rw [push_at k b hkw, if_neg hik] at h2
          exact h2
        exact setA_keys (g4.all i this)
  have hnd : ((setA m (k : Int) v').filterMap (·.2.ownBlock)).Nodup := by
    refine nodup_filterMap_of (nodup_of_map hM.nodup) fun x hx y hy q fx fy => ?_
    have other : ∀ y, y ∈ m → y.1 ≠ (k : Int) → y.2.ownBlock = some q → v'.ownBlock = some q → False := fun y hy hne fy fx => by
      rcases hloc q fx with h | h
      · have := nodup_filterMap_inj nff hy (hv0 q h) fy h
        rw [this] at hne
        exact hne rfl
      · have := hlt q (by simp only [List.mem_cons]; exact .inr (.inr (.inr (List.mem_filterMap.2 ⟨y, hy, fy⟩))))
        omega
    rcases mem_setA hx with rfl | ⟨hx, hxn⟩
    · rcases mem_setA hy with rfl | ⟨hy, hyn⟩
      · rfl
      · exact (other y hy hyn fy fx).elim
    · rcases mem_setA hy with rfl | ⟨hy, hyn⟩
      · exact (other x hx hxn fx fy).elim
      · exact nodup_filterMap_inj nff hx hy fx fy
  have lp := hlt p (by simp)
  have ll := hlt bl (by simp)
  have lm := hlt bm (by simp)
  refine ⟨p :: bl :: bm :: (setA m (k : Int) v').filterMap (·.2.ownBlock), ⟨bl, cap, bm, setA m (k : Int) v', g1.eqb (keep p lp hp0 npm), g2.eqb (fun q hq => ?_), hM, hW, (g5.push k b hb hp).1, rfl, ?_⟩, hU2.trans hU3 ?_ ?_, ?_⟩
  · have : q = bl := by simpa [Value.ownBlock] using hq.symm
    subst this
    exact keep q ll hl0 nlm
  · simp only [List.nodup_cons, List.mem_cons, not_or]
    exact ⟨⟨npl, npm, fun h => (hfm p h).elim npf (fun h => by omega)⟩, ⟨nlm, fun h => (hfm bl h).elim nlf (fun h => by omega)⟩, fun h => (hfm bm h).elim nmf (fun h => by omega), hnd⟩
  · intro q hq
    simp only [List.mem_cons]
    exact .inr (.inr (.inr (hmemF q hq)))
  · rintro q rfl
    exact .inl (by simp)
  · intro q hq
    simp only [List.mem_cons] at hq ⊢
    rcases hq with rfl | rfl | rfl | hq
    · exact .inl (.inl rfl)
    · exact .inl (.inr (.inl rfl))
    · exact .inl (.inr (.inr (.inl rfl)))
    · exact (hfm q hq).imp (fun h => .inr (.inr (.inr h))) id
end Go.Proofs.Ytnmbhoidnbideaa
