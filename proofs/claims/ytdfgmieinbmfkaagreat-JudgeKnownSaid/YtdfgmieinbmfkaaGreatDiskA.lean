/-
  The disk as plain data, what each of its calls makes of it, and how it lies in memory.
-/
import Derived.Test.YtdfgmieinbmfkaaGreatOwn
import Derived.Test.YtdfgmieinbmfkaaGreatProg
import Derived.Deep.RegionHeld3
import Derived.Maps.RangeWalk
namespace Go.Proofs.YtdfgmieinbmfkaaGreat
open Go Go.RowKit

/-- A disk: what lasts; for each sector the writes that wait; the fuse; whether the power is off. -/
structure Dk where
  lasts : List ByteArray
  waits : List (List ByteArray)
  fuse : Int
  off : Bool

namespace Dk
def at_ (d : Dk) (i : Nat) : List ByteArray := d.waits.getD i []
def last (d : Dk) (i : Nat) : ByteArray := d.lasts.getD i ByteArray.empty
def there (d : Dk) (i : Int) : Bool := decide (0 ≤ i ∧ i < d.lasts.length)
/-- what a read of a sector that is there tells. -/
def now (d : Dk) (i : Nat) : ByteArray := (d.at_ i).getLast?.getD (d.last i)
def read (d : Dk) (i : Int) : ByteArray × Int := if d.off then (ByteArray.empty, 14) else if d.there i then (d.now i.toNat, 0) else (ByteArray.empty, 1)
/-- an act: the disk behind it; is it done? -/
def burn (d : Dk) : Dk × Bool := if d.fuse = 0 then ({ d with off := true }, false) else if 0 < d.fuse then ({ d with fuse := d.fuse - 1 }, true) else (d, true)
def push (d : Dk) (i : Nat) (b : ByteArray) : Dk := { d with waits := d.waits.set i (d.at_ i ++ [b]) }
def write (d : Dk) (i : Int) (b : ByteArray) : Dk × Int :=
  if d.off then (d, 14) else if d.there i && decide (b.size = 64) then (if d.burn.2 then (d.burn.1.push i.toNat b, 0) else (d.burn.1, 14)) else (d, 1)
def flush (d : Dk) : Dk := { d with lasts := (List.range d.lasts.length).map d.now, waits := d.waits.map fun _ => [] }
def sync (d : Dk) : Dk × Int := if d.off then (d, 14) else if d.burn.2 then (d.burn.1.flush, 0) else (d.burn.1, 14)
def pend (d : Dk) : Nat := (d.waits.map List.length).sum
def setFuse (d : Dk) (n : Int) : Dk := { d with fuse := max n (-1) }

/-- What holds of every disk that was made by New. -/
structure wf (d : Dk) : Prop where
  len : d.waits.length = d.lasts.length
  pos : 1 ≤ d.lasts.length
  most : d.lasts.length ≤ 4096
  lasts : ∀ b ∈ d.lasts, b.size = 64
  waits : ∀ l ∈ d.waits, ∀ b ∈ l, b.size = 64
  fuse : -1 ≤ d.fuse
  fuse' : d.fuse ≤ 9223372036854775807
  room : d.pend < 1000000

theorem at_len {d : Dk} (i : Nat) : (d.at_ i).length ≤ d.pend := by
  unfold at_ pend
  generalize d.waits = l
  induction l generalizing i with
  | nil => simp
  | cons x l ih =>
    cases i with
    | zero => simp
    | succ i => have := ih i; simp at this ⊢; omega
theorem burn_lasts (d : Dk) : d.burn.1.lasts = d.lasts := by
  unfold burn
  split
  · rfl
  · split <;> rfl
theorem burn_waits (d : Dk) : d.burn.1.waits = d.waits := by
  unfold burn
  split
  · rfl
  · split <;> rfl
theorem burn_pend (d : Dk) : d.burn.1.pend = d.pend := by unfold pend; rw [burn_waits]
end Dk

def strs (l : List ByteArray) : List Value := l.map Value.string
theorem strs_one (l : List ByteArray) : ∀ u ∈ strs l, u.oneCell' = true := by
  intro u hu
  obtain ⟨_, _, rfl⟩ := List.mem_map.1 hu
  rfl
theorem strs_len (l : List ByteArray) : (strs l).length = l.length := by simp [strs]
theorem strs_get (l : List ByteArray) (i : Nat) : (strs l)[i]? = (l[i]?).map Value.string := by simp [strs]

abbrev intKey (i : Int) : Value := .int .i64 i

/-- The map of what waits: an entry for each sector for which something waits. -/
structure WaitsAt (w : World) (m : List (Int × Value)) (waits : List (List ByteArray)) : Prop where
  each : ∀ p ∈ m, ∃ i : Nat, p.1 = (i : Int) ∧ i < waits.length ∧ waits.getD i [] ≠ [] ∧ Own w 9 1 p.2 (waits.getD i []).length (strs (waits.getD i []))
  all : ∀ i : Nat, waits.getD i [] ≠ [] → (i : Int) ∈ m.map (·.1)

def DiskAt (w : World) (p : Nat) (d : Dk) (F : List Nat) : Prop :=
  ∃ bl cap bm m,
    Blk w p 172 #[.slice (some ⟨bl, 0, none⟩) d.lasts.length cap, .map (some bm), .int .i64 d.fuse, .bool d.off] ∧
    Own w 9 1 (.slice (some ⟨bl, 0, none⟩) d.lasts.length cap) d.lasts.length (strs d.lasts) ∧
    MapB intKey w bm m ∧ WaitsAt w m d.waits ∧ d.wf ∧ F = p :: bl :: bm :: m.filterMap (·.2.ownBlock) ∧ F.Nodup

theorem keyI : KeyIn (.int .i64) intKey := keyInt .i64

section
variable {w w' : World} {p : Nat} {d : Dk} {F : List Nat}
theorem WaitsAt.upd {m : List (Int × Value)} {waits : List (List ByteArray)} (h : WaitsAt w m waits) (hb : ∀ k ∈ m.filterMap (·.2.ownBlock), w'.heap[k]? = w.heap[k]?) : WaitsAt w' m waits := by
  refine ⟨fun q hq => ?_, h.all⟩
  obtain ⟨i, h1, h2, h3, h4⟩ := h.each q hq
  exact ⟨i, h1, h2, h3, h4.eqb fun k hk => hb k (List.mem_filterMap.2 ⟨q, hq, hk⟩)⟩
theorem DiskAt.eqb (h : DiskAt w p d F) (hb : ∀ k ∈ F, w'.heap[k]? = w.heap[k]?) : DiskAt w' p d F := by
  obtain ⟨bl, cap, bm, m, h1, h2, h3, h4, h5, rfl, h7⟩ := h
  refine ⟨bl, cap, bm, m, h1.eqb (hb p (by simp)), h2.eqb (fun k hk => hb k ?_), h3.eqb (hb bm (by simp)), h4.upd (fun k hk => hb k (by simp only [List.mem_cons]; exact .inr (.inr (.inr hk)))), h5, rfl, h7⟩
  have : k = bl := by simpa [Value.ownBlock] using hk.symm
  subst this
  simp
theorem DiskAt.lt (h : DiskAt w p d F) : ∀ k ∈ F, k < w.heap.size := by
  obtain ⟨bl, cap, bm, m, h1, h2, h3, h4, h5, rfl, h7⟩ := h
  intro k hk
  simp only [List.mem_cons, List.mem_filterMap] at hk
  rcases hk with rfl | rfl | rfl | ⟨q, hq, hk⟩
  · exact h1.lt
  · exact h2.lt (by simp [Value.ownBlock])
  · exact h3.lt
  · obtain ⟨i, _, _, _, h8⟩ := h4.each q hq
    exact h8.lt hk
theorem DiskAt.upd {G : Nat → Prop} (h : DiskAt w p d F) (hu : Upd G w w') (hn : ∀ k ∈ F, ¬ G k) : DiskAt w' p d F := h.eqb fun k hk => hu.block k (h.lt k hk) (hn k hk)
theorem DiskAt.drew (h : DiskAt w p d F) : DiskAt w.drew p d F := h.eqb fun _ _ => rfl
theorem DiskAt.alloc (h : DiskAt w p d F) (o : Obj) : DiskAt (w.alloc o) p d F := h.eqb fun k hk => Below.heap_alloc w o k (h.lt k hk)
theorem DiskAt.below (h : DiskAt w p d F) (hb : Below w.heap.size w w') : DiskAt w' p d F := h.eqb fun k hk => hb.block k (h.lt k hk)
theorem DiskAt.blk (h : DiskAt w p d F) : ∃ bl cap bm, Blk w p 172 #[.slice (some ⟨bl, 0, none⟩) d.lasts.length cap, .map (some bm), .int .i64 d.fuse, .bool d.off] := by
  obtain ⟨bl, cap, bm, _, h1, _⟩ := h
  exact ⟨bl, cap, bm, h1⟩
theorem DiskAt.wf (h : DiskAt w p d F) : d.wf := by obtain ⟨_, _, _, _, _, _, _, _, h5, _⟩ := h; exact h5
theorem DiskAt.mem (h : DiskAt w p d F) : p ∈ F := by obtain ⟨_, _, _, _, _, _, _, _, _, rfl, _⟩ := h; simp
end

/-- What a call leaves of a disk: what of its blocks it may have turned, and which are its blocks now. -/
structure Left (w w' : World) (p : Nat) (d' : Dk) (F F' : List Nat) : Prop where
  disk : DiskAt w' p d' F'
  upd : Upd (· ∈ F) w w'
  sub : ∀ k ∈ F', k ∈ F ∨ w.heap.size ≤ k

theorem Left.refl {w : World} {p : Nat} {d : Dk} {F : List Nat} (h : DiskAt w p d F) : Left w w p d F F := ⟨h, Upd.refl _ _, fun _ hk => .inl hk⟩
theorem Left.trans {w w1 w2 : World} {p : Nat} {d1 d2 : Dk} {F F1 F2 : List Nat} (h : Left w w1 p d1 F F1) (k : Left w1 w2 p d2 F1 F2) : Left w w2 p d2 F F2 :=
  ⟨k.disk, h.upd.then k.upd h.sub, fun b hb => (k.sub b hb).elim (h.sub b) (fun e => .inr (Nat.le_trans h.upd.size e))⟩
theorem Left.drew {w w1 : World} {p : Nat} {d1 : Dk} {F F1 : List Nat} (h : Left w w1 p d1 F F1) : Left w w1.drew p d1 F F1 := ⟨h.disk.drew, h.upd.drew, h.sub⟩
theorem Left.alloc {w w1 : World} {p : Nat} {d1 : Dk} {F F1 : List Nat} (h : Left w w1 p d1 F F1) (o : Obj) : Left w (w1.alloc o) p d1 F F1 := ⟨h.disk.alloc o, h.upd.alloc o, h.sub⟩
theorem Left.below {w w1 w2 : World} {p : Nat} {d1 : Dk} {F F1 : List Nat} (h : Left w w1 p d1 F F1) (hb : Below w1.heap.size w1 w2) : Left w w2 p d1 F F1 :=
  ⟨h.disk.below hb, h.upd.then (Upd.of_below hb (fun _ => False)) (fun _ e => e.elim), h.sub⟩
theorem Left.of_below {w w1 w2 : World} {p : Nat} {d1 : Dk} {F F1 : List Nat} (hb : Below w.heap.size w w1) (h : Left w1 w2 p d1 F F1) : Left w w2 p d1 F F1 :=
  ⟨h.disk, (Upd.of_below hb (· ∈ F)).then h.upd (fun _ e => .inl e), fun b hb' => (h.sub b hb').imp id (fun e => Nat.le_trans hb.size e)⟩
theorem Left.eq {w w1 : World} {p : Nat} {d1 d2 : Dk} {F F1 : List Nat} (h : Left w w1 p d1 F F1) (e : d1 = d2) : Left w w1 p d2 F F1 := e ▸ h

theorem left_fuse {w : World} {p : Nat} {d : Dk} {F : List Nat} (hD : DiskAt w p d F) (n : Int) (h1 : -1 ≤ n) (h2 : n ≤ 9223372036854775807) :
    Left w (w.setCell ⟨p, 2, none⟩ (.int .i64 n)) p { d with fuse := n } F F := by
  have hm := hD.mem
  refine ⟨?_, (Upd.refl _ _).setCell (.inl hm) _, fun _ hk => .inl hk⟩
  obtain ⟨bl, cap, bm, m, g1, g2, g3, g4, g5, rfl, g7⟩ := hD
  have hpl : p ≠ bl := fun e => by subst e; simp at g7
  have hpm : p ≠ bm := fun e => by subst e; simp at g7
  refine ⟨bl, cap, bm, m, g1.set_ 2 _, g2.far (by simpa [Value.ownBlock] using Ne.symm hpl) _, g3.far (Ne.symm hpm) _, g4.upd (fun k hk => ?_), ⟨g5.1, g5.2, g5.3, g5.4, g5.5, h1, h2, g5.8⟩, rfl, g7⟩
  exact Below.heap_setCell _ _ _ _ (fun e => by subst e; simp only [List.nodup_cons, List.mem_cons] at g7; exact g7.1 (.inr (.inr hk)))
theorem left_off {w : World} {p : Nat} {d : Dk} {F : List Nat} (hD : DiskAt w p d F) (b : Bool) :
    Left w (w.setCell ⟨p, 3, none⟩ (.bool b)) p { d with off := b } F F := by
  have hm := hD.mem
  refine ⟨?_, (Upd.refl _ _).setCell (.inl hm) _, fun _ hk => .inl hk⟩
  obtain ⟨bl, cap, bm, m, g1, g2, g3, g4, g5, rfl, g7⟩ := hD
  have hpl : p ≠ bl := fun e => by subst e; simp at g7
  have hpm : p ≠ bm := fun e => by subst e; simp at g7
  refine ⟨bl, cap, bm, m, g1.set_ 3 _, g2.far (by simpa [Value.ownBlock] using Ne.symm hpl) _, g3.far (Ne.symm hpm) _, g4.upd (fun k hk => ?_), ⟨g5.1, g5.2, g5.3, g5.4, g5.5, g5.6, g5.7, g5.8⟩, rfl, g7⟩
  exact Below.heap_setCell _ _ _ _ (fun e => by subst e; simp only [List.nodup_cons, List.mem_cons] at g7; exact g7.1 (.inr (.inr hk)))

/-- two keys of the map that lie apart own rows apart. -/
theorem nodup_filterMap_inj {β : Type} {f : β → Option Nat} : ∀ {l : List β}, (l.filterMap f).Nodup → ∀ {x y : β} {k : Nat}, x ∈ l → y ∈ l → f x = some k → f y = some k → x = y
  | [], _, _, _, _, hx, _, _, _ => by cases hx
  | z :: l, h, x, y, k, hx, hy, fx, fy => by
    have hl : (l.filterMap f).Nodup := by
      rw [List.filterMap_cons] at h
      split at h
      · exact h
      · exact (List.nodup_cons.1 h).2
    have out : f z = some k → ∀ q, q ∈ l → f q = some k → False := fun fz q hq fq => by
      rw [List.filterMap_cons, fz] at h
      exact (List.nodup_cons.1 h).1 (List.mem_filterMap.2 ⟨q, hq, fq⟩)
    rcases List.mem_cons.1 hx with ex | hx2
    · rcases List.mem_cons.1 hy with ey | hy2
      · rw [ex, ey]
      · exact (out (by rw [← ex]; exact fx) y hy2 fy).elim
    · rcases List.mem_cons.1 hy with ey | hy2
      · exact (out (by rw [← ey]; exact fy) x hx2 fx).elim
      · exact nodup_filterMap_inj hl hx2 hy2 fx fy

theorem mem_setA {α : Type} [DecidableEq α] {m : List (α × Value)} {a : α} {v : Value} {q : α × Value} (h : q ∈ setA m a v) : q = (a, v) ∨ (q ∈ m ∧ q.1 ≠ a) := by
  unfold setA at h
  split at h
  · obtain ⟨r, hr, e⟩ := List.mem_map.1 h
    split at e
    · exact .inl e.symm
    · rename_i hne
      subst e
      exact .inr ⟨hr, hne⟩
  · rename_i hna
    rcases List.mem_append.1 h with h | h
    · exact .inr ⟨h, fun e => hna (List.mem_map.2 ⟨q, h, e⟩)⟩
    · exact .inl (by simpa using h)
theorem setA_mem {α : Type} [DecidableEq α] {m : List (α × Value)} {a : α} {v : Value} : (a, v) ∈ setA m a v := by
  unfold setA
  split
  · rename_i h
    obtain ⟨r, hr, e⟩ := List.mem_map.1 h
    exact List.mem_map.2 ⟨r, hr, by simp [e]⟩
  · simp
theorem setA_keys {α : Type} [DecidableEq α] {m : List (α × Value)} {a : α} {v : Value} {x : α} (h : x ∈ m.map (·.1)) : x ∈ (setA m a v).map (·.1) := by
  unfold setA
  split
  · obtain ⟨r, hr, e⟩ := List.mem_map.1 h
    by_cases hra : r.1 = a
    · exact List.mem_map.2 ⟨(a, v), List.mem_map.2 ⟨r, hr, by simp [hra]⟩, by rw [← e, hra]⟩
    · exact List.mem_map.2 ⟨r, List.mem_map.2 ⟨r, hr, by simp [hra]⟩, e⟩
  · simp only [List.map_append, List.mem_append]
    exact .inl h
theorem nodup_filterMap_of {β : Type} {f : β → Option Nat} : ∀ {l : List β}, l.Nodup → (∀ x ∈ l, ∀ y ∈ l, ∀ k, f x = some k → f y = some k → x = y) → (l.filterMap f).Nodup
  | [], _, _ => List.nodup_nil
  | z :: l, h, hi => by
    have ih := nodup_filterMap_of (l := l) (List.nodup_cons.1 h).2 (fun x hx y hy => hi x (.tail _ hx) y (.tail _ hy))
    rw [List.filterMap_cons]
    split
    · exact ih
    · rename_i k hk
      refine List.nodup_cons.2 ⟨fun hmem => ?_, ih⟩
      obtain ⟨y, hy, fy⟩ := List.mem_filterMap.1 hmem
      have := hi z (.head _) y (.tail _ hy) k hk fy
      subst this
      exact (List.nodup_cons.1 h).1 hy

theorem Dk.wf.push {d : Dk} (h : d.wf) (k : Nat) (b : ByteArray) (hb : b.size = 64) (hp : d.pend + 1 < 1000000) : (d.push k b).wf ∧ (d.push k b).pend ≤ d.pend + 1 := by
  have hpend : (d.push k b).pend ≤ d.pend + 1 := by
    unfold Dk.pend Dk.push Dk.at_
    simp only
    generalize d.waits = l
    induction l generalizing k with
    | nil => simp
    | cons x l ih =>
      cases k with
      | zero => simp; omega
      | succ k => have := ih k; simp at this ⊢; omega
  refine ⟨⟨by simpa [Dk.push] using h.len, h.pos, h.most, h.lasts, ?_, h.fuse, h.fuse', by omega⟩, hpend⟩
  intro l hl x hx
  simp only [Dk.push] at hl
  rcases List.mem_or_eq_of_mem_set hl with hl | rfl
  · exact h.waits l hl x hx
  · rcases List.mem_append.1 hx with hx | hx
    · unfold Dk.at_ at hx
      rw [List.getD_eq_getElem?_getD] at hx
      cases hg : d.waits[k]? with
      | none => simp [hg] at hx
      | some l => rw [hg] at hx; exact h.waits l (List.mem_of_getElem? hg) x hx
    · simp at hx; rw [hx]; exact hb

theorem push_at {d : Dk} (k : Nat) (b : ByteArray) (hk : k < d.waits.length) (i : Nat) : (d.push k b).at_ i = if i = k then d.at_ k ++ [b] else d.at_ i := by
  unfold Dk.push Dk.at_
  simp only [List.getD_eq_getElem?_getD, List.getElem?_set]
  by_cases h : k = i
  · subst h; simp [hk]
  · simp [h, Ne.symm h]

/-- The disk behind a write. -/
theorem left_push {w w2 w3 : World} {p bl cap bm k : Nat} {d : Dk} {m : List (Int × Value)} {v0 v' : Value} {b : ByteArray}
    (g1 : Blk w p 172 #[.slice (some ⟨bl, 0, none⟩) d.lasts.length cap, .map (some bm), .int .i64 d.fuse, .bool d.off])
    (g2 : Own w 9 1 (.slice (some ⟨bl, 0, none⟩) d.lasts.length cap) d.lasts.length (strs d.lasts))
    (g3 : MapB intKey w bm m) (g4 : WaitsAt w m d.waits) (g5 : d.wf) (g7 : (p :: bl :: bm :: m.filterMap (·.2.ownBlock)).Nodup)
    (hk : k < d.lasts.length) (hb : b.size = 64) (hp : d.pend + 1 < 1000000)
    (hv0 : ∀ q, v0.ownBlock = some q → ((k : Int), v0) ∈ m)
    (hown : Own w2 9 1 v' ((d.at_ k).length + 1) (strs (d.at_ k ++ [b]))) (hU2 : Upd (fun q => v0.ownBlock = some q) w w2)
    (hloc : ∀ q, v'.ownBlock = some q → v0.ownBlock = some q ∨ w.heap.size ≤ q)
    (hM : MapB intKey w3 bm (setA m (k : Int) v')) (hU3 : Upd (· = bm) w2 w3) : ∃ F', Left w w3 p (d.push k b) (p :: bl :: bm :: m.filterMap (·.2.ownBlock)) F' := by
  have hF : DiskAt w p d (p :: bl :: bm :: m.filterMap (·.2.ownBlock)) := ⟨bl, cap, bm, m, g1, g2, g3, g4, g5, rfl, g7⟩
  have hlt := hF.lt
  simp only [List.nodup_cons, List.mem_cons, not_or] at g7
  obtain ⟨⟨npl, npm, npf⟩, ⟨nlm, nlf⟩, nmf, nff⟩ := g7
  have hmemF : ∀ q, v0.ownBlock = some q → q ∈ m.filterMap (·.2.ownBlock) := fun q hq => List.mem_filterMap.2 ⟨_, hv0 q hq, hq⟩
  -- what w3 still has of the blocks of w
  have keep : ∀ q, q < w.heap.size → v0.ownBlock ≠ some q → q ≠ bm → w3.heap[q]? = w.heap[q]? := fun q h1 h2 h3 => (hU3.block q (Nat.lt_of_lt_of_le h1 hU2.size) h3).trans (hU2.block q h1 h2)
  have hp0 : v0.ownBlock ≠ some p := fun e => npf (hmemF p e)
  have hl0 : v0.ownBlock ≠ some bl := fun e => nlf (hmemF bl e)
  have hm0 : v0.ownBlock ≠ some bm := fun e => nmf (hmemF bm e)
  have hbm : v'.ownBlock ≠ some bm := fun e => (hloc bm e).elim hm0 (fun h => by have := hlt bm (by simp); omega)
  have hown3 : Own w3 9 1 v' ((d.at_ k).length + 1) (strs (d.at_ k ++ [b])) := hown.upd hU3 (fun q hq e => hbm (by rw [← e]; exact hq))
  have hkw : k < d.waits.length := by rw [g5.len]; exact hk
  have hfm : ∀ q ∈ (setA m (k : Int) v').filterMap (·.2.ownBlock), q ∈ m.filterMap (·.2.ownBlock) ∨ w.heap.size ≤ q := by
    intro q hq
    obtain ⟨x, hx, fx⟩ := List.mem_filterMap.1 hq
    rcases mem_setA hx with rfl | ⟨hx, _⟩
    · exact (hloc q fx).imp (hmemF q) id
    · exact .inl (List.mem_filterMap.2 ⟨x, hx, fx⟩)
  have hW : WaitsAt w3 (setA m (k : Int) v') (d.push k b).waits := by
    refine ⟨fun q hq => ?_, fun i hi => ?_⟩
    · rcases mem_setA hq with rfl | ⟨hq, hne⟩
      · refine ⟨k, rfl, by simpa [Dk.push] using hkw, ?_, ?_⟩
        · show (d.push k b).at_ k ≠ []
          rw [push_at k b hkw]
          simp
        · show Own w3 _ 1 v' ((d.push k b).at_ k).length (strs ((d.push k b).at_ k))
          rw [push_at k b hkw, if_pos rfl]
          simpa using hown3
      · obtain ⟨i, e, hi, hne0, ho⟩ := g4.each q hq
        have hik : i ≠ k := fun h => hne (by rw [e, h])
        refine ⟨i, e, by simpa [Dk.push] using hi, ?_, ?_⟩
        · show (d.push k b).at_ i ≠ []
          rw [push_at k b hkw, if_neg hik]
          exact hne0
        · show Own w3 _ 1 q.2 ((d.push k b).at_ i).length (strs ((d.push k b).at_ i))
          rw [push_at k b hkw, if_neg hik]
          refine ho.eqb fun x hx => keep x (ho.lt hx) (fun h0 => ?_) (fun hxm => nmf (List.mem_filterMap.2 ⟨q, hq, by rw [← hxm]; exact hx⟩))
          have := nodup_filterMap_inj nff hq (hv0 x h0) hx h0
          rw [this] at hne
          exact hne rfl
    · by_cases hik : i = k
      · subst hik
        exact List.mem_map.2 ⟨_, setA_mem, rfl⟩
      · have : d.at_ i ≠ [] := by
          have h2 : (d.push k b).at_ i ≠ [] := hi
          rw [push_at k b hkw, if_neg hik] at h2
          exact h2
        exact setA_keys (g4.all i this)
  have hnd : ((setA m (k : Int) v').filterMap (·.2.ownBlock)).Nodup := by
    refine nodup_filterMap_of (nodup_of_map hM.nodup) fun x hx y hy q fx fy => ?_
    have other : ∀ y, y ∈ m → y.1 ≠ (k : Int) → y.2.ownBlock = some q → v'.ownBlock = some q → False := fun y hy hne fy fx => by
      rcases hloc q fx with h | h
      · have := nodup_filterMap_inj nff hy (hv0 q h) fy h
        rw [this] at hne
        exact hne rfl
      · have := hlt q (by simp only [List.mem_cons]; exact .inr (.inr (.inr (List.mem_filterMap.2 ⟨y, hy, fy⟩))))
        omega
    rcases mem_setA hx with rfl | ⟨hx, hxn⟩
    · rcases mem_setA hy with rfl | ⟨hy, hyn⟩
      · rfl
      · exact (other y hy hyn fy fx).elim
    · rcases mem_setA hy with rfl | ⟨hy, hyn⟩
      · exact (other x hx hxn fx fy).elim
      · exact nodup_filterMap_inj nff hx hy fx fy
  have lp := hlt p (by simp)
  have ll := hlt bl (by simp)
  have lm := hlt bm (by simp)
  refine ⟨p :: bl :: bm :: (setA m (k : Int) v').filterMap (·.2.ownBlock), ⟨bl, cap, bm, setA m (k : Int) v', g1.eqb (keep p lp hp0 npm), g2.eqb (fun q hq => ?_), hM, hW, (g5.push k b hb hp).1, rfl, ?_⟩, hU2.trans hU3 ?_ ?_, ?_⟩
  · have : q = bl := by simpa [Value.ownBlock] using hq.symm
    subst this
    exact keep q ll hl0 nlm
  · simp only [List.nodup_cons, List.mem_cons, not_or]
    exact ⟨⟨npl, npm, fun h => (hfm p h).elim npf (fun h => by omega)⟩, ⟨nlm, fun h => (hfm bl h).elim nlf (fun h => by omega)⟩, fun h => (hfm bm h).elim nmf (fun h => by omega), hnd⟩
  · intro q hq
    simp only [List.mem_cons]
    exact .inr (.inr (.inr (hmemF q hq)))
  · rintro q rfl
    exact .inl (by simp)
  · intro q hq
    simp only [List.mem_cons] at hq ⊢
    rcases hq with rfl | rfl | rfl | hq
    · exact .inl (.inl rfl)
    · exact .inl (.inr (.inl rfl))
    · exact .inl (.inr (.inr (.inl rfl)))
    · exact (hfm q hq).imp (fun h => .inr (.inr (.inr h))) id
end Go.Proofs.YtdfgmieinbmfkaaGreat

/-
  The disk's calls that only look, and those that write a field: each by its contract.
-/
namespace Go.Proofs.YtdfgmieinbmfkaaGreat
open Go Go.RowKit

theorem neqMapNil (w : World) (r : Option Nat) : (binOp .eql 170 (.map r) (.map none)).run Tryz.prog w = .ok (.bool r.isNone) w :=
  run_eql_map_nil w _ _ _ r Tryz.underlying170

set_option maxRecDepth 100000 in
theorem none_c {w : World} {p : Nat} {d : Dk} {F : List Nat} (hD : DiskAt w p d F) :
    Calls Tryz.prog 103 #[.pointer (some ⟨p, 0, none⟩)] w fun e w' => e = .returned (.bool false) ∧ w = w' := by
  obtain ⟨bl, cap, bm, h1⟩ := hD.blk
  clear hD
  have hc := h1.cells4
  have hm := neqMapNil w (some bm)
  clear h1
  go_enter Tryz.func103, Tryz.ntmps103
  go_wp2
  go_ret
  exact ⟨rfl, rfl⟩

set_option maxRecDepth 100000 in
theorem out_up {w : World} {p : Nat} {d : Dk} {F : List Nat} (hD : DiskAt w p d F) (hoff : d.off = false) :
    Calls Tryz.prog 392 #[.pointer (some ⟨p, 0, none⟩)] w fun e w' => e = .returned (.int .i64 0) ∧ w = w' := by
  have hn := none_c hD
  obtain ⟨bl, cap, bm, h1⟩ := hD.blk
  clear hD
  rw [hoff] at h1
  have hc := h1.cells4
  have Hn := Lib.hid hn
  clear h1 hn
  go_enter Tryz.func392, Tryz.ntmps392
  go_wp2_with (go_at_call 103; refine Hn.out.mono ?_; rintro e w' ⟨rfl, rfl⟩)
  go_ret
  exact ⟨rfl, rfl⟩

set_option maxRecDepth 100000 in
theorem out_down {w : World} {p : Nat} {d : Dk} {F : List Nat} (hD : DiskAt w p d F) (hoff : d.off = true) :
    Calls Tryz.prog 392 #[.pointer (some ⟨p, 0, none⟩)] w fun e w' => e = .returned (.int .i64 14) ∧ w = w' := by
  have hn := none_c hD
  obtain ⟨bl, cap, bm, h1⟩ := hD.blk
  clear hD
  rw [hoff] at h1
  have hc := h1.cells4
  have Hn := Lib.hid hn
  clear h1 hn
  go_enter Tryz.func392, Tryz.ntmps392
  go_wp2_with (go_at_call 103; refine Hn.out.mono ?_; rintro e w' ⟨rfl, rfl⟩)
  go_ret
  exact ⟨rfl, rfl⟩

set_option maxRecDepth 100000 in
theorem there_c {w : World} {p : Nat} {d : Dk} {F : List Nat} (hD : DiskAt w p d F) (i : Int) :
    Calls Tryz.prog 393 #[.pointer (some ⟨p, 0, none⟩), .int .i64 i] w fun e w' => e = .returned (.bool (d.there i)) ∧ w = w' := by
  have hmost := hD.wf.most
  obtain ⟨bl, cap, bm, h1⟩ := hD.blk
  clear hD
  have hc := h1.cells4
  clear h1
  have HT : Hid (d.there i = decide (0 ≤ i ∧ i < d.lasts.length)) := rfl
  generalize d.there i = r at HT
  by_cases h0 : 0 ≤ i
  · go_enter Tryz.func393, Tryz.ntmps393
    go_wp2
    go_ret
    exact ⟨by rw [HT.out]; simp [h0], rfl⟩
  · go_enter Tryz.func393, Tryz.ntmps393
    go_wp2
    go_ret
    exact ⟨by rw [HT.out]; simp; omega, rfl⟩

set_option maxRecDepth 100000 in
theorem sectors_c {w : World} {p : Nat} {d : Dk} {F : List Nat} (hD : DiskAt w p d F) :
    Calls Tryz.prog 225 #[.pointer (some ⟨p, 0, none⟩)] w fun e w' => e = .returned (.int .i64 d.lasts.length) ∧ w = w' := by
  have hn := none_c hD
  obtain ⟨bl, cap, bm, h1⟩ := hD.blk
  clear hD
  have hc := h1.cells4
  have Hn := Lib.hid hn
  clear h1 hn
  go_enter Tryz.func225, Tryz.ntmps225
  go_wp2_with (go_at_call 103; refine Hn.out.mono ?_; rintro e w' ⟨rfl, rfl⟩)
  go_ret
  exact ⟨rfl, rfl⟩

set_option maxRecDepth 100000 in
theorem down_c {w : World} {p : Nat} {d : Dk} {F : List Nat} (hD : DiskAt w p d F) :
    Calls Tryz.prog 146 #[.pointer (some ⟨p, 0, none⟩)] w fun e w' => e = .returned (.bool d.off) ∧ w = w' := by
  have hn := none_c hD
  obtain ⟨bl, cap, bm, h1⟩ := hD.blk
  clear hD
  have hc := h1.cells4
  have Hn := Lib.hid hn
  clear h1 hn
  go_enter Tryz.func146, Tryz.ntmps146
  go_wp2_with (go_at_call 103; refine Hn.out.mono ?_; rintro e w' ⟨rfl, rfl⟩)
  go_ret
  exact ⟨rfl, rfl⟩

set_option maxRecDepth 100000 in
theorem fuse_c {w : World} {p : Nat} {d : Dk} {F : List Nat} (hD : DiskAt w p d F) (n : Int) (hn2 : n ≤ 9223372036854775807) :
    Calls Tryz.prog 32 #[.pointer (some ⟨p, 0, none⟩), .int .i64 n] w fun e w' => e = .returned (.tuple #[]) ∧ Left w w' p (d.setFuse n) F F := by
  have Hn := Lib.hid (none_c hD)
  have HF : Hid (Left w (w.setCell ⟨p, 2, none⟩ (.int .i64 (max n (-1)))) p (d.setFuse n) F F) := left_fuse hD _ (by omega) (by omega)
  obtain ⟨bl, cap, bm, h1⟩ := hD.blk
  clear hD
  have hc := h1.cells4
  have hfr := h1.frozen 2
  clear h1
  go_enter Tryz.func32, Tryz.ntmps32
  go_wp2_with (go_at_call 103; refine Hn.out.mono ?_; rintro e w' ⟨rfl, rfl⟩)
  all_goals
    go_end0
    first
      | exact ⟨rfl, HF.out⟩
      | (have h := HF.out; rw [Int.max_eq_right (by omega)] at h; exact ⟨rfl, h⟩)
      | (have h := HF.out; rw [Int.max_eq_left (by assumption)] at h; exact ⟨rfl, h⟩)

set_option maxRecDepth 100000 in
theorem burns_yes {w : World} {p : Nat} {d : Dk} {F : List Nat} (hD : DiskAt w p d F) (hb : d.burn.2 = true) :
    Calls Tryz.prog 394 #[.pointer (some ⟨p, 0, none⟩)] w fun e w' => e = .returned (.int .i64 0) ∧ Left w w' p d.burn.1 F F := by
  have hw := hD.wf
  have hw6 := hw.fuse
  have hw7 := hw.fuse'
  by_cases h0 : d.fuse = 0
  · simp [Dk.burn, h0] at hb
  · by_cases h1 : 0 < d.fuse
    · have HL : Hid (Left w (w.setCell ⟨p, 2, none⟩ (.int .i64 (d.fuse - 1))) p d.burn.1 F F) :=
        (left_fuse hD (d.fuse - 1) (by omega) (by omega)).eq (by simp [Dk.burn, h0, h1])
      obtain ⟨bl, cap, bm, g1⟩ := hD.blk
      clear hD
      have hc := g1.cells4
      have hfr := g1.frozen 2
      generalize d.fuse = f at *
      have hz : (f == 0) = false := by simp [h0]
      clear g1 hb hw h0
      go_enter Tryz.func394, Tryz.ntmps394
      go_wp2
      go_ret
      exact ⟨rfl, HL.out⟩
    · have HL : Hid (Left w w p d.burn.1 F F) := (Left.refl hD).eq (by simp [Dk.burn, h0, h1])
      obtain ⟨bl, cap, bm, g1⟩ := hD.blk
      clear hD
      have hc := g1.cells4
      generalize d.fuse = f at *
      have hz : (f == 0) = false := by simp [h0]
      clear g1 hb hw h0
      go_enter Tryz.func394, Tryz.ntmps394
      go_wp2
      go_ret
      exact ⟨rfl, HL.out⟩

set_option maxRecDepth 100000 in
theorem burns_no {w : World} {p : Nat} {d : Dk} {F : List Nat} (hD : DiskAt w p d F) (hb : d.burn.2 = false) :
    Calls Tryz.prog 394 #[.pointer (some ⟨p, 0, none⟩)] w fun e w' => e = .returned (.int .i64 14) ∧ Left w w' p d.burn.1 F F := by
  have h0 : d.fuse = 0 := by
    unfold Dk.burn at hb
    split at hb
    · assumption
    · split at hb <;> simp at hb
  have HL : Hid (Left w (w.setCell ⟨p, 3, none⟩ (.bool true)) p d.burn.1 F F) := (left_off hD true).eq (by simp [Dk.burn, h0])
  obtain ⟨bl, cap, bm, g1⟩ := hD.blk
  clear hD
  rw [h0] at g1
  have hc := g1.cells4
  have hfr := g1.frozen 3
  clear g1 hb h0
  go_enter Tryz.func394, Tryz.ntmps394
  go_wp2
  go_ret
  exact ⟨rfl, HL.out⟩
end Go.Proofs.YtdfgmieinbmfkaaGreat

/-
  The disk's Read and Write.
-/
namespace Go.Proofs.YtdfgmieinbmfkaaGreat
open Go Go.RowKit

/-- append, as one step of a region that draws. -/
theorem step_append_src {P : Program} {ops : Array Oper} {o : Oper} {a : Act} {w : World} {K : Act → World → Prop} {Q : Exit → Act → World → Prop} {E : Prop}
    (hg : o.guard = none) (s x : Operand) (t xT : TypeId) (ho : o.op = .call { callee := .builtin .append, args := #[s, x], argTypes := #[t, xT] })
    (e : TypeId) (i : TypeInfo) (z : Value) (size bytes : Nat) (ht : P.underlying t = some (.slice e)) (hi : P.info? e = some i) (hz : i.zero = some z) (hsize : i.size = size) (hby : i.bytes = bytes) (hzs : z.cells.size = size)
    (v : Value) (n : Nat) (xs : List Value) (hs : a.eval s = v) (hown : Own w e size v n xs) (vx : Value) (m : Nat) (news : List Value) (hx : a.eval x = vx) (hsrc : Src P w xT size vx m news) (h1 : ∀ u ∈ news, u.oneCell' = true)
    (h63 : n + m ≤ maxLen) (hbytes : (n + m) * bytes ≤ 140737488355328)
    (h : ∀ v' w', Own w' e size v' (n + m) (xs ++ news) → Upd (fun k => v.ownBlock = some k) w w' → (v'.ownBlock = v.ownBlock ∨ v'.ownBlock = some w.heap.size) → w'.heap.size ≤ w.heap.size + 1 → K (a.put o.dst v') w') :
    if Region.wanted o (yielded ops a.tmps) = true then Oper.wp P o a w K Q else E := by
  have hw : Region.wanted o (yielded ops a.tmps) = true := by simp [Region.wanted, hg]
  rw [if_pos hw]
  obtain ⟨v', w', hrun, h2, h3, h4, h5⟩ := run_append_src (P := P) t o.type i z bytes ht hi hz hsize hby hzs hown hsrc h1 h63 hbytes
  exact wp_append_run s x t xT ho hs hx hrun (h v' w' h2 h3 h4 h5)

theorem infoStr : (Tryz.prog.info? 9).map (fun i => (i.zero, i.size, i.bytes)) = some (some (.string ByteArray.empty), 1, 16) := by kernel_rfl

theorem zeroStrs (w : World) : (zeroValue 50).run Tryz.prog w = .ok (.slice none 0 0) w := by kernel_rfl

/-- What the map of waiting writes has at a sector. -/
theorem look_at {w : World} {bm : Nat} {m : List (Int × Value)} {d : Dk} (h3 : MapB intKey w bm m) (h4 : WaitsAt w m d.waits) (i : Nat) :
    ∃ v, (getA m (i : Int)).getD (.slice none 0 0) = v ∧ (Instr.lookup 170 (.map (some bm)) (.int .i64 (i : Int)) false).run Tryz.prog w = .ok v w ∧ Own w 9 1 v (d.at_ i).length (strs (d.at_ i)) ∧ (d.at_ i = [] → v = .slice none 0 0) ∧ (d.at_ i ≠ [] → ((i : Int), v) ∈ m) := by
  refine ⟨_, rfl, h3.run_lookup keyI Tryz.underlying170 Tryz.underlying3 (i : Int) false (zeroStrs w), ?_⟩
  by_cases h0 : d.at_ i = []
  · have hn : getA m (i : Int) = none := by
      refine getA_none fun p hp hpi => ?_
      obtain ⟨j, e, _, hj, _⟩ := h4.each p hp
      have : j = i := by omega
      subst this
      exact hj h0
    rw [hn, h0]
    exact ⟨Own.nil _ _ _, fun _ => rfl, fun h => absurd rfl h⟩
  · obtain ⟨q, hq, hqi⟩ := List.mem_map.1 (h4.all i h0)
    obtain ⟨k, hk⟩ := List.getElem?_of_mem hq
    have hg : getA m (i : Int) = some q.2 := getA_some h3.nodup (j := k) (by rw [hk, ← hqi])
    obtain ⟨j, e, _, hj, hown⟩ := h4.each q hq
    have : j = i := by omega
    subst this
    rw [hg]
    refine ⟨hown, fun h => absurd h h0, fun _ => ?_⟩
    simp only [Option.getD_some]
    rw [← hqi]
    exact hq

theorem DiskAt.look {w : World} {p : Nat} {d : Dk} {F : List Nat} (hD : DiskAt w p d F) (i : Nat) (hi : i < d.lasts.length) :
    ∃ bl cap bm v, Blk w p 172 #[.slice (some ⟨bl, 0, none⟩) d.lasts.length cap, .map (some bm), .int .i64 d.fuse, .bool d.off] ∧ (Instr.lookup 170 (.map (some bm)) (.int .i64 (i : Int)) false).run Tryz.prog w = .ok v w ∧
      Own w 9 1 v (d.at_ i).length (strs (d.at_ i)) ∧ w.cell? ⟨bl, i, none⟩ = some (.string (d.last i)) ∧ (d.at_ i = [] → v = .slice none 0 0) := by
  obtain ⟨bl, cap, bm, m, h1, h2, h3, h4, _⟩ := hD
  obtain ⟨v, _, hrun, hown, hnil, _⟩ := look_at h3 h4 i
  refine ⟨bl, cap, bm, v, h1, hrun, hown, ?_, hnil⟩
  rw [h2.cellAt i (by omega), strs_get, Dk.last]
  simp [hi]

set_option maxRecDepth 100000 in
theorem read_c {w : World} {p : Nat} {d : Dk} {F : List Nat} (hD : DiskAt w p d F) (i : Int) :
    Calls Tryz.prog 338 #[.pointer (some ⟨p, 0, none⟩), .int .i64 i] w fun e w' => e = .returned (.tuple #[.string (d.read i).1, .int .i64 (d.read i).2]) ∧ w = w' := by
  have hwf := hD.wf
  cases hoff : d.off with
  | true =>
    have hr : d.read i = (ByteArray.empty, 14) := by simp [Dk.read, hoff]
    rw [hr]
    have Ho := Lib.hid (out_down hD hoff)
    clear hoff hr hwf hD
    go_enter Tryz.func338, Tryz.ntmps338
    go_wp2_with (go_at_call 392; refine Ho.out.mono ?_; rintro e w' ⟨rfl, rfl⟩)
    go_ret2
    exact ⟨rfl, rfl⟩
  | false =>
    have Ho := Lib.hid (out_up hD hoff)
    have Ht := Lib.hid (there_c hD i)
    cases ht : d.there i with
    | false =>
      have hr : d.read i = (ByteArray.empty, 1) := by simp [Dk.read, hoff, ht]
      rw [hr]
      rw [ht] at Ht
      clear hoff hr hwf hD ht
      go_enter Tryz.func338, Tryz.ntmps338
      go_wp2_with (first | (go_at_call 392; refine Ho.out.mono ?_; rintro e w' ⟨rfl, rfl⟩) | (go_at_call 393; refine Ht.out.mono ?_; rintro e w' ⟨rfl, rfl⟩))
      go_ret2
      exact ⟨rfl, rfl⟩
    | true =>
      have hi : 0 ≤ i ∧ i < d.lasts.length := by simpa [Dk.there] using ht
      obtain ⟨k, rfl⟩ := Int.eq_ofNat_of_zero_le hi.1
      have hk : k < d.lasts.length := by omega
      have hr : d.read (k : Int) = (d.now k, 0) := by simp [Dk.read, hoff, ht]
      rw [hr]
      rw [ht] at Ht
      have hmost := hwf.most
      have hroom := hwf.room
      have hal := Dk.at_len (d := d) k
      obtain ⟨bl, cap, bm, v, h1, hrun, hown, hcell, hnil⟩ := hD.look k hk
      have hc := h1.cells4
      clear h1 hoff hr ht hD hwf
      by_cases h0 : d.at_ k = []
      · have hnow : Hid (d.now k = d.last k) := by simp [Dk.now, h0, Hid]
        have hv : v = .slice none 0 0 := hnil h0
        subst hv
        generalize d.last k = x at *
        clear h0 hown hal hnil
        go_enter Tryz.func338, Tryz.ntmps338
        go_wp2_with (first | (go_at_call 392; refine Ho.out.mono ?_; rintro e w' ⟨rfl, rfl⟩) | (go_at_call 393; refine Ht.out.mono ?_; rintro e w' ⟨rfl, rfl⟩))
        go_ret2
        exact ⟨by rw [hnow.out]; rfl, rfl⟩
      · have hlen : 0 < (d.at_ k).length := List.length_pos_iff.2 h0
        obtain ⟨g, cap', rfl, hnc, hcm⟩ := hown.head hlen
        have hlast : w.cell? ⟨g, (d.at_ k).length - 1, none⟩ = some (.string (d.now k)) := by
          rw [hown.cellAt _ (by omega), strs_get, Dk.now, List.getLast?_eq_getElem?]
          rw [List.getElem?_eq_getElem (by omega)]
          rfl
        generalize d.now k = x at *
        generalize (d.at_ k).length = n at *
        clear h0 hown hcell hnil
        go_enter Tryz.func338, Tryz.ntmps338
        go_wp2_with (first | (go_at_call 392; refine Ho.out.mono ?_; rintro e w' ⟨rfl, rfl⟩) | (go_at_call 393; refine Ht.out.mono ?_; rintro e w' ⟨rfl, rfl⟩))
        go_ret2
        exact ⟨rfl, rfl⟩

set_option maxRecDepth 100000 in
theorem write_off {w : World} {p : Nat} {d : Dk} {F : List Nat} (hD : DiskAt w p d F) (i : Int) (b : ByteArray) (hoff : d.off = true) :
    Calls Tryz.prog 310 #[.pointer (some ⟨p, 0, none⟩), .int .i64 i, .string b] w fun e w' => e = .returned (.int .i64 14) ∧ w = w' := by
  have Ho := Lib.hid (out_down hD hoff)
  clear hoff hD
  go_enter Tryz.func310, Tryz.ntmps310
  go_wp2_with (go_at_call 392; refine Ho.out.mono ?_; rintro e w' ⟨rfl, rfl⟩)
  go_ret
  exact ⟨rfl, rfl⟩

set_option maxRecDepth 100000 in
theorem write_arg {w : World} {p : Nat} {d : Dk} {F : List Nat} (hD : DiskAt w p d F) (i : Int) (b : ByteArray) (hoff : d.off = false) (h : (d.there i && decide (b.size = 64)) = false) :
    Calls Tryz.prog 310 #[.pointer (some ⟨p, 0, none⟩), .int .i64 i, .string b] w fun e w' => e = .returned (.int .i64 1) ∧ w = w' := by
  have Ho := Lib.hid (out_up hD hoff)
  have Ht := Lib.hid (there_c hD i)
  clear hoff hD
  cases ht : d.there i with
  | false =>
    rw [ht] at Ht
    clear h ht
    go_enter Tryz.func310, Tryz.ntmps310
    go_wp2_with (first | (go_at_call 392; refine Ho.out.mono ?_; rintro e w' ⟨rfl, rfl⟩) | (go_at_call 393; refine Ht.out.mono ?_; rintro e w' ⟨rfl, rfl⟩))
    go_ret
    exact ⟨rfl, rfl⟩
  | true =>
    rw [ht] at Ht
    have hb : ((b.size : Int) != 64) = true := by rw [bne_iff_ne]; simp [ht] at h; omega
    clear h ht
    go_enter Tryz.func310, Tryz.ntmps310
    go_wp2_with (first | (go_at_call 392; refine Ho.out.mono ?_; rintro e w' ⟨rfl, rfl⟩) | (go_at_call 393; refine Ht.out.mono ?_; rintro e w' ⟨rfl, rfl⟩))
    go_ret
    exact ⟨rfl, rfl⟩

set_option maxRecDepth 100000 in
theorem write_no {w : World} {p : Nat} {d : Dk} {F : List Nat} (hD : DiskAt w p d F) (i : Int) (b : ByteArray) (hoff : d.off = false) (ht : d.there i = true) (hb : b.size = 64) (hn : d.burn.2 = false) :
    Calls Tryz.prog 310 #[.pointer (some ⟨p, 0, none⟩), .int .i64 i, .string b] w fun e w' => e = .returned (.int .i64 14) ∧ Left w w' p d.burn.1 F F := by
  have Ho := Lib.hid (out_up hD hoff)
  have Ht := Lib.hid (there_c hD i)
  have Hb := Lib.hid (burns_no hD hn)
  rw [ht] at Ht
  have hb' : ((b.size : Int) != 64) = false := by rw [hb]; rfl
  clear hoff hD ht hb hn
  go_enter Tryz.func310, Tryz.ntmps310
  go_wp2_with (first | (go_at_call 392; refine Ho.out.mono ?_; rintro e w' ⟨rfl, rfl⟩) | (go_at_call 393; refine Ht.out.mono ?_; rintro e w' ⟨rfl, rfl⟩) | (go_at_call 394; refine Hb.out.mono ?_; rintro e w1 ⟨rfl, hL⟩))
  go_ret
  exact ⟨rfl, hL⟩

set_option maxRecDepth 100000 in
set_option maxHeartbeats 800000 in
theorem write_yes {w : World} {p : Nat} {d : Dk} {F : List Nat} (hD : DiskAt w p d F) (k : Nat) (b : ByteArray) (hoff : d.off = false) (ht : d.there (k : Int) = true) (hb : b.size = 64) (hn : d.burn.2 = true) (hp : d.pend + 1 < 1000000) :
    Calls Tryz.prog 310 #[.pointer (some ⟨p, 0, none⟩), .int .i64 (k : Int), .string b] w fun e w' => e = .returned (.int .i64 0) ∧ ∃ F', Left w w' p (d.burn.1.push k b) F F' := by
  have Ho := Lib.hid (out_up hD hoff)
  have Ht := Lib.hid (there_c hD k)
  have Hb := Lib.hid (burns_yes hD hn)
  have hk : k < d.burn.1.lasts.length := by
    rw [Dk.burn_lasts]
    simp [Dk.there] at ht
    exact ht
  have hp' : d.burn.1.pend + 1 < 1000000 := by rw [Dk.burn_pend]; exact hp
  generalize d.burn.1 = d1 at *
  obtain ⟨i0, hi0, hz0, hz1, hz2⟩ := info_parts infoStr
  rw [ht] at Ht
  have hb' : ((b.size : Int) != 64) = false := by rw [hb]; rfl
  have HB := Lib.hid hb
  clear hoff hD ht hn hb hp
  go_enter Tryz.func310, Tryz.ntmps310
  go_wp2_with (first | (go_at_call 392; refine Ho.out.mono ?_; rintro e w' ⟨rfl, rfl⟩) | (go_at_call 393; refine Ht.out.mono ?_; rintro e w' ⟨rfl, rfl⟩) | (go_at_call 394; refine Hb.out.mono ?_; rintro e w1 ⟨rfl, hL⟩))
  clear Ho Ht Hb hb'
  have HL := Lib.hid hL
  obtain ⟨bl, cap, bm, m, g1, g2, g3, g4, g5, gF, g7⟩ := hL.disk
  clear hL
  subst gF
  obtain ⟨v0, hget, hrun0, hown0, hnil, hmem⟩ := look_at g3 g4 k
  obtain ⟨v1, hget1, hrun1, hx1⟩ := look_at (w := w1.drew) g3.drew (g4.upd (fun _ _ => rfl)) k
  obtain ⟨v2, hget2, hrun2, hx2⟩ := look_at (w := (w1.alloc (.cells #[.string b] 9)).drew) (g3.alloc _).drew (g4.upd (fun q hq => Below.heap_alloc _ _ _ (by
    have := HL.out.disk.lt q (by simp only [List.mem_cons]; exact .inr (.inr (.inr hq)))
    exact this))) k
  have e1 : v1 = v0 := hget1.symm.trans hget
  have e2 : v2 = v0 := hget2.symm.trans hget
  subst e1 e2
  clear hx1 hx2
  have hlen := Dk.at_len (d := d1) k
  have hcell : w1.cell? ⟨p, 1, none⟩ = some (.map (some bm)) := g1.cell 1
  have hlt1 := g1.lt
  have hmemO : ∀ q, v2.ownBlock = some q → ((k : Int), v2) ∈ m := fun q hq => hmem (fun h0 => by rw [hnil h0] at hq; simp [Value.ownBlock] at hq)
  have hpv : v2.ownBlock ≠ some p := fun e => by
    have := List.mem_filterMap (f := fun q : Int × Value => q.2.ownBlock).2 ⟨_, hmemO p e, e⟩
    simp only [List.nodup_cons, List.mem_cons] at g7
    exact g7.1 (.inr (.inr this))
  have hbv : v2.ownBlock ≠ some bm := fun e => by
    have := List.mem_filterMap (f := fun q : Int × Value => q.2.ownBlock).2 ⟨_, hmemO bm e, e⟩
    simp only [List.nodup_cons, List.mem_cons] at g7
    exact g7.2.2.1 this
  have hpb : p ≠ bm := fun e => by subst e; simp at g7
  have H7 := Lib.hid (And.intro g1 (And.intro g2 (And.intro g4 (And.intro g5 g7))))
  have Hm := Lib.hid (And.intro hpv (And.intro hbv hpb))
  have HO := Lib.hid hmemO
  clear hget hrun0 hnil hmem hget1 hget2 g1 g2 g4 g5 g7 hpv hbv hpb hmemO
  go_region_held3 (fun w' => w'.cell? ⟨p, 1, none⟩ = some (.map (some bm))) (first | assumption | go_keep)
    ((refine step_append_src (by rfl) _ _ _ _ (by rfl) 9 i0 _ 1 16 Tryz.underlying50 hi0 hz0 hz1 hz2 rfl v2 _ _ (by rfl) ((hown0.alloc _).drew) _ 1 [.string b] (by rfl) (Src.of_new_drew Tryz.underlying50 (.string b)) (by simp [Value.oneCell']) (by unfold maxLen; omega) (by omega) ?_
      intro v' w2 hown2 hU2 hloc2 hs2
      have hc2 : w2.cell? ⟨p, 1, none⟩ = some (.map (some bm)) := (World.cell?_of_block (w := w1) (a := ⟨p, 1, none⟩) ((hU2.block p (by simp; omega) Hm.out.1).trans (Below.heap_alloc w1 _ p hlt1))).trans hcell
      have hM2 : MapB intKey w2 bm m := (g3.alloc _).drew.upd hU2 Hm.out.2.1
      obtain ⟨w3, hrun3, hM3, hU3, hs3⟩ := hM2.run_update keyI Tryz.underlying170 Tryz.underlying3 (k : Int) v'
      have hrun4 : (Instr.mapUpdate 170 (.map (some bm)) (.int .i64 (k : Int)) v').run Tryz.prog w2 = .ok () w3 := hrun3
      clear hrun3
      have hc3 : w3.cell? ⟨p, 1, none⟩ = some (.map (some bm)) := (World.cell?_of_block (w := w2) (a := ⟨p, 1, none⟩) (hU3.block p (World.block_lt_of_cell? w2 _ hc2) Hm.out.2.2)).trans hc2
      have HX := Lib.hid (And.intro hown2 (And.intro hU2 (And.intro hloc2 (And.intro hM3 hU3))))
      clear hown2 hU2 hloc2 hs2 hM2 hM3 hU3 hs3))
  all_goals
    clear hcell hrun1 hrun2 hc2 hc3 hrun4
    go_wp2
    go_ret
    refine ⟨rfl, ?_⟩
    obtain ⟨x1, x2, x3, x4, x5⟩ := HX.out
    obtain ⟨g1, g2, g4, g5, g7⟩ := H7.out
    obtain ⟨F', hF'⟩ := left_push g1 g2 g3 g4 g5 g7 hk HB.out hp' HO.out (by simpa [strs] using x1) (((Upd.refl _ w1).alloc _).drew.then x2 (fun _ h => .inl h))
      (fun q hq => by
        rcases x3 with h | h
        · exact .inl (by rw [← h]; exact hq)
        · rw [h] at hq
          have := Option.some.inj hq
          simp at this
          exact .inr (by omega)) x4 x5
    exact ⟨F', HL.out.trans hF'⟩

theorem write_c {w : World} {p : Nat} {d : Dk} {F : List Nat} (hD : DiskAt w p d F) (i : Int) (b : ByteArray) (hp : d.pend + 1 < 1000000) :
    Calls Tryz.prog 310 #[.pointer (some ⟨p, 0, none⟩), .int .i64 i, .string b] w fun e w' => e = .returned (.int .i64 (d.write i b).2) ∧ ∃ F', Left w w' p (d.write i b).1 F F' := by
  cases hoff : d.off with
  | true =>
    refine (write_off hD i b hoff).mono ?_
    rintro e w' ⟨rfl, rfl⟩
    exact ⟨by simp [Dk.write, hoff], F, (Left.refl hD).eq (by simp [Dk.write, hoff])⟩
  | false =>
    cases h : (d.there i && decide (b.size = 64)) with
    | false =>
      refine (write_arg hD i b hoff h).mono ?_
      rintro e w' ⟨rfl, rfl⟩
      exact ⟨by rw [Dk.write, hoff, h]; rfl, F, (Left.refl hD).eq (by rw [Dk.write, hoff, h]; rfl)⟩
    | true =>
      have h' := h
      simp only [Bool.and_eq_true, decide_eq_true_eq] at h'
      cases hn : d.burn.2 with
      | false =>
        refine (write_no hD i b hoff h'.1 h'.2 hn).mono ?_
        rintro e w' ⟨rfl, hL⟩
        exact ⟨by rw [Dk.write, hoff, h, hn]; rfl, F, hL.eq (by rw [Dk.write, hoff, h, hn]; rfl)⟩
      | true =>
        have hi : 0 ≤ i := by have := h'.1; simp [Dk.there] at this; exact this.1
        obtain ⟨k, rfl⟩ := Int.eq_ofNat_of_zero_le hi
        refine (write_yes hD k b hoff h'.1 h'.2 hn hp).mono ?_
        rintro e w' ⟨rfl, F', hL⟩
        exact ⟨by rw [Dk.write, hoff, h, hn]; rfl, F', hL.eq (by rw [Dk.write, hoff, h, hn]; rfl)⟩
end Go.Proofs.YtdfgmieinbmfkaaGreat

/-
  The disk's Sync.
-/
namespace Go.Proofs.YtdfgmieinbmfkaaGreat
open Go Go.RowKit

/-- What lasts while the entries 'left' are still to be written. -/
def lastsOf (d : Dk) (left : List (Int × Value)) : List ByteArray := (List.range d.lasts.length).map fun (i : Nat) => if (i : Int) ∈ left.map (·.1) then d.last i else d.now i
theorem lastsOf_len (d : Dk) (left : List (Int × Value)) : (lastsOf d left).length = d.lasts.length := by simp [lastsOf]
theorem lastsOf_get (d : Dk) (left : List (Int × Value)) (i : Nat) (hi : i < d.lasts.length) : (lastsOf d left)[i]? = some (if (i : Int) ∈ left.map (·.1) then d.last i else d.now i) := by
  rw [lastsOf, List.getElem?_map, List.getElem?_range hi]
  rfl
theorem lastsOf_all {w : World} {d : Dk} {m : List (Int × Value)} (h : WaitsAt w m d.waits) : lastsOf d m = d.lasts := by
  apply List.ext_getElem?
  intro i
  by_cases hi : i < d.lasts.length
  · rw [lastsOf_get d m i hi]
    have hl : d.last i = d.lasts[i] := by simp [Dk.last, hi]
    rw [List.getElem?_eq_getElem hi]
    split
    · rw [hl]
    · rename_i hn
      have h0 : d.at_ i = [] := by
        rcases Classical.em (d.at_ i = []) with h0 | h0
        · exact h0
        · exact absurd (h.all i h0) hn
      simp [Dk.now, h0, hl]
  · rw [List.getElem?_eq_none (by rw [lastsOf_len]; omega), List.getElem?_eq_none (by omega)]
theorem lastsOf_nil (d : Dk) : lastsOf d [] = d.flush.lasts := by simp [lastsOf, Dk.flush]
theorem lastsOf_step (d : Dk) {l1 l2 : List (Int × Value)} {k : Nat} {v : Value} (hn : ((l1 ++ ((k : Int), v) :: l2).map (·.1)).Nodup) :
    (lastsOf d (l1 ++ ((k : Int), v) :: l2)).set k (d.now k) = lastsOf d (l1 ++ l2) := by
  apply List.ext_getElem?
  intro i
  by_cases hi : i < d.lasts.length
  · rw [List.getElem?_set, lastsOf_len]
    by_cases hik : k = i
    · subst hik
      rw [if_pos rfl, if_pos hi, lastsOf_get d _ k hi, if_neg]
      intro hmem
      simp only [List.map_append, List.map_cons, List.nodup_append, List.nodup_cons, List.mem_append, List.mem_cons] at hn hmem
      rcases hmem with h | h
      · exact hn.2.2 _ h _ (.inl rfl) rfl
      · exact hn.2.1.1 h
    · rw [if_neg hik, lastsOf_get d _ i hi, lastsOf_get d _ i hi]
      have : ((i : Int) ∈ (l1 ++ ((k : Int), v) :: l2).map (·.1)) ↔ ((i : Int) ∈ (l1 ++ l2).map (·.1)) := by
        simp only [List.map_append, List.map_cons, List.mem_append, List.mem_cons]
        constructor
        · rintro (h | h | h)
          · exact .inl h
          · omega
          · exact .inr h
        · rintro (h | h)
          · exact .inl h
          · exact .inr (.inr h)
      simp only [this]
  · rw [List.getElem?_eq_none (by rw [List.length_set, lastsOf_len]; omega), List.getElem?_eq_none (by rw [lastsOf_len]; omega)]
theorem delA_split {α : Type} [DecidableEq α] {l1 l2 : List (α × Value)} {k : α} {v : Value} (hn : ((l1 ++ (k, v) :: l2).map (·.1)).Nodup) : delA (l1 ++ (k, v) :: l2) k = l1 ++ l2 ∧ delA (l1 ++ l2) k = l1 ++ l2 := by
  simp only [List.map_append, List.map_cons, List.nodup_append, List.nodup_cons, List.mem_cons] at hn
  have f1 : l1.filter (fun p => decide (p.1 ≠ k)) = l1 := by
    rw [List.filter_eq_self]
    intro q hq
    have := hn.2.2 q.1 (List.mem_map.2 ⟨q, hq, rfl⟩) k (.inl rfl)
    simpa using this
  have f2 : l2.filter (fun p => decide (p.1 ≠ k)) = l2 := by
    rw [List.filter_eq_self]
    intro q hq
    have : q.1 ≠ k := fun e => hn.2.1.1 (List.mem_map.2 ⟨q, hq, e⟩)
    simpa using this
  unfold delA
  refine ⟨?_, ?_⟩
  · rw [List.filter_append, List.filter_cons, if_neg (by simp), f1, f2]
  · rw [List.filter_append, f1, f2]

/-- The disk in the midst of a Sync. -/
structure Syncing (w wr : World) (p bl cap bm r : Nat) (d : Dk) (m left : List (Int × Value)) : Prop where
  blk : Blk wr p 172 #[.slice (some ⟨bl, 0, none⟩) d.lasts.length cap, .map (some bm), .int .i64 d.fuse, .bool d.off]
  lasts : Own wr 9 1 (.slice (some ⟨bl, 0, none⟩) d.lasts.length cap) d.lasts.length (strs (lastsOf d left))
  rng : Rng intKey wr r bm left left
  waits : ∀ q ∈ left, ∃ i : Nat, q.1 = (i : Int) ∧ i < d.lasts.length ∧ d.at_ i ≠ [] ∧ Own wr 9 1 q.2 (d.at_ i).length (strs (d.at_ i)) ∧ q ∈ m
  upd : Upd (fun b => b = bl ∨ b = bm) w wr
  new : w.heap.size ≤ r

theorem Syncing.done {w wr : World} {p bl cap bm r : Nat} {d : Dk} {m : List (Int × Value)} (h : Syncing w wr p bl cap bm r d m []) (hwf : d.wf) (hnd : (p :: bl :: bm :: m.filterMap (·.2.ownBlock)).Nodup) :
    Left w wr p d.flush (p :: bl :: bm :: m.filterMap (·.2.ownBlock)) [p, bl, bm] := by
  have hlen : d.flush.lasts.length = d.lasts.length := by simp [Dk.flush]
  have hfw : d.flush.wf := by
    refine ⟨by simp [Dk.flush, hwf.len], by rw [hlen]; exact hwf.pos, by rw [hlen]; exact hwf.most, ?_, ?_, hwf.fuse, hwf.fuse', ?_⟩
    · intro b hb
      simp only [Dk.flush, List.mem_map, List.mem_range] at hb
      obtain ⟨i, hi, rfl⟩ := hb
      unfold Dk.now
      cases hg : (d.at_ i).getLast? with
      | none =>
        simp only [Option.getD_none]
        unfold Dk.last
        rw [List.getD_eq_getElem?_getD, List.getElem?_eq_getElem hi]
        exact hwf.lasts _ (List.getElem_mem _)
      | some b =>
        simp only [Option.getD_some]
        have hb : b ∈ d.at_ i := List.mem_of_getLast? hg
        unfold Dk.at_ at hb
        rw [List.getD_eq_getElem?_getD, List.getElem?_eq_getElem (by rw [hwf.len]; exact hi)] at hb
        exact hwf.waits _ (List.getElem_mem _) b hb
    · intro l hl b hb
      simp only [Dk.flush, List.mem_map] at hl
      obtain ⟨_, _, rfl⟩ := hl
      simp at hb
    · have : d.flush.pend = 0 := by
        unfold Dk.pend Dk.flush
        simp only [List.map_map]
        generalize d.waits = l
        induction l with
        | nil => rfl
        | cons x l ih => simpa using ih
      omega
  simp only [List.nodup_cons, List.mem_cons, not_or] at hnd
  refine ⟨⟨bl, cap, bm, [], ?_, ?_, h.rng.map, ⟨fun _ hq => by simp at hq, fun i hi => ?_⟩, hfw, rfl, ?_⟩, h.upd.mono (fun b hb => .inl ?_), fun k hk => .inl ?_⟩
  · rw [hlen]; exact h.blk
  · rw [hlen, ← lastsOf_nil]; exact h.lasts
  · exfalso
    apply hi
    simp only [Dk.flush, List.getD_eq_getElem?_getD, List.getElem?_map]
    cases d.waits[i]? <;> rfl
  · simp only [List.nodup_cons, List.mem_cons, List.not_mem_nil, or_false, not_or, not_false_eq_true, List.nodup_nil, and_true]
    exact ⟨⟨hnd.1.1, hnd.1.2.1⟩, hnd.2.1.1⟩
  · rcases hb with rfl | rfl <;> simp
  · simp only [List.mem_cons, List.not_mem_nil, or_false] at hk ⊢
    rcases hk with rfl | rfl | rfl <;> simp

set_option maxRecDepth 100000 in
set_option maxHeartbeats 800000 in
theorem sync_yes {w : World} {p : Nat} {d : Dk} {F : List Nat} (hD : DiskAt w p d F) (hoff : d.off = false) (hn : d.burn.2 = true) :
    Calls Tryz.prog 312 #[.pointer (some ⟨p, 0, none⟩)] w fun e w' => e = .returned (.int .i64 0) ∧ ∃ F', Left w w' p d.burn.1.flush F F' := by
  have Ho := Lib.hid (out_up hD hoff)
  have Hb := Lib.hid (burns_yes hD hn)
  generalize d.burn.1 = d1 at *
  clear hoff hD hn
  go_enter Tryz.func312, Tryz.ntmps312
  go_wp2_with (first
    | (go_at_call 392; refine Ho.out.mono ?_; rintro e w' ⟨rfl, rfl⟩)
    | (go_at_call 394
       refine Hb.out.mono ?_
       rintro e w1 ⟨rfl, hL⟩
       have HL := Lib.hid hL
       obtain ⟨bl, cap, bm, m, g1, g2, g3, g4, g5, gF, g7⟩ := hL.disk
       clear hL
       have hc := g1.cells4
       obtain ⟨w2, hr2, hR2, hU2, hs2⟩ := g3.run_range (P := Tryz.prog) Tryz.underlying170
       have H4 := Lib.hid (And.intro g1 (And.intro g2 (And.intro g3 (And.intro g4 (And.intro g5 (And.intro gF g7))))))
       have HX := Lib.hid (And.intro hR2 (And.intro hU2 hs2))
       clear g1 g2 g3 g4 g5 gF g7 Ho Hb hR2 hU2 hs2))
  obtain ⟨g1, g2, g3, g4, g5, gF, g7⟩ := H4.out
  have hpl : p ≠ bl := fun e => by rw [gF] at g7; subst e; simp at g7
  have hpm : p ≠ bm := fun e => by rw [gF] at g7; subst e; simp at g7
  have hlm : bl ≠ bm := fun e => by rw [gF] at g7; subst e; simp at g7
  have hfp : p ∉ m.filterMap (·.2.ownBlock) := by rw [gF] at g7; simp only [List.nodup_cons, List.mem_cons, not_or] at g7; exact g7.1.2.2
  have hfl : bl ∉ m.filterMap (·.2.ownBlock) := by rw [gF] at g7; simp only [List.nodup_cons, List.mem_cons, not_or] at g7; exact g7.2.1.2
  have hfm : bm ∉ m.filterMap (·.2.ownBlock) := by rw [gF] at g7; simp only [List.nodup_cons, List.mem_cons, not_or] at g7; exact g7.2.2.1
  have hmost := g5.most
  have hstart : Syncing w1 w2 p bl cap bm w1.heap.size d1 m m := by
    obtain ⟨x1, x2, _⟩ := HX.out
    refine ⟨g1.upd x2 (fun e => e), ?_, x1, fun q hq => ?_, x2.mono (fun _ e => e.elim), Nat.le_refl _⟩
    · rw [lastsOf_all g4]; exact g2.upd x2 (fun _ _ e => e)
    · obtain ⟨i, e, hi, h0, ho⟩ := g4.each q hq
      exact ⟨i, e, by rw [← g5.len]; exact hi, h0, ho.upd x2 (fun _ _ e => e), hq⟩
  clear g1 g2 g3 hc hr2 HX
  have HG := Lib.hid (And.intro g4 (And.intro g5 (And.intro gF g7)))
  have HN := Lib.hid (And.intro hpl (And.intro hpm (And.intro hlm (And.intro hfp (And.intro hfl hfm)))))
  clear g4 g5 gF g7 hpl hpm hlm hfp hfl hfm H4
  have hroom : d1.pend < 1000000 := HG.out.2.1.room
  go_loopw [5] (fun _ wr => ∃ left, Syncing w1 wr p bl cap bm w1.heap.size d1 m left) (fun _ wr => rngLeft wr w1.heap.size bm)
  case atStart => exact ⟨m, hstart⟩
  case round =>
    obtain ⟨left, hS⟩ := hrel
    clear hstart
    have HS := Lib.hid hS
    have hmu := Lib.hid (hS.rng.left_eq)
    rcases hS.rng.run_next (P := Tryz.prog) keyI.inj 0 with ⟨h0, hrun⟩ | ⟨k, v, l1, l2, w3, hleft, hmem, hrun, hR3, hen, hU3, hs3⟩
    · clear hS hmu
      subst h0
      go_wp2
      go_ret
      refine ⟨rfl, [p, bl, bm], HL.out.trans ?_⟩
      have hx := HS.out.done HG.out.2.1 (HG.out.2.2.1 ▸ HG.out.2.2.2)
      rw [HG.out.2.2.1]
      exact hx
    · obtain ⟨i, hki, hi, hne, hown, hqm⟩ := hS.waits (k, v) (by rw [hleft]; simp)
      simp only at hki hown
      subst hki
      have hlen0 : 0 < (d1.at_ i).length := List.length_pos_iff.2 hne
      have hlenm := Dk.at_len (d := d1) i
      obtain ⟨g, cap', rfl, hnc, hcm⟩ := hown.head hlen0
      have hgF : g ∈ m.filterMap (·.2.ownBlock) := List.mem_filterMap.2 ⟨_, hqm, by simp [Value.ownBlock]⟩
      have hgr : g ≠ w1.heap.size := by
        have h1 := (HL.out.disk.lt g (by rw [HG.out.2.2.1]; simp only [List.mem_cons]; exact .inr (.inr (.inr hgF))))
        omega
      have hpr : p ≠ w1.heap.size := by
        have h1 := (HL.out.disk.lt p (by rw [HG.out.2.2.1]; simp))
        omega
      have hlr : bl ≠ w1.heap.size := by
        have h1 := (HL.out.disk.lt bl (by rw [HG.out.2.2.1]; simp))
        omega
      have hB3 := hS.blk.upd hU3 hpr
      have hO3 := hS.lasts.upd hU3 (fun q hq e => hlr (by rw [← e]; simpa [Value.ownBlock] using hq))
      have hV3 := hown.upd hU3 (fun q hq e => hgr (by rw [← e]; simpa [Value.ownBlock] using hq))
      have hc := hB3.cells4
      have hlast : w3.cell? ⟨g, (d1.at_ i).length - 1, none⟩ = some (.string (d1.now i)) := by
        rw [hV3.cellAt _ (by omega), strs_get, Dk.now, List.getLast?_eq_getElem?, List.getElem?_eq_getElem (by omega)]
        rfl
      have hold : w3.cell? ⟨bl, i, none⟩ = some (.string (d1.last i)) := by
        rw [hO3.cellAt _ (by omega), strs_get, lastsOf_get d1 _ i hi, if_pos]
        · rfl
        · rw [hleft]; simp
      have hfz := hO3.frozenAt i (by omega)
      have HU := Lib.hid (And.intro hB3 (And.intro hO3 (And.intro hR3 (And.intro hU3 (And.intro hpr (And.intro hlr hgF))))))
      have Hleft := Lib.hid hleft
      clear hS hleft hown hqm hgF hgr hpr hlr hB3 hO3 hV3 hR3 hU3 hne hmem hnc hcm
      go_wp2_with fail
      go_region
      obtain ⟨hB3, hO3, hR3, hU3, hpr, hlr, hgF⟩ := HU.out
      obtain ⟨hpl, hpm, hlm, hfp, hfl, hfm⟩ := HN.out
      have hR4 := (hR3.far (p := ⟨bl, i, none⟩) (Ne.symm hlr) (Ne.symm hlm) (.string (d1.now i))).drew
      obtain ⟨w4, hrun4, hR5, hU5, hs5⟩ := hR4.run_delete (P := Tryz.prog) (ty := 0) keyI Tryz.underlying170 Tryz.underlying3 (i : Int)
      have HV := Lib.hid (And.intro hR5 hU5)
      have hc4 : (w3.setCell ⟨bl, i, none⟩ (.string (d1.now i))).cell? ⟨p, 1, none⟩ = some (.map (some bm)) := (hB3.far (p := ⟨bl, i, none⟩) hpl _).cell 1
      clear hc
      clear hB3 hO3 hR3 hU3 hpr hlr hgF hpl hpm hlm hfp hfl hfm hR4 hR5 hU5 hs5 hen hrun hlast hold hfz
      go_wp2_with (refine wpList_delete_run rfl _ _ _ _ rfl rfl rfl hrun4 ?_; go_frame)
      have hround : Syncing w1 w4 p bl cap bm w1.heap.size d1 m (l1 ++ l2) := by
        obtain ⟨hB3, hO3, hR3, hU3, hpr, hlr, hgF⟩ := HU.out
        obtain ⟨hpl, hpm, hlm, hfp, hfl, hfm⟩ := HN.out
        obtain ⟨hR5, hU5⟩ := HV.out
        have hS := HS.out
        have hnd := hS.rng.map.nodup
        rw [Hleft.out] at hnd
        have hd := delA_split hnd
        rw [Hleft.out, hd.1, hd.2] at hR5
        have hU4 : Upd (· = bl) w3 (w3.setCell ⟨bl, i, none⟩ (.string (d1.now i))).drew := ((Upd.refl (· = bl) w3).setCell (p := ⟨bl, i, none⟩) (.inl rfl) _).drew
        have hU34 : Upd (fun b => b = bl ∨ b = bm) w3 w4 := hU4.trans hU5 (fun b h => .inl h) (fun b h => .inl (.inr h))
        have hUr : Upd (fun b => b = bl ∨ b = bm ∨ b = w1.heap.size) wr w4 := hU3.trans hU34 (fun b h => .inr (.inr h)) (fun b h => .inl (h.elim .inl (fun h => .inr (.inl h))))
        refine ⟨hB3.upd hU34 (fun h => h.elim hpl hpm), ?_, hR5, fun q hq => ?_, hS.upd.then hUr (fun b h => ?_), Nat.le_refl _⟩
        · have hO4 := (hO3.stored i (.string (d1.now i))).drew.upd hU5 (fun q hq e => hlm (by rw [← e]; simpa [Value.ownBlock] using hq))
          have e1 : (strs (lastsOf d1 left)).set i (.string (d1.now i)) = strs (lastsOf d1 (l1 ++ l2)) := by
            rw [← lastsOf_step d1 hnd, Hleft.out]
            simp only [strs, List.map_set]
          rw [e1] at hO4
          exact hO4
        · obtain ⟨j, e, hj, h0, ho, hm⟩ := hS.waits q (by
            rw [Hleft.out]
            simp only [List.mem_append, List.mem_cons] at hq ⊢
            exact hq.elim .inl (fun h => .inr (.inr h)))
          refine ⟨j, e, hj, h0, ho.upd hUr (fun x hx e2 => ?_), hm⟩
          have hxF : x ∈ m.filterMap (·.2.ownBlock) := List.mem_filterMap.2 ⟨q, hm, hx⟩
          rcases e2 with rfl | rfl | e2
          · exact hfl hxF
          · exact hfm hxF
          · have h1 := (HL.out.disk.lt x (by rw [HG.out.2.2.1]; simp only [List.mem_cons]; exact .inr (.inr (.inr hxF))))
            omega
        · rcases h with h | h | h
          · exact .inl (.inl h)
          · exact .inl (.inr h)
          · exact .inr (by omega)
      go_roundw
      case rel => exact ⟨_, hround⟩
      case measure =>
        rw [hround.rng.left_eq, HS.out.rng.left_eq, Hleft.out]
        simp
end Go.Proofs.YtdfgmieinbmfkaaGreat

/-
  Sync, whatever the disk is.
-/
namespace Go.Proofs.YtdfgmieinbmfkaaGreat
open Go Go.RowKit

set_option maxRecDepth 100000 in
theorem sync_off {w : World} {p : Nat} {d : Dk} {F : List Nat} (hD : DiskAt w p d F) (hoff : d.off = true) :
    Calls Tryz.prog 312 #[.pointer (some ⟨p, 0, none⟩)] w fun e w' => e = .returned (.int .i64 14) ∧ w = w' := by
  have Ho := Lib.hid (out_down hD hoff)
  clear hoff hD
  go_enter Tryz.func312, Tryz.ntmps312
  go_wp2_with (go_at_call 392; refine Ho.out.mono ?_; rintro e w' ⟨rfl, rfl⟩)
  go_ret
  exact ⟨rfl, rfl⟩
set_option maxRecDepth 100000 in
theorem sync_no {w : World} {p : Nat} {d : Dk} {F : List Nat} (hD : DiskAt w p d F) (hoff : d.off = false) (hn : d.burn.2 = false) :
    Calls Tryz.prog 312 #[.pointer (some ⟨p, 0, none⟩)] w fun e w' => e = .returned (.int .i64 14) ∧ Left w w' p d.burn.1 F F := by
  have Ho := Lib.hid (out_up hD hoff)
  have Hb := Lib.hid (burns_no hD hn)
  clear hoff hD hn
  go_enter Tryz.func312, Tryz.ntmps312
  go_wp2_with (first
    | (go_at_call 392; refine Ho.out.mono ?_; rintro e w' ⟨rfl, rfl⟩)
    | (go_at_call 394; refine Hb.out.mono ?_; rintro e w2 ⟨rfl, hL⟩))
  go_ret
  exact ⟨rfl, hL⟩
theorem sync_c {w : World} {p : Nat} {d : Dk} {F : List Nat} (hD : DiskAt w p d F) :
    Calls Tryz.prog 312 #[.pointer (some ⟨p, 0, none⟩)] w fun e w' => e = .returned (.int .i64 d.sync.2) ∧ ∃ F', Left w w' p d.sync.1 F F' := by
  cases hoff : d.off with
  | true =>
    refine (sync_off hD hoff).mono ?_
    rintro e w' ⟨rfl, rfl⟩
    exact ⟨by simp [Dk.sync, hoff], F, (Left.refl hD).eq (by simp [Dk.sync, hoff])⟩
  | false =>
    cases hb : d.burn.2 with
    | true =>
      refine (sync_yes hD hoff hb).mono ?_
      rintro e w' ⟨rfl, F', h⟩
      exact ⟨by simp [Dk.sync, hoff, hb], F', h.eq (by simp [Dk.sync, hoff, hb])⟩
    | false =>
      refine (sync_no hD hoff hb).mono ?_
      rintro e w' ⟨rfl, h⟩
      exact ⟨by simp [Dk.sync, hoff, hb], F, h.eq (by simp [Dk.sync, hoff, hb])⟩
end Go.Proofs.YtdfgmieinbmfkaaGreat
